/-
  What the small functions of packages size and sheet compute: lists that hold something, what an issue is checked by.
-/
import Derived.Test.YtdpmioiamcgfkaaDoorRcB
import Derived.Test.YtdpmioiamcgfkaaDoorDg
namespace Go.Proofs.YtdpmioiamcgfkaaDoor
open Go.RowKit

/-- The index of the first of which something is so, or -1. -/
def fstOf {α : Type} (p : α → Bool) (l : List α) : Int := match l.findIdx? p with | some i => (i : Int) | none => -1
theorem fstOf_hit {α : Type} {p : α → Bool} {l : List α} {i : Nat} (h : i < l.length) (hp : p l[i] = true) (hn : ∀ j (h : j < l.length), j < i → p l[j] = false) : fstOf p l = i := by
  have : l.findIdx? p = some i := by
    rw [List.findIdx?_eq_some_iff_getElem]
    refine ⟨h, hp, fun j hj => ?_⟩
    rw [hn j (by omega) hj]; simp
  simp [fstOf, this]
theorem fstOf_none {α : Type} {p : α → Bool} {l : List α} (hn : ∀ j (h : j < l.length), p l[j] = false) : fstOf p l = -1 := by
  have : l.findIdx? p = none := List.findIdx?_eq_none_iff.2 fun x hx => by
    obtain ⟨j, hj, rfl⟩ := List.getElem_of_mem hx
    exact hn j hj
  simp [fstOf, this]
theorem fstOf_any {α : Type} (p : α → Bool) (l : List α) : decide (0 ≤ fstOf p l) = l.any p := by
  unfold fstOf
  cases h : l.findIdx? p with
  | none =>
    have h2 := List.findIdx?_eq_none_iff.1 h
    have : l.any p = false := by rw [← Bool.not_eq_true, List.any_eq_true]; rintro ⟨x, hx, hp⟩; rw [h2 x hx] at hp; cases hp
    simp [this]
  | some i =>
    obtain ⟨h1, h2, -⟩ := List.findIdx?_eq_some_iff_getElem.1 h
    have : l.any p = true := List.any_eq_true.2 ⟨l[i], List.getElem_mem h1, h2⟩
    simp [this]

section
variable {G : Nat → Option (List AV)}

theorem indexI_pc (g : Nat) (caps : List AV) (p : Int → Bool) (l : List Int) (hc : caps.all AV.pure = true) (hl : Sml l)
    (hg : ∀ x ∈ l, PC Tryd.prog G g (.int .i64 x :: caps) (.bool (p x))) :
    PC Tryd.prog G 132 [.vsl (l.map ia), .func (.func g) [] caps] (.int .i64 (fstOf p l)) := by
  (refine pc_slices_IndexFunc_int_int (Nat.le_of_ble_eq_true rfl) fun R hG hrd => GO_AR mixed 1000 ?_; subst hG)
  unfold Sml at hl
  have hc2 : ∀ x ∈ caps, x.pure = true := List.all_eq_true.1 hc
  simp -implicitDefEqProofs [rc_slices_IndexFunc_int_int, rr_slices_IndexFunc_int_int]
  refine AR_for (fun i => ⟨[(8, .int .i64 i), (7, .int .i64 l.length), (0, .vsl (l.map ia)), (1, .func (.func g) [] caps)], []⟩) (fun i => ∀ j (h : j < l.length), j < i → p l[j] = false) l.length (by (first | exact Weak.tm (by simp [lk]) | exact Weak.sub (by simp [lk, keptA, AV.keys]) (by simp [lk, keptO, keptA, AV.keys]))) (by simp) ?_ ?_
  · intro i hi he
    refine GO_AR mixed 1000 ?_
    have w1 : IntKind.i64.wrap ((i : Int) + 1) = ((i + 1 : Nat) : Int) := wrapI (by omega) (by omega)
    simp -implicitDefEqProofs [hi, ia]
    refine CallK.of (hg _ (List.getElem_mem hi)) (by simpa [AV.pure] using hc2) ?_
    cases h3 : p l[i]
    · simp -implicitDefEqProofs [w1]
      refine ⟨(by (first | exact Weak.tm (by simp [lk]) | exact Weak.sub (by simp [lk, keptA, AV.keys]) (by simp [lk, keptO, keptA, AV.keys]))), fun j q1 q2 => ?_⟩
      by_cases e : j = i
      · subst e; exact h3
      · exact he j q1 (by omega)
    · simp -implicitDefEqProofs
      refine GO_ret mixed 1000 ?_
      simp -implicitDefEqProofs [fstOf_hit hi h3 he]
  · intro he
    refine GO_AR mixed 1000 ?_
    simp -implicitDefEqProofs []
    refine GO_ret mixed 1000 ?_
    simp -implicitDefEqProofs [fstOf_none (p := p) (l := l) (fun j hj => he j hj hj)]

theorem containsI_pc (g : Nat) (caps : List AV) (p : Int → Bool) (l : List Int) (hc : caps.all AV.pure = true) (hl : Sml l)
    (hg : ∀ x ∈ l, PC Tryd.prog G g (.int .i64 x :: caps) (.bool (p x))) :
    PC Tryd.prog G 117 [.vsl (l.map ia), .func (.func g) [] caps] (.bool (l.any p)) := by
  (refine pc_slices_ContainsFunc_int_int (Nat.le_of_ble_eq_true rfl) fun R hG hrd => GO_AR mixed 1000 ?_; subst hG)
  simp -implicitDefEqProofs [rc_slices_ContainsFunc_int_int, rr_slices_ContainsFunc_int_int]
  have hc2 : ∀ x ∈ caps, x.pure = true := List.all_eq_true.1 hc
  refine CallK.of (indexI_pc g caps p l hc hl hg) (by simpa [AV.pure] using hc2) ?_
  have e := fstOf_any p l
  simp -implicitDefEqProofs [e]

theorem indexT_pc (g : Nat) (caps : List AV) (p : (Int × Int) → Bool) (l : List (Int × Int)) (hc : caps.all AV.pure = true) (hl : Sml l)
    (hg : ∀ x ∈ l, PC Tryd.prog G g (.agg [.int .i64 x.1, .int .i64 x.2] :: caps) (.bool (p x))) :
    PC Tryd.prog G 120 [.vsl (l.map ita), .func (.func g) [] caps] (.int .i64 (fstOf p l)) := by
  (refine pc_slices_IndexFunc_api_Item_api_Item (Nat.le_of_ble_eq_true rfl) fun R hG hrd => GO_AR mixed 1000 ?_; subst hG)
  unfold Sml at hl
  have hc2 : ∀ x ∈ caps, x.pure = true := List.all_eq_true.1 hc
  simp -implicitDefEqProofs [rc_slices_IndexFunc_api_Item_api_Item, rr_slices_IndexFunc_api_Item_api_Item]
  refine AR_for (fun i => ⟨[(8, .int .i64 i), (7, .int .i64 l.length), (0, .vsl (l.map ita)), (1, .func (.func g) [] caps)], []⟩) (fun i => ∀ j (h : j < l.length), j < i → p l[j] = false) l.length (by (first | exact Weak.tm (by simp [lk]) | exact Weak.sub (by simp [lk, keptA, AV.keys]) (by simp [lk, keptO, keptA, AV.keys]))) (by simp) ?_ ?_
  · intro i hi he
    refine GO_AR mixed 1000 ?_
    have w1 : IntKind.i64.wrap ((i : Int) + 1) = ((i + 1 : Nat) : Int) := wrapI (by omega) (by omega)
    simp -implicitDefEqProofs [hi, ita]
    refine CallK.of (hg _ (List.getElem_mem hi)) (by simpa [AV.pure] using hc2) ?_
    cases h3 : p l[i]
    · simp -implicitDefEqProofs [w1]
      refine ⟨(by (first | exact Weak.tm (by simp [lk]) | exact Weak.sub (by simp [lk, keptA, AV.keys]) (by simp [lk, keptO, keptA, AV.keys]))), fun j q1 q2 => ?_⟩
      by_cases e : j = i
      · subst e; exact h3
      · exact he j q1 (by omega)
    · simp -implicitDefEqProofs
      refine GO_ret mixed 1000 ?_
      simp -implicitDefEqProofs [fstOf_hit hi h3 he]
  · intro he
    refine GO_AR mixed 1000 ?_
    simp -implicitDefEqProofs []
    refine GO_ret mixed 1000 ?_
    simp -implicitDefEqProofs [fstOf_none (p := p) (l := l) (fun j hj => he j hj hj)]

theorem containsT_pc (g : Nat) (caps : List AV) (p : (Int × Int) → Bool) (l : List (Int × Int)) (hc : caps.all AV.pure = true) (hl : Sml l)
    (hg : ∀ x ∈ l, PC Tryd.prog G g (.agg [.int .i64 x.1, .int .i64 x.2] :: caps) (.bool (p x))) :
    PC Tryd.prog G 102 [.vsl (l.map ita), .func (.func g) [] caps] (.bool (l.any p)) := by
  (refine pc_slices_ContainsFunc_api_Item_api_Item (Nat.le_of_ble_eq_true rfl) fun R hG hrd => GO_AR mixed 1000 ?_; subst hG)
  simp -implicitDefEqProofs [rc_slices_ContainsFunc_api_Item_api_Item, rr_slices_ContainsFunc_api_Item_api_Item]
  have hc2 : ∀ x ∈ caps, x.pure = true := List.all_eq_true.1 hc
  refine CallK.of (indexT_pc g caps p l hc hl hg) (by simpa [AV.pure] using hc2) ?_
  have e := fstOf_any p l
  simp -implicitDefEqProofs [e]

theorem indexD_pc (g : Nat) (caps : List AV) (p : Dm → Bool) (l : List Dm) (hc : caps.all AV.pure = true) (hl : Sml l)
    (hg : ∀ x ∈ l, PC Tryd.prog G g (.agg [.int .i64 x.n, .int .i64 x.l, .int .i64 x.u] :: caps) (.bool (p x))) :
    PC Tryd.prog G 163 [.vsl (l.map dma), .func (.func g) [] caps] (.int .i64 (fstOf p l)) := by
  (refine pc_slices_IndexFunc_api_Dim_api_Dim (Nat.le_of_ble_eq_true rfl) fun R hG hrd => GO_AR mixed 1000 ?_; subst hG)
  unfold Sml at hl
  have hc2 : ∀ x ∈ caps, x.pure = true := List.all_eq_true.1 hc
  simp -implicitDefEqProofs [rc_slices_IndexFunc_api_Dim_api_Dim, rr_slices_IndexFunc_api_Dim_api_Dim]
  refine AR_for (fun i => ⟨[(8, .int .i64 i), (7, .int .i64 l.length), (0, .vsl (l.map dma)), (1, .func (.func g) [] caps)], []⟩) (fun i => ∀ j (h : j < l.length), j < i → p l[j] = false) l.length (by (first | exact Weak.tm (by simp [lk]) | exact Weak.sub (by simp [lk, keptA, AV.keys]) (by simp [lk, keptO, keptA, AV.keys]))) (by simp) ?_ ?_
  · intro i hi he
    refine GO_AR mixed 1000 ?_
    have w1 : IntKind.i64.wrap ((i : Int) + 1) = ((i + 1 : Nat) : Int) := wrapI (by omega) (by omega)
    simp -implicitDefEqProofs [hi, dma]
    refine CallK.of (hg _ (List.getElem_mem hi)) (by simpa [AV.pure] using hc2) ?_
    cases h3 : p l[i]
    · simp -implicitDefEqProofs [w1]
      refine ⟨(by (first | exact Weak.tm (by simp [lk]) | exact Weak.sub (by simp [lk, keptA, AV.keys]) (by simp [lk, keptO, keptA, AV.keys]))), fun j q1 q2 => ?_⟩
      by_cases e : j = i
      · subst e; exact h3
      · exact he j q1 (by omega)
    · simp -implicitDefEqProofs
      refine GO_ret mixed 1000 ?_
      simp -implicitDefEqProofs [fstOf_hit hi h3 he]
  · intro he
    refine GO_AR mixed 1000 ?_
    simp -implicitDefEqProofs []
    refine GO_ret mixed 1000 ?_
    simp -implicitDefEqProofs [fstOf_none (p := p) (l := l) (fun j hj => he j hj hj)]

theorem containsD_pc (g : Nat) (caps : List AV) (p : Dm → Bool) (l : List Dm) (hc : caps.all AV.pure = true) (hl : Sml l)
    (hg : ∀ x ∈ l, PC Tryd.prog G g (.agg [.int .i64 x.n, .int .i64 x.l, .int .i64 x.u] :: caps) (.bool (p x))) :
    PC Tryd.prog G 161 [.vsl (l.map dma), .func (.func g) [] caps] (.bool (l.any p)) := by
  (refine pc_slices_ContainsFunc_api_Dim_api_Dim (Nat.le_of_ble_eq_true rfl) fun R hG hrd => GO_AR mixed 1000 ?_; subst hG)
  simp -implicitDefEqProofs [rc_slices_ContainsFunc_api_Dim_api_Dim, rr_slices_ContainsFunc_api_Dim_api_Dim]
  have hc2 : ∀ x ∈ caps, x.pure = true := List.all_eq_true.1 hc
  refine CallK.of (indexD_pc g caps p l hc hl hg) (by simpa [AV.pure] using hc2) ?_
  have e := fstOf_any p l
  simp -implicitDefEqProofs [e]

theorem inC1_pc (n lo hi : Int) : PC Tryd.prog G 118 [.int .i64 n, .vptr [.int .i64 lo] 0, .vptr [.int .i64 hi] 0] (.bool (!inR n lo hi)) := by
  (refine pc_size_in_1 (Nat.le_of_ble_eq_true rfl) fun R hG hrd => GO_AR mixed 1000 ?_; subst hG)
  by_cases h1 : n < lo
  · have h2 : ¬ lo ≤ n := by omega
    simp -implicitDefEqProofs [rc_size_in_1, rr_size_in_1, h1, h2, inR]
  · have h2 : lo ≤ n := by omega
    by_cases h3 : hi < n
    · have h4 : ¬ n ≤ hi := by omega
      simp -implicitDefEqProofs [rc_size_in_1, rr_size_in_1, h1, h2, h3, h4, inR]
    · have h4 : n ≤ hi := by omega
      simp -implicitDefEqProofs [rc_size_in_1, rr_size_in_1, h1, h2, h3, h4, inR]
theorem inC2_pc (n lo hi : Int) : PC Tryd.prog G 119 [.int .i64 n, .vptr [.int .i64 lo] 0, .vptr [.int .i64 hi] 0] (.bool (!inR n lo hi)) := by
  (refine pc_sheet_in_1 (Nat.le_of_ble_eq_true rfl) fun R hG hrd => GO_AR mixed 1000 ?_; subst hG)
  by_cases h1 : n < lo
  · have h2 : ¬ lo ≤ n := by omega
    simp -implicitDefEqProofs [rc_sheet_in_1, rr_sheet_in_1, h1, h2, inR]
  · have h2 : lo ≤ n := by omega
    by_cases h3 : hi < n
    · have h4 : ¬ n ≤ hi := by omega
      simp -implicitDefEqProofs [rc_sheet_in_1, rr_sheet_in_1, h1, h2, h3, h4, inR]
    · have h4 : n ≤ hi := by omega
      simp -implicitDefEqProofs [rc_sheet_in_1, rr_sheet_in_1, h1, h2, h3, h4, inR]

theorem inS1_pc (lo hi : Int) (l : List Int) (hl : Sml l) : PC Tryd.prog G 98 [.int .i64 lo, .int .i64 hi, .vsl (l.map ia)] (.bool (l.all fun n => inR n lo hi)) := by
  (refine pc_size_in (Nat.le_of_ble_eq_true rfl) fun R hG hrd => GO_AR mixed 1000 ?_; subst hG)
  simp -implicitDefEqProofs [rc_size_in, rr_size_in]
  (first | refine CallK.flat (containsI_pc 118 [.vptr [.int .i64 lo] 0, .vptr [.int .i64 hi] 0] (fun n => !inR n lo hi) l (by simp [AV.pure]) hl (fun n _ => inC1_pc n lo hi)) (by simp [AV.flat]) (by simp) ?_ | refine CallD.flat (containsI_pc 118 [.vptr [.int .i64 lo] 0, .vptr [.int .i64 hi] 0] (fun n => !inR n lo hi) l (by simp [AV.pure]) hl (fun n _ => inC1_pc n lo hi)) (by simp [AV.flat]) (by simp) ?_)
  have e : (!l.any fun n => !inR n lo hi) = l.all fun n => inR n lo hi := by simp [List.all_eq_not_any_not]
  simp -implicitDefEqProofs [e]
theorem inS_pc (lo hi : Int) (n : Int) : PC Tryd.prog G 101 [.int .i64 lo, .int .i64 hi, .vsl [[.int .i64 n]]] (.bool (inR n lo hi)) := by
  (refine pc_sheet_in (Nat.le_of_ble_eq_true rfl) fun R hG hrd => GO_AR mixed 1000 ?_; subst hG)
  simp -implicitDefEqProofs [rc_sheet_in, rr_sheet_in]
  refine CallK.flat (containsI_pc 119 [.vptr [.int .i64 lo] 0, .vptr [.int .i64 hi] 0] (fun n => !inR n lo hi) [n] (by simp [AV.pure]) (by simp [Sml]) (fun n _ => inC2_pc n lo hi)) (by simp [AV.flat]) (by simp [ia]) ?_
  simp -implicitDefEqProofs []

theorem checkS_pc (d : Dm) : PC Tryd.prog G 62 [.agg [.int .i64 d.n, .int .i64 d.l, .int .i64 d.u]] (.int .i64 (if vd d = true then 0 else 10)) := by
  (refine pc_size_Check (Nat.le_of_ble_eq_true rfl) fun R hG hrd => GO_AR mixed 1000 ?_; subst hG)
  simp -implicitDefEqProofs [rc_size_Check, rr_size_Check]
  (first | refine CallK.of (inS1_pc 0 1000000000 [d.n, d.l, d.u] (by simp [Sml])) (by simp) ?_ | refine CallD.of (inS1_pc 0 1000000000 [d.n, d.l, d.u] (by simp [Sml])) (by simp) ?_)
  cases h1 : [d.n, d.l, d.u].all fun n => inR n 0 1000000000
  · have e : vd d = false := by
      refine decide_eq_false fun h => ?_
      have : ([d.n, d.l, d.u].all fun n => inR n 0 1000000000) = true := by
        simp [inR]; omega
      rw [this] at h1; cases h1
    simp -implicitDefEqProofs [e]
  · have h2 : (0 ≤ d.n ∧ d.n ≤ 1000000000) ∧ (0 ≤ d.l ∧ d.l ≤ 1000000000) ∧ 0 ≤ d.u ∧ d.u ≤ 1000000000 := by
      simpa [inR] using h1
    by_cases h3 : d.u < d.l
    · have e : vd d = false := decide_eq_false (by omega)
      simp -implicitDefEqProofs [e, h3]
    · have e : vd d = true := decide_eq_true (by omega)
      simp -implicitDefEqProofs [e, h3]

theorem name_pc (x : Iss) : PC Tryd.prog G 84 [.agg (isa x)] (.agg [.int .i64 x.d, .int .i64 x.l]) := by
  (refine pc_sheet_name (Nat.le_of_ble_eq_true rfl) fun R hG hrd => GO_AR mixed 1000 ?_; subst hG)
  simp -implicitDefEqProofs [rc_sheet_name, rr_sheet_name, isa]

/-- What an issue is checked by, one by one. -/
def ck1 (x : Iss) : Bool := inR x.d 1 9999 && inR x.l 1 8
def ck2 (x : Iss) : Bool := if x.k = 1 then inR x.its.length 1 8 && decide (x.dms.length = 0) else inR x.k 2 3 && decide (x.dms.length ≤ 4) && decide (x.its.length = 0)
def ck3 (x : Iss) : Bool := (List.range x.its.length).all (itOk x)
def ck4 (x : Iss) : Bool := x.dms.all vd
theorem issB_ck (x : Iss) : issB x = (ck1 x && ck2 x && ck3 x && ck4 x) := by
  have e : headB x = (ck1 x && ck2 x) := by
    unfold headB ck1 ck2
    by_cases c1 : x.k = 1
    · have : inR x.k 1 3 = true := decide_eq_true (by omega)
      simp only [c1, if_true]
      rw [c1] at this
      rw [this]; simp
    · have : inR x.k 1 3 = inR x.k 2 3 := decide_eq_decide.2 (by omega)
      simp only [c1, if_false, this, Bool.and_assoc]
  simp only [issB, e, ck3, ck4]

theorem ck1_pc (x : Iss) : PC Tryd.prog G 157 [.agg (isa x)] (.bool (ck1 x)) := by
  (refine pc_sheet_checks_1 (Nat.le_of_ble_eq_true rfl) fun R hG hrd => GO_AR mixed 1000 ?_; subst hG)
  simp -implicitDefEqProofs [rc_sheet_checks_1, rr_sheet_checks_1, isa]
  (first | refine CallK.of (inS_pc _ _ _) (by simp) ?_ | refine CallD.of (inS_pc _ _ _) (by simp) ?_)
  cases q1 : inR x.d 1 9999
  · simp -implicitDefEqProofs [ck1, q1]
  · simp -implicitDefEqProofs []
    (first | refine CallK.of (inS_pc _ _ _) (by simp) ?_ | refine CallD.of (inS_pc _ _ _) (by simp) ?_)
    simp -implicitDefEqProofs [ck1, q1]

theorem ck2_pc (x : Iss) (hk : 0 ≤ x.k ∧ x.k ≤ 255) : PC Tryd.prog G 158 [.agg (isa x)] (.bool (ck2 x)) := by
  (refine pc_sheet_checks_2 (Nat.le_of_ble_eq_true rfl) fun R hG hrd => GO_AR mixed 1000 ?_; subst hG)
  have wk : IntKind.i64.wrap x.k = x.k := wrapI (by omega) (by omega)
  by_cases c1 : x.k = 1
  · simp -implicitDefEqProofs [rc_sheet_checks_2, rr_sheet_checks_2, isa, c1]
    (first | refine CallK.of (inS_pc _ _ _) (by simp) ?_ | refine CallD.of (inS_pc _ _ _) (by simp) ?_)
    cases q1 : inR x.its.length 1 8
    · simp -implicitDefEqProofs [ck2, c1, q1]
    · by_cases q2 : x.dms.length = 0 <;> simp -implicitDefEqProofs [ck2, c1, q1, q2]
  · simp -implicitDefEqProofs [rc_sheet_checks_2, rr_sheet_checks_2, isa, c1, wk]
    (first | refine CallK.of (inS_pc _ _ _) (by simp) ?_ | refine CallD.of (inS_pc _ _ _) (by simp) ?_)
    cases q1 : inR x.k 2 3
    · simp -implicitDefEqProofs [ck2, c1, q1]
    by_cases q2 : x.dms.length ≤ 4
    · have q2i : (x.dms.length : Int) ≤ 4 := by omega
      by_cases q3 : x.its.length = 0 <;> simp -implicitDefEqProofs [ck2, c1, q1, q2, q2i, q3]
    · have q2i : ¬ (x.dms.length : Int) ≤ 4 := by omega
      simp -implicitDefEqProofs [ck2, c1, q1, q2, q2i]

theorem ck3_pc (x : Iss) (h1 : Sml x.its) : PC Tryd.prog G 159 [.agg (isa x)] (.bool (ck3 x)) := by
  (refine pc_sheet_checks_3 (Nat.le_of_ble_eq_true rfl) fun R hG hrd => GO_AR mixed 1000 ?_; subst hG)
  unfold Sml at h1
  simp -implicitDefEqProofs [rc_sheet_checks_3, rr_sheet_checks_3, isa]
  refine AR_for (fun i => ⟨[(8, .int .i64 i), (7, .int .i64 x.its.length), (6, .vsl (x.its.map ita)), (1, .ptr 1 0)], [(1, .box (isa x))]⟩) (fun i => ∀ j, j < i → itOk x j = true) x.its.length (by (first | exact Weak.tm (by simp [lk, isa]) | exact Weak.sub (by simp [lk, keptA, AV.keys, isa]) (by simp [lk, keptO, keptA, AV.keys, isa]))) (by simp) ?_ ?_
  · intro i hi he
    refine GO_AR mixed 1000 ?_
    have w1 : IntKind.i64.wrap ((i : Int) + 1) = ((i + 1 : Nat) : Int) := wrapI (by omega) (by omega)
    have a1 : itAt x i = x.its[i] := by simp [itAt, List.getD, hi]
    have no : itOk x i = false → ck3 x = false := fun e => by
      cases hI : ck3 x
      · rfl
      · rw [range_all.1 hI i hi] at e; cases e
    simp -implicitDefEqProofs [hi, isa, ita]
    (first | refine CallK.of (inS_pc _ _ _) (by simp) ?_ | refine CallD.of (inS_pc _ _ _) (by simp) ?_)
    cases p1 : inR x.its[i].1 1 9999
    · simp -implicitDefEqProofs []
      refine ⟨rfl, ?_⟩
      refine GO_ret mixed 1000 ?_
      simp -implicitDefEqProofs [no (by simp [itOk, a1, p1])]
    simp -implicitDefEqProofs []
    (first | refine CallK.of (inS_pc _ _ _) (by simp) ?_ | refine CallD.of (inS_pc _ _ _) (by simp) ?_)
    cases p2 : inR x.its[i].2 1 20
    · simp -implicitDefEqProofs []
      refine ⟨rfl, ?_⟩
      refine GO_ret mixed 1000 ?_
      simp -implicitDefEqProofs [no (by simp [itOk, a1, p2])]
    by_cases p3 : x.its[i].1 = x.d
    · simp -implicitDefEqProofs [p3]
      refine ⟨rfl, ?_⟩
      refine GO_ret mixed 1000 ?_
      simp -implicitDefEqProofs [no (by simp [itOk, a1, p3])]
    cases i with
    | zero =>
      have ok : itOk x 0 = true := by simp [itOk, a1, p1, p2, p3]
      have w0 : IntKind.i64.wrap 1 = 1 := rfl
      simp -implicitDefEqProofs [p3, w0]
      exact ⟨rfl, (by (first | exact Weak.tm (by simp [lk, isa]) | exact Weak.sub (by simp [lk, keptA, AV.keys, isa]) (by simp [lk, keptO, keptA, AV.keys, isa]))), ok⟩
    | succ i =>
      have w2 : IntKind.i64.wrap (i : Int) = (i : Int) := wrapI (by omega) (by omega)
      have w3 : IntKind.i64.wrap ((i : Int) + 1 + 1) = (i : Int) + 1 + 1 := wrapI (by omega) (by omega)
      have k3 : (0 : Int) < (i : Int) + 1 := by omega
      have hi2 : i < x.its.length := by omega
      have a2 : itAt x i = x.its[i] := by simp [itAt, List.getD, hi2]
      by_cases p4 : x.its[i + 1].1 ≤ x.its[i].1
      · simp -implicitDefEqProofs [p3, k3, w2, hi2, ita, p4]
        refine ⟨rfl, ?_⟩
        refine GO_ret mixed 1000 ?_
        simp -implicitDefEqProofs [no (by simp [itOk, a1, a2, p4])]
      · have ok : itOk x (i + 1) = true := by simp [itOk, a1, a2, p1, p2, p3]; omega
        simp -implicitDefEqProofs [p3, k3, w2, w3, hi2, ita, p4]
        refine ⟨rfl, (by (first | exact Weak.tm (by simp [lk, isa]) | exact Weak.sub (by simp [lk, keptA, AV.keys, isa]) (by simp [lk, keptO, keptA, AV.keys, isa]))), fun j hj => ?_⟩
        by_cases e : j = i + 1
        · subst e; exact ok
        · exact he j (by omega)
  · intro he
    refine GO_AR mixed 1000 ?_
    have hI : ck3 x = true := range_all.2 he
    simp -implicitDefEqProofs []
    refine GO_ret mixed 1000 ?_
    simp -implicitDefEqProofs [hI]

theorem ck4d_pc (d : Dm) : PC Tryd.prog G 162 [.agg [.int .i64 d.n, .int .i64 d.l, .int .i64 d.u]] (.bool (!vd d)) := by
  (refine pc_sheet_checks_4_1 (Nat.le_of_ble_eq_true rfl) fun R hG hrd => GO_AR mixed 1000 ?_; subst hG)
  simp -implicitDefEqProofs [rc_sheet_checks_4_1, rr_sheet_checks_4_1]
  (first | refine CallK.of (checkS_pc d) (by simp) ?_ | refine CallD.of (checkS_pc d) (by simp) ?_)
  cases q : vd d <;> simp -implicitDefEqProofs []
theorem ck4_pc (x : Iss) (h2 : Sml x.dms) : PC Tryd.prog G 160 [.agg (isa x)] (.bool (ck4 x)) := by
  (refine pc_sheet_checks_4 (Nat.le_of_ble_eq_true rfl) fun R hG hrd => GO_AR mixed 1000 ?_; subst hG)
  simp -implicitDefEqProofs [rc_sheet_checks_4, rr_sheet_checks_4, isa]
  (first | refine CallK.of (containsD_pc 162 [] (fun d => !vd d) x.dms rfl h2 (fun d _ => ck4d_pc d)) (by simp) ?_ | refine CallD.of (containsD_pc 162 [] (fun d => !vd d) x.dms rfl h2 (fun d _ => ck4d_pc d)) (by simp) ?_)
  have e : (!x.dms.any fun d => !vd d) = ck4 x := by simp [ck4, List.all_eq_not_any_not]
  simp -implicitDefEqProofs [e]
end
end Go.Proofs.YtdpmioiamcgfkaaDoor
