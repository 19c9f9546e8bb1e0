/-
  What the small functions of packages size and sheet compute: lists that hold something, what an issue is checked by.
-/
import Derived.Test.YtdpmioiamcgfkaaDoorJRcBToDg
import Derived.Test.YtdpmioiamcgfkaaDoorJAmOToMath
import Derived.Test.YtdpmioiamcgfkaaDoorProg
import Derived.Test.YtdpmioiamcgfkaaDoorJRcLToRcD
set_option linter.unusedSimpArgs false
set_option linter.unusedVariables false
namespace Go.Proofs.YtdpmioiamcgfkaaDoor
open Go.RowKit

/-- The index of the first of which something is so, or -1. -/
def fstOf {α : Type} (p : α → Bool) (l : List α) : Int := match l.findIdx? p with | some i => (i : Int) | none => -1
theorem fstOf_hit {α : Type} {p : α → Bool} {l : List α} {i : Nat} (h : i < l.length) (hp : p l[i] = true) (hn : ∀ j (h : j < l.length), j < i → p l[j] = false) : fstOf p l = i := by
  have : l.findIdx? p = some i := by
    rw [List.findIdx?_eq_some_iff_getElem]
    refine ⟨h, hp, fun j hj => ?_⟩
    rw [hn j (by omega) hj]; simp
  simp [fstOf, this]
theorem fstOf_none {α : Type} {p : α → Bool} {l : List α} (hn : ∀ j (h : j < l.length), p l[j] = false) : fstOf p l = -1 := by
  have : l.findIdx? p = none := List.findIdx?_eq_none_iff.2 fun x hx => by
    obtain ⟨j, hj, rfl⟩ := List.getElem_of_mem hx
    exact hn j hj
  simp [fstOf, this]
theorem fstOf_any {α : Type} (p : α → Bool) (l : List α) : decide (0 ≤ fstOf p l) = l.any p := by
  unfold fstOf
  cases h : l.findIdx? p with
  | none =>
    have h2 := List.findIdx?_eq_none_iff.1 h
    have : l.any p = false := by rw [← Bool.not_eq_true, List.any_eq_true]; rintro ⟨x, hx, hp⟩; rw [h2 x hx] at hp; cases hp
    simp [this]
  | some i =>
    obtain ⟨h1, h2, -⟩ := List.findIdx?_eq_some_iff_getElem.1 h
    have : l.any p = true := List.any_eq_true.2 ⟨l[i], List.getElem_mem h1, h2⟩
    simp [this]

section
variable {G : Nat → Option (List AV)}

theorem indexI_pc (g : Nat) (caps : List AV) (p : Int → Bool) (l : List Int) (hc : caps.all AV.pure = true) (hl : Sml l)
    (hg : ∀ x ∈ l, PC Tryd.prog G g (.int .i64 x :: caps) (.bool (p x))) :
    PC Tryd.prog G 132 [.vsl (l.map ia), .func (.func g) [] caps] (.int .i64 (fstOf p l)) := by
  (refine pc_slices_IndexFunc_int_int (Nat.le_of_ble_eq_true rfl) fun R hG hrd => GO_AR mixed 1000 ?_; subst hG)
  unfold Sml at hl
  have hc2 : ∀ x ∈ caps, x.pure = true := List.all_eq_true.1 hc
  simp -implicitDefEqProofs [rc_slices_IndexFunc_int_int, rr_slices_IndexFunc_int_int]
  refine AR_for (fun i => ⟨[(8, .int .i64 i), (7, .int .i64 l.length), (0, .vsl (l.map ia)), (1, .func (.func g) [] caps)], []⟩) (fun i => ∀ j (h : j < l.length), j < i → p l[j] = false) l.length (by (first | exact Weak.tm (by simp [lk]) | exact Weak.sub (by simp [lk, keptA, AV.keys]) (by simp [lk, keptO, keptA, AV.keys]))) (by simp) ?_ ?_
  · intro i hi he
    refine GO_AR mixed 1000 ?_
    have w1 : IntKind.i64.wrap ((i : Int) + 1) = ((i + 1 : Nat) : Int) := wrapI (by omega) (by omega)
    simp -implicitDefEqProofs [hi, ia]
    refine CallK.of (hg _ (List.getElem_mem hi)) (by simpa [AV.pure] using hc2) ?_
    cases h3 : p l[i]
    · simp -implicitDefEqProofs [w1]
      refine ⟨(by (first | exact Weak.tm (by simp [lk]) | exact Weak.sub (by simp [lk, keptA, AV.keys]) (by simp [lk, keptO, keptA, AV.keys]))), fun j q1 q2 => ?_⟩
      by_cases e : j = i
      · subst e; exact h3
      · exact he j q1 (by omega)
    · simp -implicitDefEqProofs
      refine GO_ret mixed 1000 ?_
      simp -implicitDefEqProofs [fstOf_hit hi h3 he]
  · intro he
    refine GO_AR mixed 1000 ?_
    simp -implicitDefEqProofs []
    refine GO_ret mixed 1000 ?_
    simp -implicitDefEqProofs [fstOf_none (p := p) (l := l) (fun j hj => he j hj hj)]

theorem containsI_pc (g : Nat) (caps : List AV) (p : Int → Bool) (l : List Int) (hc : caps.all AV.pure = true) (hl : Sml l)
    (hg : ∀ x ∈ l, PC Tryd.prog G g (.int .i64 x :: caps) (.bool (p x))) :
    PC Tryd.prog G 117 [.vsl (l.map ia), .func (.func g) [] caps] (.bool (l.any p)) := by
  (refine pc_slices_ContainsFunc_int_int (Nat.le_of_ble_eq_true rfl) fun R hG hrd => GO_AR mixed 1000 ?_; subst hG)
  simp -implicitDefEqProofs [rc_slices_ContainsFunc_int_int, rr_slices_ContainsFunc_int_int]
  have hc2 : ∀ x ∈ caps, x.pure = true := List.all_eq_true.1 hc
  refine CallK.of (indexI_pc g caps p l hc hl hg) (by simpa [AV.pure] using hc2) ?_
  have e := fstOf_any p l
  simp -implicitDefEqProofs [e]

theorem indexT_pc (g : Nat) (caps : List AV) (p : (Int × Int) → Bool) (l : List (Int × Int)) (hc : caps.all AV.pure = true) (hl : Sml l)
    (hg : ∀ x ∈ l, PC Tryd.prog G g (.agg [.int .i64 x.1, .int .i64 x.2] :: caps) (.bool (p x))) :
    PC Tryd.prog G 120 [.vsl (l.map ita), .func (.func g) [] caps] (.int .i64 (fstOf p l)) := by
  (refine pc_slices_IndexFunc_api_Item_api_Item (Nat.le_of_ble_eq_true rfl) fun R hG hrd => GO_AR mixed 1000 ?_; subst hG)
  unfold Sml at hl
  have hc2 : ∀ x ∈ caps, x.pure = true := List.all_eq_true.1 hc
  simp -implicitDefEqProofs [rc_slices_IndexFunc_api_Item_api_Item, rr_slices_IndexFunc_api_Item_api_Item]
  refine AR_for (fun i => ⟨[(8, .int .i64 i), (7, .int .i64 l.length), (0, .vsl (l.map ita)), (1, .func (.func g) [] caps)], []⟩) (fun i => ∀ j (h : j < l.length), j < i → p l[j] = false) l.length (by (first | exact Weak.tm (by simp [lk]) | exact Weak.sub (by simp [lk, keptA, AV.keys]) (by simp [lk, keptO, keptA, AV.keys]))) (by simp) ?_ ?_
  · intro i hi he
    refine GO_AR mixed 1000 ?_
    have w1 : IntKind.i64.wrap ((i : Int) + 1) = ((i + 1 : Nat) : Int) := wrapI (by omega) (by omega)
    simp -implicitDefEqProofs [hi, ita]
    refine CallK.of (hg _ (List.getElem_mem hi)) (by simpa [AV.pure] using hc2) ?_
    cases h3 : p l[i]
    · simp -implicitDefEqProofs [w1]
      refine ⟨(by (first | exact Weak.tm (by simp [lk]) | exact Weak.sub (by simp [lk, keptA, AV.keys]) (by simp [lk, keptO, keptA, AV.keys]))), fun j q1 q2 => ?_⟩
      by_cases e : j = i
      · subst e; exact h3
      · exact he j q1 (by omega)
    · simp -implicitDefEqProofs
      refine GO_ret mixed 1000 ?_
      simp -implicitDefEqProofs [fstOf_hit hi h3 he]
  · intro he
    refine GO_AR mixed 1000 ?_
    simp -implicitDefEqProofs []
    refine GO_ret mixed 1000 ?_
    simp -implicitDefEqProofs [fstOf_none (p := p) (l := l) (fun j hj => he j hj hj)]

theorem containsT_pc (g : Nat) (caps : List AV) (p : (Int × Int) → Bool) (l : List (Int × Int)) (hc : caps.all AV.pure = true) (hl : Sml l)
    (hg : ∀ x ∈ l, PC Tryd.prog G g (.agg [.int .i64 x.1, .int .i64 x.2] :: caps) (.bool (p x))) :
    PC Tryd.prog G 102 [.vsl (l.map ita), .func (.func g) [] caps] (.bool (l.any p)) := by
  (refine pc_slices_ContainsFunc_api_Item_api_Item (Nat.le_of_ble_eq_true rfl) fun R hG hrd => GO_AR mixed 1000 ?_; subst hG)
  simp -implicitDefEqProofs [rc_slices_ContainsFunc_api_Item_api_Item, rr_slices_ContainsFunc_api_Item_api_Item]
  have hc2 : ∀ x ∈ caps, x.pure = true := List.all_eq_true.1 hc
  refine CallK.of (indexT_pc g caps p l hc hl hg) (by simpa [AV.pure] using hc2) ?_
  have e := fstOf_any p l
  simp -implicitDefEqProofs [e]

theorem indexD_pc (g : Nat) (caps : List AV) (p : Dm → Bool) (l : List Dm) (hc : caps.all AV.pure = true) (hl : Sml l)
    (hg : ∀ x ∈ l, PC Tryd.prog G g (.agg [.int .i64 x.n, .int .i64 x.l, .int .i64 x.u] :: caps) (.bool (p x))) :
    PC Tryd.prog G 163 [.vsl (l.map dma), .func (.func g) [] caps] (.int .i64 (fstOf p l)) := by
  (refine pc_slices_IndexFunc_api_Dim_api_Dim (Nat.le_of_ble_eq_true rfl) fun R hG hrd => GO_AR mixed 1000 ?_; subst hG)
  unfold Sml at hl
  have hc2 : ∀ x ∈ caps, x.pure = true := List.all_eq_true.1 hc
  simp -implicitDefEqProofs [rc_slices_IndexFunc_api_Dim_api_Dim, rr_slices_IndexFunc_api_Dim_api_Dim]
  refine AR_for (fun i => ⟨[(8, .int .i64 i), (7, .int .i64 l.length), (0, .vsl (l.map dma)), (1, .func (.func g) [] caps)], []⟩) (fun i => ∀ j (h : j < l.length), j < i → p l[j] = false) l.length (by (first | exact Weak.tm (by simp [lk]) | exact Weak.sub (by simp [lk, keptA, AV.keys]) (by simp [lk, keptO, keptA, AV.keys]))) (by simp) ?_ ?_
  · intro i hi he
    refine GO_AR mixed 1000 ?_
    have w1 : IntKind.i64.wrap ((i : Int) + 1) = ((i + 1 : Nat) : Int) := wrapI (by omega) (by omega)
    simp -implicitDefEqProofs [hi, dma]
    refine CallK.of (hg _ (List.getElem_mem hi)) (by simpa [AV.pure] using hc2) ?_
    cases h3 : p l[i]
    · simp -implicitDefEqProofs [w1]
      refine ⟨(by (first | exact Weak.tm (by simp [lk]) | exact Weak.sub (by simp [lk, keptA, AV.keys]) (by simp [lk, keptO, keptA, AV.keys]))), fun j q1 q2 => ?_⟩
      by_cases e : j = i
      · subst e; exact h3
      · exact he j q1 (by omega)
    · simp -implicitDefEqProofs
      refine GO_ret mixed 1000 ?_
      simp -implicitDefEqProofs [fstOf_hit hi h3 he]
  · intro he
    refine GO_AR mixed 1000 ?_
    simp -implicitDefEqProofs []
    refine GO_ret mixed 1000 ?_
    simp -implicitDefEqProofs [fstOf_none (p := p) (l := l) (fun j hj => he j hj hj)]

theorem containsD_pc (g : Nat) (caps : List AV) (p : Dm → Bool) (l : List Dm) (hc : caps.all AV.pure = true) (hl : Sml l)
    (hg : ∀ x ∈ l, PC Tryd.prog G g (.agg [.int .i64 x.n, .int .i64 x.l, .int .i64 x.u] :: caps) (.bool (p x))) :
    PC Tryd.prog G 161 [.vsl (l.map dma), .func (.func g) [] caps] (.bool (l.any p)) := by
  (refine pc_slices_ContainsFunc_api_Dim_api_Dim (Nat.le_of_ble_eq_true rfl) fun R hG hrd => GO_AR mixed 1000 ?_; subst hG)
  simp -implicitDefEqProofs [rc_slices_ContainsFunc_api_Dim_api_Dim, rr_slices_ContainsFunc_api_Dim_api_Dim]
  have hc2 : ∀ x ∈ caps, x.pure = true := List.all_eq_true.1 hc
  refine CallK.of (indexD_pc g caps p l hc hl hg) (by simpa [AV.pure] using hc2) ?_
  have e := fstOf_any p l
  simp -implicitDefEqProofs [e]

theorem inC1_pc (n lo hi : Int) : PC Tryd.prog G 118 [.int .i64 n, .vptr [.int .i64 lo] 0, .vptr [.int .i64 hi] 0] (.bool (!inR n lo hi)) := by
  (refine pc_size_in_1 (Nat.le_of_ble_eq_true rfl) fun R hG hrd => GO_AR mixed 1000 ?_; subst hG)
  by_cases h1 : n < lo
  · have h2 : ¬ lo ≤ n := by omega
    simp -implicitDefEqProofs [rc_size_in_1, rr_size_in_1, h1, h2, inR]
  · have h2 : lo ≤ n := by omega
    by_cases h3 : hi < n
    · have h4 : ¬ n ≤ hi := by omega
      simp -implicitDefEqProofs [rc_size_in_1, rr_size_in_1, h1, h2, h3, h4, inR]
    · have h4 : n ≤ hi := by omega
      simp -implicitDefEqProofs [rc_size_in_1, rr_size_in_1, h1, h2, h3, h4, inR]
theorem inC2_pc (n lo hi : Int) : PC Tryd.prog G 119 [.int .i64 n, .vptr [.int .i64 lo] 0, .vptr [.int .i64 hi] 0] (.bool (!inR n lo hi)) := by
  (refine pc_sheet_in_1 (Nat.le_of_ble_eq_true rfl) fun R hG hrd => GO_AR mixed 1000 ?_; subst hG)
  by_cases h1 : n < lo
  · have h2 : ¬ lo ≤ n := by omega
    simp -implicitDefEqProofs [rc_sheet_in_1, rr_sheet_in_1, h1, h2, inR]
  · have h2 : lo ≤ n := by omega
    by_cases h3 : hi < n
    · have h4 : ¬ n ≤ hi := by omega
      simp -implicitDefEqProofs [rc_sheet_in_1, rr_sheet_in_1, h1, h2, h3, h4, inR]
    · have h4 : n ≤ hi := by omega
      simp -implicitDefEqProofs [rc_sheet_in_1, rr_sheet_in_1, h1, h2, h3, h4, inR]

theorem inS1_pc (lo hi : Int) (l : List Int) (hl : Sml l) : PC Tryd.prog G 98 [.int .i64 lo, .int .i64 hi, .vsl (l.map ia)] (.bool (l.all fun n => inR n lo hi)) := by
  (refine pc_size_in (Nat.le_of_ble_eq_true rfl) fun R hG hrd => GO_AR mixed 1000 ?_; subst hG)
  simp -implicitDefEqProofs [rc_size_in, rr_size_in]
  (first | refine CallK.flat (containsI_pc 118 [.vptr [.int .i64 lo] 0, .vptr [.int .i64 hi] 0] (fun n => !inR n lo hi) l (by simp [AV.pure]) hl (fun n _ => inC1_pc n lo hi)) (by simp [AV.flat]) (by simp) ?_ | refine CallD.flat (containsI_pc 118 [.vptr [.int .i64 lo] 0, .vptr [.int .i64 hi] 0] (fun n => !inR n lo hi) l (by simp [AV.pure]) hl (fun n _ => inC1_pc n lo hi)) (by simp [AV.flat]) (by simp) ?_)
  have e : (!l.any fun n => !inR n lo hi) = l.all fun n => inR n lo hi := by simp [List.all_eq_not_any_not]
  simp -implicitDefEqProofs [e]
theorem inS_pc (lo hi : Int) (n : Int) : PC Tryd.prog G 101 [.int .i64 lo, .int .i64 hi, .vsl [[.int .i64 n]]] (.bool (inR n lo hi)) := by
  (refine pc_sheet_in (Nat.le_of_ble_eq_true rfl) fun R hG hrd => GO_AR mixed 1000 ?_; subst hG)
  simp -implicitDefEqProofs [rc_sheet_in, rr_sheet_in]
  refine CallK.flat (containsI_pc 119 [.vptr [.int .i64 lo] 0, .vptr [.int .i64 hi] 0] (fun n => !inR n lo hi) [n] (by simp [AV.pure]) (by simp [Sml]) (fun n _ => inC2_pc n lo hi)) (by simp [AV.flat]) (by simp [ia]) ?_
  simp -implicitDefEqProofs []

theorem checkS_pc (d : Dm) : PC Tryd.prog G 62 [.agg [.int .i64 d.n, .int .i64 d.l, .int .i64 d.u]] (.int .i64 (if vd d = true then 0 else 10)) := by
  (refine pc_size_Check (Nat.le_of_ble_eq_true rfl) fun R hG hrd => GO_AR mixed 1000 ?_; subst hG)
  simp -implicitDefEqProofs [rc_size_Check, rr_size_Check]
  (first | refine CallK.of (inS1_pc 0 1000000000 [d.n, d.l, d.u] (by simp [Sml])) (by simp) ?_ | refine CallD.of (inS1_pc 0 1000000000 [d.n, d.l, d.u] (by simp [Sml])) (by simp) ?_)
  cases h1 : [d.n, d.l, d.u].all fun n => inR n 0 1000000000
  · have e : vd d = false := by
      refine decide_eq_false fun h => ?_
      have : ([d.n, d.l, d.u].all fun n => inR n 0 1000000000) = true := by
        simp [inR]; omega
      rw [this] at h1; cases h1
    simp -implicitDefEqProofs [e]
  · have h2 : (0 ≤ d.n ∧ d.n ≤ 1000000000) ∧ (0 ≤ d.l ∧ d.l ≤ 1000000000) ∧ 0 ≤ d.u ∧ d.u ≤ 1000000000 := by
      simpa [inR] using h1
    by_cases h3 : d.u < d.l
    · have e : vd d = false := decide_eq_false (by omega)
      simp -implicitDefEqProofs [e, h3]
    · have e : vd d = true := decide_eq_true (by omega)
      simp -implicitDefEqProofs [e, h3]

theorem name_pc (x : Iss) : PC Tryd.prog G 84 [.agg (isa x)] (.agg [.int .i64 x.d, .int .i64 x.l]) := by
  (refine pc_sheet_name (Nat.le_of_ble_eq_true rfl) fun R hG hrd => GO_AR mixed 1000 ?_; subst hG)
  simp -implicitDefEqProofs [rc_sheet_name, rr_sheet_name, isa]

/-- What an issue is checked by, one by one. -/
def ck1 (x : Iss) : Bool := inR x.d 1 9999 && inR x.l 1 8
def ck2 (x : Iss) : Bool := if x.k = 1 then inR x.its.length 1 8 && decide (x.dms.length = 0) else inR x.k 2 3 && decide (x.dms.length ≤ 4) && decide (x.its.length = 0)
def ck3 (x : Iss) : Bool := (List.range x.its.length).all (itOk x)
def ck4 (x : Iss) : Bool := x.dms.all vd
theorem issB_ck (x : Iss) : issB x = (ck1 x && ck2 x && ck3 x && ck4 x) := by
  have e : headB x = (ck1 x && ck2 x) := by
    unfold headB ck1 ck2
    by_cases c1 : x.k = 1
    · have : inR x.k 1 3 = true := decide_eq_true (by omega)
      simp only [c1, if_true]
      rw [c1] at this
      rw [this]; simp
    · have : inR x.k 1 3 = inR x.k 2 3 := decide_eq_decide.2 (by omega)
      simp only [c1, if_false, this, Bool.and_assoc]
  simp only [issB, e, ck3, ck4]

theorem ck1_pc (x : Iss) : PC Tryd.prog G 157 [.agg (isa x)] (.bool (ck1 x)) := by
  (refine pc_sheet_checks_1 (Nat.le_of_ble_eq_true rfl) fun R hG hrd => GO_AR mixed 1000 ?_; subst hG)
  simp -implicitDefEqProofs [rc_sheet_checks_1, rr_sheet_checks_1, isa]
  (first | refine CallK.of (inS_pc _ _ _) (by simp) ?_ | refine CallD.of (inS_pc _ _ _) (by simp) ?_)
  cases q1 : inR x.d 1 9999
  · simp -implicitDefEqProofs [ck1, q1]
  · simp -implicitDefEqProofs []
    (first | refine CallK.of (inS_pc _ _ _) (by simp) ?_ | refine CallD.of (inS_pc _ _ _) (by simp) ?_)
    simp -implicitDefEqProofs [ck1, q1]

theorem ck2_pc (x : Iss) (hk : 0 ≤ x.k ∧ x.k ≤ 255) : PC Tryd.prog G 158 [.agg (isa x)] (.bool (ck2 x)) := by
  (refine pc_sheet_checks_2 (Nat.le_of_ble_eq_true rfl) fun R hG hrd => GO_AR mixed 1000 ?_; subst hG)
  have wk : IntKind.i64.wrap x.k = x.k := wrapI (by omega) (by omega)
  by_cases c1 : x.k = 1
  · simp -implicitDefEqProofs [rc_sheet_checks_2, rr_sheet_checks_2, isa, c1]
    (first | refine CallK.of (inS_pc _ _ _) (by simp) ?_ | refine CallD.of (inS_pc _ _ _) (by simp) ?_)
    cases q1 : inR x.its.length 1 8
    · simp -implicitDefEqProofs [ck2, c1, q1]
    · by_cases q2 : x.dms.length = 0 <;> simp -implicitDefEqProofs [ck2, c1, q1, q2]
  · simp -implicitDefEqProofs [rc_sheet_checks_2, rr_sheet_checks_2, isa, c1, wk]
    (first | refine CallK.of (inS_pc _ _ _) (by simp) ?_ | refine CallD.of (inS_pc _ _ _) (by simp) ?_)
    cases q1 : inR x.k 2 3
    · simp -implicitDefEqProofs [ck2, c1, q1]
    by_cases q2 : x.dms.length ≤ 4
    · have q2i : (x.dms.length : Int) ≤ 4 := by omega
      by_cases q3 : x.its.length = 0 <;> simp -implicitDefEqProofs [ck2, c1, q1, q2, q2i, q3]
    · have q2i : ¬ (x.dms.length : Int) ≤ 4 := by omega
      simp -implicitDefEqProofs [ck2, c1, q1, q2, q2i]

theorem ck3_pc (x : Iss) (h1 : Sml x.its) : PC Tryd.prog G 159 [.agg (isa x)] (.bool (ck3 x)) := by
  (refine pc_sheet_checks_3 (Nat.le_of_ble_eq_true rfl) fun R hG hrd => GO_AR mixed 1000 ?_; subst hG)
  unfold Sml at h1
  simp -implicitDefEqProofs [rc_sheet_checks_3, rr_sheet_checks_3, isa]
  refine AR_for (fun i => ⟨[(8, .int .i64 i), (7, .int .i64 x.its.length), (6, .vsl (x.its.map ita)), (1, .ptr 1 0)], [(1, .box (isa x))]⟩) (fun i => ∀ j, j < i → itOk x j = true) x.its.length (by (first | exact Weak.tm (by simp [lk, isa]) | exact Weak.sub (by simp [lk, keptA, AV.keys, isa]) (by simp [lk, keptO, keptA, AV.keys, isa]))) (by simp) ?_ ?_
  · intro i hi he
    refine GO_AR mixed 1000 ?_
    have w1 : IntKind.i64.wrap ((i : Int) + 1) = ((i + 1 : Nat) : Int) := wrapI (by omega) (by omega)
    have a1 : itAt x i = x.its[i] := by simp [itAt, List.getD, hi]
    have no : itOk x i = false → ck3 x = false := fun e => by
      cases hI : ck3 x
      · rfl
      · rw [range_all.1 hI i hi] at e; cases e
    simp -implicitDefEqProofs [hi, isa, ita]
    (first | refine CallK.of (inS_pc _ _ _) (by simp) ?_ | refine CallD.of (inS_pc _ _ _) (by simp) ?_)
    cases p1 : inR x.its[i].1 1 9999
    · simp -implicitDefEqProofs []
      refine ⟨rfl, ?_⟩
      refine GO_ret mixed 1000 ?_
      simp -implicitDefEqProofs [no (by simp [itOk, a1, p1])]
    simp -implicitDefEqProofs []
    (first | refine CallK.of (inS_pc _ _ _) (by simp) ?_ | refine CallD.of (inS_pc _ _ _) (by simp) ?_)
    cases p2 : inR x.its[i].2 1 20
    · simp -implicitDefEqProofs []
      refine ⟨rfl, ?_⟩
      refine GO_ret mixed 1000 ?_
      simp -implicitDefEqProofs [no (by simp [itOk, a1, p2])]
    by_cases p3 : x.its[i].1 = x.d
    · simp -implicitDefEqProofs [p3]
      refine ⟨rfl, ?_⟩
      refine GO_ret mixed 1000 ?_
      simp -implicitDefEqProofs [no (by simp [itOk, a1, p3])]
    cases i with
    | zero =>
      have ok : itOk x 0 = true := by simp [itOk, a1, p1, p2, p3]
      have w0 : IntKind.i64.wrap 1 = 1 := rfl
      simp -implicitDefEqProofs [p3, w0]
      exact ⟨rfl, (by (first | exact Weak.tm (by simp [lk, isa]) | exact Weak.sub (by simp [lk, keptA, AV.keys, isa]) (by simp [lk, keptO, keptA, AV.keys, isa]))), ok⟩
    | succ i =>
      have w2 : IntKind.i64.wrap (i : Int) = (i : Int) := wrapI (by omega) (by omega)
      have w3 : IntKind.i64.wrap ((i : Int) + 1 + 1) = (i : Int) + 1 + 1 := wrapI (by omega) (by omega)
      have k3 : (0 : Int) < (i : Int) + 1 := by omega
      have hi2 : i < x.its.length := by omega
      have a2 : itAt x i = x.its[i] := by simp [itAt, List.getD, hi2]
      by_cases p4 : x.its[i + 1].1 ≤ x.its[i].1
      · simp -implicitDefEqProofs [p3, k3, w2, hi2, ita, p4]
        refine ⟨rfl, ?_⟩
        refine GO_ret mixed 1000 ?_
        simp -implicitDefEqProofs [no (by simp [itOk, a1, a2, p4])]
      · have ok : itOk x (i + 1) = true := by simp [itOk, a1, a2, p1, p2, p3]; omega
        simp -implicitDefEqProofs [p3, k3, w2, w3, hi2, ita, p4]
        refine ⟨rfl, (by (first | exact Weak.tm (by simp [lk, isa]) | exact Weak.sub (by simp [lk, keptA, AV.keys, isa]) (by simp [lk, keptO, keptA, AV.keys, isa]))), fun j hj => ?_⟩
        by_cases e : j = i + 1
        · subst e; exact ok
        · exact he j (by omega)
  · intro he
    refine GO_AR mixed 1000 ?_
    have hI : ck3 x = true := range_all.2 he
    simp -implicitDefEqProofs []
    refine GO_ret mixed 1000 ?_
    simp -implicitDefEqProofs [hI]

theorem ck4d_pc (d : Dm) : PC Tryd.prog G 162 [.agg [.int .i64 d.n, .int .i64 d.l, .int .i64 d.u]] (.bool (!vd d)) := by
  (refine pc_sheet_checks_4_1 (Nat.le_of_ble_eq_true rfl) fun R hG hrd => GO_AR mixed 1000 ?_; subst hG)
  simp -implicitDefEqProofs [rc_sheet_checks_4_1, rr_sheet_checks_4_1]
  (first | refine CallK.of (checkS_pc d) (by simp) ?_ | refine CallD.of (checkS_pc d) (by simp) ?_)
  cases q : vd d <;> simp -implicitDefEqProofs []
theorem ck4_pc (x : Iss) (h2 : Sml x.dms) : PC Tryd.prog G 160 [.agg (isa x)] (.bool (ck4 x)) := by
  (refine pc_sheet_checks_4 (Nat.le_of_ble_eq_true rfl) fun R hG hrd => GO_AR mixed 1000 ?_; subst hG)
  simp -implicitDefEqProofs [rc_sheet_checks_4, rr_sheet_checks_4, isa]
  (first | refine CallK.of (containsD_pc 162 [] (fun d => !vd d) x.dms rfl h2 (fun d _ => ck4d_pc d)) (by simp) ?_ | refine CallD.of (containsD_pc 162 [] (fun d => !vd d) x.dms rfl h2 (fun d _ => ck4d_pc d)) (by simp) ?_)
  have e : (!x.dms.any fun d => !vd d) = ck4 x := by simp [ck4, List.all_eq_not_any_not]
  simp -implicitDefEqProofs [e]
end
end Go.Proofs.YtdpmioiamcgfkaaDoor

/-! Searches in sorted lists, by the abstract machine. -/
namespace Go.Proofs.YtdpmioiamcgfkaaDoor
open Go.RowKit

/-- How many numbers of a sorted list are less. -/
def lowB (l : List Int) (n : Int) : Nat := l.countP (fun x => decide (x < n))
theorem lowB_le (l : List Int) (n : Int) : lowB l n ≤ l.length := List.countP_le_length
/-- The numbers ahead of it are less, those behind are not. -/
theorem lowB_at {l : List Int} (hs : l.Pairwise (· ≤ ·)) (n : Int) : ∀ (i : Nat) (hi : i < l.length), i < lowB l n ↔ l[i] < n := by
  induction l with
  | nil => intro i hi; simp at hi
  | cons x l ih =>
    obtain ⟨h1, h2⟩ := List.pairwise_cons.1 hs
    intro i hi
    by_cases hx : x < n
    · have e : lowB (x :: l) n = lowB l n + 1 := by simp [lowB, List.countP_cons, hx]
      rw [e]
      cases i with
      | zero => simp [hx]
      | succ i =>
        have := ih h2 i (by simpa using hi)
        simp only [List.getElem_cons_succ]
        rw [← this]; omega
    · have z : lowB l n = 0 := by
        unfold lowB
        rw [List.countP_eq_zero]
        intro y hy
        have := h1 y hy
        simp; omega
      have e : lowB (x :: l) n = 0 := by
        have : lowB (x :: l) n = lowB l n := by simp [lowB, List.countP_cons, hx]
        omega
      rw [e]
      have hge : ∀ (i : Nat) (hi : i < (x :: l).length), x ≤ (x :: l)[i] := fun i hi => by
        cases i with
        | zero => exact Int.le_refl _
        | succ i => exact h1 _ (List.getElem_mem _)
      have := hge i hi
      constructor
      · intro h; omega
      · intro h; omega
theorem le_of_lt {l : List Int} (hs : l.Pairwise (· < ·)) : l.Pairwise (· ≤ ·) := hs.imp fun h => Int.le_of_lt h
theorem mem_lowB {l : List Int} (hs : l.Pairwise (· ≤ ·)) (n : Int) : n ∈ l ↔ l[lowB l n]? = some n := by
  constructor
  · intro hm
    obtain ⟨j, hj, he⟩ := List.getElem_of_mem hm
    have h1 : ¬ j < lowB l n := fun h => by have := (lowB_at hs n j hj).1 h; omega
    have h2 : lowB l n < l.length := by omega
    rw [List.getElem?_eq_getElem h2]
    have h3 : ¬ l[lowB l n] < n := fun h => by have := (lowB_at hs n _ h2).2 h; omega
    have h4 : l[lowB l n] ≤ l[j] := by
      by_cases e : lowB l n = j
      · simp [e]
      · exact List.pairwise_iff_getElem.1 hs _ _ h2 hj (by omega)
    congr 1; omega
  · intro h; exact List.mem_of_getElem? h

/-- A half, as the machine takes it. -/
theorem half_wrap {i j : Nat} (h : i + j ≤ 33554432) : IntKind.i64.wrap ((IntKind.u64.wrap (IntKind.i64.wrap ((i : Int) + j))).fdiv (2 ^ (min 1 IntKind.u64.bits))) = (((i + j) / 2 : Nat) : Int) := by
  show IntKind.i64.wrap ((IntKind.u64.wrap (IntKind.i64.wrap ((i : Int) + j))).fdiv (2 ^ (min 1 64))) = (((i + j) / 2 : Nat) : Int)
  have e1 : IntKind.i64.wrap ((i : Int) + j) = ((i + j : Nat) : Int) := by rw [wrapI (by omega) (by omega)]; omega
  have e2 : IntKind.u64.wrap (((i + j : Nat) : Int)) = ((i + j : Nat) : Int) := by
    have := IntWalk.u64_in (((i + j : Nat) : Int)) ⟨by omega, by omega⟩
    exact this
  rw [e1, e2]
  have e3 : (((i + j : Nat) : Int)).fdiv (2 ^ (min 1 64)) = (((i + j) / 2 : Nat) : Int) := by
    rw [Int.fdiv_eq_ediv_of_nonneg _ (by decide)]
    simp
  rw [e3, wrapI (by omega) (by omega)]

section
variable {G : Nat → Option (List AV)}

theorem isNaNc_pc (n : Int) : PC Tryd.prog G 135 [.int .i64 n] (.bool false) := by
  (refine pc_cmp_isNaN_int (Nat.le_of_ble_eq_true rfl) fun R hG hrd => GO_AR mixed 1000 ?_; subst hG)
  simp -implicitDefEqProofs [rc_cmp_isNaN_int, rr_cmp_isNaN_int]
theorem isNaNs_pc (n : Int) : PC Tryd.prog G 134 [.int .i64 n] (.bool false) := by
  (refine pc_slices_isNaN_int (Nat.le_of_ble_eq_true rfl) fun R hG hrd => GO_AR mixed 1000 ?_; subst hG)
  simp -implicitDefEqProofs [rc_slices_isNaN_int, rr_slices_isNaN_int]
theorem less_pc (a b : Int) : PC Tryd.prog G 133 [.int .i64 a, .int .i64 b] (.bool (decide (a < b))) := by
  (refine pc_cmp_Less_int (Nat.le_of_ble_eq_true rfl) fun R hG hrd => GO_AR mixed 1000 ?_; subst hG)
  by_cases h : a < b
  · simp -implicitDefEqProofs [rc_cmp_Less_int, rr_cmp_Less_int, h]
    try (first | refine CallK.of (isNaNc_pc a) (by simp) ?_ | refine CallD.of (isNaNc_pc a) (by simp) ?_)
    try simp -implicitDefEqProofs [h]
  · simp -implicitDefEqProofs [rc_cmp_Less_int, rr_cmp_Less_int, h]
    try (first | refine CallK.of (isNaNc_pc a) (by simp) ?_ | refine CallD.of (isNaNc_pc a) (by simp) ?_)
    try simp -implicitDefEqProofs [h]

theorem bsearch_pc (l : List Int) (n : Int) (hs : l.Pairwise (· ≤ ·)) (hl : Sml l) : PC Tryd.prog G 121 [.vsl (l.map ia), .int .i64 n] (.tup [.int .i64 (lowB l n), .bool (decide (n ∈ l))]) := by
  (refine pc_slices_BinarySearch_int_int (Nat.le_of_ble_eq_true rfl) fun R hG hrd => GO_AR mixed 1000 ?_; subst hG)
  unfold Sml at hl
  have hle := lowB_le l n
  simp -implicitDefEqProofs [rc_slices_BinarySearch_int_int, rr_slices_BinarySearch_int_int]
  refine AR_loop (fun p : Nat × Nat => ⟨[(8, .int .i64 p.2), (7, .int .i64 p.1), (6, .int .i64 l.length), (0, .vsl (l.map ia)), (1, .int .i64 n)], []⟩) (fun p => p.1 ≤ lowB l n ∧ lowB l n ≤ p.2 ∧ p.2 ≤ l.length) (fun p => p.2 - p.1) (0, l.length) (by (first | exact Weak.tm (by simp [lk]) | exact Weak.sub (by simp [lk, keptA, AV.keys]) (by simp [lk, keptO, keptA, AV.keys]))) ⟨by omega, hle, Nat.le_refl _⟩ ?_
  rintro ⟨lo, hi⟩ ⟨h1, h2, h3⟩
  simp only at h1 h2 h3
  refine GO_AR mixed 1000 ?_
  by_cases h4 : lo < hi
  · obtain ⟨m, hm⟩ : ∃ m, m = (lo + hi) / 2 := ⟨_, rfl⟩
    have hw := half_wrap (i := lo) (j := hi) (by omega)
    rw [← hm] at hw
    have m1 : m < l.length := by omega
    have w1 : IntKind.i64.wrap ((m : Int) + 1) = ((m + 1 : Nat) : Int) := wrapI (by omega) (by omega)
    have hb := lowB_at hs n m m1
    by_cases h5 : l[m] < n
    · simp -implicitDefEqProofs [h4, hw, m1, ia]
      (first | refine CallK.of (less_pc _ _) (by simp) ?_ | refine CallD.of (less_pc _ _) (by simp) ?_)
      simp -implicitDefEqProofs [h5, w1]
      exact ⟨(m + 1, hi), (by (first | exact Weak.tm (by simp [lk]) | exact Weak.sub (by simp [lk, keptA, AV.keys]) (by simp [lk, keptO, keptA, AV.keys]))), ⟨by have := hb.2 h5; show m + 1 ≤ _; omega, h2, h3⟩, by show hi - (m + 1) < hi - lo; omega⟩
    · simp -implicitDefEqProofs [h4, hw, m1, ia]
      (first | refine CallK.of (less_pc _ _) (by simp) ?_ | refine CallD.of (less_pc _ _) (by simp) ?_)
      simp -implicitDefEqProofs [h5]
      exact ⟨(lo, m), (by (first | exact Weak.tm (by simp [lk]) | exact Weak.sub (by simp [lk, keptA, AV.keys]) (by simp [lk, keptO, keptA, AV.keys]))), ⟨h1, by have : ¬ m < lowB l n := fun h => h5 (hb.1 h); show lowB l n ≤ m; omega, by show m ≤ _; omega⟩, by show m - lo < hi - lo; omega⟩
  · obtain rfl : lo = lowB l n := by omega
    have hmem := mem_lowB hs n
    by_cases h5 : lowB l n < l.length
    · by_cases h6 : l[lowB l n] = n
      · have e : n ∈ l := hmem.2 (by rw [List.getElem?_eq_getElem h5, h6])
        simp -implicitDefEqProofs [h4]
        refine GO_ret mixed 1000 ?_
        simp -implicitDefEqProofs [h5, ia, h6, e]
      · have e : ¬ n ∈ l := fun h => h6 (by have := hmem.1 h; rw [List.getElem?_eq_getElem h5] at this; exact Option.some.inj this)
        simp -implicitDefEqProofs [h4]
        refine GO_ret mixed 1000 ?_
        simp -implicitDefEqProofs [h5, ia, h6]
        (first | refine CallK.of (isNaNs_pc _) (by simp) ?_ | refine CallD.of (isNaNs_pc _) (by simp) ?_)
        simp -implicitDefEqProofs [e]
    · have e : ¬ n ∈ l := fun h => by have := hmem.1 h; rw [List.getElem?_eq_none (by omega)] at this; cases this
      simp -implicitDefEqProofs [h4]
      refine GO_ret mixed 1000 ?_
      simp -implicitDefEqProofs [h5, e]
end
end Go.Proofs.YtdpmioiamcgfkaaDoor

/-! The abstract machine's code of functions of the program, as a program of ours printed it; that it is theirs is proved beside each. -/
namespace Go.Proofs.YtdpmioiamcgfkaaDoor
open Go.RowKit

def rc_sheet_book_issues_1 : RCode :=
  .seq (.reg 0 true [ { d := some 9, op := .load false 1 (.t 1), aft := [] }, { d := some 10, op := .nilck (.t 9), aft := [0] }, { d := some 11, op := .faddr 0 (.t 10), aft := [1] }, { d := some 12, op := .faddr 0 (.t 11), aft := [2] }, { d := some 13, op := .load false 1 (.t 12), aft := [3] }, { d := some 14, op := .load false 1 (.t 2), aft := [] }, { d := some 15, op := .call 123 [.t 13, .t 14, .c (.func (.func 124) [] [])], aft := [4, 5] }, { d := some 8, op := .mov (.t 15), aft := [6] }, { d := some 16, op := .ext 0 (.t 8), aft := [7] }, { d := some 17, op := .ext 1 (.t 8), aft := [7] }, { d := some 4, op := .mov (.t 16), aft := [8, 6, 0, 1, 2, 3, 4, 5, 6, 7, 8] }, { d := some 5, op := .mov (.t 17), aft := [9, 10, 0, 1, 2, 3, 4, 5, 6, 7, 8, 9, 10] }])
 (.seq (.reg 1 false [ { d := some 18, op := .load false 1 (.t 1) }, { d := some 19, op := .nilck (.t 18) }, { d := some 20, op := .faddr 0 (.t 19) }, { d := some 21, op := .faddr 0 (.t 20) }, { d := some 22, op := .load false 1 (.t 21) }, { d := some 23, op := .mov (.t 4) }, { d := some 24, op := .slc 5 (.t 22) (some (.t 23)) none }, { d := some 25, op := .len (.t 24) }, { d := some 26, op := .mov (.c (.int .i64 0)) }]) (.block 0 (.loop
 (.seq (.reg 2 false [ { d := some 27, op := .bin .lss (.t 26) (.t 25) }]) (.seq (.cond (.t 27) (.skip) (.exit 0)) (.seq (.block 1
 (.seq (.reg 3 false [ { d := some 28, op := .iaddr 5 (.t 24) (.t 26) }, { d := some 29, op := .load true 5 (.t 28) }, { d := some 7, op := .alloc [.int .i64 0, .int .i64 0, .int .u8 0, .nils, .nils] }, { d := none, op := .store 5 (.t 7) (.t 29) }])
 (.seq (.reg 4 false [ { d := some 30, op := .faddr 0 (.t 7) }, { d := some 31, op := .load false 1 (.t 30) }, { d := some 32, op := .load false 1 (.t 2) }, { d := some 33, op := .bin .neq (.t 31) (.t 32) }, { d := some 34, op := .mov (.t 33) }, { d := some 35, op := .mov (.t 0), guard := some (34, false) }, { d := some 36, op := .load true 5 (.t 7), guard := some (34, false) }, { d := some 37, op := .callv (.t 35) [.t 36], guard := some (34, false) }, { d := some 38, op := .un .not (.t 37), guard := some (34, false) }, { d := some 39, op := .pick (.t 34) (.c (.bool true)) (.t 38) }]) (.cond (.t 39) (.ret) (.skip))))) (.reg 5 false [ { d := some 40, op := .bin .add (.t 26) (.c (.int .i64 1)) }, { d := some 26, op := .mov (.t 40) }])))))))
end Go.Proofs.YtdpmioiamcgfkaaDoor

/-! The issues of a drawing, one by one: what the iterator yields. -/
namespace Go.Proofs.YtdpmioiamcgfkaaDoor
open Go.RowKit

/-! Code by its form. -/
section
variable {P : Program} {N : Nat} {c : Code}
theorem okC_seq {a b : RCode} (h : okCode P N c (.seq a b) = true) : ∃ c1 c2, c = .seq c1 c2 ∧ okCode P N c1 a = true ∧ okCode P N c2 b = true := by
  cases c <;> simp only [okCode, Bool.false_eq_true, Bool.and_eq_true] at h
  exact ⟨_, _, rfl, h.1, h.2⟩
theorem okC_block {id : Nat} {a : RCode} (h : okCode P N c (.block id a) = true) : ∃ c1, c = .block id c1 ∧ okCode P N c1 a = true := by
  cases c <;> simp only [okCode, Bool.false_eq_true, Bool.and_eq_true, beq_iff_eq] at h
  obtain ⟨rfl, h⟩ := h
  exact ⟨_, rfl, h⟩
theorem okC_loop {a : RCode} (h : okCode P N c (.loop a) = true) : ∃ c1, c = .loop c1 ∧ okCode P N c1 a = true := by
  cases c <;> simp only [okCode, Bool.false_eq_true] at h
  exact ⟨_, rfl, h⟩
theorem okC_reg {id : Nat} {rs : List ROper} (h : okCode P N c (.reg id false rs) = true) : ∃ ops, c = .region id ops false ∧ allB2 (okOper P N ops) ops.toList rs = true := by
  cases c <;> simp only [okCode, Bool.false_eq_true, Bool.and_eq_true, beq_iff_eq] at h
  obtain ⟨⟨⟨rfl, rfl⟩, h⟩, -⟩ := h
  exact ⟨_, rfl, h⟩
end

/-! A region's first operations. -/
section
variable {P : Program} {R : Run} {rd : Option Nat} {m : Nat} {ops : Array Oper} {Q : Exit → Act → World → Prop}
theorem reg_simK (l2 : List Nat) : ∀ (l : List Nat) (rs' : List ROper) (st : St) (K : St → Prop) (a : Act) (W : World),
    (∀ (i : Nat) (r : ROper), rs'[i]? = some r → ∃ (j : Nat) (o : Oper), l[i]? = some j ∧ ops[j]? = some o ∧ okOper P R.N ops o r = true) → l.length = rs'.length → (∀ st' a' W', K st' → SR R st' a' W' → wpOpsIn (FW rd) m P ops Q l2 a' W') →
    RW P R.G rs' st (fun e s => e = .normal ∧ K s) → SR R st a W → wpOpsIn (FW rd) m P ops Q (l ++ l2) a W := by
  intro l
  induction l with
  | nil =>
    intro rs' st K a W hok hl hK hr hs
    cases rs' with
    | nil => exact hK st a W hr.2 hs
    | cons r rs' => simp at hl
  | cons j l ih =>
    intro rs' st K a W hok hl hK hr hs
    cases rs' with
    | nil => simp at hl
    | cons r rs' =>
      obtain ⟨j', o, hj, ho, hk⟩ := hok 0 r rfl
      simp at hj
      subst hj
      have go : ∀ (st' : St) (a' : Act) (W' : World), RW P R.G rs' st' (fun e s => e = .normal ∧ K s) → SR R st' a' W' → wpOpsIn (FW rd) m P ops Q (l ++ l2) a' W' := fun st' a' W' h2 hs' =>
        ih rs' st' K a' W' (fun i r hi => by simpa using hok (i + 1) r (by simpa using hi)) (by simpa using hl) hK h2 hs'
      rw [List.cons_append, wpOpsIn_cons]
      rcases RW_cons hr with ⟨st', h1, h2⟩ | ⟨hw, g, args, hi, hc⟩
      · exact stp_sim h1 ho hk hs fun a' W' hs' => go st' a' W' h2 hs'
      · obtain ⟨κ, hκ⟩ := hs
        have hk0 := hk
        simp only [okOper, Bool.and_eq_true, decide_eq_true_eq] at hk
        obtain ⟨⟨⟨hd, hdn⟩, -⟩, -⟩ := hk
        have hdn' : ∀ n, r.d = some n → n < R.N := fun n e => by rw [e] at hdn; simpa using hdn
        refine iscall_sim hi hw ho hk0 hκ fun vs ha => ?_
        rcases hc with ⟨v, st1, hc, hn⟩ | ⟨ch, hc, hn⟩
        · obtain ⟨h1, h2⟩ := hc R a W κ vs rfl hκ ha
          refine ⟨h1, h2.mono ?_⟩
          rintro e W' ⟨u, κ1, rfl, h3, h4⟩
          refine go _ _ _ hn ⟨κ1, ?_⟩
          rw [hd]
          exact h3.putd hdn' h4
        · exact absurd hn.1 (by simp)
end

/-! A run that begins anew where nothing is owned. -/
def freshR (M : Nat → Prop) (W : World) (N : Nat) (rd : Option Nat) : Run :=
  { G := fun _ => none, M := M, X := fun _ => False, W0 := W, N := N, E0 := { M := M, loc := fun _ => none, row := fun _ => none }, rd := rd, nm := true }
/-- All temporaries are trees. -/
def TT' (M : Nat → Prop) (W : World) (t : List (Nat × AV)) (a : Act) : Prop := ∀ n x, lk t n = some x → PV M W x (a.tmps.getD n Go.undef)

theorem fresh_start {M : Nat → Prop} {W : World} {N : Nat} {rd : Option Nat} {t : List (Nat × AV)} {a : Act} (hM : ∀ b, M b → b < W.heap.size) (hd : a.defers = []) (hN : a.tmps.size = N) (ht : TT' M W t a) : SR (freshR M W N rd) ⟨t, []⟩ a W := by
  have hGM : ∀ b, b < W.heap.size → ¬ M b → ¬ ((⟨t, []⟩ : St).env M (fun _ => none)).M b ∧ W.heap[b]? = W.heap[b]? := fun b _ h1 => ⟨(by rintro (h2 | ⟨k, s, h2⟩) <;> first | exact h1 h2 | cases h2), rfl⟩
  refine ⟨fun _ => none, ⟨[], by simp [hd, freshR], .nil, by simp, fun _ => rfl⟩, hN, fun n x hx => .pv ((ht n x hx).mono hGM (Nat.le_refl _)), (fun k o ho => by simp [St.get, lk] at ho), (fun k p hk => by cases hk), (fun k k' b s s' hk => by cases hk), hM, fun _ _ h => h, Kp.refl _ _, (fun g cs hg => by cases hg), ⟨Nat.le_refl _, hGM, fun k p hk => (by cases hk), fun k sz m hk => (by cases hk)⟩, fun _ _ => ⟨rfl, rfl⟩⟩

theorem fresh_end {M : Nat → Prop} {W W' : World} {N : Nat} {rd : Option Nat} {st : St} {a : Act} (h : SR (freshR M W N rd) st a W') {t : List (Nat × AV)} (hw : Weak st ⟨t, []⟩) (hp : ∀ q ∈ t, q.2.pure = true) :
    a.defers = [] ∧ a.tmps.size = N ∧ TT' M W' t a ∧ Ext W W' := by
  obtain ⟨κ, hk⟩ := hw _ _ _ h
  obtain ⟨cs, e, -, -, hz⟩ := hk.defers
  have hκ : ∀ k, κ k = none := fun k => by
    cases e : κ k with
    | none => rfl
    | some p => obtain ⟨o, ho⟩ := hk.dom k p e; simp [St.get, lk] at ho
  refine ⟨by rw [e, hz rfl]; rfl, hk.size, fun n x hx => ?_, ⟨hk.kp.os, hk.kp.tape, hk.kp.output, hk.kp.size, fun i hi => hk.kp.block i hi (fun h => h)⟩⟩
  refine ((hk.tm n x hx).toPV (hp (n, x) (lk_mem hx))).mono (fun b _ hb => ⟨fun h => hb (.inl h), rfl⟩) (Nat.le_refl _)

end Go.Proofs.YtdpmioiamcgfkaaDoor

/-! What the iterator over a drawing's issues yields: the walk. -/
namespace Go.Proofs.YtdpmioiamcgfkaaDoor
open Go.RowKit

/-- A call of what a range over a function hands its iterator. -/
theorem yield_sim {P : Program} {R : Run} {st : St} {a : Act} {W : World} {κ : Nat → Option (Nat × Nat)} {rd : Option Nat} {m : Nat} {ops : Array Oper} {r : ROper} {j l : Nat} {o : Oper} {f y : RA} {K : Act → World → Prop} {Q : Exit → Act → World → Prop}
    (hr : r.op = .callv f [y]) (hf : evA R.G st f = .func (.yield l) [] []) (hw : wants st r.guard = some true) (ho : ops[j]? = some o) (hk : okOper P R.N ops o r = true) (hκ : SK R st a W κ)
    (hc : ∀ u, VR (st.env R.M κ) W (evA R.G st y) u → YieldAt (FW rd) (m - 1) P l #[u] W fun
      | .returned v, W' => K (a.put o.dst v) W'
      | .panicked ch, W' => Q (.panic ch) a W'
      | .outgrown, _ => LetsOut Q) : wpOpIn (FW rd) m P ops Q j K a W := by
  simp only [okOper, Bool.and_eq_true, decide_eq_true_eq] at hk
  obtain ⟨⟨⟨hd, hdn⟩, hop⟩, hg⟩ := hk
  unfold wpOpIn
  simp only [ho]
  rw [if_pos (wants_sim hκ hg hw)]
  rw [hr] at hop
  simp only [isCall, if_true, okCall] at hop
  split at hop <;> try (simp at hop; done)
  · simp_all
  · simp_all
  · rename_i r0 x xs ats y' ys e1 e2
    simp only [Bool.and_eq_true] at hop
    simp only [ROp.callv.injEq] at e2
    obtain ⟨rfl, rfl⟩ := e2
    have hx := hκ.ev hop.1
    rw [hf] at hx
    obtain ⟨us, vs, hv1, hv2, hv3⟩ := hx.func_inv
    obtain rfl : us = #[] := by
      have := hv2.1
      rw [← Array.toList_inj]
      exact List.length_eq_zero_iff.1 (by simpa using this)
    obtain rfl : vs = #[] := by
      have := hv3.1
      rw [← Array.toList_inj]
      exact List.length_eq_zero_iff.1 (by simpa using this)
    cases xs with
    | nil => simp [allB2] at hop
    | cons z xs =>
      cases xs with
      | cons _ _ => simp [allB2] at hop
      | nil =>
        have hz := hκ.ev (show okA z y = true by simpa [allB2] using hop.2)
        obtain ⟨fn, tmps, assign, body, h1, h2⟩ := hc _ hz
        refine ⟨fun _ _ => trivial, ?_⟩
        rw [Oper.semAt_eq _ _ _ (fun c e => by rw [e1] at e; cases e)]
        have : (execOp a.eval o).run P W = .ok (.round l fn tmps assign body) W := by
          rw [← h1]
          simp [execOp, e1, resolve, hv1, Deferred.ofValue, invoke, Sem.run_bind]
        rw [this]
        exact ⟨FW_depth, h2⟩

/-- The issues of a drawing, as trees. -/
def elsOf (r : List Iss) (n : Int) : List AV := (r.filter (fun x => decide (x.d = n))).map (fun x => .agg (isa x))

theorem seg_all {n : Int} : ∀ (l : List Iss), (l.map (·.d)).Pairwise (· ≤ ·) → (∀ x ∈ l, n ≤ x.d) →
    (l.filter (fun x => decide (x.d = n))).length ≤ l.length ∧ (∀ i, i < (l.filter (fun x => decide (x.d = n))).length → (l.filter (fun x => decide (x.d = n)))[i]? = l[i]? ∧ ∀ x, l[i]? = some x → x.d = n) ∧
      ∀ x, l[(l.filter (fun x => decide (x.d = n))).length]? = some x → x.d ≠ n
  | [], _, _ => by simp
  | y :: l, hs, hg => by
    simp only [List.map_cons, List.pairwise_cons] at hs
    obtain ⟨h1, h2, h3⟩ := seg_all l hs.2 fun x hx => hg x (List.mem_cons_of_mem _ hx)
    by_cases hy : y.d = n
    · have e : (y :: l).filter (fun x => decide (x.d = n)) = y :: l.filter (fun x => decide (x.d = n)) := by simp [hy]
      rw [e]
      refine ⟨by simpa using h1, fun i hi => ?_, fun x hx => h3 x (by simpa using hx)⟩
      cases i with
      | zero => exact ⟨rfl, fun x hx => by simp at hx; subst hx; exact hy⟩
      | succ i => exact ⟨by simpa using (h2 i (by simpa using hi)).1, fun x hx => (h2 i (by simpa using hi)).2 x (by simpa using hx)⟩
    · have gt : n < y.d := by have := hg y (List.mem_cons_self ..); omega
      have e : (y :: l).filter (fun x => decide (x.d = n)) = [] := by
        rw [List.filter_eq_nil_iff]
        intro x hx
        rcases List.mem_cons.1 hx with rfl | hx
        · simpa using hy
        · have := hs.1 x.d (List.mem_map.2 ⟨x, hx, rfl⟩)
          simp; omega
      rw [e]
      refine ⟨by simp, by simp, fun x hx => ?_⟩
      simp at hx; subst hx; exact hy
theorem seg_of {r : List Iss} {n : Int} (hs : (r.map (·.d)).Pairwise (· ≤ ·)) : ∃ cnt, cnt = (r.filter (fun x => decide (x.d = n))).length ∧ cnt ≤ (r.drop (lowB (r.map (·.d)) n)).length ∧
    (∀ i, i < cnt → (r.filter (fun x => decide (x.d = n)))[i]? = (r.drop (lowB (r.map (·.d)) n))[i]? ∧ ∀ x, (r.drop (lowB (r.map (·.d)) n))[i]? = some x → x.d = n) ∧ (∀ x, (r.drop (lowB (r.map (·.d)) n))[cnt]? = some x → x.d ≠ n) := by
  have e : r.filter (fun x => decide (x.d = n)) = (r.drop (lowB (r.map (·.d)) n)).filter (fun x => decide (x.d = n)) := by
    conv => lhs; rw [← List.take_append_drop (lowB (r.map (·.d)) n) r]
    rw [List.filter_append]
    have : (r.take (lowB (r.map (·.d)) n)).filter (fun x => decide (x.d = n)) = [] := by
      rw [List.filter_eq_nil_iff]
      intro x hx
      obtain ⟨i, hi, rfl⟩ := List.getElem_of_mem hx
      simp only [List.length_take] at hi
      have := (lowB_at hs n i (by simp; omega)).1 (by omega)
      simp only [List.getElem_map] at this
      simp only [List.getElem_take]
      simp; omega
    rw [this, List.nil_append]
  refine ⟨_, rfl, ?_⟩
  rw [e]
  refine seg_all _ ?_ fun x hx => ?_
  · rw [List.map_drop]; exact hs.sublist (List.drop_sublist _ _)
  · obtain ⟨i, hi, rfl⟩ := List.getElem_of_mem hx
    simp only [List.length_drop] at hi
    have q := lowB_at hs n (lowB (r.map (·.d)) n + i) (by simp; omega)
    simp only [List.getElem_map] at q
    simp only [List.getElem_drop]
    by_cases h : r[lowB (r.map (·.d)) n + i].d < n
    · have := q.2 h; omega
    · omega

section
variable {G : Nat → Option (List AV)}
theorem compare_pc (a b : Int) : PC Tryd.prog G 125 [.int .i64 a, .int .i64 b] (.int .i64 (if a < b then -1 else if b < a then 1 else 0)) := by
  (refine pc_cmp_Compare_int (Nat.le_of_ble_eq_true rfl) fun R hG hrd => GO_AR mixed 1000 ?_; subst hG)
  by_cases h1 : a < b
  · simp -implicitDefEqProofs [rc_cmp_Compare_int, rr_cmp_Compare_int]
    (first | refine CallK.of (isNaNc_pc a) (by simp) ?_ | refine CallD.of (isNaNc_pc a) (by simp) ?_)
    simp -implicitDefEqProofs []
    (first | refine CallK.of (isNaNc_pc b) (by simp) ?_ | refine CallD.of (isNaNc_pc b) (by simp) ?_)
    simp -implicitDefEqProofs [h1]
  · by_cases h2 : b < a
    · simp -implicitDefEqProofs [rc_cmp_Compare_int, rr_cmp_Compare_int]
      (first | refine CallK.of (isNaNc_pc a) (by simp) ?_ | refine CallD.of (isNaNc_pc a) (by simp) ?_)
      simp -implicitDefEqProofs []
      (first | refine CallK.of (isNaNc_pc b) (by simp) ?_ | refine CallD.of (isNaNc_pc b) (by simp) ?_)
      simp -implicitDefEqProofs [h1, h2]
    · simp -implicitDefEqProofs [rc_cmp_Compare_int, rr_cmp_Compare_int]
      (first | refine CallK.of (isNaNc_pc a) (by simp) ?_ | refine CallD.of (isNaNc_pc a) (by simp) ?_)
      simp -implicitDefEqProofs []
      (first | refine CallK.of (isNaNc_pc b) (by simp) ?_ | refine CallD.of (isNaNc_pc b) (by simp) ?_)
      simp -implicitDefEqProofs [h1, h2]
theorem issC_pc (x : Iss) (n : Int) : PC Tryd.prog G 124 [.agg (isa x), .int .i64 n] (.int .i64 (if x.d < n then -1 else if n < x.d then 1 else 0)) := by
  (refine pc_sheet_book_issues_1_1 (Nat.le_of_ble_eq_true rfl) fun R hG hrd => GO_AR mixed 1000 ?_; subst hG)
  simp -implicitDefEqProofs [rc_sheet_book_issues_1_1, rr_sheet_book_issues_1_1, isa]
  (first | refine CallK.of (compare_pc _ _) (by simp) ?_ | refine CallD.of (compare_pc _ _) (by simp) ?_)
  simp -implicitDefEqProofs []

theorem bsearchF_pc (r : List Iss) (n : Int) (hs : (r.map (·.d)).Pairwise (· ≤ ·)) (hl : Sml r) : ∃ b, PC Tryd.prog G 123 [.vsl (r.map isa), .int .i64 n, .func (.func 124) [] []] (.tup [.int .i64 (lowB (r.map (·.d)) n), .bool b]) := by
  have hle := lowB_le (r.map (·.d)) n
  simp only [List.length_map] at hle
  refine ⟨if h : lowB (r.map (·.d)) n < r.length then decide ((if r[lowB (r.map (·.d)) n].d < n then (-1 : Int) else if n < r[lowB (r.map (·.d)) n].d then 1 else 0) = 0) else false, ?_⟩
  (refine pc_slices_BinarySearchFunc_api_Issue_api_Issue_int (Nat.le_of_ble_eq_true rfl) fun R hG hrd => GO_AR mixed 1000 ?_; subst hG)
  unfold Sml at hl
  simp -implicitDefEqProofs [rc_slices_BinarySearchFunc_api_Issue_api_Issue_int, rr_slices_BinarySearchFunc_api_Issue_api_Issue_int]
  refine AR_loop (fun p : Nat × Nat => ⟨[(10, .int .i64 p.2), (9, .int .i64 p.1), (8, .int .i64 r.length), (0, .vsl (r.map isa)), (1, .int .i64 n), (2, .func (.func 124) [] [])], []⟩) (fun p => p.1 ≤ lowB (r.map (·.d)) n ∧ lowB (r.map (·.d)) n ≤ p.2 ∧ p.2 ≤ r.length) (fun p => p.2 - p.1) (0, r.length) (by (first | exact Weak.tm (by simp [lk]) | exact Weak.sub (by simp [lk, keptA, AV.keys]) (by simp [lk, keptO, keptA, AV.keys]))) ⟨by omega, hle, Nat.le_refl _⟩ ?_
  rintro ⟨lo, hi⟩ ⟨h1, h2, h3⟩
  simp only at h1 h2 h3
  refine GO_AR mixed 1000 ?_
  by_cases h4 : lo < hi
  · obtain ⟨m, hm⟩ : ∃ m, m = (lo + hi) / 2 := ⟨_, rfl⟩
    have hw := half_wrap (i := lo) (j := hi) (by omega)
    rw [← hm] at hw
    have m1 : m < r.length := by omega
    have w1 : IntKind.i64.wrap ((m : Int) + 1) = ((m + 1 : Nat) : Int) := wrapI (by omega) (by omega)
    have hb := lowB_at hs n m (by simpa using m1)
    simp only [List.getElem_map] at hb
    by_cases h5 : r[m].d < n
    · have c1 : (-1 : Int) < 0 := by omega
      simp -implicitDefEqProofs [h4, hw, m1, isa]
      (first | refine CallK.of (issC_pc r[m] n) (by simp) ?_ | refine CallD.of (issC_pc r[m] n) (by simp) ?_)
      simp -implicitDefEqProofs [h5, w1]
      exact ⟨(m + 1, hi), (by (first | exact Weak.tm (by simp [lk]) | exact Weak.sub (by simp [lk, keptA, AV.keys]) (by simp [lk, keptO, keptA, AV.keys]))), ⟨by have := hb.2 h5; show m + 1 ≤ _; omega, h2, h3⟩, by show hi - (m + 1) < hi - lo; omega⟩
    · simp -implicitDefEqProofs [h4, hw, m1, isa]
      (first | refine CallK.of (issC_pc r[m] n) (by simp) ?_ | refine CallD.of (issC_pc r[m] n) (by simp) ?_)
      by_cases h6 : n < r[m].d
      · simp -implicitDefEqProofs [h5, h6]
        exact ⟨(lo, m), (by (first | exact Weak.tm (by simp [lk]) | exact Weak.sub (by simp [lk, keptA, AV.keys]) (by simp [lk, keptO, keptA, AV.keys]))), ⟨h1, by have : ¬ m < lowB (r.map (·.d)) n := fun h => h5 (hb.1 h); show _ ≤ m; omega, by show m ≤ _; omega⟩, by show m - lo < hi - lo; omega⟩
      · simp -implicitDefEqProofs [h5, h6]
        exact ⟨(lo, m), (by (first | exact Weak.tm (by simp [lk]) | exact Weak.sub (by simp [lk, keptA, AV.keys]) (by simp [lk, keptO, keptA, AV.keys]))), ⟨h1, by have : ¬ m < lowB (r.map (·.d)) n := fun h => h5 (hb.1 h); show _ ≤ m; omega, by show m ≤ _; omega⟩, by show m - lo < hi - lo; omega⟩
  · obtain rfl : lo = lowB (r.map (·.d)) n := by omega
    by_cases h5 : lowB (r.map (·.d)) n < r.length
    · simp -implicitDefEqProofs [h4]
      refine GO_ret mixed 1000 ?_
      simp -implicitDefEqProofs [h5, isa]
      (first | refine CallK.of (issC_pc r[lowB (r.map (·.d)) n] n) (by simp) ?_ | refine CallD.of (issC_pc r[lowB (r.map (·.d)) n] n) (by simp) ?_)
      simp -implicitDefEqProofs []
    · simp -implicitDefEqProofs [h4]
      refine GO_ret mixed 1000 ?_
      simp -implicitDefEqProofs [h5]


/-! The iterator's code in parts. -/
def issA : RCode → RCode
  | .seq a _ => a
  | c => c
def issRest : RCode → RCode
  | .seq _ b => b
  | c => c
def issB1 (c : RCode) : RCode := issA (issRest c)
def issB2 (c : RCode) : RCode := issRest (issRest c)
def issB3 (c : RCode) : RCode := match issB2 c with
  | .block _ b => b
  | c => c
def issL (c : RCode) : RCode := match issB3 c with
  | .loop b => b
  | c => c
def issBk : RCode → RCode
  | .block _ b => b
  | c => c
def issOps : RCode → List ROper
  | .reg _ _ l => l
  | _ => []
/-- The state of the iterator ahead of round i. -/
def itS (seg : List Iss) (bk : AV) (n : Int) (l i : Nat) : List (Nat × AV) :=
  [(26, .int .i64 i), (25, .int .i64 seg.length), (24, .vsl (seg.map isa)), (2, .vptr [.int .i64 n] 0), (1, .vptr [bk] 0), (0, .func (.yield l) [] [])]

theorem issuesIt (r : List Iss) (n : Int) (ds : AV) (hs : (r.map (·.d)).Pairwise (· ≤ ·)) (hl : Sml r) : IterP Tryd.prog 122 [.vptr [.vptr [.vsl (r.map isa), ds] 0] 0, .vptr [.int .i64 n] 0] (elsOf r n) := by
  refine ⟨by kernel_rfl, ?_⟩
  intro n' l lb J K M W hn hJe hKe hJM hC hY h0
  obtain ⟨cnt, hcnt, hc1, hc2, hc3⟩ := seg_of (n := n) hs
  generalize hseg : r.drop (lowB (r.map (·.d)) n) = seg at hc1 hc2 hc3
  have hsl : seg.length ≤ 16777216 := by rw [← hseg]; simp; unfold Sml at hl; omega
  have hle := lowB_le (r.map (·.d)) n
  simp only [List.length_map] at hle
  unfold Sml at hl
  have hel : (elsOf r n).length = cnt := by rw [hcnt]; simp [elsOf]
  obtain ⟨c, hc, hok⟩ : ∃ c, Tryd.f122.body = some c ∧ okCode Tryd.prog Tryd.f122.ntmps c rc_sheet_book_issues_1 = true := ⟨_, rfl, by kernel_rfl⟩
  obtain ⟨N, hN⟩ : ∃ N, N = Tryd.f122.ntmps := ⟨_, rfl⟩
  have hN3 : 3 ≤ N := by rw [hN]; decide
  rw [← hN] at hok
  refine callsIn_of_wp (F := Fence.wide) Tryd.func122 hc trivial ?_ rfl
  have hres : ∀ (tm : Array Value) (W' : World), (results Tryd.f122 tm).run Tryd.prog W' = .ok (.tuple #[]) W' := fun tm W' => by
    have e : Tryd.f122.results = #[] := rfl
    simp [results, e, Sem.run_bind]
  obtain ⟨Q, hQ⟩ : ∃ Q, Q = bodyPost Tryd.prog Tryd.f122 (fun e W' => (∃ v, e = .returned v) ∧ ((∃ M, J (elsOf r n).length M W') ∨ K W')) := ⟨_, rfl⟩
  have hfin : ∀ (a : Act) (W' : World), a.defers = [] → ((∃ M, J (elsOf r n).length M W') ∨ K W') → Q .ret a W' ∧ Q .normal a W' := fun a W' hd h => by
    rw [hQ]; exact ⟨⟨hd, _, hres _ _, ⟨_, rfl⟩, h⟩, ⟨hd, _, hres _ _, ⟨_, rfl⟩, h⟩⟩
  rw [← hQ]
  have hwide : Fence.wide = FW none := rfl
  rw [hwide]
  -- the code's parts
  obtain ⟨cA, c1, rfl, okA', ok1⟩ := okC_seq (a := issA rc_sheet_book_issues_1) (b := issRest rc_sheet_book_issues_1) hok
  obtain ⟨cB, c2, rfl, okB', ok2⟩ := okC_seq (a := issB1 rc_sheet_book_issues_1) (b := issB2 rc_sheet_book_issues_1) ok1
  obtain ⟨c3, rfl, ok3⟩ := okC_block (id := 0) (a := issB3 rc_sheet_book_issues_1) ok2
  obtain ⟨c4, rfl, ok4⟩ := okC_loop (a := issL rc_sheet_book_issues_1) ok3
  -- the arguments
  have hbk : ∃ v1 v2, lb = #[v1, v2] ∧ PV M W (.vptr [.vptr [.vsl (r.map isa), ds] 0] 0) v1 ∧ PV M W (.vptr [.int .i64 n] 0) v2 := by
    obtain ⟨h1, h2⟩ := hC
    match lb, h1, h2 with
    | ⟨[v1, v2]⟩, _, h2 => exact ⟨v1, v2, rfl, h2 0 _ v1 rfl rfl, h2 1 _ v2 rfl rfl⟩
  obtain ⟨v1, v2, rfl, hv1, hv2⟩ := hbk
  obtain ⟨bk, hbk⟩ : ∃ bk, bk = AV.vptr [.vsl (r.map isa), ds] 0 := ⟨_, rfl⟩
  rw [← hbk] at hv1
  -- up to the loop
  have start : SR (freshR M W N none) ⟨[(2, .vptr [.int .i64 n] 0), (1, .vptr [bk] 0), (0, .func (.yield l) [] [])], []⟩ { tmps := (#[.func (.yield l) #[] #[]] ++ #[v1, v2] : Array Value) ++ Array.replicate (N - 3) Go.undef, defers := [] } W := by
    refine fresh_start (hJM 0 M W h0) rfl (by simp; omega) fun k x hx => ?_
    have g0 : ((#[.func (.yield l) #[] #[]] ++ #[v1, v2] : Array Value) ++ Array.replicate (N - 3) Go.undef).getD 0 Go.undef = .func (.yield l) #[] #[] := by simp [Array.getD]
    have g1 : ((#[.func (.yield l) #[] #[]] ++ #[v1, v2] : Array Value) ++ Array.replicate (N - 3) Go.undef).getD 1 Go.undef = v1 := by simp [Array.getD]; omega
    have g2 : ((#[.func (.yield l) #[] #[]] ++ #[v1, v2] : Array Value) ++ Array.replicate (N - 3) Go.undef).getD 2 Go.undef = v2 := by simp [Array.getD]; omega
    simp only [lk] at hx
    split at hx
    · rename_i e; subst e; cases hx; rw [g2]; exact hv2
    · split at hx
      · rename_i e; subst e; cases hx; rw [g1]; exact hv1
      · split at hx
        · rename_i e; subst e; cases hx; rw [g0]; exact .func _ [] [] #[] #[] rfl rfl (by simp) (by simp)
        · cases hx
  have hact : ({ tmps := (#[.func (.yield l) #[] #[]] ++ #[v1, v2] : Array Value) ++ Array.replicate (Tryd.f122.ntmps - (#[.func (.yield l) #[] #[]] ++ #[v1, v2] : Array Value).size) Go.undef, defers := [] } : Act) = { tmps := (#[.func (.yield l) #[] #[]] ++ #[v1, v2] : Array Value) ++ Array.replicate (N - 3) Go.undef, defers := [] } := by rw [hN]; rfl
  rw [hact]
  have arA : AR Tryd.prog (freshR M W N none) (issA rc_sheet_book_issues_1) ⟨[(2, .vptr [.int .i64 n] 0), (1, .vptr [bk] 0), (0, .func (.yield l) [] [])], []⟩ (fun e s => e = .normal ∧ Weak s ⟨[(4, .int .i64 (lowB (r.map (·.d)) n)), (2, .vptr [.int .i64 n] 0), (1, .vptr [bk] 0), (0, .func (.yield l) [] [])], []⟩) := by
    obtain ⟨b, hb⟩ := bsearchF_pc (G := fun _ => none) r n hs hl
    refine GO_AR mixed 1000 ?_
    simp -implicitDefEqProofs [issA, rc_sheet_book_issues_1, hbk]
    refine CallD.of hb (by simp [AV.pure]) ?_
    simp -implicitDefEqProofs []
    exact ⟨rfl, (by (first | exact Weak.tm (by simp [lk]) | exact Weak.sub (by simp [lk, keptA, AV.keys]) (by simp [lk, keptO, keptA, AV.keys])))⟩
  have hdr : List.drop (lowB (r.map (·.d)) n) (r.map isa) = seg.map isa := by rw [← List.map_drop, hseg]
  have hsg : seg.length = r.length - lowB (r.map (·.d)) n := by rw [← hseg]; simp
  have htk : List.take r.length (r.map isa) = r.map isa := List.take_of_length_le (by simp)
  have k5 : (r.map isa).all (fun r => r.length == 5) = true := by simp [isa]
  have arB : ∀ R' : Run, AR Tryd.prog R' (issB1 rc_sheet_book_issues_1) ⟨[(4, .int .i64 (lowB (r.map (·.d)) n)), (2, .vptr [.int .i64 n] 0), (1, .vptr [bk] 0), (0, .func (.yield l) [] [])], []⟩ (fun e s => e = .normal ∧ Weak s ⟨itS seg bk n l 0, []⟩) := fun R' => by
    refine GO_AR mixed 1000 ?_
    simp -implicitDefEqProofs [issA, issB1, issRest, rc_sheet_book_issues_1, hbk, hle, k5, hdr]
    exact (by (first | exact Weak.tm (by simp [lk, itS, hsg, htk, hdr]) | exact Weak.sub (by simp [lk, keptA, AV.keys, itS, hsg, htk, hdr]) (by simp [lk, keptO, keptA, AV.keys, itS, hsg, htk, hdr])))
  refine wpIn_seq (wpIn_mono (arA cA okA' _ _ W start) ?_)
  rintro e a1 W1 ⟨s1, ⟨rfl, hw1⟩, hs1⟩
  refine wpIn_seq (wpIn_mono (arB _ cB okB' _ a1 W1 (hw1 _ _ _ hs1)) ?_)
  rintro e a2 W2 ⟨s2, ⟨rfl, hw2⟩, hs2⟩
  obtain ⟨d2, n2, t2, e2⟩ := fresh_end hs2 hw2 (by simp [itS, AV.pure, hbk])
  have hJ2 := hJe _ _ _ _ h0 e2
  clear hs2 hw2 hs1 hw1 arA arB start hact
  refine wpIn_block ?_
  refine wpIn_loop_ghost (fun m a A => ∃ i M, i ≤ cnt ∧ m = seg.length - i ∧ J i M A ∧ a.defers = [] ∧ a.tmps.size = N ∧ TT' M A (itS seg bk n l i) a) seg.length ⟨0, M, Nat.zero_le _, by simp, hJ2, d2, n2, t2⟩ ?_
  clear hJ2 d2 n2 t2 e2 h0 hv1 hv2 hC
  rintro m a A ⟨i, M, hi, rfl, hJ, hd, hn2, ht⟩
  have hfr : SR (freshR M A N none) ⟨itS seg bk n l i, []⟩ a A := fresh_start (hJM i M A hJ) hd hn2 ht
  by_cases hlt : i < seg.length
  case neg =>
    have hic : i = cnt := by omega
    subst hic
    have ar : ∀ R' : Run, AR Tryd.prog R' (issL rc_sheet_book_issues_1) ⟨itS seg bk n l i, []⟩ (fun e s => e = .exit 0 ∧ Weak s ⟨[], []⟩) := fun R' => by
      refine GO_AR mixed 1000 ?_
      simp -implicitDefEqProofs [issL, issB3, issB2, issRest, rc_sheet_book_issues_1, itS, hlt]
      exact (by (first | exact Weak.tm (by simp [lk]) | exact Weak.sub (by simp [lk, keptA, AV.keys]) (by simp [lk, keptO, keptA, AV.keys])))
    refine wpIn_mono (ar _ c4 ok4 _ a A hfr) ?_
    rintro e a3 A3 ⟨s3, ⟨rfl, hw3⟩, hs3⟩
    obtain ⟨d3, -, -, e3⟩ := fresh_end hs3 hw3 (by simp)
    refine (hfin a3 A3 d3 (.inl ⟨M, ?_⟩)).2
    rw [hel]; exact hJe _ _ _ _ hJ e3
  by_cases hd2 : seg[i].d = n
  case neg =>
    have hic : i = cnt := by
      by_cases e : i < cnt
      · exact absurd ((hc2 i e).2 _ (List.getElem?_eq_getElem hlt)) hd2
      · omega
    subst hic
    have ar : ∀ R' : Run, AR Tryd.prog R' (issL rc_sheet_book_issues_1) ⟨itS seg bk n l i, []⟩ (fun e s => e = .ret ∧ Weak s ⟨[], []⟩) := fun R' => by
      refine GO_AR mixed 1000 ?_
      simp -implicitDefEqProofs [issL, issB3, issB2, issRest, rc_sheet_book_issues_1, itS, hlt, isa, hd2]
      exact (by (first | exact Weak.tm (by simp [lk]) | exact Weak.sub (by simp [lk, keptA, AV.keys]) (by simp [lk, keptO, keptA, AV.keys])))
    refine wpIn_mono (ar _ c4 ok4 _ a A hfr) ?_
    rintro e a3 A3 ⟨s3, ⟨rfl, hw3⟩, hs3⟩
    obtain ⟨d3, -, -, e3⟩ := fresh_end hs3 hw3 (by simp)
    refine (hfin a3 A3 d3 (.inl ⟨M, ?_⟩)).1
    rw [hel]; exact hJe _ _ _ _ hJ e3
  have hic : i < cnt := by
    by_cases e : i < cnt
    · exact e
    · exact absurd hd2 (hc3 _ (by rw [show cnt = i by omega]; exact List.getElem?_eq_getElem hlt))
  have helt : (elsOf r n)[i]? = some (.agg (isa seg[i])) := by
    simp only [elsOf, List.getElem?_map, (hc2 i hic).1, List.getElem?_eq_getElem hlt, Option.map_some]
  obtain ⟨L, hL⟩ : ∃ L, L = issL rc_sheet_book_issues_1 := ⟨_, rfl⟩
  obtain ⟨r2, q1, rfl, okr2, okq1⟩ := okC_seq (a := issA (issL rc_sheet_book_issues_1)) (b := issRest (issL rc_sheet_book_issues_1)) ok4
  obtain ⟨k1, q2, rfl, okk1, okq2⟩ := okC_seq (a := issA (issRest (issL rc_sheet_book_issues_1))) (b := issRest (issRest (issL rc_sheet_book_issues_1))) okq1
  obtain ⟨q3, r5, rfl, okq3, okr5⟩ := okC_seq (a := issA (issRest (issRest (issL rc_sheet_book_issues_1)))) (b := issRest (issRest (issRest (issL rc_sheet_book_issues_1)))) okq2
  obtain ⟨q4, rfl, okq4⟩ := okC_block (id := 1) (a := issBk (issA (issRest (issRest (issL rc_sheet_book_issues_1))))) okq3
  obtain ⟨r3, q5, rfl, okr3, okq5⟩ := okC_seq (a := issA (issBk (issA (issRest (issRest (issL rc_sheet_book_issues_1)))))) (b := issRest (issBk (issA (issRest (issRest (issL rc_sheet_book_issues_1)))))) okq4
  obtain ⟨r4, k2, rfl, okr4, okk2⟩ := okC_seq (a := issA (issRest (issBk (issA (issRest (issRest (issL rc_sheet_book_issues_1))))))) (b := issRest (issRest (issBk (issA (issRest (issRest (issL rc_sheet_book_issues_1))))))) okq5
  obtain ⟨ops, rfl, hops⟩ := okC_reg (id := 4) (rs := issOps (issA (issRest (issBk (issA (issRest (issRest (issL rc_sheet_book_issues_1)))))))) okr4
  obtain ⟨hol, hoo⟩ := allB2_spec hops
  have hol : ops.size = 10 := hol
  -- the test
  have ar2 : AR Tryd.prog (freshR M A N none) (issA (issL rc_sheet_book_issues_1)) ⟨itS seg bk n l i, []⟩ (fun e s => e = .normal ∧ Weak s ⟨(27, .bool true) :: itS seg bk n l i, []⟩) := by
    refine GO_AR mixed 1000 ?_
    simp -implicitDefEqProofs [issL, issB3, issB2, issA, issRest, rc_sheet_book_issues_1, itS, hlt]
    exact (by (first | exact Weak.tm (by simp [lk]) | exact Weak.sub (by simp [lk, keptA, AV.keys]) (by simp [lk, keptO, keptA, AV.keys])))
  refine wpIn_seq (wpIn_mono (ar2 r2 okr2 _ a A hfr) ?_)
  rintro e b1 B1 ⟨s1, ⟨rfl, w1⟩, hs1⟩
  have ark : AR Tryd.prog (freshR M A N none) (issA (issRest (issL rc_sheet_book_issues_1))) ⟨(27, .bool true) :: itS seg bk n l i, []⟩ (fun e s => e = .normal ∧ Weak s ⟨itS seg bk n l i, []⟩) := by
    refine GO_AR mixed 1000 ?_
    simp -implicitDefEqProofs [issL, issB3, issB2, issA, issRest, rc_sheet_book_issues_1, itS]
    exact (by (first | exact Weak.tm (by simp [lk]) | exact Weak.sub (by simp [lk, keptA, AV.keys]) (by simp [lk, keptO, keptA, AV.keys])))
  refine wpIn_seq (wpIn_mono (ark k1 okk1 _ b1 B1 (w1 _ _ _ hs1)) ?_)
  rintro e b2 B2 ⟨s2, ⟨rfl, w2⟩, hs2⟩
  refine wpIn_seq (wpIn_block ?_)
  have ar3 : AR Tryd.prog (freshR M A N none) (issA (issBk (issA (issRest (issRest (issL rc_sheet_book_issues_1)))))) ⟨itS seg bk n l i, []⟩ (fun e s => e = .normal ∧ Weak s ⟨(7, .ptr 7 0) :: itS seg bk n l i, [(7, .box (isa seg[i]))]⟩) := by
    refine GO_AR mixed 1000 ?_
    simp -implicitDefEqProofs [issL, issB3, issB2, issA, issRest, issBk, rc_sheet_book_issues_1, itS, hlt, isa]
    exact (by (first | exact Weak.tm (by simp [lk]) | exact Weak.sub (by simp [lk, keptA, AV.keys]) (by simp [lk, keptO, keptA, AV.keys])))
  refine wpIn_seq (wpIn_mono (ar3 r3 okr3 _ b2 B2 (w2 _ _ _ hs2)) ?_)
  rintro e b3 B3 ⟨s3, ⟨rfl, w3⟩, hs3⟩
  have hs3 := w3 _ _ _ hs3
  clear hs1 hs2 w1 w2 w3 ar2 ark ar3
  refine wpIn_seq (wpIn_region ?_)
  have hrg : List.range ops.size = [0, 1, 2, 3, 4, 5, 6] ++ [7, 8, 9] := by rw [hol]; rfl
  rw [hrg]
  have okAt : ∀ (k : Nat) (r : ROper), (issOps (issA (issRest (issBk (issA (issRest (issRest (issL rc_sheet_book_issues_1))))))))[k]? = some r → ∃ o, ops[k]? = some o ∧ okOper Tryd.prog N ops o r = true := fun k r hk => by
    have hlt : k < ops.size := by
      have := (List.getElem?_eq_some_iff.1 hk).1
      rw [hol]; exact this
    exact ⟨ops[k], by simp [hlt], hoo k _ r (by simp [hlt]) hk⟩
  refine reg_simK (R := freshR M A N none) [7, 8, 9] _ ((issOps (issA (issRest (issBk (issA (issRest (issRest (issL rc_sheet_book_issues_1)))))))).take 7) ⟨(7, .ptr 7 0) :: itS seg bk n l i, [(7, .box (isa seg[i]))]⟩
    (fun s => Weak s ⟨(36, .agg (isa seg[i])) :: (35, .func (.yield l) [] []) :: (34, .bool false) :: itS seg bk n l i, []⟩) b3 B3 ?_ rfl ?_ ?_ hs3
  · intro k r hk
    rw [List.getElem?_take] at hk
    split at hk
    · rename_i h7
      obtain ⟨o, h1, h2⟩ := okAt k r hk
      refine ⟨k, o, ?_, h1, h2⟩
      match k, h7 with
      | 0, _ | 1, _ | 2, _ | 3, _ | 4, _ | 5, _ | 6, _ => rfl
    · cases hk
  · intro s4 b4 B4 w4 hs4
    obtain ⟨κ4, hk4⟩ := w4 _ _ _ hs4
    obtain ⟨d4, n4, t4, e4⟩ := fresh_end hs4 w4 (by simp [itS, AV.pure, hbk, isa])
    obtain ⟨o7, ho7, hk7⟩ := okAt 7 _ rfl
    rw [wpOpsIn_cons]
    refine yield_sim (R := freshR M A N none) (l := l) (f := .t 35) (y := .t 36) rfl (by simp [evA, St.tmp, lk]) (by simp [wants, St.tmp, lk]) ho7 hk7 hk4 fun u hu => ?_
    have hpu : PV M B4 (.agg (isa seg[i])) u := by
      have h36 : evA (freshR M A N none).G ⟨(36, .agg (isa seg[i])) :: (35, .func (.yield l) [] []) :: (34, .bool false) :: itS seg bk n l i, []⟩ (.t 36) = .agg (isa seg[i]) := by simp [evA, St.tmp, lk]
      rw [h36] at hu
      exact (hu.toPV (by simp [AV.pure, isa])).mono (fun b _ hb => ⟨fun h => hb (.inl h), rfl⟩) (Nat.le_refl _)
    have hdst : o7.dst = some 37 := by
      simp only [okOper, Bool.and_eq_true, decide_eq_true_eq] at hk7
      exact hk7.1.1.1
    have h34 : b4.tmps.getD 34 Go.undef = .bool false := by
      have := t4 34 (.bool false) (by simp [lk])
      generalize b4.tmps.getD 34 Go.undef = v at this
      cases this; rfl
    have suffix : ∀ (b : Bool) (T : List (Nat × AV)) (M' : Nat → Prop) (A' : World), (T = itS seg bk n l i ∨ T = []) → (∀ x, M' x → x < A'.heap.size) → TT' M' A' T b4 → ∀ (Qx : Exit → Act → World → Prop),
        (∀ a5 A5, SR (freshR M' A' N none) ⟨(39, .bool (!b)) :: T, []⟩ a5 A5 → Qx .normal a5 A5) → wpOpsIn (FW none) n' Tryd.prog ops Qx [8, 9] (b4.put (some 37) (.bool b)) A' := by
      intro b T M' A' hTT hM' hT Qx hQx
      have n37 : 37 < N := by rw [hN]; decide
      have hsr : SR (freshR M' A' N none) ⟨(37, .bool b) :: (34, .bool false) :: T, []⟩ (b4.put (some 37) (.bool b)) A' := by
        refine fresh_start hM' d4 (by simpa [Act.put] using n4) fun k x hx => ?_
        show PV M' A' x ((b4.tmps.setIfInBounds 37 (.bool b)).getD k Go.undef)
        simp only [lk] at hx
        split at hx
        · rename_i e
          subst e
          cases hx
          have : (b4.tmps.setIfInBounds 37 (.bool b)).getD 37 Go.undef = .bool b := by simp [Array.getD, n4, n37]
          rw [this]; exact .bool b
        · rename_i e
          have h3 : (b4.tmps.setIfInBounds 37 (.bool b)).getD k Go.undef = b4.tmps.getD k Go.undef := by
            simp only [Array.getD_eq_getD_getElem?, Array.getElem?_setIfInBounds, if_neg e]
          rw [h3]
          split at hx
          · rename_i e2; subst e2; cases hx; rw [h34]; exact .bool false
          · exact hT k x hx
      refine reg_sim (R := freshR M' A' N none) [8, 9] ((issOps (issA (issRest (issBk (issA (issRest (issRest (issL rc_sheet_book_issues_1)))))))).drop 8) ⟨(37, .bool b) :: (34, .bool false) :: T, []⟩
        (fun e s => e = .normal ∧ Weak s ⟨(39, .bool (!b)) :: T, []⟩) Qx _ A' ?_ rfl ?_ ?_ hsr
      · intro k r hk
        rw [List.getElem?_drop] at hk
        obtain ⟨o, h1, h2⟩ := okAt (8 + k) r hk
        have h7 : k < 2 := by
          have := (List.getElem?_eq_some_iff.1 hk).1
          have e : (issOps (issA (issRest (issBk (issA (issRest (issRest (issL rc_sheet_book_issues_1)))))))).length = 10 := rfl
          omega
        refine ⟨8 + k, o, ?_, h1, h2⟩
        match k, h7 with
        | 0, _ | 1, _ => rfl
      · rintro e s5 a5 A5 ⟨rfl, w5⟩ hs5
        exact hQx a5 A5 (w5 _ _ _ hs5)
      · rcases hTT with rfl | rfl <;> cases b
        all_goals
          simp -implicitDefEqProofs [issL, issB3, issB2, issA, issRest, issBk, issOps, rc_sheet_book_issues_1, itS]
          exact (by (first | exact Weak.tm (by simp [lk]) | exact Weak.sub (by simp [lk, keptA, AV.keys]) (by simp [lk, keptO, keptA, AV.keys])))
    obtain ⟨fn, tm, asg, bo, y1, y2⟩ := hY i _ u M B4 (hJe _ _ _ _ hJ e4) helt hpu
    refine ⟨fn, tm, asg, bo, y1, y2.mono ?_⟩
    rintro e A' (⟨rfl, M', hJ', hSi⟩ | ⟨rfl, hK'⟩)
    · show wpOpsIn (FW none) n' Tryd.prog ops _ [8, 9] (b4.put o7.dst (.bool true)) A'
      rw [hdst]
      have hT' : TT' M' A' (itS seg bk n l i) b4 := fun k x hx => by
        refine (t4 k x ?_).mono hSi.2 hSi.1
        simp only [lk]
        rw [if_neg (by rintro rfl; simp [itS, lk] at hx), if_neg (by rintro rfl; simp [itS, lk] at hx), if_neg (by rintro rfl; simp [itS, lk] at hx)]
        exact hx
      refine suffix true _ M' A' (.inl rfl) (hJM _ _ _ hJ') hT' _ fun a5 A5 h5 => ?_
      have ark2 : AR Tryd.prog (freshR M' A' N none) (issRest (issRest (issBk (issA (issRest (issRest (issL rc_sheet_book_issues_1))))))) ⟨(39, .bool (!true)) :: itS seg bk n l i, []⟩ (fun e s => e = .normal ∧ Weak s ⟨itS seg bk n l i, []⟩) := by
        refine GO_AR mixed 1000 ?_
        simp -implicitDefEqProofs [issL, issB3, issB2, issA, issRest, issBk, rc_sheet_book_issues_1, itS]
        exact (by (first | exact Weak.tm (by simp [lk]) | exact Weak.sub (by simp [lk, keptA, AV.keys]) (by simp [lk, keptO, keptA, AV.keys])))
      refine wpIn_mono (ark2 k2 okk2 _ a5 A5 h5) ?_
      rintro e b6 B6 ⟨s6, ⟨rfl, w6⟩, hs6⟩
      have ar5 : AR Tryd.prog (freshR M' A' N none) (issRest (issRest (issRest (issL rc_sheet_book_issues_1)))) ⟨itS seg bk n l i, []⟩ (fun e s => e = .normal ∧ Weak s ⟨itS seg bk n l (i + 1), []⟩) := by
        have w1 : IntKind.i64.wrap ((i : Int) + 1) = ((i + 1 : Nat) : Int) := wrapI (by omega) (by omega)
        refine GO_AR mixed 1000 ?_
        simp -implicitDefEqProofs [issL, issB3, issB2, issA, issRest, issBk, rc_sheet_book_issues_1, itS, w1]
        exact (by (first | exact Weak.tm (by simp [lk]) | exact Weak.sub (by simp [lk, keptA, AV.keys]) (by simp [lk, keptO, keptA, AV.keys])))
      refine wpIn_mono (ar5 r5 okr5 _ b6 B6 (w6 _ _ _ hs6)) ?_
      rintro e b7 B7 ⟨s7, ⟨rfl, w7⟩, hs7⟩
      obtain ⟨d7, n7, t7, e7⟩ := fresh_end hs7 w7 (by simp [itS, AV.pure, hbk])
      exact ⟨seg.length - (i + 1), by omega, i + 1, M', by omega, rfl, hJe _ _ _ _ hJ' e7, d7, n7, t7⟩
    · show wpOpsIn (FW none) n' Tryd.prog ops _ [8, 9] (b4.put o7.dst (.bool false)) A'
      rw [hdst]
      refine suffix false [] (fun _ => False) A' (.inr rfl) (fun _ h => h.elim) (fun k x hx => by simp [lk] at hx) _ fun a5 A5 h5 => ?_
      have ark2 : AR Tryd.prog (freshR (fun _ => False) A' N none) (issRest (issRest (issBk (issA (issRest (issRest (issL rc_sheet_book_issues_1))))))) ⟨[(39, .bool (!false))], []⟩ (fun e s => e = .ret ∧ Weak s ⟨[], []⟩) := by
        refine GO_AR mixed 1000 ?_
        simp -implicitDefEqProofs [issL, issB3, issB2, issA, issRest, issBk, rc_sheet_book_issues_1]
        exact (by (first | exact Weak.tm (by simp [lk]) | exact Weak.sub (by simp [lk, keptA, AV.keys]) (by simp [lk, keptO, keptA, AV.keys])))
      refine wpIn_mono (ark2 k2 okk2 _ a5 A5 h5) ?_
      rintro e b6 B6 ⟨s6, ⟨rfl, w6⟩, hs6⟩
      obtain ⟨d6, -, -, e6⟩ := fresh_end hs6 w6 (by simp)
      exact (hfin b6 B6 d6 (.inr (hKe _ _ hK' e6))).1
  · simp -implicitDefEqProofs [issL, issB3, issB2, issA, issRest, issBk, issOps, rc_sheet_book_issues_1, itS, isa, hd2]
    exact (by (first | exact Weak.tm (by simp [lk]) | exact Weak.sub (by simp [lk, keptA, AV.keys]) (by simp [lk, keptO, keptA, AV.keys])))
end
end Go.Proofs.YtdpmioiamcgfkaaDoor

/-! Books: whether there is a drawing; issues; the last letter; an issue, by the abstract machine. -/
namespace Go.Proofs.YtdpmioiamcgfkaaDoor
open Go.RowKit

/-- A book, as a tree. -/
def bkA (r : List Iss) (ds : List Int) : AV := .vptr [.vsl (r.map isa), .vsl (ds.map ia)] 0
theorem bkA_pure (r : List Iss) (ds : List Int) : (bkA r ds).pure = true := by simp [bkA, AV.pure]
attribute [simp] bkA_pure

section
variable {G : Nat → Option (List AV)}

theorem has_pc (r : List Iss) (ds : List Int) (n : Int) (hs : ds.Pairwise (· ≤ ·)) (hl : Sml ds) : PC Tryd.prog G 104 [bkA r ds, .int .i64 n] (.bool (decide (n ∈ ds))) := by
  (refine pc_sheet_book_has (Nat.le_of_ble_eq_true rfl) fun R hG hrd => GO_AR mixed 1000 ?_; subst hG)
  simp -implicitDefEqProofs [rc_sheet_book_has, rr_sheet_book_has, bkA]
  (first | refine CallK.of (bsearch_pc ds n hs hl) (by simp) ?_ | refine CallD.of (bsearch_pc ds n hs hl) (by simp) ?_)
  simp -implicitDefEqProofs []

theorem openC_pc (r : List Iss) (ds : List Int) (y : Int × Int) (hs : ds.Pairwise (· ≤ ·)) (hl : Sml ds) : PC Tryd.prog G 103 [.agg [.int .i64 y.1, .int .i64 y.2], .vptr [bkA r ds] 0] (.bool (!decide (y.1 ∈ ds))) := by
  (refine pc_sheet_open_1 (Nat.le_of_ble_eq_true rfl) fun R hG hrd => GO_AR mixed 1000 ?_; subst hG)
  simp -implicitDefEqProofs [rc_sheet_open_1, rr_sheet_open_1]
  (first | refine CallK.of (has_pc r ds y.1 hs hl) (by simp) ?_ | refine CallD.of (has_pc r ds y.1 hs hl) (by simp) ?_)
  simp -implicitDefEqProofs []

theorem issues_pc (r : List Iss) (ds : List Int) (n : Int) : PC Tryd.prog G 105 [bkA r ds, .int .i64 n] (.func (.func 122) [] [.vptr [bkA r ds] 0, .vptr [.int .i64 n] 0]) := by
  (refine pc_sheet_book_issues (Nat.le_of_ble_eq_true rfl) fun R hG hrd => GO_AR mixed 1000 ?_; subst hG)
  simp -implicitDefEqProofs [rc_sheet_book_issues, rr_sheet_book_issues, bkA]

/-- How many issues a drawing has. -/
def cntV (r : List Iss) (n : Int) : Int := ((r.filter (fun x => decide (x.d = n))).length : Nat)

theorem last_pc (r : List Iss) (ds : List Int) (n : Int) (hs : (r.map (·.d)).Pairwise (· ≤ ·)) (hl : Sml r) : PC Tryd.prog G 69 [bkA r ds, .int .i64 n] (.int .i64 (cntV r n)) := by
  (refine pc_sheet_book_last (Nat.le_of_ble_eq_true rfl) fun R hG hrd => GO_AR mixed 1000 ?_; subst hG)
  simp -implicitDefEqProofs [rc_sheet_book_last, rr_sheet_book_last]
  (first | refine CallK.of (issues_pc r ds n) (by simp) ?_ | refine CallD.of (issues_pc r ds n) (by simp) ?_)
  simp -implicitDefEqProofs []
  have hel : (elsOf r n).length = (r.filter (fun x => decide (x.d = n))).length := by simp [elsOf]
  have hle : (r.filter (fun x => decide (x.d = n))).length ≤ 16777216 := Nat.le_trans (List.length_filter_le _ _) hl
  refine AR_rngf hrd (issuesIt r n (.vsl (ds.map ia)) hs hl) (by simp [evA, St.tmp, lk, bkA]) (by simp [AV.pure]) (fun k => if k = 1000 then 5 else k) [(5, .ptr 1000 0)] (fun k => [(1000, .box [.int .i64 k])]) [1000] (fun _ => True) trivial (fun _ => rfl) (by simp) (by simp) (by simp [setsB, St.set, putO, AObj.ren, AV.ren]) (by simp [keptO, keptA, AV.keys]) (by simp [lk, AV.ren, AV.keys]) ?_ ?_
  · intro k x hx _ R' hG hN
    refine GO_AR mixed 1000 ?_
    simp -implicitDefEqProofs []
    intro R'' hG'' hN''
    refine GO_AR mixed 1000 ?_
    have hk : k < (elsOf r n).length := (List.getElem?_eq_some_iff.1 hx).1
    have w1 : IntKind.i64.wrap ((k : Int) + 1) = ((k + 1 : Nat) : Int) := wrapI (by omega) (by omega)
    simp -implicitDefEqProofs [w1, RndB, frzSt, newK, frzO, frzA, frz, AV.keys]
  · intro _
    simp -implicitDefEqProofs [setsB, AObj.ren, AV.ren]
    refine GO_ret mixed 1000 ?_
    simp -implicitDefEqProofs [hel, cntV]

theorem find_pcS (r : List Iss) (ds : List Int) (d l : Int) (hs : (r.map (·.d)).Pairwise (· ≤ ·)) (hl : Sml r) (hu : ∀ y ∈ r, findN y.d y.l r = some y) : PC Tryd.prog G 72 [bkA r ds, .agg [.int .i64 d, .int .i64 l]] (fndA (findN d l r)) := by
  (refine pc_sheet_book_find (Nat.le_of_ble_eq_true rfl) fun R hG hrd => GO_AR mixed 1000 ?_; subst hG)
  simp -implicitDefEqProofs [rc_sheet_book_find, rr_sheet_book_find]
  (first | refine CallK.of (issues_pc r ds d) (by simp) ?_ | refine CallD.of (issues_pc r ds d) (by simp) ?_)
  simp -implicitDefEqProofs []
  refine AR_rngf hrd (issuesIt r d (.vsl (ds.map ia)) hs hl) (by simp [evA, St.tmp, lk, bkA]) (by simp [AV.pure]) (fun k => k - 1000) [(3, .ptr 1003 0), (4, .ptr 1004 0), (5, .ptr 1005 0)] (fun _ => [(1003, .box [.int .i64 d, .int .i64 l]), (1004, .box [.int .i64 0, .int .i64 0, .int .u8 0, .nils, .nils]), (1005, .box [.bool false])])
    [1003, 1004, 1005] (fun k => ∀ j, j < k → ∀ y, (r.filter (fun x => decide (x.d = d)))[j]? = some y → y.l ≠ l) (by simp) (fun _ => rfl) (by simp) (by simp) (by simp [setsB, St.set, putO, AObj.ren, AV.ren]) (by simp [keptO, keptA, AV.keys]) (by simp [lk, AV.ren, AV.keys]) ?_ ?_
  · intro k x hx hI R' hG hN
    obtain ⟨y, hy, rfl⟩ : ∃ y, (r.filter (fun x => decide (x.d = d)))[k]? = some y ∧ x = .agg (isa y) := by
      simp only [elsOf, List.getElem?_map, Option.map_eq_some_iff] at hx
      obtain ⟨y, h1, h2⟩ := hx
      exact ⟨y, h1, h2.symm⟩
    have hym := List.mem_filter.1 (List.mem_of_getElem? hy)
    have hyd : y.d = d := of_decide_eq_true hym.2
    refine GO_AR mixed 1000 ?_
    simp -implicitDefEqProofs [isa]
    intro R'' hG'' hN''
    refine GO_AR mixed 1000 ?_
    simp -implicitDefEqProofs []
    (first | refine CallK.of (name_pc y) (by simp) ?_ | refine CallD.of (name_pc y) (by simp) ?_)
    simp -implicitDefEqProofs []
    refine ⟨rfl, ?_⟩
    by_cases e : y.l = l
    · simp -implicitDefEqProofs [hyd, e, RndB, frzSt, newK, frzO, frzA, frz, AV.keys, setsB, AObj.ren, AV.ren]
      refine GO_ret mixed 1000 ?_
      have hf : findN d l r = some y := by
        have := hu y hym.1
        rw [hyd, e] at this; exact this
      simp -implicitDefEqProofs [hf, fndA, isa, hyd, e]
    · simp -implicitDefEqProofs [hyd, e, RndB, frzSt, newK, frzO, frzA, frz, AV.keys]
      intro j hj z hz
      by_cases e2 : j = k
      · subst e2; rw [hy] at hz; cases hz; exact e
      · exact hI j (by omega) z hz
  · intro hI
    have hn : findN d l r = none := by
      cases hf : findN d l r with
      | none => rfl
      | some y =>
        obtain ⟨h1, h2, h3⟩ := findN_mem hf
        obtain ⟨j, hj, he⟩ := List.getElem_of_mem (show y ∈ r.filter (fun x => decide (x.d = d)) from List.mem_filter.2 ⟨h1, decide_eq_true h2⟩)
        exact absurd h3 (hI j (by simp [elsOf]; exact hj) y (by rw [List.getElem?_eq_getElem hj, he]))
    simp -implicitDefEqProofs [setsB, AObj.ren, AV.ren]
    refine GO_ret mixed 1000 ?_
    simp -implicitDefEqProofs [hn, fndA, noIs]
end
end Go.Proofs.YtdpmioiamcgfkaaDoor

/-! How the program takes the depths: drawings are reached when all of their items are. -/
namespace Go.Proofs.YtdpmioiamcgfkaaDoor
open Go.RowKit

/-! Maps with numbers as keys. -/
def dpA (dp : List (Int × Int)) : List (AV × AV) := dp.map fun p => (.int .i64 p.1, .int .i64 p.2)
def lfA (lf : List Int) : List (AV × AV) := lf.map fun n => (.int .i64 n, .bool true)
def dpLk (n : Int) : List (Int × Int) → Option Int
  | [] => none
  | p :: r => if n = p.1 then some p.2 else dpLk n r
def dpG (dp : List (Int × Int)) (n : Int) : Int := (dpLk n dp).getD 0

theorem find_dp (n : Int) : ∀ dp : List (Int × Int), ∃ o : Option Nat, (KK.i .i64).find (.int .i64 n) (dpA dp) = some o ∧ match o with
    | some j => ∃ v, dp[j]? = some (n, v) ∧ dpLk n dp = some v
    | none => dpLk n dp = none ∧ ∀ p ∈ dp, p.1 ≠ n
  | [] => ⟨none, rfl, rfl, by simp⟩
  | p :: r => by
    obtain ⟨o, h1, h2⟩ := find_dp n r
    by_cases e : n = p.1
    · refine ⟨some 0, by simp [dpA, KK.find, KK.eq, e], p.2, by simp [e], by simp [dpLk, e]⟩
    · refine ⟨o.map (· + 1), ?_, ?_⟩
      · simp only [dpA, List.map_cons, KK.find, KK.eq, and_self, if_true, e, decide_false]
        rw [show r.map (fun p => (AV.int .i64 p.1, AV.int .i64 p.2)) = dpA r from rfl, h1]; rfl
      · cases o with
        | none => exact ⟨by simp only [dpLk, e, if_false]; exact h2.1, fun q hq => by
            rcases List.mem_cons.1 hq with rfl | hq
            · exact fun h => e h.symm
            · exact h2.2 q hq⟩
        | some j =>
          obtain ⟨v, h3, h4⟩ := h2
          exact ⟨v, by simpa using h3, by simp only [dpLk, e, if_false]; exact h4⟩
theorem get_dp (n : Int) (dp : List (Int × Int)) : (KK.i .i64).get (.int .i64 n) (dpA dp) = some ((dpLk n dp).map fun v => .int .i64 v) := by
  obtain ⟨o, h1, h2⟩ := find_dp n dp
  have hi : (KK.i .i64).is (.int .i64 n) = true := by simp [KK.is]
  unfold KK.get
  rw [if_pos hi, h1]
  cases o with
  | none => simp [h2.1]
  | some j => obtain ⟨v, h3, h4⟩ := h2; simp [dpA, h3, h4]
theorem put_dp {n : Int} (v : Int) {dp : List (Int × Int)} (h : n ∉ dp.map (·.1)) : (KK.i .i64).put (.int .i64 n) (.int .i64 v) (dpA dp) = some (dpA (dp ++ [(n, v)])) := by
  obtain ⟨o, h1, h2⟩ := find_dp n dp
  have hi : (KK.i .i64).is (.int .i64 n) = true := by simp [KK.is]
  unfold KK.put
  rw [if_pos hi, h1]
  cases o with
  | none => simp [dpA]
  | some j =>
    obtain ⟨w, h3, h4⟩ := h2
    exact absurd (List.mem_map.2 ⟨_, List.mem_of_getElem? h3, rfl⟩) h

theorem find_lf (n : Int) : ∀ lf : List Int, ∃ o : Option Nat, (KK.i .i64).find (.int .i64 n) (lfA lf) = some o ∧ match o with
    | some j => lf[j]? = some n ∧ n ∈ lf ∧ lf.eraseIdx j = lf.erase n
    | none => n ∉ lf
  | [] => ⟨none, rfl, by simp⟩
  | x :: r => by
    obtain ⟨o, h1, h2⟩ := find_lf n r
    by_cases e : n = x
    · subst e
      exact ⟨some 0, by simp [lfA, KK.find, KK.eq], by simp⟩
    · refine ⟨o.map (· + 1), ?_, ?_⟩
      · simp only [lfA, List.map_cons, KK.find, KK.eq, and_self, if_true, e, decide_false]
        rw [show r.map (fun n => (AV.int .i64 n, AV.bool true)) = lfA r from rfl, h1]; rfl
      · cases o with
        | none => simp only [Option.map_none, List.mem_cons, not_or]; exact ⟨e, h2⟩
        | some j =>
          obtain ⟨h3, h4, h5⟩ := h2
          refine ⟨by simpa using h3, List.mem_cons_of_mem _ h4, ?_⟩
          simp only [List.eraseIdx_cons_succ, h5]
          rw [List.erase_cons_tail]
          simpa using fun q => e q.symm
theorem get_lf (n : Int) (lf : List Int) : (KK.i .i64).get (.int .i64 n) (lfA lf) = some (if n ∈ lf then some (.bool true) else none) := by
  obtain ⟨o, h1, h2⟩ := find_lf n lf
  have hi : (KK.i .i64).is (.int .i64 n) = true := by simp [KK.is]
  unfold KK.get
  rw [if_pos hi, h1]
  cases o with
  | none => have h2 : n ∉ lf := h2
            simp [h2]
  | some j => obtain ⟨h3, h4, h5⟩ := h2; simp [lfA, h3, h4]
theorem put_lf {n : Int} {lf : List Int} (h : n ∉ lf) : (KK.i .i64).put (.int .i64 n) (.bool true) (lfA lf) = some (lfA (lf ++ [n])) := by
  obtain ⟨o, h1, h2⟩ := find_lf n lf
  have hi : (KK.i .i64).is (.int .i64 n) = true := by simp [KK.is]
  unfold KK.put
  rw [if_pos hi, h1]
  cases o with
  | none => simp [lfA]
  | some j => exact absurd h2.2.1 h
theorem map_eraseIdx {α β : Type} (f : α → β) : ∀ (l : List α) (j : Nat), (l.map f).eraseIdx j = (l.eraseIdx j).map f
  | [], _ => by simp
  | x :: l, 0 => by simp
  | x :: l, j + 1 => by simp [map_eraseIdx f l j]
theorem del_lf {n : Int} {lf : List Int} (h : n ∈ lf) : (KK.i .i64).del (.int .i64 n) (lfA lf) = some (lfA (lf.erase n)) := by
  obtain ⟨o, h1, h2⟩ := find_lf n lf
  have hi : (KK.i .i64).is (.int .i64 n) = true := by simp [KK.is]
  unfold KK.del
  rw [if_pos hi, h1]
  cases o with
  | none => exact absurd h h2
  | some j =>
    obtain ⟨h3, h4, h5⟩ := h2
    simp only [lfA, ← h5]
    rw [map_eraseIdx]

/-! The passes. -/
def rdIt (lf : List Int) (b : Bool) (its : List (Int × Int)) : Bool := its.foldl (fun b y => b && !decide (y.1 ∈ lf)) b
def msIt (dp : List (Int × Int)) (m : Int) (its : List (Int × Int)) : Int := its.foldl (fun m y => max m (dpG dp y.1)) m
def rdN (lf : List Int) (b : Bool) (l : List Iss) : Bool := l.foldl (fun b x => rdIt lf b x.its) b
def msN (dp : List (Int × Int)) (m : Int) (l : List Iss) : Int := l.foldl (fun m x => msIt dp m x.its) m
/-- All issues of a drawing. -/
def issOf (r : List Iss) (n : Int) : List Iss := r.filter (fun x => decide (x.d = n))
def dStep (r : List Iss) (s : List (Int × Int) × List Int) (n : Int) : List (Int × Int) × List Int :=
  if rdN s.2 (decide (n ∈ s.2)) (issOf r n) = true then (s.1 ++ [(n, msN s.1 0 (issOf r n) + 1)], s.2.erase n) else s
def dPass (r : List Iss) (s : List (Int × Int) × List Int) : List (Int × Int) × List Int := (nums r).foldl (dStep r) s
def dRun (r : List Iss) : Nat → List (Int × Int) × List Int
  | 0 => ([], nums r)
  | k + 1 => dPass r (dRun r k)

theorem rdIt_take (lf : List Int) (b : Bool) (its : List (Int × Int)) (k : Nat) (h : k < its.length) : rdIt lf b (its.take (k + 1)) = (rdIt lf b (its.take k) && !decide (its[k].1 ∈ lf)) := by
  rw [List.take_succ_eq_append_getElem h, rdIt, List.foldl_append]; rfl
theorem msIt_take (dp : List (Int × Int)) (m : Int) (its : List (Int × Int)) (k : Nat) (h : k < its.length) : msIt dp m (its.take (k + 1)) = max (msIt dp m (its.take k)) (dpG dp its[k].1) := by
  rw [List.take_succ_eq_append_getElem h, msIt, List.foldl_append]; rfl
theorem rdN_take (lf : List Int) (b : Bool) (l : List Iss) (k : Nat) (h : k < l.length) : rdN lf b (l.take (k + 1)) = rdIt lf (rdN lf b (l.take k)) l[k].its := by
  rw [List.take_succ_eq_append_getElem h, rdN, List.foldl_append]; rfl
theorem msN_take (dp : List (Int × Int)) (m : Int) (l : List Iss) (k : Nat) (h : k < l.length) : msN dp m (l.take (k + 1)) = msIt dp (msN dp m (l.take k)) l[k].its := by
  rw [List.take_succ_eq_append_getElem h, msN, List.foldl_append]; rfl
theorem rdIt_false (lf : List Int) : ∀ its : List (Int × Int), rdIt lf false its = false
  | [] => rfl
  | y :: its => by simp only [rdIt, List.foldl_cons, Bool.false_and]; exact rdIt_false lf its
theorem rdN_false (lf : List Int) : ∀ l : List Iss, rdN lf false l = false
  | [] => rfl
  | x :: l => by simp only [rdN, List.foldl_cons, rdIt_false]; exact rdN_false lf l
theorem rdN_mem {lf : List Int} {n : Int} {l : List Iss} (h : rdN lf (decide (n ∈ lf)) l = true) : n ∈ lf := by
  by_cases e : n ∈ lf
  · exact e
  · rw [decide_eq_false e, rdN_false] at h; cases h

/-- What is kept: each drawing is reached or left; no depth is more than the number of drawings that are reached. -/
structure DInv (r : List Iss) (s : List (Int × Int) × List Int) : Prop where
  perm : (s.1.map (·.1) ++ s.2).Perm (nums r)
  bd : ∀ p ∈ s.1, 1 ≤ p.2 ∧ p.2 ≤ (s.1.length : Nat)

theorem dpLk_mem {n v : Int} : ∀ {dp : List (Int × Int)}, dpLk n dp = some v → (n, v) ∈ dp
  | p :: r, h => by
    simp only [dpLk] at h
    split at h
    · rename_i e; cases h; rw [e]; exact List.mem_cons_self ..
    · exact List.mem_cons_of_mem _ (dpLk_mem h)
theorem dpG_bd {r : List Iss} {s : List (Int × Int) × List Int} (h : DInv r s) (n : Int) : 0 ≤ dpG s.1 n ∧ dpG s.1 n ≤ (s.1.length : Nat) := by
  unfold dpG
  cases e : dpLk n s.1 with
  | none => simp
  | some v => have := h.bd _ (dpLk_mem e); simp only [Option.getD_some]; omega
theorem msIt_bd {r : List Iss} {s : List (Int × Int) × List Int} (h : DInv r s) : ∀ (its : List (Int × Int)) (m : Int), 0 ≤ m → m ≤ (s.1.length : Nat) → 0 ≤ msIt s.1 m its ∧ msIt s.1 m its ≤ (s.1.length : Nat)
  | [], m, h1, h2 => ⟨h1, h2⟩
  | y :: its, m, h1, h2 => by
    have := dpG_bd h y.1
    exact msIt_bd h its (max m (dpG s.1 y.1)) (by omega) (by omega)
theorem msN_bd {r : List Iss} {s : List (Int × Int) × List Int} (h : DInv r s) : ∀ (l : List Iss) (m : Int), 0 ≤ m → m ≤ (s.1.length : Nat) → 0 ≤ msN s.1 m l ∧ msN s.1 m l ≤ (s.1.length : Nat)
  | [], m, h1, h2 => ⟨h1, h2⟩
  | x :: l, m, h1, h2 => by
    have := msIt_bd h x.its m h1 h2
    exact msN_bd h l (msIt s.1 m x.its) this.1 this.2
theorem DInv.len {r : List Iss} {s : List (Int × Int) × List Int} (h : DInv r s) : s.1.length + s.2.length = (nums r).length := by
  have := h.perm.length_eq
  simpa using this
theorem DInv.step {r : List Iss} {s : List (Int × Int) × List Int} (h : DInv r s) (n : Int) : DInv r (dStep r s n) := by
  unfold dStep
  split
  · rename_i hb
    have hm := rdN_mem hb
    have hbd := msN_bd h (issOf r n) 0 (Int.le_refl _) (by omega)
    refine ⟨?_, fun p hp => ?_⟩
    · refine List.Perm.trans ?_ h.perm
      simp only [List.map_append, List.map_cons, List.map_nil, List.append_assoc, List.cons_append, List.nil_append]
      exact (List.perm_cons_erase hm).symm.append_left _
    · simp only [List.length_append, List.length_cons, List.length_nil]
      rcases List.mem_append.1 hp with hp | hp
      · have := h.bd p hp; omega
      · simp only [List.mem_singleton] at hp; subst hp; simp only; omega
  · exact h
theorem DInv.fold {r : List Iss} : ∀ (l : List Int) {s : List (Int × Int) × List Int}, DInv r s → DInv r (l.foldl (dStep r) s)
  | [], s, h => h
  | n :: l, s, h => DInv.fold l (h.step n)
theorem DInv.run (r : List Iss) : ∀ k, DInv r (dRun r k)
  | 0 => ⟨by simp [dRun], by simp [dRun]⟩
  | k + 1 => (DInv.run r k).fold (nums r)
theorem fold_take {α β : Type} (f : β → α → β) (s : β) (l : List α) (k : Nat) (h : k < l.length) : (l.take (k + 1)).foldl f s = f ((l.take k).foldl f s) l[k] := by
  rw [List.take_succ_eq_append_getElem h, List.foldl_append]; rfl

end Go.Proofs.YtdpmioiamcgfkaaDoor

/-! How the program takes the depths: the walk. -/
namespace Go.Proofs.YtdpmioiamcgfkaaDoor
open Go.RowKit

section
variable {G : Nat → Option (List AV)}

set_option maxRecDepth 8000 in
theorem depths_pc (r : List Iss) (hw : Wf r) (hO : Ord r) (hn : (nums r).length ≤ 20) : PC Tryd.prog G 75 [bkA r (nums r)] (.tup [.vmap (dpA (dRun r (nums r).length).1), .bool (decide (0 < (dRun r (nums r).length).2.length))]) := by
  (refine pc_sheet_book_depths (Nat.le_of_ble_eq_true rfl) fun R hG hrd => GO_AR mixed 1000 ?_; subst hG)
  have hs : (r.map (·.d)).Pairwise (· ≤ ·) := by
    rw [List.pairwise_map, List.pairwise_iff_getElem]
    intro i j hi hj hij
    have := hO.mono (Nat.le_of_lt hij) hj
    rwa [at_eq hi, at_eq hj] at this
  have hl := hw.1.1
  have hnd := nums_nodup hO
  simp -implicitDefEqProofs [rc_sheet_book_depths, rr_sheet_book_depths, bkA]
  refine AR_for (fun i => ⟨[(22, .int .i64 i), (21, .int .i64 (nums r).length), (20, .vsl ((nums r).map ia)), (5, .ptr 5 0), (4, .ptr 4 0), (0, bkA r (nums r))], [(15, .mp []), (4, .box [.mp 15]), (16, .mp (lfA ((nums r).take i))), (5, .box [.mp 16])]⟩) (fun _ => True) (nums r).length (by (first | exact Weak.tm (by simp [lk, lfA, bkA]) | exact Weak.sub (by simp [lk, keptA, AV.keys, lfA, bkA]) (by simp [lk, keptO, keptA, AV.keys, lfA, bkA]))) trivial ?_ ?_
  · intro i hi _
    refine GO_AR mixed 1000 ?_
    have w1 : IntKind.i64.wrap ((i : Int) + 1) = ((i + 1 : Nat) : Int) := wrapI (by omega) (by omega)
    have hni : (nums r)[i] ∉ (nums r).take i := by
      intro hm
      obtain ⟨j, hj, e⟩ := List.getElem_of_mem hm
      simp only [List.length_take] at hj
      simp only [List.getElem_take] at e
      have := (List.getElem_inj hnd).1 e
      omega
    have hp := put_lf hni
    rw [← List.take_succ_eq_append_getElem hi] at hp
    simp -implicitDefEqProofs [hi, w1, ia, hp]
    exact (by (first | exact Weak.tm (by simp [lk, bkA]) | exact Weak.sub (by simp [lk, keptA, AV.keys, bkA]) (by simp [lk, keptO, keptA, AV.keys, bkA])))
  · intro _
    refine GO_AR mixed 1000 ?_
    simp -implicitDefEqProofs []
    refine GO_ret mixed 1000 ?_
    simp -implicitDefEqProofs [bkA]
    refine AR_for (fun k => ⟨[(34, .int .i64 k), (33, .int .i64 (nums r).length), (5, .ptr 5 0), (4, .ptr 4 0), (0, bkA r (nums r))], [(15, .mp (dpA (dRun r k).1)), (4, .box [.mp 15]), (16, .mp (lfA (dRun r k).2)), (5, .box [.mp 16])]⟩) (fun _ => True) (nums r).length (by (first | exact Weak.tm (by simp [lk, dRun, dpA, bkA]) | exact Weak.sub (by simp [lk, keptA, AV.keys, dRun, dpA, bkA]) (by simp [lk, keptO, keptA, AV.keys, dRun, dpA, bkA]))) trivial ?_ ?_
    · intro k hk _
      refine GO_AR mixed 1000 ?_
      have w1 : IntKind.i64.wrap ((k : Int) + 1) = ((k + 1 : Nat) : Int) := wrapI (by omega) (by omega)
      simp -implicitDefEqProofs [hk, bkA]
      refine AR_for (fun i => ⟨[(41, .int .i64 i), (40, .int .i64 (nums r).length), (39, .vsl ((nums r).map ia)), (34, .int .i64 k), (33, .int .i64 (nums r).length), (5, .ptr 5 0), (4, .ptr 4 0), (0, bkA r (nums r))],
        [(15, .mp (dpA (((nums r).take i).foldl (dStep r) (dRun r k)).1)), (4, .box [.mp 15]), (16, .mp (lfA (((nums r).take i).foldl (dStep r) (dRun r k)).2)), (5, .box [.mp 16])]⟩) (fun _ => True) (nums r).length (by (first | exact Weak.tm (by simp [lk, bkA]) | exact Weak.sub (by simp [lk, keptA, AV.keys, bkA]) (by simp [lk, keptO, keptA, AV.keys, bkA]))) trivial ?_ ?_
      · intro i hi _
        refine GO_AR mixed 1000 ?_
        have w2 : IntKind.i64.wrap ((i : Int) + 1) = ((i + 1 : Nat) : Int) := wrapI (by omega) (by omega)
        obtain ⟨s, hsd⟩ : ∃ s, s = ((nums r).take i).foldl (dStep r) (dRun r k) := ⟨_, rfl⟩
        have hI : DInv r s := by rw [hsd]; exact (DInv.run r k).fold _
        have hst := fold_take (dStep r) (dRun r k) (nums r) i hi
        rw [← hsd] at hst ⊢
        obtain ⟨n, hne⟩ : ∃ n, n = (nums r)[i] := ⟨_, rfl⟩
        rw [← hne] at hst
        have hgl := get_lf n s.2
        cases hm : decide (n ∈ s.2)
        · have hm' : ¬ n ∈ s.2 := of_decide_eq_false hm
          rw [if_neg hm'] at hgl
          simp -implicitDefEqProofs [hi, ia, ← hne, hgl]
          refine ⟨rfl, ?_⟩
          (first | refine CallK.of (issues_pc r (nums r) n) (by simp) ?_ | refine CallD.of (issues_pc r (nums r) n) (by simp) ?_)
          simp -implicitDefEqProofs []
          refine AR_rngf hrd (issuesIt r n (.vsl ((nums r).map ia)) hs hl) (by simp [evA, St.tmp, lk, bkA]) (by simp [AV.pure]) (fun k => k - 1000) [(4, .ptr 1004 0), (5, .ptr 1005 0), (10, .ptr 1010 0), (11, .ptr 1011 0)]
            (fun q => [(1015, .mp (dpA s.1)), (1004, .box [.mp 1015]), (1016, .mp (lfA s.2)), (1005, .box [.mp 1016]), (1010, .box [.int .i64 (msN s.1 0 ((issOf r n).take q))]), (1011, .box [.bool (rdN s.2 false ((issOf r n).take q))])])
            [1015, 1004, 1016, 1005, 1010, 1011] (fun _ => True) trivial (fun _ => rfl) (by simp) (by simp) (by simp [setsB, St.set, putO, AObj.ren, AV.ren, dpA, lfA, msN, rdN, Function.comp_def]) (by simp [keptO, keptA, AV.keys, dpA, lfA, lk]) (by simp [lk, AV.ren, AV.keys]) ?_ ?_
          · intro q x hx _ R' hG hN
            obtain ⟨y, hq, hy, rfl⟩ : ∃ y, ∃ hq : q < (issOf r n).length, (issOf r n)[q] = y ∧ x = .agg (isa y) := by
              simp only [elsOf, List.getElem?_map, Option.map_eq_some_iff] at hx
              obtain ⟨y, h1, h2⟩ := hx
              obtain ⟨h3, h4⟩ := List.getElem?_eq_some_iff.1 h1
              exact ⟨y, h3, h4, h2.symm⟩
            have hyr : y ∈ r := by rw [← hy]; exact (List.mem_filter.1 (List.getElem_mem hq)).1
            have hyl := (hw.1.2 y hyr).1
            unfold Sml at hyl
            have tm := msN_take s.1 0 (issOf r n) q hq
            have tr := rdN_take s.2 false (issOf r n) q hq
            rw [hy] at tm tr
            generalize msN s.1 0 ((issOf r n).take q) = m0 at tm ⊢
            generalize rdN s.2 false ((issOf r n).take q) = b0 at tr ⊢
            refine GO_AR mixed 1000 ?_
            simp -implicitDefEqProofs [isa]
            intro R'' hG'' hN''
            refine GO_AR mixed 1000 ?_
            simp -implicitDefEqProofs []
            refine AR_for (fun m => ⟨[(55, .int .i64 m), (54, .int .i64 y.its.length), (53, .vsl (y.its.map ita)), (12, .ptr 12 0), (4, .ptr 1004 0), (5, .ptr 1005 0), (10, .ptr 1010 0), (11, .ptr 1011 0)],
              [(1015, .mp (dpA s.1)), (1004, .box [.mp 1015]), (1016, .mp (lfA s.2)), (1005, .box [.mp 1016]), (1010, .box [.int .i64 (msIt s.1 m0 (y.its.take m))]), (1011, .box [.bool (rdIt s.2 b0 (y.its.take m))]), (12, .box (isa y))]⟩) (fun _ => True) y.its.length (by (first | exact Weak.tm (by simp [lk, isa, dpA, lfA, msIt, rdIt]) | exact Weak.sub (by simp [lk, keptA, AV.keys, isa, dpA, lfA, msIt, rdIt]) (by simp [lk, keptO, keptA, AV.keys, isa, dpA, lfA, msIt, rdIt]))) trivial ?_ ?_
            · intro m hm _
              refine GO_AR mixed 1000 ?_
              have w3 : IntKind.i64.wrap ((m : Int) + 1) = ((m + 1 : Nat) : Int) := wrapI (by omega) (by omega)
              have um := msIt_take s.1 m0 y.its m hm
              have ur := rdIt_take s.2 b0 y.its m hm
              generalize msIt s.1 m0 (y.its.take m) = m1 at um ⊢
              generalize rdIt s.2 b0 (y.its.take m) = b1 at ur ⊢
              have gd := get_dp y.its[m].1 s.1
              have gl := get_lf y.its[m].1 s.2
              have wkE : ∀ c1 c2 : Prop, c1 → c2 → c1 ∧ c2 := fun _ _ a b => ⟨a, b⟩
              cases b1
              · simp only [Bool.false_and] at ur
                cases hk1 : dpLk y.its[m].1 s.1 with
                | none =>
                  rw [hk1] at gd
                  simp only [dpG, hk1, Option.getD_none] at um
                  simp -implicitDefEqProofs [hm, ita, w3, gd]
                  exact Weak.sub (by simp [lk, keptA, AV.keys]) (by simp [lk, keptO, keptA, AV.keys, dpA, lfA, um, ur, isa])
                | some v =>
                  rw [hk1] at gd
                  simp only [dpG, hk1, Option.getD_some] at um
                  simp -implicitDefEqProofs [hm, ita, w3, gd]
                  exact Weak.sub (by simp [lk, keptA, AV.keys]) (by simp [lk, keptO, keptA, AV.keys, dpA, lfA, um, ur, isa])
              · by_cases hin : y.its[m].1 ∈ s.2
                · rw [if_pos hin] at gl
                  simp only [hin, decide_true, Bool.not_true, Bool.and_false] at ur
                  cases hk1 : dpLk y.its[m].1 s.1 with
                  | none =>
                    rw [hk1] at gd
                    simp only [dpG, hk1, Option.getD_none] at um
                    simp -implicitDefEqProofs [hm, ita, w3, gd, gl]
                    exact Weak.sub (by simp [lk, keptA, AV.keys]) (by simp [lk, keptO, keptA, AV.keys, dpA, lfA, um, ur, isa])
                  | some v =>
                    rw [hk1] at gd
                    simp only [dpG, hk1, Option.getD_some] at um
                    simp -implicitDefEqProofs [hm, ita, w3, gd, gl]
                    exact Weak.sub (by simp [lk, keptA, AV.keys]) (by simp [lk, keptO, keptA, AV.keys, dpA, lfA, um, ur, isa])
                · rw [if_neg hin] at gl
                  simp only [hin, decide_false, Bool.not_false, Bool.and_true] at ur
                  cases hk1 : dpLk y.its[m].1 s.1 with
                  | none =>
                    rw [hk1] at gd
                    simp only [dpG, hk1, Option.getD_none] at um
                    simp -implicitDefEqProofs [hm, ita, w3, gd, gl]
                    exact Weak.sub (by simp [lk, keptA, AV.keys]) (by simp [lk, keptO, keptA, AV.keys, dpA, lfA, um, ur, isa])
                  | some v =>
                    rw [hk1] at gd
                    simp only [dpG, hk1, Option.getD_some] at um
                    simp -implicitDefEqProofs [hm, ita, w3, gd, gl]
                    exact Weak.sub (by simp [lk, keptA, AV.keys]) (by simp [lk, keptO, keptA, AV.keys, dpA, lfA, um, ur, isa])
            · intro _
              refine GO_AR mixed 1000 ?_
              simp -implicitDefEqProofs []
              refine GO_ret mixed 1000 ?_
              simp -implicitDefEqProofs [RndB, frzSt, newK, frzO, frzA, frz, AV.keys, tm, tr, dpA, lfA, Function.comp_def]
              try trivial
          · intro _
            have hel : (elsOf r n).length = (issOf r n).length := by simp [elsOf, issOf]
            have etk : (issOf r n).take (issOf r n).length = issOf r n := List.take_of_length_le (Nat.le_refl _)
            have hbd := msN_bd hI (issOf r n) 0 (Int.le_refl _) (by omega)
            have hlen := hI.len
            have w4 : IntKind.i64.wrap (msN s.1 0 (issOf r n) + 1) = msN s.1 0 (issOf r n) + 1 := wrapI (by omega) (by omega)
            have rdpA : ∀ dp, AObj.ren (fun k => k - 1000) (.mp (dpA dp)) = .mp (dpA dp) := fun dp => by simp [AObj.ren, dpA, AV.ren, Function.comp_def]
            have rlfA : ∀ lf, AObj.ren (fun k => k - 1000) (.mp (lfA lf)) = .mp (lfA lf) := fun lf => by simp [AObj.ren, lfA, AV.ren, Function.comp_def]
            have rbx : ∀ cs, AObj.ren (fun k => k - 1000) (.box cs) = .box (cs.map (AV.ren fun k => k - 1000)) := fun _ => rfl
            cases hrd2 : rdN s.2 false (issOf r n)
            · have hst2 : dStep r s n = s := by simp [dStep, hm, hrd2]
              rw [hst2] at hst
              simp -implicitDefEqProofs [setsB, rdpA, rlfA, rbx, AV.ren, hel, etk, hrd2]
              refine GO_ret mixed 1000 ?_
              simp -implicitDefEqProofs [w2]
              rw [hst]
              exact Weak.sub (by simp [lk, keptA, AV.keys, bkA]) (by simp [lk, keptO, keptA, AV.keys, dpA, lfA])
            · have hmem : n ∈ s.2 := rdN_mem (by rw [hm]; exact hrd2)
              have hst2 : dStep r s n = (s.1 ++ [(n, msN s.1 0 (issOf r n) + 1)], s.2.erase n) := by simp [dStep, hm, hrd2]
              rw [hst2] at hst
              have hnk : n ∉ s.1.map (·.1) := fun hin => by
                have := (List.nodup_append.1 (hI.perm.nodup_iff.2 hnd)).2.2 n hin n hmem
                exact this rfl
              have pd := put_dp (msN s.1 0 (issOf r n) + 1) hnk
              have dl := del_lf hmem
              simp -implicitDefEqProofs [setsB, rdpA, rlfA, rbx, AV.ren, hel, etk, hrd2]
              refine GO_ret mixed 1000 ?_
              simp -implicitDefEqProofs [w2, w4, pd, dl]
              rw [hst]
              exact Weak.sub (by simp [lk, keptA, AV.keys, bkA]) (by simp [lk, keptO, keptA, AV.keys, dpA, lfA])
        · have hm' : n ∈ s.2 := of_decide_eq_true hm
          rw [if_pos hm'] at hgl
          simp -implicitDefEqProofs [hi, ia, ← hne, hgl]
          refine ⟨rfl, ?_⟩
          (first | refine CallK.of (issues_pc r (nums r) n) (by simp) ?_ | refine CallD.of (issues_pc r (nums r) n) (by simp) ?_)
          simp -implicitDefEqProofs []
          refine AR_rngf hrd (issuesIt r n (.vsl ((nums r).map ia)) hs hl) (by simp [evA, St.tmp, lk, bkA]) (by simp [AV.pure]) (fun k => k - 1000) [(4, .ptr 1004 0), (5, .ptr 1005 0), (10, .ptr 1010 0), (11, .ptr 1011 0)]
            (fun q => [(1015, .mp (dpA s.1)), (1004, .box [.mp 1015]), (1016, .mp (lfA s.2)), (1005, .box [.mp 1016]), (1010, .box [.int .i64 (msN s.1 0 ((issOf r n).take q))]), (1011, .box [.bool (rdN s.2 true ((issOf r n).take q))])])
            [1015, 1004, 1016, 1005, 1010, 1011] (fun _ => True) trivial (fun _ => rfl) (by simp) (by simp) (by simp [setsB, St.set, putO, AObj.ren, AV.ren, dpA, lfA, msN, rdN, Function.comp_def]) (by simp [keptO, keptA, AV.keys, dpA, lfA, lk]) (by simp [lk, AV.ren, AV.keys]) ?_ ?_
          · intro q x hx _ R' hG hN
            obtain ⟨y, hq, hy, rfl⟩ : ∃ y, ∃ hq : q < (issOf r n).length, (issOf r n)[q] = y ∧ x = .agg (isa y) := by
              simp only [elsOf, List.getElem?_map, Option.map_eq_some_iff] at hx
              obtain ⟨y, h1, h2⟩ := hx
              obtain ⟨h3, h4⟩ := List.getElem?_eq_some_iff.1 h1
              exact ⟨y, h3, h4, h2.symm⟩
            have hyr : y ∈ r := by rw [← hy]; exact (List.mem_filter.1 (List.getElem_mem hq)).1
            have hyl := (hw.1.2 y hyr).1
            unfold Sml at hyl
            have tm := msN_take s.1 0 (issOf r n) q hq
            have tr := rdN_take s.2 true (issOf r n) q hq
            rw [hy] at tm tr
            generalize msN s.1 0 ((issOf r n).take q) = m0 at tm ⊢
            generalize rdN s.2 true ((issOf r n).take q) = b0 at tr ⊢
            refine GO_AR mixed 1000 ?_
            simp -implicitDefEqProofs [isa]
            intro R'' hG'' hN''
            refine GO_AR mixed 1000 ?_
            simp -implicitDefEqProofs []
            refine AR_for (fun m => ⟨[(55, .int .i64 m), (54, .int .i64 y.its.length), (53, .vsl (y.its.map ita)), (12, .ptr 12 0), (4, .ptr 1004 0), (5, .ptr 1005 0), (10, .ptr 1010 0), (11, .ptr 1011 0)],
              [(1015, .mp (dpA s.1)), (1004, .box [.mp 1015]), (1016, .mp (lfA s.2)), (1005, .box [.mp 1016]), (1010, .box [.int .i64 (msIt s.1 m0 (y.its.take m))]), (1011, .box [.bool (rdIt s.2 b0 (y.its.take m))]), (12, .box (isa y))]⟩) (fun _ => True) y.its.length (by (first | exact Weak.tm (by simp [lk, isa, dpA, lfA, msIt, rdIt]) | exact Weak.sub (by simp [lk, keptA, AV.keys, isa, dpA, lfA, msIt, rdIt]) (by simp [lk, keptO, keptA, AV.keys, isa, dpA, lfA, msIt, rdIt]))) trivial ?_ ?_
            · intro m hm _
              refine GO_AR mixed 1000 ?_
              have w3 : IntKind.i64.wrap ((m : Int) + 1) = ((m + 1 : Nat) : Int) := wrapI (by omega) (by omega)
              have um := msIt_take s.1 m0 y.its m hm
              have ur := rdIt_take s.2 b0 y.its m hm
              generalize msIt s.1 m0 (y.its.take m) = m1 at um ⊢
              generalize rdIt s.2 b0 (y.its.take m) = b1 at ur ⊢
              have gd := get_dp y.its[m].1 s.1
              have gl := get_lf y.its[m].1 s.2
              have wkE : ∀ c1 c2 : Prop, c1 → c2 → c1 ∧ c2 := fun _ _ a b => ⟨a, b⟩
              cases b1
              · simp only [Bool.false_and] at ur
                cases hk1 : dpLk y.its[m].1 s.1 with
                | none =>
                  rw [hk1] at gd
                  simp only [dpG, hk1, Option.getD_none] at um
                  simp -implicitDefEqProofs [hm, ita, w3, gd]
                  exact Weak.sub (by simp [lk, keptA, AV.keys]) (by simp [lk, keptO, keptA, AV.keys, dpA, lfA, um, ur, isa])
                | some v =>
                  rw [hk1] at gd
                  simp only [dpG, hk1, Option.getD_some] at um
                  simp -implicitDefEqProofs [hm, ita, w3, gd]
                  exact Weak.sub (by simp [lk, keptA, AV.keys]) (by simp [lk, keptO, keptA, AV.keys, dpA, lfA, um, ur, isa])
              · by_cases hin : y.its[m].1 ∈ s.2
                · rw [if_pos hin] at gl
                  simp only [hin, decide_true, Bool.not_true, Bool.and_false] at ur
                  cases hk1 : dpLk y.its[m].1 s.1 with
                  | none =>
                    rw [hk1] at gd
                    simp only [dpG, hk1, Option.getD_none] at um
                    simp -implicitDefEqProofs [hm, ita, w3, gd, gl]
                    exact Weak.sub (by simp [lk, keptA, AV.keys]) (by simp [lk, keptO, keptA, AV.keys, dpA, lfA, um, ur, isa])
                  | some v =>
                    rw [hk1] at gd
                    simp only [dpG, hk1, Option.getD_some] at um
                    simp -implicitDefEqProofs [hm, ita, w3, gd, gl]
                    exact Weak.sub (by simp [lk, keptA, AV.keys]) (by simp [lk, keptO, keptA, AV.keys, dpA, lfA, um, ur, isa])
                · rw [if_neg hin] at gl
                  simp only [hin, decide_false, Bool.not_false, Bool.and_true] at ur
                  cases hk1 : dpLk y.its[m].1 s.1 with
                  | none =>
                    rw [hk1] at gd
                    simp only [dpG, hk1, Option.getD_none] at um
                    simp -implicitDefEqProofs [hm, ita, w3, gd, gl]
                    exact Weak.sub (by simp [lk, keptA, AV.keys]) (by simp [lk, keptO, keptA, AV.keys, dpA, lfA, um, ur, isa])
                  | some v =>
                    rw [hk1] at gd
                    simp only [dpG, hk1, Option.getD_some] at um
                    simp -implicitDefEqProofs [hm, ita, w3, gd, gl]
                    exact Weak.sub (by simp [lk, keptA, AV.keys]) (by simp [lk, keptO, keptA, AV.keys, dpA, lfA, um, ur, isa])
            · intro _
              refine GO_AR mixed 1000 ?_
              simp -implicitDefEqProofs []
              refine GO_ret mixed 1000 ?_
              simp -implicitDefEqProofs [RndB, frzSt, newK, frzO, frzA, frz, AV.keys, tm, tr, dpA, lfA, Function.comp_def]
              try trivial
          · intro _
            have hel : (elsOf r n).length = (issOf r n).length := by simp [elsOf, issOf]
            have etk : (issOf r n).take (issOf r n).length = issOf r n := List.take_of_length_le (Nat.le_refl _)
            have hbd := msN_bd hI (issOf r n) 0 (Int.le_refl _) (by omega)
            have hlen := hI.len
            have w4 : IntKind.i64.wrap (msN s.1 0 (issOf r n) + 1) = msN s.1 0 (issOf r n) + 1 := wrapI (by omega) (by omega)
            have rdpA : ∀ dp, AObj.ren (fun k => k - 1000) (.mp (dpA dp)) = .mp (dpA dp) := fun dp => by simp [AObj.ren, dpA, AV.ren, Function.comp_def]
            have rlfA : ∀ lf, AObj.ren (fun k => k - 1000) (.mp (lfA lf)) = .mp (lfA lf) := fun lf => by simp [AObj.ren, lfA, AV.ren, Function.comp_def]
            have rbx : ∀ cs, AObj.ren (fun k => k - 1000) (.box cs) = .box (cs.map (AV.ren fun k => k - 1000)) := fun _ => rfl
            cases hrd2 : rdN s.2 true (issOf r n)
            · have hst2 : dStep r s n = s := by simp [dStep, hm, hrd2]
              rw [hst2] at hst
              simp -implicitDefEqProofs [setsB, rdpA, rlfA, rbx, AV.ren, hel, etk, hrd2]
              refine GO_ret mixed 1000 ?_
              simp -implicitDefEqProofs [w2]
              rw [hst]
              exact Weak.sub (by simp [lk, keptA, AV.keys, bkA]) (by simp [lk, keptO, keptA, AV.keys, dpA, lfA])
            · have hmem : n ∈ s.2 := rdN_mem (by rw [hm]; exact hrd2)
              have hst2 : dStep r s n = (s.1 ++ [(n, msN s.1 0 (issOf r n) + 1)], s.2.erase n) := by simp [dStep, hm, hrd2]
              rw [hst2] at hst
              have hnk : n ∉ s.1.map (·.1) := fun hin => by
                have := (List.nodup_append.1 (hI.perm.nodup_iff.2 hnd)).2.2 n hin n hmem
                exact this rfl
              have pd := put_dp (msN s.1 0 (issOf r n) + 1) hnk
              have dl := del_lf hmem
              simp -implicitDefEqProofs [setsB, rdpA, rlfA, rbx, AV.ren, hel, etk, hrd2]
              refine GO_ret mixed 1000 ?_
              simp -implicitDefEqProofs [w2, w4, pd, dl]
              rw [hst]
              exact Weak.sub (by simp [lk, keptA, AV.keys, bkA]) (by simp [lk, keptO, keptA, AV.keys, dpA, lfA])
      · intro _
        refine GO_AR mixed 1000 ?_
        have etk : (nums r).take (nums r).length = nums r := List.take_of_length_le (Nat.le_refl _)
        simp -implicitDefEqProofs []
        refine GO_ret mixed 1000 ?_
        have e : (nums r).foldl (dStep r) (dRun r k) = dRun r (k + 1) := rfl
        simp -implicitDefEqProofs [w1, e]
        exact Weak.sub (by simp [lk, keptA, AV.keys, bkA]) (by simp [lk, keptO, keptA, AV.keys, dpA, lfA])
    · intro _
      refine GO_AR mixed 1000 ?_
      simp -implicitDefEqProofs []
      refine GO_ret mixed 1000 ?_
      have hla : (lfA (dRun r (nums r).length).2).length = (dRun r (nums r).length).2.length := by simp [lfA]
      have hpu : (dpA (dRun r (nums r).length).1).all (fun p => p.1.pure && p.2.pure) = true := by simp [dpA, AV.pure]
      simp -implicitDefEqProofs [hla, hpu]
end
end Go.Proofs.YtdpmioiamcgfkaaDoor

/-! Lists in new memory; issues that are copied, by the abstract machine. -/
namespace Go.Proofs.YtdpmioiamcgfkaaDoor
open Go.RowKit

/-- The end of a function, where nil and empty lists are the same. -/
def FinZ (rs : List RRes) (v : AV) : Exit → St → Prop
  | .normal, st | .ret, st => ∃ xs ys, evRess st rs = some xs ∧ snapL (snap st) xs = some ys ∧ v = nz (tupV ys)
  | _, _ => False

theorem PCz_of {P : Program} {G : Nat → Option (List AV)} {f : FuncId} {fn : Func} {c : Code} {rc : RCode} {rs : List RRes} {args : List AV} {v : AV} (hf : P.funcs[f]? = some fn) (hb : fn.body = some c) (he : entB P f = true)
    (hc : okCode P fn.ntmps c rc = true) (hrs : allB2 (okRes P) fn.results.toList rs = true) (hn : args.length ≤ fn.ntmps)
    (h : ∀ R : Run, R.N = fn.ntmps → R.G = G → R.Top → AR P R rc (initSt args) (FinZ rs v)) : PC P G f args v := by
  refine ⟨he, fun M W vs hM hG hsz hvs => ?_⟩
  refine callsIn_wide.1 (callsIn_of_wp_marks (F := FW none) (n := 1) hf hb trivial ?_)
  let R : Run := { G := G, M := M, X := fun _ => False, W0 := W, N := fn.ntmps, E0 := { M := M, loc := fun _ => none, row := fun _ => none } }
  have h0 : SK R (initSt args) { tmps := vs ++ Array.replicate (fn.ntmps - vs.size) Go.undef, defers := [] } W (fun _ => none) := by
    have hGM : ∀ b, b < W.heap.size → ¬ M b → ¬ ((initSt args).env M (fun _ => none)).M b ∧ W.heap[b]? = W.heap[b]? := fun b _ h1 => ⟨(by rintro (h2 | ⟨k, s, h2⟩) <;> first | exact h1 h2 | cases h2), rfl⟩
    refine ⟨.nil _ _ _ _, by show (vs ++ _).size = fn.ntmps; simp; omega, fun n x hx => ?_, (fun k o ho => by simp [initSt, St.get, lk] at ho), (fun k p hk => by cases hk), (fun k k' b s s' hk => by cases hk), hM, fun _ _ h => h, Kp.refl _ _, hG.mono hGM (Nat.le_refl _), ⟨Nat.le_refl _, hGM, fun k p hk => (by cases hk), fun k sz m hk => (by cases hk)⟩, fun _ _ => ⟨rfl, rfl⟩⟩
    simp only [initSt, St.tmp, iniT_lk, Nat.zero_le, if_true, Nat.sub_zero] at hx
    show VR _ W x ((vs ++ Array.replicate (fn.ntmps - vs.size) Go.undef).getD n Go.undef)
    rw [Array.getD_eq_getD_getElem?, Array.getElem?_append]
    have c1 : n < args.length := (List.getElem?_eq_some_iff.1 hx).1
    rw [if_pos (by omega)]
    have : vs[n]? = some vs[n] := by simp
    rw [this]
    exact .pv ((hvs n x _ hx this).mono hGM (Nat.le_refl _))
  refine wpIn_mono (h R rfl rfl ⟨rfl, rfl⟩ c hc 1 _ W ⟨_, h0⟩) ?_
  have key : ∀ (a' : Act) (W' : World) (st' : St), (∃ xs ys, evRess st' rs = some xs ∧ snapL (snap st') xs = some ys ∧ v = nz (tupV ys)) → SR R st' a' W' →
      ∃ u, (results fn a'.tmps).run P W' = .ok u W' ∧ ∃ u', Ending.returned u = .returned u' ∧ PV M W' v u' ∧ Ext W W' := by
    rintro a' W' st' ⟨xs, ys, h1, h2, rfl⟩ ⟨κ, hk⟩
    obtain ⟨us, h3, h4⟩ := ress_run (P := P) hk hrs h1
    obtain ⟨h5, h6⟩ := snapL_spec h2
    have hE : Ext W W' := ⟨hk.kp.os, hk.kp.tape, hk.kp.output, hk.kp.size, fun i hi => hk.kp.block i hi (fun h => h)⟩
    have hp : ∀ (i : Nat) (y : AV) (u : Value), ys[i]? = some y → us[i]? = some u → PV M W' y u := fun i y u hy hu => by
      obtain ⟨x, h7, h8⟩ := h6 i y hy
      exact snap_sim hk (h4.2 i x u h7 hu) h8
    have hl : us.length = ys.length := by have := h4.1; omega
    refine ⟨(if h : us.toArray.size = 1 then us.toArray[0] else .tuple us.toArray), ?_, _, rfl, PV.nz ?_, hE⟩
    · unfold results
      rw [Sem.run_bind]
      have : (fn.results.mapM fun rv => (match rv with
        | .tmp t => pure (a'.tmps.getD t Go.undef)
        | .cell p t => do loadVar t (← asAddr (a'.tmps.getD p Go.undef)) : Sem Value)).run P W' = .ok us.toArray W' := by
        rw [Array.mapM_eq_mapM_toList, Sem.run_map]
        exact congrArg (fun z => Result.andThen z (fun a w' => Result.ok a.toArray w')) h3
      erw [this]
      rfl
    · match ys, us, hl, hp with
      | [], [], _, _ => exact .tup [] _ rfl (by simp)
      | [y], [u], _, hp => exact hp 0 y u rfl rfl
      | y :: y2 :: ys, u :: u2 :: us, hl, hp =>
        rw [dif_neg (by simp)]
        exact .tup _ _ (by simpa using hl) (fun i x w hx hw => hp i x w hx (by simpa using hw))
  rintro e a' W' ⟨st', h1, κ, h2⟩
  cases e <;> try (exact h1.elim)
  all_goals
    refine h2.leave (by simp) rfl fun a2 W2 ht hs2 => ?_
    have := key a2 W2 st' h1 ⟨κ, hs2⟩
    rw [ht] at this
    exact this

section
variable {G : Nat → Option (List AV)}

theorem ita_flat (l : List (Int × Int)) : ∀ r ∈ l.map ita, ∀ x ∈ r, x.flat = true := by
  intro r hr x hx
  obtain ⟨p, -, rfl⟩ := List.mem_map.1 hr
  simp only [ita, List.mem_cons, List.not_mem_nil, or_false] at hx
  rcases hx with rfl | rfl <;> simp [AV.flat]
theorem ita_pure (l : List (Int × Int)) : ∀ r ∈ l.map ita, ∀ x ∈ r, x.pure = true := by
  intro r hr x hx
  obtain ⟨p, -, rfl⟩ := List.mem_map.1 hr
  simp only [ita, List.mem_cons, List.not_mem_nil, or_false] at hx
  rcases hx with rfl | rfl <;> simp [AV.pure]
theorem dma_flat (l : List Dm) : ∀ r ∈ l.map dma, ∀ x ∈ r, x.flat = true := by
  intro r hr x hx
  obtain ⟨p, -, rfl⟩ := List.mem_map.1 hr
  simp only [dma, List.mem_cons, List.not_mem_nil, or_false] at hx
  rcases hx with rfl | rfl | rfl <;> simp [AV.flat]
theorem dma_pure (l : List Dm) : ∀ r ∈ l.map dma, ∀ x ∈ r, x.pure = true := by
  intro r hr x hx
  obtain ⟨p, -, rfl⟩ := List.mem_map.1 hr
  simp only [dma, List.mem_cons, List.not_mem_nil, or_false] at hx
  rcases hx with rfl | rfl | rfl <;> simp [AV.pure]

theorem cloneI_pn (l : List (Int × Int)) (hne : l ≠ []) (hl : Sml l) : PN Tryd.prog G 108 [.vsl (l.map ita)] 2 (l.map ita) := by
  refine PN_of (ita_flat l) (ita_pure l) Tryd.func108 rfl (by kernel_rfl) (rc := rc_slices_Clone_api_Item_api_Item) (by kernel_rfl) (rs := rr_slices_Clone_api_Item_api_Item) (by kernel_rfl) (Nat.le_of_ble_eq_true rfl) fun R _ hG hrd => GO_AR mixed 1000 ?_
  unfold Sml at hl
  have b1 : l.length * 16 ≤ 70368744177664 := by omega
  have h0 : ¬ l.length = 0 := fun e => hne (List.length_eq_zero_iff.1 e)
  have k1 : (l.map ita).all (fun r => r.length == 2) = true := by simp [ita]
  have k2 : (l.map ita).all (fun r => r.all AV.one) = true := by simp [ita, AV.one]
  have k5 : (l.map ita).all (fun r => r.all AV.pure) = true := by simp [ita, AV.pure]
  simp -implicitDefEqProofs [rc_slices_Clone_api_Item_api_Item, rr_slices_Clone_api_Item_api_Item, h0, hne, b1, k1, k2, k5, FinN]

theorem cloneD_pn (l : List Dm) (hne : l ≠ []) (hl : Sml l) : PN Tryd.prog G 109 [.vsl (l.map dma)] 3 (l.map dma) := by
  refine PN_of (dma_flat l) (dma_pure l) Tryd.func109 rfl (by kernel_rfl) (rc := rc_slices_Clone_api_Dim_api_Dim) (by kernel_rfl) (rs := rr_slices_Clone_api_Dim_api_Dim) (by kernel_rfl) (Nat.le_of_ble_eq_true rfl) fun R _ hG hrd => GO_AR mixed 1000 ?_
  unfold Sml at hl
  have b1 : l.length * 24 ≤ 70368744177664 := by omega
  have h0 : ¬ l.length = 0 := fun e => hne (List.length_eq_zero_iff.1 e)
  have k1 : (l.map dma).all (fun r => r.length == 3) = true := by simp [dma]
  have k2 : (l.map dma).all (fun r => r.all AV.one) = true := by simp [dma, AV.one]
  have k5 : (l.map dma).all (fun r => r.all AV.pure) = true := by simp [dma, AV.pure]
  simp -implicitDefEqProofs [rc_slices_Clone_api_Dim_api_Dim, rr_slices_Clone_api_Dim_api_Dim, h0, hne, b1, k1, k2, k5, FinN]

theorem cloneI_pc0 : PC Tryd.prog G 108 [.vsl []] (.vsl []) := by
  refine PCz_of Tryd.func108 rfl (by kernel_rfl) (rc := rc_slices_Clone_api_Item_api_Item) (by kernel_rfl) (rs := rr_slices_Clone_api_Item_api_Item) (by kernel_rfl) (Nat.le_of_ble_eq_true rfl) fun R _ hG hrd => GO_AR mixed 1000 ?_
  simp -implicitDefEqProofs [rc_slices_Clone_api_Item_api_Item, rr_slices_Clone_api_Item_api_Item, FinZ, nz]

theorem cloneD_pc0 : PC Tryd.prog G 109 [.vsl []] (.vsl []) := by
  refine PCz_of Tryd.func109 rfl (by kernel_rfl) (rc := rc_slices_Clone_api_Dim_api_Dim) (by kernel_rfl) (rs := rr_slices_Clone_api_Dim_api_Dim) (by kernel_rfl) (Nat.le_of_ble_eq_true rfl) fun R _ hG hrd => GO_AR mixed 1000 ?_
  simp -implicitDefEqProofs [rc_slices_Clone_api_Dim_api_Dim, rr_slices_Clone_api_Dim_api_Dim, FinZ, nz]

end
end Go.Proofs.YtdpmioiamcgfkaaDoor

/-! How the program opens a register, by the abstract machine. -/
namespace Go.Proofs.YtdpmioiamcgfkaaDoor
open Go.RowKit

/-- The program's list of checks. -/
def GC (G : Nat → Option (List AV)) : Prop := G 0 = some [.func (.func 157) [] [], .func (.func 158) [] [], .func (.func 159) [] [], .func (.func 160) [] []]
def ckN (x : Iss) : Nat → Bool
  | 0 => ck1 x
  | 1 => ck2 x
  | 2 => ck3 x
  | _ => ck4 x
theorem issB_ckN {x : Iss} (h : ∀ j, j < 4 → ckN x j = true) : issB x = true := by
  rw [issB_ck, show ck1 x = true from h 0 (by omega), show ck2 x = true from h 1 (by omega), show ck3 x = true from h 2 (by omega), show ck4 x = true from h 3 (by omega)]; rfl
theorem issB_ckF {x : Iss} {j : Nat} (hj : j < 4) (h : ckN x j = false) : issB x = false := by
  rw [issB_ck]
  have : j = 0 ∨ j = 1 ∨ j = 2 ∨ j = 3 := by omega
  rcases this with rfl | rfl | rfl | rfl <;> simp only [ckN] at h <;> simp [h]

/-- The error that opening returns. -/
def openV (r : List Iss) : Int := if listedB r = true then
    if 0 < (dRun r (nums r).length).2.length then 21 else if (∃ p ∈ (dRun r (nums r).length).1, 6 < p.2) then 20 else 0
  else 20
def openA (r : List Iss) : AV := .tup [if openV r = 0 then bkA r (nums r) else .nilp, .int .i64 (openV r)]
theorem openA_no {r : List Iss} (h : listedB r = false) : openA r = .tup [.nilp, .int .i64 20] := by simp [openA, openV, h]

/-- The state of the first loop. -/
def opS (r : List Iss) : Nat → St
  | 0 => ⟨[(28, .int .i64 0), (27, .int .i64 r.length), (26, .vsl (r.map isa)), (1, .ptr 1 0), (4, .ptr 4 0)], [(1, .box [.vsl (r.map isa)]), (4, .box [.ptr 18 0]), (18, .box [.vsl (r.map isa), .nils])]⟩
  | i + 1 => ⟨[(28, .int .i64 (i + 1 : Nat)), (27, .int .i64 r.length), (26, .vsl (r.map isa)), (1, .ptr 1 0), (4, .ptr 4 0)], [(1, .box [.vsl (r.map isa)]), (4, .box [.ptr 18 0]), (18, .box [.vsl (r.map isa), .osl 85 (numsN r (i + 1)).length]), (85, .row 1 ((numsN r (i + 1)).map ia))]⟩

def opT (r : List Iss) (k : Nat) : St := ⟨[(98, .int .i64 k), (97, .int .i64 r.length), (96, .vsl (r.map isa)), (4, .vptr [bkA r (nums r)] 0)], []⟩
def opJ (r : List Iss) (i : Nat) (x : Iss) (j : Nat) : St := ⟨[(34, .int .i64 j), (33, .agg [.func (.func 157) [] [], .func (.func 158) [] [], .func (.func 159) [] [], .func (.func 160) [] []]), (5, .int .i64 i), (6, .ptr 6 0)] ++ (opS r i).t, (opS r i).o ++ [(6, .box (isa x))]⟩
theorem ckN_go {x : Iss} {j : Nat} (hc : ∀ k, k < j → ckN x k = true) (h : ckN x j = true) : ∀ k, k < j + 1 → ckN x k = true := fun k hk => by
  by_cases e : k = j
  · rw [e]; exact h
  · exact hc k (by omega)

section
variable {G : Nat → Option (List AV)}

set_option maxRecDepth 4000 in
theorem open_pc (hG : GC G) (r : List Iss) (h : Wf r) : PC Tryd.prog G 67 [rega r] (openA r) := by
  (refine pc_sheet_open (Nat.le_of_ble_eq_true rfl) fun R hG hrd => GO_AR mixed 1000 ?_; subst hG)
  unfold GC at hG
  have hs := h.1.1
  unfold Sml at hs
  simp -implicitDefEqProofs [rc_sheet_open, rr_sheet_open, rega]
  refine CallK.flat (inS_pc 1 60 r.length) (by simp [AV.flat]) (by simp) ?_
  cases q1 : inR r.length 1 60
  · simp -implicitDefEqProofs [openA_no (r := r) (by simp [listedB, q1])]
  have q1' : 1 ≤ r.length ∧ r.length ≤ 60 := by
    have := of_decide_eq_true q1
    omega
  simp -implicitDefEqProofs []
  refine AR_for (opS r) (fun i => ∀ j (h : j < r.length), j < i → issB r[j] = true ∧ ordB r j = true) r.length (by simp only [opS]; (first | exact Weak.tm (by simp [lk]) | exact Weak.sub (by simp [lk, keptA, AV.keys]) (by simp [lk, keptO, keptA, AV.keys]))) (by simp) ?_ ?_
  · intro i hi he
    refine GO_AR mixed 1000 ?_
    have w1 : IntKind.i64.wrap ((i : Int) + 1) = ((i + 1 : Nat) : Int) := wrapI (by omega) (by omega)
    have a1 := at_eq hi
    have hx := h.1.2 r[i] (List.getElem_mem hi)
    have hk := h.2 r[i] (List.getElem_mem hi)
    have a1 := at_eq hi
    cases i with
    | zero =>
      simp -implicitDefEqProofs [opS, hi, isa, hG]
      refine AR_for (opJ r (0) r[0]) (fun j => ∀ k, k < j → ckN r[0] k = true) 4 (by simp only [opJ, opS]; (first | exact Weak.tm (by simp [lk, isa, ia]) | exact Weak.sub (by simp [lk, keptA, AV.keys, isa, ia]) (by simp [lk, keptO, keptA, AV.keys, isa, ia]))) (by simp) ?_ ?_
      · intro j hj hc
        refine GO_AR mixed 1000 ?_
        rcases (show j = 0 ∨ j = 1 ∨ j = 2 ∨ j = 3 by omega) with rfl | rfl | rfl | rfl
        · have v0 : IntKind.i64.wrap 1 = 1 := rfl
          simp -implicitDefEqProofs [opJ, opS, isa]
          (first | refine CallK.of (ck1_pc r[0]) (by simp) ?_ | refine CallD.of (ck1_pc r[0]) (by simp) ?_)
          cases q : ck1 r[0]
          · simp -implicitDefEqProofs []
            refine GO_ret mixed 1000 ?_
            simp -implicitDefEqProofs []
            refine GO_ret mixed 1000 ?_
            simp -implicitDefEqProofs [openA_no (listed_no1 hi (issB_ckF (j := 0) (by omega) q))]
          · simp -implicitDefEqProofs [v0]
            first | exact ⟨(by (first | exact Weak.tm (by simp [lk, opJ, opS, isa, ia]) | exact Weak.sub (by simp [lk, keptA, AV.keys, opJ, opS, isa, ia]) (by simp [lk, keptO, keptA, AV.keys, opJ, opS, isa, ia]))), ckN_go hc q⟩ | exact ⟨(by (first | exact Weak.tm (by simp [lk, opJ, opS, isa, ia]) | exact Weak.sub (by simp [lk, keptA, AV.keys, opJ, opS, isa, ia]) (by simp [lk, keptO, keptA, AV.keys, opJ, opS, isa, ia]))), q⟩
        · have v1 : IntKind.i64.wrap 2 = 2 := rfl
          simp -implicitDefEqProofs [opJ, opS, isa]
          (first | refine CallK.of (ck2_pc r[0] hk) (by simp) ?_ | refine CallD.of (ck2_pc r[0] hk) (by simp) ?_)
          cases q : ck2 r[0]
          · simp -implicitDefEqProofs []
            refine GO_ret mixed 1000 ?_
            simp -implicitDefEqProofs []
            refine GO_ret mixed 1000 ?_
            simp -implicitDefEqProofs [openA_no (listed_no1 hi (issB_ckF (j := 1) (by omega) q))]
          · simp -implicitDefEqProofs [v1]
            first | exact ⟨(by (first | exact Weak.tm (by simp [lk, opJ, opS, isa, ia]) | exact Weak.sub (by simp [lk, keptA, AV.keys, opJ, opS, isa, ia]) (by simp [lk, keptO, keptA, AV.keys, opJ, opS, isa, ia]))), ckN_go hc q⟩ | exact ⟨(by (first | exact Weak.tm (by simp [lk, opJ, opS, isa, ia]) | exact Weak.sub (by simp [lk, keptA, AV.keys, opJ, opS, isa, ia]) (by simp [lk, keptO, keptA, AV.keys, opJ, opS, isa, ia]))), q⟩
        · have v2 : IntKind.i64.wrap 3 = 3 := rfl
          simp -implicitDefEqProofs [opJ, opS, isa]
          (first | refine CallK.of (ck3_pc r[0] hx.1) (by simp) ?_ | refine CallD.of (ck3_pc r[0] hx.1) (by simp) ?_)
          cases q : ck3 r[0]
          · simp -implicitDefEqProofs []
            refine GO_ret mixed 1000 ?_
            simp -implicitDefEqProofs []
            refine GO_ret mixed 1000 ?_
            simp -implicitDefEqProofs [openA_no (listed_no1 hi (issB_ckF (j := 2) (by omega) q))]
          · simp -implicitDefEqProofs [v2]
            first | exact ⟨(by (first | exact Weak.tm (by simp [lk, opJ, opS, isa, ia]) | exact Weak.sub (by simp [lk, keptA, AV.keys, opJ, opS, isa, ia]) (by simp [lk, keptO, keptA, AV.keys, opJ, opS, isa, ia]))), ckN_go hc q⟩ | exact ⟨(by (first | exact Weak.tm (by simp [lk, opJ, opS, isa, ia]) | exact Weak.sub (by simp [lk, keptA, AV.keys, opJ, opS, isa, ia]) (by simp [lk, keptO, keptA, AV.keys, opJ, opS, isa, ia]))), q⟩
        · have v3 : IntKind.i64.wrap 4 = 4 := rfl
          simp -implicitDefEqProofs [opJ, opS, isa]
          (first | refine CallK.of (ck4_pc r[0] hx.2) (by simp) ?_ | refine CallD.of (ck4_pc r[0] hx.2) (by simp) ?_)
          cases q : ck4 r[0]
          · simp -implicitDefEqProofs []
            refine GO_ret mixed 1000 ?_
            simp -implicitDefEqProofs []
            refine GO_ret mixed 1000 ?_
            simp -implicitDefEqProofs [openA_no (listed_no1 hi (issB_ckF (j := 3) (by omega) q))]
          · simp -implicitDefEqProofs [v3]
            first | exact ⟨(by (first | exact Weak.tm (by simp [lk, opJ, opS, isa, ia]) | exact Weak.sub (by simp [lk, keptA, AV.keys, opJ, opS, isa, ia]) (by simp [lk, keptO, keptA, AV.keys, opJ, opS, isa, ia]))), ckN_go hc q⟩ | exact ⟨(by (first | exact Weak.tm (by simp [lk, opJ, opS, isa, ia]) | exact Weak.sub (by simp [lk, keptA, AV.keys, opJ, opS, isa, ia]) (by simp [lk, keptO, keptA, AV.keys, opJ, opS, isa, ia]))), q⟩
      · intro hc
        refine GO_AR mixed 1000 ?_
        have p1 : issB r[0] = true := issB_ckN hc
        simp -implicitDefEqProofs [opJ, opS, isa]
        refine GO_ret mixed 1000 ?_
        by_cases p3 : r[0].l = 1
        · have hn : numsN r 1 = [r[0].d] := by simp [numsN, newB, a1]
          have ok : ordB r 0 = true := by simp [ordB, a1, p3]
          have w0 : IntKind.i64.wrap 1 = 1 := rfl
          simp -implicitDefEqProofs [p3, w0]
          exact ⟨rfl, (by (first | exact Weak.tm (by simp [lk, opS, hn, ia]) | exact Weak.sub (by simp [lk, keptA, AV.keys, opS, hn, ia]) (by simp [lk, keptO, keptA, AV.keys, opS, hn, ia]))), fun j q1 q2 => by subst q2; exact ⟨p1, ok⟩⟩
        · simp -implicitDefEqProofs [p3]
          refine GO_ret mixed 1000 ?_
          simp -implicitDefEqProofs [openA_no (listed_no2 hi (by simp [ordB, a1, p3]))]
    | succ i =>
      have k1 : (i : Int) + 1 < r.length := by omega
      have k2 : ((i : Int) + 1).toNat = i + 1 := by omega
      have k3 : (0 : Int) ≤ (i : Int) + 1 := by omega
      simp -implicitDefEqProofs [opS, hi, isa, hG, k1, k2, k3]
      refine AR_for (opJ r (i + 1) r[i + 1]) (fun j => ∀ k, k < j → ckN r[i + 1] k = true) 4 (by simp only [opJ, opS]; (first | exact Weak.tm (by simp [lk, isa, ia]) | exact Weak.sub (by simp [lk, keptA, AV.keys, isa, ia]) (by simp [lk, keptO, keptA, AV.keys, isa, ia]))) (by simp) ?_ ?_
      · intro j hj hc
        refine GO_AR mixed 1000 ?_
        rcases (show j = 0 ∨ j = 1 ∨ j = 2 ∨ j = 3 by omega) with rfl | rfl | rfl | rfl
        · have v0 : IntKind.i64.wrap 1 = 1 := rfl
          simp -implicitDefEqProofs [opJ, opS, isa]
          (first | refine CallK.of (ck1_pc r[i + 1]) (by simp) ?_ | refine CallD.of (ck1_pc r[i + 1]) (by simp) ?_)
          cases q : ck1 r[i + 1]
          · simp -implicitDefEqProofs []
            refine GO_ret mixed 1000 ?_
            simp -implicitDefEqProofs []
            refine GO_ret mixed 1000 ?_
            simp -implicitDefEqProofs [openA_no (listed_no1 hi (issB_ckF (j := 0) (by omega) q))]
          · simp -implicitDefEqProofs [v0]
            first | exact ⟨(by (first | exact Weak.tm (by simp [lk, opJ, opS, isa, ia]) | exact Weak.sub (by simp [lk, keptA, AV.keys, opJ, opS, isa, ia]) (by simp [lk, keptO, keptA, AV.keys, opJ, opS, isa, ia]))), ckN_go hc q⟩ | exact ⟨(by (first | exact Weak.tm (by simp [lk, opJ, opS, isa, ia]) | exact Weak.sub (by simp [lk, keptA, AV.keys, opJ, opS, isa, ia]) (by simp [lk, keptO, keptA, AV.keys, opJ, opS, isa, ia]))), q⟩
        · have v1 : IntKind.i64.wrap 2 = 2 := rfl
          simp -implicitDefEqProofs [opJ, opS, isa]
          (first | refine CallK.of (ck2_pc r[i + 1] hk) (by simp) ?_ | refine CallD.of (ck2_pc r[i + 1] hk) (by simp) ?_)
          cases q : ck2 r[i + 1]
          · simp -implicitDefEqProofs []
            refine GO_ret mixed 1000 ?_
            simp -implicitDefEqProofs []
            refine GO_ret mixed 1000 ?_
            simp -implicitDefEqProofs [openA_no (listed_no1 hi (issB_ckF (j := 1) (by omega) q))]
          · simp -implicitDefEqProofs [v1]
            first | exact ⟨(by (first | exact Weak.tm (by simp [lk, opJ, opS, isa, ia]) | exact Weak.sub (by simp [lk, keptA, AV.keys, opJ, opS, isa, ia]) (by simp [lk, keptO, keptA, AV.keys, opJ, opS, isa, ia]))), ckN_go hc q⟩ | exact ⟨(by (first | exact Weak.tm (by simp [lk, opJ, opS, isa, ia]) | exact Weak.sub (by simp [lk, keptA, AV.keys, opJ, opS, isa, ia]) (by simp [lk, keptO, keptA, AV.keys, opJ, opS, isa, ia]))), q⟩
        · have v2 : IntKind.i64.wrap 3 = 3 := rfl
          simp -implicitDefEqProofs [opJ, opS, isa]
          (first | refine CallK.of (ck3_pc r[i + 1] hx.1) (by simp) ?_ | refine CallD.of (ck3_pc r[i + 1] hx.1) (by simp) ?_)
          cases q : ck3 r[i + 1]
          · simp -implicitDefEqProofs []
            refine GO_ret mixed 1000 ?_
            simp -implicitDefEqProofs []
            refine GO_ret mixed 1000 ?_
            simp -implicitDefEqProofs [openA_no (listed_no1 hi (issB_ckF (j := 2) (by omega) q))]
          · simp -implicitDefEqProofs [v2]
            first | exact ⟨(by (first | exact Weak.tm (by simp [lk, opJ, opS, isa, ia]) | exact Weak.sub (by simp [lk, keptA, AV.keys, opJ, opS, isa, ia]) (by simp [lk, keptO, keptA, AV.keys, opJ, opS, isa, ia]))), ckN_go hc q⟩ | exact ⟨(by (first | exact Weak.tm (by simp [lk, opJ, opS, isa, ia]) | exact Weak.sub (by simp [lk, keptA, AV.keys, opJ, opS, isa, ia]) (by simp [lk, keptO, keptA, AV.keys, opJ, opS, isa, ia]))), q⟩
        · have v3 : IntKind.i64.wrap 4 = 4 := rfl
          simp -implicitDefEqProofs [opJ, opS, isa]
          (first | refine CallK.of (ck4_pc r[i + 1] hx.2) (by simp) ?_ | refine CallD.of (ck4_pc r[i + 1] hx.2) (by simp) ?_)
          cases q : ck4 r[i + 1]
          · simp -implicitDefEqProofs []
            refine GO_ret mixed 1000 ?_
            simp -implicitDefEqProofs []
            refine GO_ret mixed 1000 ?_
            simp -implicitDefEqProofs [openA_no (listed_no1 hi (issB_ckF (j := 3) (by omega) q))]
          · simp -implicitDefEqProofs [v3]
            first | exact ⟨(by (first | exact Weak.tm (by simp [lk, opJ, opS, isa, ia]) | exact Weak.sub (by simp [lk, keptA, AV.keys, opJ, opS, isa, ia]) (by simp [lk, keptO, keptA, AV.keys, opJ, opS, isa, ia]))), ckN_go hc q⟩ | exact ⟨(by (first | exact Weak.tm (by simp [lk, opJ, opS, isa, ia]) | exact Weak.sub (by simp [lk, keptA, AV.keys, opJ, opS, isa, ia]) (by simp [lk, keptO, keptA, AV.keys, opJ, opS, isa, ia]))), q⟩
      · intro hc
        refine GO_AR mixed 1000 ?_
        have p1 : issB r[i + 1] = true := issB_ckN hc
        simp -implicitDefEqProofs [opJ, opS, isa]
        refine GO_ret mixed 1000 ?_
        have w2 : IntKind.i64.wrap (i : Int) = (i : Int) := wrapI (by omega) (by omega)
        have w3 : IntKind.i64.wrap ((i : Int) + 1 + 1) = (i : Int) + 1 + 1 := wrapI (by omega) (by omega)
        have k3 : (0 : Int) < (i : Int) + 1 := by omega
        have hi2 : i < r.length := by omega
        have a2 := at_eq hi2
        have bl := (he i hi2 (by omega)).1
        simp only [issB, headB, Bool.and_eq_true, inR, decide_eq_true_eq] at bl
        have w4 : IntKind.i64.wrap (r[i].l + 1) = r[i].l + 1 := wrapI (by omega) (by omega)
        have b1 := numsN_len r (i + 1)
        have b2 : ((numsN r (i + 1)).length + 1) * 8 ≤ 70368744177664 := by omega
        have go : ordB r (i + 1) = true → ∀ j (h : j < r.length), j < i + 1 + 1 → issB r[j] = true ∧ ordB r j = true := fun g2 j q1 q2 => by
          by_cases e : j = i + 1
          · subst e; exact ⟨p1, g2⟩
          · exact he j q1 (by omega)
        by_cases p3 : r[i].d = r[i + 1].d
        · have hn : numsN r (i + 1 + 1) = numsN r (i + 1) := by rw [numsN]; simp [newB, a1, a2, p3]
          by_cases p5 : r[i + 1].l = r[i].l + 1
          case neg =>
            have p5' : ¬ r[i].l + 1 = r[i + 1].l := fun e => p5 e.symm
            simp -implicitDefEqProofs [k3, w2, w4, hi2, isa, p3, p5']
            refine GO_ret mixed 1000 ?_
            simp -implicitDefEqProofs [openA_no (listed_no2 hi (by simp [ordB, a1, a2, p3, p5]))]
          by_cases p6 : r[i].k = r[i + 1].k
          · have ok : ordB r (i + 1) = true := by simp [ordB, a1, a2, p3, p5, p6]
            simp -implicitDefEqProofs [k3, w2, w3, w4, hi2, isa, p3, p5, p6]
            exact ⟨(by (first | exact Weak.tm (by simp [lk, opS, hn, ia]) | exact Weak.sub (by simp [lk, keptA, AV.keys, opS, hn, ia]) (by simp [lk, keptO, keptA, AV.keys, opS, hn, ia]))), go ok⟩
          · have p6' : ¬ r[i + 1].k = r[i].k := fun e => p6 e.symm
            simp -implicitDefEqProofs [k3, w2, w4, hi2, isa, p3, p5, p6]
            refine GO_ret mixed 1000 ?_
            simp -implicitDefEqProofs [openA_no (listed_no2 hi (by simp [ordB, a1, a2, p3, p5, p6']))]
        by_cases p4 : r[i + 1].d < r[i].d
        · simp -implicitDefEqProofs [k3, w2, hi2, isa, p3, p4]
          refine GO_ret mixed 1000 ?_
          simp -implicitDefEqProofs [openA_no (listed_no2 hi (by simp [ordB, a1, a2, p4]))]
        have p7 : r[i].d < r[i + 1].d := by omega
        have hn : numsN r (i + 1 + 1) = numsN r (i + 1) ++ [r[i + 1].d] := by rw [numsN]; simp [newB, a1, a2, p3]
        by_cases p5 : r[i + 1].l = 1
        · have ok : ordB r (i + 1) = true := by simp [ordB, a1, a2, p4, p7, p5]
          simp -implicitDefEqProofs [k3, w2, w3, hi2, isa, p3, p4, p5, b2]
          exact ⟨rfl, (by (first | exact Weak.tm (by simp [lk, opS, hn, ia]) | exact Weak.sub (by simp [lk, keptA, AV.keys, opS, hn, ia]) (by simp [lk, keptO, keptA, AV.keys, opS, hn, ia]))), go ok⟩
        · simp -implicitDefEqProofs [k3, w2, hi2, isa, p3, p4, p5]
          refine GO_ret mixed 1000 ?_
          simp -implicitDefEqProofs [openA_no (listed_no2 hi (by simp [ordB, a1, a2, p4, p7, p5]))]
  · intro he
    refine GO_AR mixed 1000 ?_
    obtain ⟨n, hn⟩ : ∃ n, r.length = n + 1 := ⟨r.length - 1, by omega⟩
    have e : numsN r (n + 1) = nums r := by rw [nums, hn]
    have g1 : r.all issB = true := List.all_eq_true.2 fun x hx => by
      obtain ⟨j, hj, rfl⟩ := List.getElem_of_mem hx
      exact (he j hj hj).1
    have g2 : (List.range r.length).all (ordB r) = true := range_all.2 fun j hj => (he j hj hj).2
    have hO : Ord r := fun i hi => by
      have := (he (i + 1) hi (by omega)).2
      simp only [ordB] at this
      split at this
      · cases this
      · omega
    have hns : Sml (nums r) := by have := nums_len r; unfold Sml; omega
    have hsn : (nums r).Pairwise (· ≤ ·) := (nums_lt hO).imp fun h => Int.le_of_lt h
    have k1 : ¬ (n : Int) + 1 < r.length := by omega
    rw [hn]
    simp -implicitDefEqProofs [opS, k1, e]
    refine GO_ret mixed 1000 ?_
    simp -implicitDefEqProofs []
    by_cases c20 : 20 < (nums r).length
    · have c20' : (20 : Int) < (nums r).length := by omega
      simp -implicitDefEqProofs [c20', openA_no (r := r) (by simp [listedB]; omega)]
    have c20' : ¬ (20 : Int) < (nums r).length := by omega
    have pu : ((nums r).map ia).all (fun x => x.all AV.pure) = true := by simp [ia, AV.pure]
    have pw : (r.map isa).all (fun x => x.all AV.pure) = true := by simp [isa, AV.pure]
    simp -implicitDefEqProofs [c20']
    refine AR_for (opT r) (fun i => ∀ j (h : j < r.length), j < i → ItsIn r r[j]) r.length (Weak.trans (Weak.frz newK _ (fun k hk => by simp [newK]; omega)) ?_) (by simp) ?_ ?_
    · simp only [opT, bkA, frzSt]
      refine Weak.sub (by simp [lk, keptA, AV.keys, frzSt, newK, frzA, frz, snapF, snapL, St.get, pu, pw]) (by simp) (by simp [newK])
    · intro i hi hc
      refine GO_AR mixed 1000 ?_
      have w1 : IntKind.i64.wrap ((i : Int) + 1) = ((i + 1 : Nat) : Int) := wrapI (by omega) (by omega)
      have hx := h.1.2 r[i] (List.getElem_mem hi)
      simp -implicitDefEqProofs [opT, hi, isa]
      (first | refine CallK.of (containsT_pc 103 [.vptr [bkA r (nums r)] 0] (fun y => !decide (y.1 ∈ nums r)) r[i].its (by simp [AV.pure]) hx.1 (fun y _ => openC_pc r (nums r) y hsn hns)) (by simp) ?_ | refine CallD.of (containsT_pc 103 [.vptr [bkA r (nums r)] 0] (fun y => !decide (y.1 ∈ nums r)) r[i].its (by simp [AV.pure]) hx.1 (fun y _ => openC_pc r (nums r) y hsn hns)) (by simp) ?_)
      cases q : r[i].its.any fun y => !decide (y.1 ∈ nums r)
      · simp -implicitDefEqProofs [w1]
        refine ⟨(by (first | exact Weak.tm (by simp [lk, opT]) | exact Weak.sub (by simp [lk, keptA, AV.keys, opT]) (by simp [lk, keptO, keptA, AV.keys, opT]))), fun j q1 q2 => ?_⟩
        by_cases e2 : j = i
        · subst e2
          intro y hy
          have := List.any_eq_false.1 q y hy
          simpa using this
        · exact hc j q1 (by omega)
      · simp -implicitDefEqProofs []
        refine GO_ret mixed 1000 ?_
        obtain ⟨y, hy, hy2⟩ := List.any_eq_true.1 q
        obtain ⟨k, hk, rfl⟩ := List.getElem_of_mem hy
        simp -implicitDefEqProofs [openA_no (listed_no3 hi hk (by simpa using hy2))]
    · intro hc
      refine GO_AR mixed 1000 ?_
      have g3 : inB r = true := List.all_eq_true.2 fun x hx => by
        obtain ⟨j, hj, rfl⟩ := List.getElem_of_mem hx
        exact List.all_eq_true.2 fun y hy => decide_eq_true (hc j hj hj y hy)
      have hL : listedB r = true := by
        simp only [listedB, q1, g1, g2, g3, Bool.true_and, Bool.and_true, decide_eq_true_eq]; omega
      simp -implicitDefEqProofs [opT]
      refine GO_ret mixed 1000 ?_
      simp -implicitDefEqProofs []
      (first | refine CallK.of (depths_pc r h hO (by omega)) (by simp) ?_ | refine CallD.of (depths_pc r h hO (by omega)) (by simp) ?_)
      simp -implicitDefEqProofs []
      by_cases c21 : 0 < (dRun r (nums r).length).2.length
      · have v : openA r = .tup [.nilp, .int .i64 21] := by simp [openA, openV, hL, c21]
        simp -implicitDefEqProofs [c21, v]
      simp -implicitDefEqProofs [c21]
      refine AR_opn (kvs := (dRun r (nums r).length).1) rfl (by simp [opnT, St.tmp, lk]) ?_ ?_
      · intro h6
        refine GO_ret mixed 1000 ?_
        have n6 : ¬ ∃ p ∈ (dRun r (nums r).length).1, 6 < p.2 := fun ⟨p, hp, hp6⟩ => by have := h6 p hp; omega
        have v : openA r = .tup [bkA r (nums r), .int .i64 0] := by
          unfold openA openV
          rw [if_pos hL, if_neg c21, if_neg n6]; simp
        simp -implicitDefEqProofs [v, bkA]
      · intro h6
        refine GO_AR mixed 1000 ?_
        have v : openA r = .tup [.nilp, .int .i64 20] := by
          unfold openA openV
          rw [if_pos hL, if_neg c21, if_pos h6]; simp
        simp -implicitDefEqProofs [opnRet, v]
        refine GO_ret mixed 1000 ?_
        simp -implicitDefEqProofs []
end
end Go.Proofs.YtdpmioiamcgfkaaDoor

/-! What the program's exported functions on registers compute: Check, Drawings, Last, At, Depth. -/
namespace Go.Proofs.YtdpmioiamcgfkaaDoor
open Go.RowKit

theorem open_listed {r : List Iss} (h : openV r = 0) : listedB r = true := by
  unfold openV at h
  split at h
  · assumption
  · cases h
theorem listed_20 {r : List Iss} (h : listedB r = true) : (nums r).length ≤ 20 := by
  simp only [listedB, Bool.and_eq_true, decide_eq_true_eq] at h; exact h.2
theorem listed_60 {r : List Iss} (h : listedB r = true) : 1 ≤ r.length ∧ r.length ≤ 60 := by
  simp only [listedB, Bool.and_eq_true, decide_eq_true_eq, inR] at h; have := h.1.1.1.1; omega
theorem listed_iss {r : List Iss} (h : listedB r = true) {x : Iss} (hx : x ∈ r) : issB x = true := by
  simp only [listedB, Bool.and_eq_true] at h; exact List.all_eq_true.1 h.1.1.1.2 x hx
theorem listed_ord {r : List Iss} (h : listedB r = true) {i : Nat} (hi : i < r.length) : ordB r i = true := by
  simp only [listedB, Bool.and_eq_true] at h; exact range_all.1 h.1.1.2 i hi
theorem listed_in {r : List Iss} (h : listedB r = true) {x : Iss} (hx : x ∈ r) : ItsIn r x := fun y hy => by
  simp only [listedB, Bool.and_eq_true, inB] at h
  exact of_decide_eq_true (List.all_eq_true.1 (List.all_eq_true.1 h.1.2 x hx) y hy)
theorem nums_sml {r : List Iss} (h : Sml r) : Sml (nums r) := by have := nums_len r; unfold Sml at *; omega
theorem nums_le {r : List Iss} (h : Ord r) : (nums r).Pairwise (· ≤ ·) := (nums_lt h).imp fun h => Int.le_of_lt h
theorem ord_map {r : List Iss} (hO : Ord r) : (r.map (·.d)).Pairwise (· ≤ ·) := by
  rw [List.pairwise_map, List.pairwise_iff_getElem]
  intro i j hi hj hij
  have := hO.mono (Nat.le_of_lt hij) hj
  rwa [at_eq hi, at_eq hj] at this

/-- One issue lies behind another. -/
def Lx (x y : Iss) : Prop := x.d < y.d ∨ (x.d = y.d ∧ x.l < y.l)
theorem lex_at {r : List Iss} (h : listedB r = true) : ∀ {i j : Nat}, i < j → j < r.length → Lx (at' r i) (at' r j) := by
  intro i j hij hj
  induction j with
  | zero => omega
  | succ j ih =>
    have step : Lx (at' r j) (at' r (j + 1)) := by
      have := listed_ord h hj
      simp only [ordB] at this
      split at this
      · cases this
      · split at this
        · rename_i h2; exact .inl h2
        · simp only [Bool.and_eq_true, decide_eq_true_eq] at this
          exact .inr ⟨by omega, by omega⟩
    by_cases e : i = j
    · subst e; exact step
    · have := ih (by omega) (by omega)
      unfold Lx at *
      omega
theorem find_own {r : List Iss} (h : listedB r = true) : ∀ y ∈ r, findN y.d y.l r = some y := fun y hy => by
  obtain ⟨i, hi, rfl⟩ := List.getElem_of_mem hy
  refine findN_at hi rfl rfl fun j hj hij => ?_
  have := lex_at h hij hi
  rw [at_eq hj, at_eq hi] at this
  unfold Lx at this
  omega

/-- The error that a register has, or that a drawing is not in it. -/
def knV (r : List Iss) (n : Int) : Int := if openV r = 0 then if n ∈ nums r then 0 else 6 else openV r

section
variable {G : Nat → Option (List AV)}

theorem known_pc (hG : GC G) (r : List Iss) (n : Int) (h : Wf r) : PC Tryd.prog G 68 [rega r, .int .i64 n] (.tup [if knV r n = 0 then bkA r (nums r) else .nilp, .int .i64 (knV r n)]) := by
  (refine pc_sheet_known (Nat.le_of_ble_eq_true rfl) fun R hG hrd => GO_AR mixed 1000 ?_; subst hG)
  simp -implicitDefEqProofs [rc_sheet_known, rr_sheet_known, rega]
  (first | refine CallK.of (open_pc hG r h) (by simp) ?_ | refine CallD.of (open_pc hG r h) (by simp) ?_)
  by_cases e : openV r = 0
  · have hL := open_listed e
    have hO := ord_of hL
    simp -implicitDefEqProofs [openA, e]
    (first | refine CallK.of (has_pc r (nums r) n (nums_le hO) (nums_sml h.1.1)) (by simp) ?_ | refine CallD.of (has_pc r (nums r) n (nums_le hO) (nums_sml h.1.1)) (by simp) ?_)
    by_cases e2 : n ∈ nums r
    · simp -implicitDefEqProofs [knV, e, e2, bkA]
    · simp -implicitDefEqProofs [knV, e, e2]
  · simp -implicitDefEqProofs [openA, e, knV]

theorem checkP_pc (hG : GC G) (r : List Iss) (h : Wf r) : PC Tryd.prog G 24 [rega r] (.int .i64 (openV r)) := by
  (refine pc_sheet_Check (Nat.le_of_ble_eq_true rfl) fun R hG hrd => GO_AR mixed 1000 ?_; subst hG)
  simp -implicitDefEqProofs [rc_sheet_Check, rr_sheet_Check, rega]
  (first | refine CallK.of (open_pc hG r h) (by simp) ?_ | refine CallD.of (open_pc hG r h) (by simp) ?_)
  simp -implicitDefEqProofs [openA]

theorem drawP_pc (hG : GC G) (r : List Iss) (h : Wf r) : PC Tryd.prog G 20 [rega r] (.tup [.vsl ((if openV r = 0 then nums r else []).map ia), .int .i64 (openV r)]) := by
  by_cases e : openV r = 0
  · (refine pc_sheet_Drawings (Nat.le_of_ble_eq_true rfl) fun R hG hrd => GO_AR mixed 1000 ?_; subst hG)
    simp -implicitDefEqProofs [rc_sheet_Drawings, rr_sheet_Drawings, rega]
    (first | refine CallK.of (open_pc hG r h) (by simp) ?_ | refine CallD.of (open_pc hG r h) (by simp) ?_)
    simp -implicitDefEqProofs [openA, e, bkA]
  · refine PC.nzR (v := .tup [.nils, .int .i64 (openV r)]) ?_ (by simp [nz, e])
    (refine pc_sheet_Drawings (Nat.le_of_ble_eq_true rfl) fun R hG hrd => GO_AR mixed 1000 ?_; subst hG)
    simp -implicitDefEqProofs [rc_sheet_Drawings, rr_sheet_Drawings, rega]
    (first | refine CallK.of (open_pc hG r h) (by simp) ?_ | refine CallD.of (open_pc hG r h) (by simp) ?_)
    simp -implicitDefEqProofs [openA, e]

theorem lastP_pc (hG : GC G) (r : List Iss) (n : Int) (h : Wf r) : PC Tryd.prog G 22 [rega r, .int .i64 n] (.tup [.int .i64 (if knV r n = 0 then cntV r n else 0), .int .i64 (knV r n)]) := by
  (refine pc_sheet_Last (Nat.le_of_ble_eq_true rfl) fun R hG hrd => GO_AR mixed 1000 ?_; subst hG)
  simp -implicitDefEqProofs [rc_sheet_Last, rr_sheet_Last, rega]
  (first | refine CallK.of (known_pc hG r n h) (by simp) ?_ | refine CallD.of (known_pc hG r n h) (by simp) ?_)
  by_cases e : knV r n = 0
  · have e1 : openV r = 0 := by
      unfold knV at e
      split at e
      · assumption
      · exact e
    have hO := ord_of (open_listed e1)
    simp -implicitDefEqProofs [e]
    (first | refine CallK.of (last_pc r (nums r) n (ord_map hO) h.1.1) (by simp) ?_ | refine CallD.of (last_pc r (nums r) n (ord_map hO) h.1.1) (by simp) ?_)
    simp -implicitDefEqProofs []
  · simp -implicitDefEqProofs [e]

theorem depthP_pc (hG : GC G) (r : List Iss) (n : Int) (h : Wf r) : PC Tryd.prog G 29 [rega r, .int .i64 n] (.tup [.int .i64 (if knV r n = 0 then dpG (dRun r (nums r).length).1 n else 0), .int .i64 (knV r n)]) := by
  (refine pc_sheet_Depth (Nat.le_of_ble_eq_true rfl) fun R hG hrd => GO_AR mixed 1000 ?_; subst hG)
  simp -implicitDefEqProofs [rc_sheet_Depth, rr_sheet_Depth, rega]
  (first | refine CallK.of (known_pc hG r n h) (by simp) ?_ | refine CallD.of (known_pc hG r n h) (by simp) ?_)
  by_cases e : knV r n = 0
  · have e1 : openV r = 0 := by
      unfold knV at e
      split at e
      · assumption
      · exact e
    have hL := open_listed e1
    simp -implicitDefEqProofs [e]
    (first | refine CallK.of (depths_pc r h (ord_of hL) (listed_20 hL)) (by simp) ?_ | refine CallD.of (depths_pc r h (ord_of hL) (listed_20 hL)) (by simp) ?_)
    simp -implicitDefEqProofs [get_dp, dpG]
    cases q : dpLk n (dRun r (nums r).length).1 <;> simp -implicitDefEqProofs [q]
  · simp -implicitDefEqProofs [e]

/-- What At returns. -/
def atP (r : List Iss) (d l : Int) : Iss × Int := if openV r = 0 then match findN d l r with
    | some x => (x, 0)
    | none => (zI, 6)
  else (zI, openV r)
end
end Go.Proofs.YtdpmioiamcgfkaaDoor

/-! The plain law: what the program tells of a register is what the reference tells. -/
namespace Go.Proofs.YtdpmioiamcgfkaaDoor
open Go.RowKit

/-- The numbers of all items of a list of issues. -/
def chL (l : List Iss) : List Int := l.flatMap fun x => x.its.map (·.1)
theorem chL_cons (x : Iss) (l : List Iss) : chL (x :: l) = x.its.map (·.1) ++ chL l := rfl
def C (r : List Iss) (n : Int) : List Int := chL (issOf r n)

/-! ### The reference's rounds. -/
def dvL (f : Int → Int) (m : Int) (l : List Iss) : Int := l.foldl (fun m x => dvIt f (max m 1) x.its) m
theorem dvN_eq (r : List Iss) (f : Int → Int) (n : Int) : ∀ i, i ≤ r.length → dvN r f n i = dvL f 0 (issOf (r.take i) n)
  | 0, _ => by simp [dvN, issOf, dvL]
  | i + 1, hi => by
    have hlt : i < r.length := by omega
    have ih := dvN_eq r f n i (by omega)
    rw [List.take_succ_eq_append_getElem hlt, issOf, List.filter_append, dvN, at_eq hlt]
    by_cases e : r[i].d = n
    · rw [if_pos e, ih, List.filter_cons_of_pos (by simpa using e), dvL, dvL, List.foldl_append]; rfl
    · rw [if_neg e, ih, List.filter_cons_of_neg (by simpa using e), List.filter_nil, List.append_nil]; rfl
theorem dvIt_spec (f : Int → Int) : ∀ (its : List (Int × Int)) (m : Int), m ≤ dvIt f m its ∧ (∀ y ∈ its, 1 + f y.1 ≤ dvIt f m its) ∧ (dvIt f m its = m ∨ ∃ y ∈ its, dvIt f m its = 1 + f y.1)
  | [], m => ⟨Int.le_refl _, by simp, .inl rfl⟩
  | y :: its, m => by
    obtain ⟨h1, h2, h3⟩ := dvIt_spec f its (max m (1 + f y.1))
    have e : dvIt f m (y :: its) = dvIt f (max m (1 + f y.1)) its := rfl
    rw [e]
    refine ⟨by omega, fun z hz => ?_, ?_⟩
    · rcases List.mem_cons.1 hz with rfl | hz
      · omega
      · exact h2 z hz
    · rcases h3 with h3 | ⟨z, hz, h3⟩
      · rcases Int.le_total m (1 + f y.1) with hm | hm
        · exact .inr ⟨y, List.mem_cons_self .., by omega⟩
        · exact .inl (by omega)
      · exact .inr ⟨z, List.mem_cons_of_mem _ hz, h3⟩
theorem dvL_spec (f : Int → Int) : ∀ (l : List Iss) (m : Int), m ≤ dvL f m l ∧ (l ≠ [] → 1 ≤ dvL f m l) ∧ (∀ c ∈ chL l, 1 + f c ≤ dvL f m l) ∧ (dvL f m l = m ∨ dvL f m l = 1 ∨ ∃ c ∈ chL l, dvL f m l = 1 + f c)
  | [], m => ⟨Int.le_refl _, by simp, by simp [chL], .inl rfl⟩
  | x :: l, m => by
    obtain ⟨h1, h2, h3⟩ := dvIt_spec f x.its (max m 1)
    obtain ⟨g1, g2, g3, g4⟩ := dvL_spec f l (dvIt f (max m 1) x.its)
    have e : dvL f m (x :: l) = dvL f (dvIt f (max m 1) x.its) l := rfl
    rw [e]
    have q1 : m ≤ max m 1 := Int.le_max_left ..
    have q2 : 1 ≤ max m 1 := Int.le_max_right ..
    refine ⟨Int.le_trans q1 (Int.le_trans h1 g1), fun _ => Int.le_trans q2 (Int.le_trans h1 g1), fun c hc => ?_, ?_⟩
    · rw [chL_cons] at hc
      rcases List.mem_append.1 hc with hc | hc
      · obtain ⟨y, hy, rfl⟩ := List.mem_map.1 hc
        exact Int.le_trans (h2 y hy) g1
      · exact g3 c hc
    · rcases g4 with g4 | g4 | ⟨c, hc, g4⟩
      · rcases h3 with h3 | ⟨y, hy, h3⟩
        · rcases Int.le_total m 1 with hm | hm
          · exact .inr (.inl (by omega))
          · exact .inl (by omega)
        · exact .inr (.inr ⟨y.1, by rw [chL_cons]; exact List.mem_append.2 (.inl (List.mem_map.2 ⟨y, hy, rfl⟩)), by omega⟩)
      · exact .inr (.inl g4)
      · exact .inr (.inr ⟨c, by rw [chL_cons]; exact List.mem_append.2 (.inr hc), g4⟩)

section
variable {r : List Iss}

theorem issOf_ne (hO : Ord r) {n : Int} (hn : n ∈ nums r) : issOf r n ≠ [] := by
  obtain ⟨i, hi, rfl⟩ := nums_of hO hn
  exact List.ne_nil_of_mem (a := r[i]) (List.mem_filter.2 ⟨List.getElem_mem hi, by simp⟩)
theorem Dv_eq (r : List Iss) (k : Nat) (n : Int) : Dv r (k + 1) n = dvL (Dv r k) 0 (issOf r n) := by
  rw [Dv, dvN_eq r _ n _ (Nat.le_refl _), List.take_length]
theorem Dv_ch (k : Nat) (n : Int) {c : Int} (hc : c ∈ C r n) : 1 + Dv r k c ≤ Dv r (k + 1) n := by
  rw [Dv_eq]; exact (dvL_spec _ _ _).2.2.1 c hc
theorem Dv_one (hO : Ord r) (k : Nat) {n : Int} (hn : n ∈ nums r) : 1 ≤ Dv r (k + 1) n := by
  rw [Dv_eq]; exact (dvL_spec _ _ _).2.1 (issOf_ne hO hn)
theorem Dv_or (hO : Ord r) (k : Nat) {n : Int} (hn : n ∈ nums r) : Dv r (k + 1) n = 1 ∨ ∃ c ∈ C r n, Dv r (k + 1) n = 1 + Dv r k c := by
  have h1 := Dv_one hO k hn
  rw [Dv_eq] at *
  rcases (dvL_spec (Dv r k) (issOf r n) 0).2.2.2 with h | h | h
  · omega
  · exact .inl h
  · exact .inr h
theorem C_in (hin : ∀ x ∈ r, ItsIn r x) {n c : Int} (hc : c ∈ C r n) : c ∈ nums r := by
  obtain ⟨x, hx, hc⟩ := List.mem_flatMap.1 hc
  obtain ⟨y, hy, rfl⟩ := List.mem_map.1 hc
  exact hin x (List.mem_filter.1 hx).1 y hy

/-! ### The program's passes. -/
theorem rdIt_iff (lf : List Int) : ∀ (its : List (Int × Int)) (b : Bool), rdIt lf b its = true ↔ b = true ∧ ∀ y ∈ its, y.1 ∉ lf
  | [], b => by simp [rdIt]
  | y :: its, b => by
    have e : rdIt lf b (y :: its) = rdIt lf (b && !decide (y.1 ∈ lf)) its := rfl
    rw [e, rdIt_iff lf its]
    simp [and_assoc]
theorem rdN_iff (lf : List Int) : ∀ (l : List Iss) (b : Bool), rdN lf b l = true ↔ b = true ∧ ∀ c ∈ chL l, c ∉ lf
  | [], b => by simp [rdN, chL]
  | x :: l, b => by
    have e : rdN lf b (x :: l) = rdN lf (rdIt lf b x.its) l := rfl
    rw [e, rdN_iff lf l, rdIt_iff, chL_cons]
    simp only [List.mem_append, List.mem_map]
    constructor
    · rintro ⟨⟨h1, h2⟩, h3⟩
      refine ⟨h1, fun c hc => ?_⟩
      rcases hc with ⟨y, hy, rfl⟩ | hc
      · exact h2 y hy
      · exact h3 c hc
    · rintro ⟨h1, h2⟩
      exact ⟨⟨h1, fun y hy => h2 _ (.inl ⟨y, hy, rfl⟩)⟩, fun c hc => h2 c (.inr hc)⟩
theorem msIt_spec (dp : List (Int × Int)) : ∀ (its : List (Int × Int)) (m : Int), m ≤ msIt dp m its ∧ (∀ y ∈ its, dpG dp y.1 ≤ msIt dp m its) ∧ (msIt dp m its = m ∨ ∃ y ∈ its, msIt dp m its = dpG dp y.1)
  | [], m => ⟨Int.le_refl _, by simp, .inl rfl⟩
  | y :: its, m => by
    obtain ⟨h1, h2, h3⟩ := msIt_spec dp its (max m (dpG dp y.1))
    have e : msIt dp m (y :: its) = msIt dp (max m (dpG dp y.1)) its := rfl
    rw [e]
    refine ⟨by omega, fun z hz => ?_, ?_⟩
    · rcases List.mem_cons.1 hz with rfl | hz
      · omega
      · exact h2 z hz
    · rcases h3 with h3 | ⟨z, hz, h3⟩
      · rcases Int.le_total m (dpG dp y.1) with hm | hm
        · exact .inr ⟨y, List.mem_cons_self .., by omega⟩
        · exact .inl (by omega)
      · exact .inr ⟨z, List.mem_cons_of_mem _ hz, h3⟩
theorem msN_spec (dp : List (Int × Int)) : ∀ (l : List Iss) (m : Int), m ≤ msN dp m l ∧ (∀ c ∈ chL l, dpG dp c ≤ msN dp m l) ∧ (msN dp m l = m ∨ ∃ c ∈ chL l, msN dp m l = dpG dp c)
  | [], m => ⟨Int.le_refl _, by simp [chL], .inl rfl⟩
  | x :: l, m => by
    obtain ⟨h1, h2, h3⟩ := msIt_spec dp x.its m
    obtain ⟨g1, g2, g3⟩ := msN_spec dp l (msIt dp m x.its)
    have e : msN dp m (x :: l) = msN dp (msIt dp m x.its) l := rfl
    rw [e]
    refine ⟨by omega, fun c hc => ?_, ?_⟩
    · rw [chL_cons] at hc
      rcases List.mem_append.1 hc with hc | hc
      · obtain ⟨y, hy, rfl⟩ := List.mem_map.1 hc
        have := h2 y hy; omega
      · exact g2 c hc
    · rcases g3 with g3 | ⟨c, hc, g3⟩
      · rcases h3 with h3 | ⟨y, hy, h3⟩
        · exact .inl (by omega)
        · exact .inr ⟨y.1, by rw [chL_cons]; exact List.mem_append.2 (.inl (List.mem_map.2 ⟨y, hy, rfl⟩)), by omega⟩
      · exact .inr ⟨c, by rw [chL_cons]; exact List.mem_append.2 (.inr hc), g3⟩

theorem dpLk_some {n : Int} : ∀ {dp : List (Int × Int)}, n ∈ dp.map (·.1) → ∃ v, dpLk n dp = some v
  | [], h => by simp at h
  | p :: dp, h => by
    simp only [dpLk]
    split
    · exact ⟨_, rfl⟩
    · rename_i e
      simp only [List.map_cons, List.mem_cons] at h
      exact dpLk_some (h.resolve_left fun e2 => e (by rw [e2]))

/-- What is reached has its depth, in all later rounds of the reference. -/
def AInv (r : List Iss) (s : List (Int × Int) × List Int) : Prop := ∀ p ∈ s.1, ∀ j : Nat, p.2 ≤ j → Dv r j p.1 = p.2
theorem AInv.step (hO : Ord r) (hin : ∀ x ∈ r, ItsIn r x) {s : List (Int × Int) × List Int} (hd : DInv r s) (h : AInv r s) {n : Int} (hn : n ∈ nums r) : AInv r (dStep r s n) := by
  unfold dStep
  split
  · rename_i hb
    obtain ⟨h1, h2⟩ := (rdN_iff _ _ _).1 hb
    have kids : ∀ c ∈ C r n, (c, dpG s.1 c) ∈ s.1 := fun c hc => by
      have hc1 : c ∈ s.1.map (·.1) ++ s.2 := hd.perm.mem_iff.2 (C_in hin hc)
      have hc2 : c ∈ s.1.map (·.1) := (List.mem_append.1 hc1).resolve_right (h2 c hc)
      obtain ⟨v, hv⟩ := dpLk_some hc2
      have := dpLk_mem hv
      rwa [show dpG s.1 c = v by simp [dpG, hv]]
    obtain ⟨m1, m2, m3⟩ := msN_spec s.1 (issOf r n) 0
    intro p hp j hj
    rcases List.mem_append.1 hp with hp | hp
    · exact h p hp j hj
    · simp only [List.mem_singleton] at hp
      subst hp
      simp only at hj ⊢
      obtain ⟨j, rfl⟩ : ∃ j', j = j' + 1 := ⟨j - 1, by omega⟩
      have same : ∀ c ∈ C r n, Dv r j c = dpG s.1 c := fun c hc => by
        have := m2 c hc
        exact h _ (kids c hc) j (by simp only; omega)
      have o1 := Dv_one hO j hn
      apply Int.le_antisymm
      · rcases Dv_or hO j hn with e | ⟨c, hc, e⟩
        · omega
        · have := m2 c hc; have := same c hc; omega
      · rcases m3 with e | ⟨c, hc, e⟩
        · omega
        · have := Dv_ch (r := r) j n hc; have := same c hc; omega
  · exact h
theorem AInv.fold (hO : Ord r) (hin : ∀ x ∈ r, ItsIn r x) : ∀ (l : List Int) {s : List (Int × Int) × List Int}, (∀ n ∈ l, n ∈ nums r) → DInv r s → AInv r s → AInv r (l.foldl (dStep r) s)
  | [], s, _, _, h => h
  | n :: l, s, hl, hd, h => AInv.fold hO hin l (fun m hm => hl m (List.mem_cons_of_mem _ hm)) (hd.step n) (h.step hO hin hd (hl n (List.mem_cons_self ..)))
theorem AInv.run (hO : Ord r) (hin : ∀ x ∈ r, ItsIn r x) : ∀ k, AInv r (dRun r k)
  | 0 => by intro p hp; simp [dRun] at hp
  | k + 1 => AInv.fold hO hin (nums r) (fun _ h => h) (DInv.run r k) (AInv.run hO hin k)

/-- Nothing more is reached. -/
def Stuck (r : List Iss) (L : List Int) : Prop := ∀ n ∈ L, ∃ c ∈ C r n, c ∈ L
theorem step_not {s : List (Int × Int) × List Int} {n : Int} (h : ¬ rdN s.2 (decide (n ∈ s.2)) (issOf r n) = true) : dStep r s n = s ∧ (n ∈ s.2 → ∃ c ∈ C r n, c ∈ s.2) := by
  refine ⟨by unfold dStep; rw [if_neg h], fun hn => ?_⟩
  rw [rdN_iff] at h
  by_cases e : ∃ c ∈ C r n, c ∈ s.2
  · exact e
  · exact absurd ⟨decide_eq_true hn, fun c hc h2 => e ⟨c, hc, h2⟩⟩ h
theorem step_len (s : List (Int × Int) × List Int) (n : Int) : (dStep r s n).2.length ≤ s.2.length := by
  unfold dStep
  split
  · exact List.length_erase_le
  · exact Nat.le_refl _
theorem fold_len : ∀ (l : List Int) (s : List (Int × Int) × List Int), (l.foldl (dStep r) s).2.length ≤ s.2.length
  | [], s => Nat.le_refl _
  | n :: l, s => Nat.le_trans (fold_len l _) (step_len s n)
theorem fold_dec : ∀ (l : List Int) (s : List (Int × Int) × List Int), (l.foldl (dStep r) s).2.length < s.2.length ∨ (l.foldl (dStep r) s = s ∧ ∀ n ∈ l, n ∈ s.2 → ∃ c ∈ C r n, c ∈ s.2)
  | [], s => .inr ⟨rfl, by simp⟩
  | n :: l, s => by
    by_cases e : rdN s.2 (decide (n ∈ s.2)) (issOf r n) = true
    · refine .inl (Nat.lt_of_le_of_lt (fold_len l _) ?_)
      have hm := rdN_mem e
      unfold dStep
      rw [if_pos e]
      have := List.length_erase_of_mem hm
      have := List.length_pos_of_mem hm
      simp only; omega
    · obtain ⟨h1, h2⟩ := step_not e
      rw [List.foldl_cons, h1]
      rcases fold_dec l s with h | ⟨h3, h4⟩
      · exact .inl h
      · refine .inr ⟨h3, fun m hm => ?_⟩
        rcases List.mem_cons.1 hm with rfl | hm
        · exact h2
        · exact h4 m hm
theorem fold_stuck : ∀ (l : List Int) {s : List (Int × Int) × List Int}, Stuck r s.2 → l.foldl (dStep r) s = s
  | [], s, _ => rfl
  | n :: l, s, h => by
    have : ¬ rdN s.2 (decide (n ∈ s.2)) (issOf r n) = true := fun e => by
      have hm := rdN_mem e
      obtain ⟨c, hc, h2⟩ := h n hm
      exact ((rdN_iff _ _ _).1 e).2 c hc h2
    rw [List.foldl_cons, (step_not this).1]
    exact fold_stuck l h
theorem run_or (r : List Iss) : ∀ k, (dRun r k).2.length + k ≤ (nums r).length ∨ Stuck r (dRun r k).2
  | 0 => .inl (by simp [dRun])
  | k + 1 => by
    have hsub : ∀ n ∈ (dRun r k).2, n ∈ nums r := fun n hn => (DInv.run r k).perm.mem_iff.1 (List.mem_append.2 (.inr hn))
    rcases run_or r k with h | h
    · rcases fold_dec (r := r) (nums r) (dRun r k) with h2 | ⟨h2, h3⟩
      · exact .inl (by simp only [dRun, dPass]; omega)
      · refine .inr ?_
        simp only [dRun, dPass]
        rw [h2]
        exact fun n hn => h3 n (hsub n hn) hn
    · refine .inr ?_
      simp only [dRun, dPass]
      rw [fold_stuck (nums r) h]; exact h
theorem stuck_Dv {L : List Int} (h : Stuck r L) : ∀ (k : Nat) (n : Int), n ∈ L → (k : Int) ≤ Dv r k n
  | 0, n, _ => by simp [Dv]
  | k + 1, n, hn => by
    obtain ⟨c, hc, h2⟩ := h n hn
    have := stuck_Dv h k c h2
    have := Dv_ch (r := r) k n hc
    omega

theorem most_lt (g : Int → Int) (K : Int) : ∀ (l : List Int) (m : Int), K < l.foldl (fun m n => max m (g n)) m ↔ K < m ∨ ∃ n ∈ l, K < g n
  | [], m => by simp
  | n :: l, m => by
    rw [List.foldl_cons, most_lt g K l]
    simp only [List.mem_cons, exists_eq_or_imp]
    rw [← or_assoc]
    refine or_congr_left ?_
    omega
theorem mostV_lt {l : List Int} {g : Int → Int} {K : Int} (hK : 0 ≤ K) : K < mostV l g ↔ ∃ n ∈ l, K < g n := by
  rw [mostV, most_lt]
  constructor
  · rintro (h | h)
    · omega
    · exact h
  · exact .inr

/-- Where no drawing is left, depths are the reference's. -/
theorem dp_Dv (hL : listedB r = true) (h : (dRun r (nums r).length).2.length = 0) {n : Int} (hn : n ∈ nums r) : (n, dpG (dRun r (nums r).length).1 n) ∈ (dRun r (nums r).length).1 ∧ Dv r ((nums r).length + 1) n = dpG (dRun r (nums r).length).1 n := by
  have hd := DInv.run r (nums r).length
  have h0 : (dRun r (nums r).length).2 = [] := List.length_eq_zero_iff.1 h
  have h1 : n ∈ (dRun r (nums r).length).1.map (·.1) := by
    have := hd.perm.mem_iff.2 hn
    rwa [h0, List.append_nil] at this
  obtain ⟨v, hv⟩ := dpLk_some h1
  have hm := dpLk_mem hv
  have e : dpG (dRun r (nums r).length).1 n = v := by simp [dpG, hv]
  rw [e]
  refine ⟨hm, ?_⟩
  have hb := hd.bd _ hm
  have hl := hd.len
  exact AInv.run (ord_of hL) (fun x hx => listed_in hL hx) _ _ hm _ (by simp only at hb ⊢; omega)

theorem open_chk (r : List Iss) : openV r = chkV r := by
  unfold openV chkV
  cases hL : listedB r
  · rfl
  · simp only [if_true]
    by_cases h : 0 < (dRun r (nums r).length).2.length
    · rw [if_pos h]
      have hs : Stuck r (dRun r (nums r).length).2 := (run_or r (nums r).length).resolve_left (by omega)
      obtain ⟨n, hn⟩ := List.exists_mem_of_length_pos h
      have hn2 : n ∈ nums r := (DInv.run r _).perm.mem_iff.1 (List.mem_append.2 (.inr hn))
      have := stuck_Dv hs ((nums r).length + 1) n hn
      rw [if_pos ((mostV_lt (by omega)).2 ⟨n, hn2, by omega⟩)]
    · rw [if_neg h]
      have h0 : (dRun r (nums r).length).2.length = 0 := by omega
      have hd := DInv.run r (nums r).length
      have hl := hd.len
      have e1 : (∃ p ∈ (dRun r (nums r).length).1, 6 < p.2) ↔ 6 < mostV (nums r) (Dv r ((nums r).length + 1)) := by
        rw [mostV_lt (by omega)]
        constructor
        · rintro ⟨p, hp, h6⟩
          have hn : p.1 ∈ nums r := hd.perm.mem_iff.1 (List.mem_append.2 (.inl (List.mem_map.2 ⟨p, hp, rfl⟩)))
          refine ⟨p.1, hn, ?_⟩
          have hb := hd.bd _ hp
          rw [AInv.run (ord_of hL) (fun x hx => listed_in hL hx) _ _ hp _ (by omega)]; exact h6
        · rintro ⟨n, hn, h6⟩
          obtain ⟨h1, h2⟩ := dp_Dv hL h0 hn
          rw [h2] at h6
          exact ⟨_, h1, h6⟩
      have e2 : ¬ ((nums r).length : Int) < mostV (nums r) (Dv r ((nums r).length + 1)) := by
        rw [mostV_lt (by omega)]
        rintro ⟨n, hn, h6⟩
        obtain ⟨h1, h2⟩ := dp_Dv hL h0 hn
        have := hd.bd _ h1
        rw [h2] at h6
        simp only at this
        omega
      rw [if_neg e2]
      by_cases c : 6 < mostV (nums r) (Dv r ((nums r).length + 1))
      · rw [if_pos c, if_pos (e1.2 c)]
      · rw [if_neg c, if_neg fun e => c (e1.1 e)]

theorem left_none {r : List Iss} (h : openV r = 0) : (dRun r (nums r).length).2.length = 0 := by
  unfold openV at h
  split at h
  · split at h
    · cases h
    · omega
  · cases h

/-! ### Letters. -/
theorem issOf_succ {i : Nat} (hi : i < r.length) (n : Int) : issOf (r.take (i + 1)) n = if r[i].d = n then issOf (r.take i) n ++ [r[i]] else issOf (r.take i) n := by
  rw [List.take_succ_eq_append_getElem hi, issOf, List.filter_append]
  split
  · rename_i e; rw [List.filter_cons_of_pos (by simpa using e)]; rfl
  · rename_i e; rw [List.filter_cons_of_neg (by simpa using e), List.filter_nil, List.append_nil]; rfl
theorem let_eq (hL : listedB r = true) : ∀ (i : Nat) (hi : i < r.length), r[i].l = ((issOf (r.take (i + 1)) r[i].d).length : Nat)
  | 0, hi => by
    have h0 := listed_ord hL hi
    simp only [ordB, decide_eq_true_eq, at_eq hi] at h0
    rw [h0, issOf_succ hi, if_pos rfl]; simp [issOf]
  | j + 1, hi => by
    have hj : j < r.length := by omega
    have h0 := listed_ord hL hi
    have ih := let_eq hL j hj
    have hO := ord_of hL
    rw [issOf_succ hi, if_pos rfl]
    simp only [ordB, at_eq hi, at_eq hj] at h0
    split at h0
    · cases h0
    · split at h0
      · rename_i h1 h2
        have e : issOf (r.take (j + 1)) r[j + 1].d = [] := by
          rw [issOf, List.filter_eq_nil_iff]
          intro x hx
          obtain ⟨k, hk, rfl⟩ := List.getElem_of_mem hx
          simp only [List.length_take] at hk
          have := hO.mono (i := k) (j := j) (by omega) hj
          rw [at_eq (show k < r.length by omega), at_eq hj] at this
          simp only [List.getElem_take, decide_eq_true_eq]
          omega
        rw [e]
        simpa using h0
      · rename_i h1 h2
        simp only [Bool.and_eq_true, decide_eq_true_eq] at h0
        have e : r[j + 1].d = r[j].d := by omega
        rw [e, h0.1, ih]
        simp
theorem lastN_eq (hL : listedB r = true) (n : Int) : ∀ i, i ≤ r.length → lastN r n i = ((issOf (r.take i) n).length : Nat)
  | 0, _ => by simp [lastN, issOf]
  | i + 1, hi => by
    have hlt : i < r.length := by omega
    have ih := lastN_eq hL n i (by omega)
    rw [lastN, at_eq hlt, issOf_succ hlt]
    split
    · rename_i e
      have := let_eq hL i hlt
      rw [e, issOf_succ hlt, if_pos e] at this
      rw [ih, this]
      simp only [List.length_append, List.length_cons, List.length_nil]
      omega
    · exact ih
theorem last_cnt (hL : listedB r = true) (n : Int) : lastV r n = cntV r n := by
  rw [lastV, lastN_eq hL n _ (Nat.le_refl _), List.take_length]; rfl
/-! ### What is told. -/
end
end Go.Proofs.YtdpmioiamcgfkaaDoor

/-! The reference's Twin, by the abstract machine. -/
namespace Go.Proofs.YtdpmioiamcgfkaaDoor
open Go.RowKit

def twR (r : List Iss) (i : Nat) : List (List AV) := (r.take i).map isa
theorem twR_len {r : List Iss} {i : Nat} (h : i ≤ r.length) : (twR r i).length = i := by simp [twR]; omega
theorem twR_succ {r : List Iss} {i : Nat} (h : i < r.length) : twR r (i + 1) = twR r i ++ [[.int .i64 r[i].d, .int .i64 r[i].l, .int .u8 r[i].k, .vsl (r[i].its.map ita), .vsl (r[i].dms.map dma)]] := by
  rw [twR, List.take_succ_eq_append_getElem h, List.map_append]; rfl
theorem twR_kept {r : List Iss} {i : Nat} (o : List (Nat × AObj)) : keptO o (.row 5 (twR r i)) = true := by
  simp only [keptO, List.all_eq_true, twR, List.mem_map]
  rintro x ⟨y, -, rfl⟩ v hv
  simp only [isa, List.mem_cons, List.not_mem_nil, or_false] at hv
  rcases hv with rfl | rfl | rfl | rfl | rfl <;> simp [keptA, AV.keys]
theorem twR_end (r : List Iss) : twR r r.length = r.map isa := by rw [twR, List.take_length]
section
variable {G : Nat → Option (List AV)}

end
end Go.Proofs.YtdpmioiamcgfkaaDoor

/-! Plain functions of parts and trees: letters, the issue that is taken, parts by counts, trees; and how the program's reckoning meets the reference's. -/
namespace Go.Proofs.YtdpmioiamcgfkaaDoor
open Go.RowKit

/-! ### Letters. -/
/-- The letter of a drawing. -/
def ltOf (r : List Iss) (lt : List Int) (n : Int) : Int := lt.getD ((nums r).idxOf n) 0
/-- The issue that is taken. -/
def tkV (r : List Iss) (lt : List Int) (n : Int) : Iss := (findN n (ltOf r lt n) r).getD zI
/-- The letters are right. -/
def ltB (r : List Iss) (lt : List Int) : Bool := decide (lt.length = (nums r).length) && (List.range (nums r).length).all fun i => inR (lt.getD i 0) 1 (lastV r ((nums r).getD i 0))
/-- The error of a register, letters, a drawing. -/
def askV (r : List Iss) (lt : List Int) (n : Int) : Int := if openV r ≠ 0 then openV r else if ltB r lt = false then 22 else if n ∈ nums r then 0 else 6

section
variable {r : List Iss}

theorem let_ex (hL : listedB r = true) (n : Int) : ∀ (i : Nat), i ≤ r.length → ∀ k : Nat, 1 ≤ k → k ≤ (issOf (r.take i) n).length → ∃ j, ∃ h : j < r.length, r[j].d = n ∧ r[j].l = k
  | 0, _, k, h1, h2 => by simp [issOf] at h2; omega
  | i + 1, hi, k, h1, h2 => by
    have hlt : i < r.length := by omega
    by_cases c : k ≤ (issOf (r.take i) n).length
    · exact let_ex hL n i (by omega) k h1 c
    · have hl := let_eq hL i hlt
      rw [issOf_succ hlt] at h2
      split at h2
      · rename_i e
        simp only [List.length_append, List.length_cons, List.length_nil] at h2
        refine ⟨i, hlt, e, ?_⟩
        rw [hl, e, issOf_succ hlt, if_pos e]
        simp only [List.length_append, List.length_cons, List.length_nil]
        omega
      · omega
theorem let_bd (hL : listedB r = true) {x : Iss} (hx : x ∈ r) : 1 ≤ x.l ∧ x.l ≤ cntV r x.d := by
  obtain ⟨i, hi, rfl⟩ := List.getElem_of_mem hx
  have h1 := let_eq hL i hi
  have h2 : (issOf (r.take (i + 1)) r[i].d).length ≤ (issOf r r[i].d).length := ((List.take_sublist (i + 1) r).filter _).length_le
  have h3 : 0 < (issOf (r.take (i + 1)) r[i].d).length := by rw [issOf_succ hi, if_pos rfl]; simp
  have h4 : cntV r r[i].d = ((issOf r r[i].d).length : Nat) := rfl
  omega
theorem find_mem (hL : listedB r = true) {x : Iss} (hx : x ∈ r) : findN x.d x.l r = some x := find_own hL x hx
/-- An issue is there just where its letter is from 1 to the last. -/
theorem find_iff (hL : listedB r = true) (n l : Int) : (findN n l r).isSome = true ↔ inR l 1 (lastV r n) = true := by
  rw [inR, decide_eq_true_eq, last_cnt hL]
  constructor
  · intro h
    obtain ⟨x, hx⟩ := Option.isSome_iff_exists.1 h
    obtain ⟨h1, rfl, rfl⟩ := findN_mem hx
    exact let_bd hL h1
  · rintro ⟨h1, h2⟩
    have h3 : cntV r n = ((issOf r n).length : Nat) := rfl
    obtain ⟨j, hj, rfl, e⟩ := let_ex hL n r.length (Nat.le_refl _) l.toNat (by omega) (by rw [List.take_length]; omega)
    have := find_mem hL (List.getElem_mem hj)
    rw [e, show ((l.toNat : Nat) : Int) = l by omega] at this
    rw [this]; rfl

theorem nums_idx {n : Int} (hn : n ∈ nums r) : (nums r).idxOf n < (nums r).length ∧ (nums r).getD ((nums r).idxOf n) 0 = n := by
  have h1 : (nums r).idxOf n < (nums r).length := List.idxOf_lt_length_iff.2 hn
  exact ⟨h1, by rw [List.getD_eq_getElem?_getD, List.getElem?_eq_getElem h1, List.getElem_idxOf h1]; rfl⟩
theorem tk_some (hL : listedB r = true) {lt : List Int} (h : ltB r lt = true) {n : Int} (hn : n ∈ nums r) : findN n (ltOf r lt n) r = some (tkV r lt n) := by
  simp only [ltB, Bool.and_eq_true, decide_eq_true_eq] at h
  obtain ⟨h1, h2⟩ := nums_idx hn
  have := range_all.1 h.2 _ h1
  rw [h2, ← find_iff hL] at this
  obtain ⟨x, hx⟩ := Option.isSome_iff_exists.1 this
  have e : findN n (ltOf r lt n) r = some x := hx
  rw [tkV, e]; rfl
theorem tk_mem (hL : listedB r = true) {lt : List Int} (h : ltB r lt = true) {n : Int} (hn : n ∈ nums r) : tkV r lt n ∈ r ∧ (tkV r lt n).d = n :=
  let ⟨h1, h2, _⟩ := findN_mem (tk_some hL h hn); ⟨h1, h2⟩
theorem tk_its (hL : listedB r = true) {lt : List Int} (h : ltB r lt = true) {n : Int} (hn : n ∈ nums r) : ∀ y ∈ (tkV r lt n).its, y.1 ∈ nums r := listed_in hL (tk_mem hL h hn).1
theorem iss_kind {x : Iss} (h : issB x = true) : 1 ≤ x.k ∧ x.k ≤ 3 ∧ x.its.length ≤ 8 ∧ (x.k ≠ 1 → x.its = []) := by
  simp only [issB, headB, Bool.and_eq_true, inR, decide_eq_true_eq] at h
  obtain ⟨⟨⟨⟨-, h1⟩, h2⟩, -⟩, -⟩ := h
  refine ⟨by omega, by omega, ?_, fun hk => ?_⟩
  · split at h2
    · simp only [Bool.and_eq_true, decide_eq_true_eq] at h2; omega
    · simp only [Bool.and_eq_true, decide_eq_true_eq] at h2; omega
  · rw [if_neg hk] at h2
    simp only [Bool.and_eq_true, decide_eq_true_eq] at h2
    exact List.length_eq_zero_iff.1 h2.2

/-! ### How deep a drawing is. -/
def dpN (r : List Iss) (n : Int) : Nat := (Dv r ((nums r).length + 1) n).toNat
theorem dpN_bd (ho : openV r = 0) {n : Int} (hn : n ∈ nums r) : 1 ≤ dpN r n ∧ dpN r n ≤ 6 := by
  have hL := open_listed ho
  have h0 := left_none ho
  obtain ⟨h1, h2⟩ := dp_Dv hL h0 hn
  have hb := (DInv.run r (nums r).length).bd _ h1
  have h6 : dpG (dRun r (nums r).length).1 n ≤ 6 := by
    unfold openV at ho
    rw [if_pos hL, if_neg (by omega)] at ho
    split at ho
    · cases ho
    · rename_i h3
      exact Int.not_lt.1 fun h4 => h3 ⟨_, h1, h4⟩
  unfold dpN
  rw [h2]
  simp only at hb
  omega
theorem dpN_lt (ho : openV r = 0) {n c : Int} (hn : n ∈ nums r) (hc : c ∈ C r n) : dpN r c < dpN r n := by
  have hL := open_listed ho
  have h0 := left_none ho
  have hcn : c ∈ nums r := C_in (fun x hx => listed_in hL hx) hc
  obtain ⟨h1, h2⟩ := dp_Dv hL h0 hcn
  have hd := DInv.run r (nums r).length
  have hb := hd.bd _ h1
  have hl := hd.len
  have e := AInv.run (ord_of hL) (fun x hx => listed_in hL hx) _ _ h1 (nums r).length (by simp only at hb ⊢; omega)
  have g1 := Dv_ch (r := r) (nums r).length n hc
  have g2 := (Dv_bd r ((nums r).length + 1) n).1
  have g3 := (Dv_bd r ((nums r).length + 1) c).1
  simp only at e
  unfold dpN
  omega
theorem its_C (hL : listedB r = true) {lt : List Int} (h : ltB r lt = true) {n : Int} (hn : n ∈ nums r) {y : Int × Int} (hy : y ∈ (tkV r lt n).its) : y.1 ∈ C r n := by
  obtain ⟨h1, h2⟩ := tk_mem hL h hn
  exact List.mem_flatMap.2 ⟨_, List.mem_filter.2 ⟨h1, by simpa using h2⟩, List.mem_map.2 ⟨y, hy, rfl⟩⟩
end

/-! ### Parts. -/
def addW (a b : Int) : Int := IntKind.i64.wrap (a + b)
def mulW (a b : Int) : Int := IntKind.i64.wrap (a * b)
/-- Parts by drawings, as the reference reckons. -/
def paV (T : Int → Iss) : Nat → Int → Int → (Int → Int) → (Int → Int)
  | 0, _, _, g => g
  | k + 1, d, m, g => if 1 < (T d).k then (fun n => if n = d then addW (g d) m else g n) else (T d).its.foldl (fun g y => paV T k y.1 (mulW m y.2) g) g
/-- The same, in a list of drawings and counts. -/
def mpG (l : List (Int × Int)) (n : Int) : Int := dpG l n
def mpPut (n v : Int) : List (Int × Int) → List (Int × Int)
  | [] => [(n, v)]
  | p :: l => if p.1 = n then (n, v) :: l else p :: mpPut n v l
def paM (T : Int → Iss) : Nat → Int → Int → List (Int × Int) → List (Int × Int)
  | 0, _, _, l => l
  | k + 1, d, m, l => (T d).its.foldl (fun l y => paM T k y.1 (mulW m y.2) l) (if (T d).k = 1 then l else mpPut d (addW (mpG l d) m) l)
theorem mpG_put (n v : Int) : ∀ (l : List (Int × Int)) (x : Int), mpG (mpPut n v l) x = if x = n then v else mpG l x
  | [], x => by
    simp only [mpPut, mpG, dpG, dpLk]
    by_cases e : x = n
    · rw [if_pos e, if_pos e]; rfl
    · rw [if_neg e, if_neg e]
  | p :: l, x => by
    have ih := mpG_put n v l x
    simp only [mpG, dpG] at ih ⊢
    simp only [mpPut]
    by_cases e : p.1 = n
    · rw [if_pos e]
      simp only [dpLk]
      by_cases e2 : x = n
      · rw [if_pos e2, if_pos e2]; rfl
      · rw [if_neg e2, if_neg e2, if_neg (by rw [e]; exact e2)]
    · rw [if_neg e]
      simp only [dpLk]
      by_cases e2 : x = p.1
      · rw [if_pos e2, if_pos e2, if_neg (by rintro rfl; exact e e2.symm)]
      · rw [if_neg e2, if_neg e2]; exact ih
theorem paM_eq {T : Int → Iss} {D : List Int} (hk : ∀ d ∈ D, 1 ≤ (T d).k ∧ ((T d).k ≠ 1 → (T d).its = [])) (hin : ∀ d ∈ D, ∀ y ∈ (T d).its, y.1 ∈ D) : ∀ (k : Nat) (d m : Int) (l : List (Int × Int)), d ∈ D → mpG (paM T k d m l) = paV T k d m (mpG l)
  | 0, d, m, l, _ => rfl
  | k + 1, d, m, l, hd => by
    obtain ⟨h1, h2⟩ := hk d hd
    simp only [paM, paV]
    by_cases e : (T d).k = 1
    · rw [if_pos e, if_neg (by omega)]
      have key : ∀ (its : List (Int × Int)) (l : List (Int × Int)), (∀ y ∈ its, y.1 ∈ D) → mpG (its.foldl (fun l y => paM T k y.1 (mulW m y.2) l) l) = its.foldl (fun g y => paV T k y.1 (mulW m y.2) g) (mpG l) := by
        intro its
        induction its with
        | nil => intro l _; rfl
        | cons y its ih =>
          intro l hy
          simp only [List.foldl_cons]
          rw [ih _ fun z hz => hy z (List.mem_cons_of_mem _ hz), paM_eq hk hin k y.1 _ l (hy y (List.mem_cons_self ..))]
      exact key _ l (hin d hd)
    · rw [if_neg e, if_pos (by omega), h2 e, List.foldl_nil]
      funext n
      rw [mpG_put]

/-- The parts, in order. -/
def ptN (l : List Int) (g : Int → Int) (i : Nat) : List (Int × Int) := ((l.take i).filter fun n => decide (0 < g n)).map fun n => (n, g n)
theorem ptN_succ {l : List Int} {g : Int → Int} {i : Nat} (h : i < l.length) : ptN l g (i + 1) = if 0 < g l[i] then ptN l g i ++ [(l[i], g l[i])] else ptN l g i := by
  rw [ptN, List.take_succ_eq_append_getElem h, List.filter_append, List.map_append]
  split
  · rename_i e; rw [List.filter_cons_of_pos (by simpa using e)]; rfl
  · rename_i e; rw [List.filter_cons_of_neg (by simpa using e), List.filter_nil, List.map_nil, List.append_nil]; rfl
theorem ptN_len (l : List Int) (g : Int → Int) (i : Nat) : (ptN l g i).length ≤ i := by
  simp only [ptN, List.length_map]
  exact Nat.le_trans (List.length_filter_le _ _) (by simp; omega)
def exV (r : List Iss) (lt : List Int) (n : Int) : List (Int × Int) × Int := if askV r lt n = 0 then (ptN (nums r) (paV (tkV r lt) 6 n 1 fun _ => 0) (nums r).length, 0) else ([], askV r lt n)
theorem ask_0 {r : List Iss} {lt : List Int} {n : Int} (h : askV r lt n = 0) : openV r = 0 ∧ ltB r lt = true ∧ n ∈ nums r := by
  unfold askV at h
  split at h
  · rename_i e; exact absurd h e
  · rename_i e
    split at h
    · cases h
    · rename_i e2
      split at h
      · rename_i e3; exact ⟨by simpa using e, by simpa using e2, e3⟩
      · cases h

/-! ### Trees. -/
structure Brn where
  dep : Int
  d : Int
  l : Int
  c : Int
  deriving DecidableEq, Inhabited
def bra (b : Brn) : List AV := [.int .i64 b.dep, .int .i64 b.d, .int .i64 b.l, .int .i64 b.c]
def trV (T : Int → Iss) : Nat → Int → Int → Int → List Brn
  | 0, _, _, _ => []
  | k + 1, dep, d, c => ⟨dep, d, (T d).l, c⟩ :: (T d).its.flatMap fun y => trV T k (dep + 1) y.1 y.2
def brN (T : Int → Iss) : Nat → Int → Nat
  | 0, _ => 0
  | k + 1, d => (T d).its.foldl (fun a y => a + brN T k y.1) 1
theorem trV_brN {T : Int → Iss} : ∀ (k : Nat) (dep d c : Int), (trV T k dep d c).length = brN T k d
  | 0, _, _, _ => rfl
  | k + 1, dep, d, c => by
    have key : ∀ (its : List (Int × Int)) (a : Nat), its.foldl (fun a y => a + brN T k y.1) a = a + (its.flatMap fun y => trV T k (dep + 1) y.1 y.2).length := by
      intro its
      induction its with
      | nil => intro a; simp
      | cons y its ih =>
        intro a
        rw [List.foldl_cons, ih, List.flatMap_cons, List.length_append, trV_brN k]
        omega
    rw [brN, key]
    simp only [trV, List.length_cons]
    omega
/-- The program stops where there are too many. -/
def grV (T : Int → Iss) : Nat → Int → Int → Int → List Brn → List Brn
  | 0, _, _, _, l => l
  | k + 1, dep, d, c, l => if 500 < l.length then l else (T d).its.foldl (fun l y => grV T k (dep + 1) y.1 y.2 l) (l ++ [⟨dep, d, (T d).l, c⟩])
theorem grV_501 {T : Int → Iss} : ∀ (k : Nat) (dep d c : Int) (l : List Brn), l.length ≤ 501 → (grV T k dep d c l).length ≤ 501
  | 0, _, _, _, _, h => h
  | k + 1, dep, d, c, l, h => by
    simp only [grV]
    split
    · exact h
    · have key : ∀ (its : List (Int × Int)) (l : List Brn), l.length ≤ 501 → (its.foldl (fun l y => grV T k (dep + 1) y.1 y.2 l) l).length ≤ 501 := by
        intro its
        induction its with
        | nil => intro l h; exact h
        | cons y its ih => intro l h; exact ih _ (grV_501 k _ _ _ _ h)
      exact key _ _ (by simp; omega)
theorem grV_eq {T : Int → Iss} : ∀ (k : Nat) (dep d c : Int) (l : List Brn), ((l ++ trV T k dep d c).length ≤ 500 → grV T k dep d c l = l ++ trV T k dep d c) ∧ (500 < (l ++ trV T k dep d c).length → 500 < (grV T k dep d c l).length)
  | 0, dep, d, c, l => by simp [grV, trV]
  | k + 1, dep, d, c, l => by
    simp only [grV]
    by_cases h : 500 < l.length
    · rw [if_pos h]
      exact ⟨fun h2 => by simp at h2; omega, fun _ => h⟩
    · rw [if_neg h]
      have key : ∀ (its : List (Int × Int)) (l : List Brn), ((l ++ its.flatMap fun y => trV T k (dep + 1) y.1 y.2).length ≤ 500 → its.foldl (fun l y => grV T k (dep + 1) y.1 y.2 l) l = l ++ its.flatMap fun y => trV T k (dep + 1) y.1 y.2) ∧
          (500 < (l ++ its.flatMap fun y => trV T k (dep + 1) y.1 y.2).length → 500 < (its.foldl (fun l y => grV T k (dep + 1) y.1 y.2 l) l).length) := by
        intro its
        induction its with
        | nil => intro l; simp
        | cons y its ih =>
          intro l
          obtain ⟨g1, g2⟩ := grV_eq (T := T) k (dep + 1) y.1 y.2 l
          obtain ⟨i1, i2⟩ := ih (grV T k (dep + 1) y.1 y.2 l)
          simp only [List.foldl_cons, List.flatMap_cons]
          rw [← List.append_assoc]
          by_cases c1 : (l ++ trV T k (dep + 1) y.1 y.2).length ≤ 500
          · rw [g1 c1] at i1 i2 ⊢
            exact ⟨i1, i2⟩
          · have c2 := g2 (by omega)
            refine ⟨fun h2 => by simp only [List.length_append] at h2 c1; omega, fun _ => i2 ?_⟩
            simp only [List.length_append]; omega
      have := key (T d).its (l ++ [⟨dep, d, (T d).l, c⟩])
      simp only [trV]
      rw [List.append_assoc, List.singleton_append] at this
      exact this
end Go.Proofs.YtdpmioiamcgfkaaDoor

/-! Parts and trees: what the reference's functions compute: letters, the error, the issue that is taken, branches, trees. -/
namespace Go.Proofs.YtdpmioiamcgfkaaDoor
open Go.RowKit

section
variable {G : Nat → Option (List AV)}

theorem dp_pos {r : List Iss} (ho : openV r = 0) {n : Int} (hn : n ∈ nums r) (h : dpN r n ≤ 0) : False := by have := dpN_bd ho hn; omega
theorem dp_its {r : List Iss} {lt : List Int} (ho : openV r = 0) (hlt : ltB r lt = true) {n : Int} (hn : n ∈ nums r) {k : Nat} (hk : dpN r n ≤ k + 1) {y : Int × Int} (hy : y ∈ (tkV r lt n).its) : y.1 ∈ nums r ∧ dpN r y.1 ≤ k := by
  have hL := open_listed ho
  have := dpN_lt ho hn (its_C hL hlt hn hy)
  exact ⟨tk_its hL hlt hn y hy, by omega⟩
theorem tk_8 {r : List Iss} {lt : List Int} (ho : openV r = 0) (hlt : ltB r lt = true) : ∀ d ∈ nums r, (tkV r lt d).its.length ≤ 8 := fun d hd =>
  (iss_kind (listed_iss (open_listed ho) (tk_mem (open_listed ho) hlt hd).1)).2.2.1
theorem bra_all (l : List Brn) : (l.map bra).all (fun r => r.length == 4) = true ∧ (l.map bra).all (fun r => r.all AV.one) = true ∧ (l.map bra).all (fun r => r.all AV.pure) = true := by
  refine ⟨by simp [bra], by simp [bra, AV.one], by simp [bra, AV.pure]⟩
theorem bra_kept (l : List Brn) (o : List (Nat × AObj)) : keptO o (.row 4 (l.map bra)) = true := by
  simp only [keptO, List.all_eq_true, List.mem_map]
  rintro x ⟨y, -, rfl⟩ v hv
  simp only [bra, List.mem_cons, List.not_mem_nil, or_false] at hv
  rcases hv with rfl | rfl | rfl | rfl <;> simp [keptA, AV.keys]
end
end Go.Proofs.YtdpmioiamcgfkaaDoor

/-! Parts: what the reference's functions compute. -/
namespace Go.Proofs.YtdpmioiamcgfkaaDoor
open Go.RowKit

theorem GO0 {P : Program} {R : Run} {c : RCode} {ks : List KF} {Φ : Exit → St → Prop} {st : St} (h : AR P R c st (RetP P R ks Φ)) : GO P R 0 (.run c) ks Φ st := h

section
variable {G : Nat → Option (List AV)}

theorem ita_kept (l : List (Int × Int)) (o : List (Nat × AObj)) : keptO o (.row 2 (l.map ita)) = true := by
  simp only [keptO, List.all_eq_true, List.mem_map]
  rintro x ⟨y, -, rfl⟩ v hv
  simp only [ita, List.mem_cons, List.not_mem_nil, or_false] at hv
  rcases hv with rfl | rfl <;> simp [keptA, AV.keys]

/-- The tree, or the error. -/
def trE (r : List Iss) (lt : List Int) (n : Int) : List Brn × Int := if askV r lt n = 0 then if 500 < brN (tkV r lt) 6 n then ([], 4) else (trV (tkV r lt) 6 0 n 1, 0) else ([], askV r lt n)
theorem brn_ne {a b : Brn} (h : ¬ a = b) : (!decide (a.dep = b.dep) || (!decide (a.d = b.d) || (!decide (a.l = b.l) || !decide (a.c = b.c)))) = true := by
  cases h5 : (!decide (a.dep = b.dep) || (!decide (a.d = b.d) || (!decide (a.l = b.l) || !decide (a.c = b.c))))
  · simp only [Bool.or_eq_false_iff, Bool.not_eq_false', decide_eq_true_eq] at h5
    cases a; cases b; simp_all
  · rfl
theorem sameBr_pc (a b : List Brn) (ha : Sml a) : PC Tryd.prog G 38 [.vsl (a.map bra), .vsl (b.map bra)] (.bool (decide (a = b))) := by
  (refine pc_ref02_SameBranches (Nat.le_of_ble_eq_true rfl) fun R hG hrd => GO_AR mixed 1000 ?_; subst hG)
  by_cases hl : a.length = b.length
  · have hl' : (a.length : Int) = b.length := by omega
    simp -implicitDefEqProofs [rc_ref02_SameBranches, rr_ref02_SameBranches, hl']
    refine AR_for (fun i => ⟨[(5, .int .i64 i), (0, .vsl (a.map bra)), (1, .vsl (b.map bra))], []⟩) (fun i => ∀ j (h : j < a.length), j < i → a[j] = b[j]) a.length (by (first | exact Weak.tm (by simp [lk]) | exact Weak.sub (by simp [lk, keptA, AV.keys]) (by simp [lk, keptO, keptA, AV.keys]))) (by simp) ?_ ?_
    · intro i hi he
      refine GO_AR mixed 1000 ?_
      unfold Sml at ha
      have hi2 : i < b.length := by omega
      have w1 : IntKind.i64.wrap ((i : Int) + 1) = ((i + 1 : Nat) : Int) := wrapI (by omega) (by omega)
      simp -implicitDefEqProofs [hi, hi2, bra]
      refine ⟨rfl, ?_⟩
      by_cases h2 : a[i] = b[i]
      · simp -implicitDefEqProofs [h2, w1]
        refine ⟨(by (first | exact Weak.tm (by simp [lk]) | exact Weak.sub (by simp [lk, keptA, AV.keys]) (by simp [lk, keptO, keptA, AV.keys]))), fun j h1 h3 => ?_⟩
        by_cases e : j = i
        · subst e; exact h2
        · exact he j h1 (by omega)
      · have h3 : ¬ a = b := fun e => h2 (by subst e; rfl)
        rw [brn_ne h2]
        simp -implicitDefEqProofs []
        refine GO_ret mixed 1000 ?_
        simp -implicitDefEqProofs [h3]
    · intro he
      refine GO_AR mixed 1000 ?_
      have h3 : a = b := List.ext_getElem hl fun j h1 h2 => he j h1 h1
      simp -implicitDefEqProofs []
      refine GO_ret mixed 1000 ?_
      simp -implicitDefEqProofs [h3]
  · have hl' : ¬ (a.length : Int) = b.length := by omega
    have h3 : ¬ a = b := fun e => hl (by rw [e])
    simp -implicitDefEqProofs [rc_ref02_SameBranches, rr_ref02_SameBranches, hl', h3]
end
end Go.Proofs.YtdpmioiamcgfkaaDoor

/-! Parts and trees: what the program's functions compute: the issues that are taken. -/
namespace Go.Proofs.YtdpmioiamcgfkaaDoor
open Go.RowKit

/-! Maps by drawings. -/
def mpA {α : Type} (f : α → AV) (l : List (Int × α)) : List (AV × AV) := l.map fun p => (.int .i64 p.1, f p.2)
def mlk {α : Type} (n : Int) : List (Int × α) → Option α
  | [] => none
  | p :: l => if n = p.1 then some p.2 else mlk n l
theorem find_mp {α : Type} (f : α → AV) (n : Int) : ∀ l : List (Int × α), ∃ o : Option Nat, (KK.i .i64).find (.int .i64 n) (mpA f l) = some o ∧ match o with
    | some j => ∃ v, l[j]? = some (n, v) ∧ mlk n l = some v
    | none => mlk n l = none ∧ ∀ p ∈ l, p.1 ≠ n
  | [] => ⟨none, rfl, rfl, by simp⟩
  | p :: r => by
    obtain ⟨o, h1, h2⟩ := find_mp f n r
    by_cases e : n = p.1
    · refine ⟨some 0, by simp [mpA, KK.find, KK.eq, e], p.2, by simp [e], by simp [mlk, e]⟩
    · refine ⟨o.map (· + 1), ?_, ?_⟩
      · simp only [mpA, List.map_cons, KK.find, KK.eq, and_self, if_true, e, decide_false]
        rw [show r.map (fun p => (AV.int .i64 p.1, f p.2)) = mpA f r from rfl, h1]; rfl
      · cases o with
        | none => exact ⟨by simp only [mlk, e, if_false]; exact h2.1, fun q hq => by
            rcases List.mem_cons.1 hq with rfl | hq
            · exact fun h => e h.symm
            · exact h2.2 q hq⟩
        | some j =>
          obtain ⟨v, h3, h4⟩ := h2
          exact ⟨v, by simpa using h3, by simp only [mlk, e, if_false]; exact h4⟩
theorem get_mp {α : Type} (f : α → AV) (n : Int) (l : List (Int × α)) : (KK.i .i64).get (.int .i64 n) (mpA f l) = some ((mlk n l).map f) := by
  obtain ⟨o, h1, h2⟩ := find_mp f n l
  have hi : (KK.i .i64).is (.int .i64 n) = true := by simp [KK.is]
  unfold KK.get
  rw [if_pos hi, h1]
  cases o with
  | none => simp [h2.1]
  | some j => obtain ⟨v, h3, h4⟩ := h2; simp [mpA, h3, h4]
theorem put_mp {α : Type} (f : α → AV) {n : Int} (v : α) {l : List (Int × α)} (h : n ∉ l.map (·.1)) : (KK.i .i64).put (.int .i64 n) (f v) (mpA f l) = some (mpA f (l ++ [(n, v)])) := by
  obtain ⟨o, h1, h2⟩ := find_mp f n l
  have hi : (KK.i .i64).is (.int .i64 n) = true := by simp [KK.is]
  unfold KK.put
  rw [if_pos hi, h1]
  cases o with
  | none => simp [mpA]
  | some j =>
    obtain ⟨w, h3, h4⟩ := h2
    exact absurd (List.mem_map.2 ⟨_, List.mem_of_getElem? h3, rfl⟩) h
theorem find_ct (n v : Int) : ∀ l : List (Int × Int), ∃ o : Option Nat, (KK.i .i64).find (.int .i64 n) (dpA l) = some o ∧ match o with
    | some j => j < l.length ∧ mpPut n v l = l.set j (n, v)
    | none => mpPut n v l = l ++ [(n, v)]
  | [] => ⟨none, rfl, rfl⟩
  | p :: r => by
    obtain ⟨o, h1, h2⟩ := find_ct n v r
    by_cases e : n = p.1
    · exact ⟨some 0, by simp [dpA, KK.find, KK.eq, e], by simp, by simp [mpPut, e]⟩
    · refine ⟨o.map (· + 1), ?_, ?_⟩
      · simp only [dpA, List.map_cons, KK.find, KK.eq, and_self, if_true, e, decide_false]
        rw [show r.map (fun p => (AV.int .i64 p.1, AV.int .i64 p.2)) = dpA r from rfl, h1]; rfl
      · have e' : ¬ p.1 = n := fun h => e h.symm
        cases o with
        | none => simp only [Option.map_none, mpPut, if_neg e', h2]; rfl
        | some j => exact ⟨by simp only [List.length_cons]; omega, by simp only [mpPut, if_neg e', h2.2]; rfl⟩
theorem put_ct (n v : Int) (l : List (Int × Int)) : (KK.i .i64).put (.int .i64 n) (.int .i64 v) (dpA l) = some (dpA (mpPut n v l)) := by
  obtain ⟨o, h1, h2⟩ := find_ct n v l
  have hi : (KK.i .i64).is (.int .i64 n) = true := by simp [KK.is]
  unfold KK.put
  rw [if_pos hi, h1]
  cases o with
  | none => simp only [h2]; simp [dpA]
  | some j => rw [h2.2]; simp [dpA, List.map_set]

/-- The issues that are taken, by drawings. -/
def byN (r : List Iss) (lt : List Int) (i : Nat) : List (Int × Iss) := ((nums r).take i).map fun n => (n, tkV r lt n)
def isA (x : Iss) : AV := .agg (isa x)
def byA (r : List Iss) (lt : List Int) : AV := .vmap (mpA isA (byN r lt (nums r).length))
theorem byN_succ {r : List Iss} {lt : List Int} {i : Nat} (h : i < (nums r).length) : byN r lt (i + 1) = byN r lt i ++ [((nums r)[i], tkV r lt (nums r)[i])] := by
  rw [byN, List.take_succ_eq_append_getElem h, List.map_append]; rfl
theorem byN_new {r : List Iss} {lt : List Int} (hO : Ord r) {i : Nat} (h : i < (nums r).length) : (nums r)[i] ∉ (byN r lt i).map (·.1) := by
  simp only [byN, List.map_map, List.mem_map, Function.comp]
  rintro ⟨n, hn, e⟩
  obtain ⟨j, hj, rfl⟩ := List.getElem_of_mem hn
  simp only [List.length_take] at hj
  simp only [List.getElem_take] at e
  have := List.pairwise_iff_getElem.1 (nums_lt hO) j i (by omega) h (by omega)
  omega
theorem idxOf_num {r : List Iss} (hO : Ord r) {i : Nat} (h : i < (nums r).length) : (nums r).idxOf (nums r)[i] = i := by
  have h1 : (nums r).idxOf (nums r)[i] < (nums r).length := List.idxOf_lt_length_iff.2 (List.getElem_mem h)
  have h2 := List.getElem_idxOf h1
  rcases Nat.lt_trichotomy ((nums r).idxOf (nums r)[i]) i with c | c | c
  · have := List.pairwise_iff_getElem.1 (nums_lt hO) _ i h1 h c
    omega
  · exact c
  · have := List.pairwise_iff_getElem.1 (nums_lt hO) i _ h h1 c
    omega
theorem byN_pure (r : List Iss) (lt : List Int) (i : Nat) : (mpA isA (byN r lt i)).all (fun p => p.1.pure && p.2.pure) = true := by
  simp only [mpA, List.all_eq_true, List.mem_map]
  rintro _ ⟨y, -, rfl⟩
  simp [isA, isa, AV.pure]
theorem byN_get {r : List Iss} {lt : List Int} {n : Int} (hn : n ∈ nums r) : mlk n (byN r lt (nums r).length) = some (tkV r lt n) := by
  rw [byN, List.take_length]
  have key : ∀ l : List Int, n ∈ l → mlk n (l.map fun n => (n, tkV r lt n)) = some (tkV r lt n) := by
    intro l
    induction l with
    | nil => intro h; cases h
    | cons x l ih =>
      intro h
      simp only [List.map_cons, mlk]
      by_cases e : n = x
      · rw [if_pos e, e]
      · rw [if_neg e]; exact ih ((List.mem_cons.1 h).resolve_left e)
  exact key _ hn
theorem kept_isA (o : List (Nat × AObj)) (l : List (Int × Iss)) : keptO o (.mp (mpA isA l)) = true := by
  simp only [keptO, List.all_eq_true, mpA, List.mem_map]
  rintro _ ⟨y, -, rfl⟩
  simp [isA, isa, keptA, AV.keys]
def takA (r : List Iss) (lt : List Int) (n : Int) : AV := .tup [if askV r lt n = 0 then bkA r (nums r) else .nilp, if askV r lt n = 0 then byA r lt else .nilm, .int .i64 (askV r lt n)]

section
variable {G : Nat → Option (List AV)}

theorem taken_pc (hG : GC G) (r : List Iss) (lt : List Int) (n : Int) (h : Wf r) : PC Tryd.prog G 76 [rega r, .vsl (lt.map ia), .int .i64 n] (takA r lt n) := by
  (refine pc_sheet_taken (Nat.le_of_ble_eq_true rfl) fun R hG hrd => GO_AR mixed 1000 ?_; subst hG)
  simp -implicitDefEqProofs [rc_sheet_taken, rr_sheet_taken, rega]
  (first | refine CallK.of (open_pc hG r h) (by simp) ?_ | refine CallD.of (open_pc hG r h) (by simp) ?_)
  by_cases e : openV r = 0
  case neg => simp -implicitDefEqProofs [openA, e, takA, askV]
  have hL := open_listed e
  have hO := ord_of hL
  have hl := listed_20 hL
  by_cases q : lt.length = (nums r).length
  case neg =>
    have q' : ¬ (lt.length : Int) = (nums r).length := by omega
    have no : askV r lt n = 22 := by simp [askV, e, ltB, q]
    simp -implicitDefEqProofs [openA, e, bkA, q', takA, no]
  have q' : (lt.length : Int) = (nums r).length := by omega
  simp -implicitDefEqProofs [openA, e, bkA, q']
  refine AR_for (fun i => ⟨[(34, .int .i64 i), (33, .int .i64 (nums r).length), (11, .mp 31), (9, bkA r (nums r)), (1, .vsl (lt.map ia)), (2, .int .i64 n)], [(31, .mp (mpA isA (byN r lt i)))]⟩) (fun i => ∀ j, j < i → inR (lt.getD j 0) 1 (lastV r ((nums r).getD j 0)) = true) (nums r).length (by (first | exact Weak.tm (by simp [lk, bkA, mpA, byN]) | exact Weak.sub (by simp [lk, keptA, AV.keys, bkA, mpA, byN]) (by simp [lk, keptO, keptA, AV.keys, bkA, mpA, byN]))) (by simp) ?_ ?_
  · intro i hi he
    refine GO_AR mixed 1000 ?_
    have w1 : IntKind.i64.wrap ((i : Int) + 1) = ((i + 1 : Nat) : Int) := wrapI (by omega) (by omega)
    have hi2 : i < lt.length := by omega
    have e1 : lt.getD i 0 = lt[i] := by simp [List.getD, hi2]
    have e2 : (nums r).getD i 0 = (nums r)[i] := by simp [List.getD, hi]
    simp -implicitDefEqProofs [hi, hi2, ia, bkA]
    (first | refine CallK.of (find_pcS r (nums r) (nums r)[i] lt[i] (ord_map hO) h.1.1 (find_own hL)) (by simp) ?_ | refine CallD.of (find_pcS r (nums r) (nums r)[i] lt[i] (ord_map hO) h.1.1 (find_own hL)) (by simp) ?_)
    cases f : findN (nums r)[i] lt[i] r with
    | none =>
      have no : askV r lt n = 22 := by
        have : ltB r lt = false := by
          cases hI : ltB r lt
          · rfl
          · simp only [ltB, Bool.and_eq_true] at hI
            have := range_all.1 hI.2 i hi
            rw [e1, e2, ← find_iff hL, f] at this; cases this
        simp [askV, e, this]
      simp -implicitDefEqProofs [fndA, noIs]
      refine ⟨rfl, ?_⟩
      refine GO_ret mixed 1000 ?_
      simp -implicitDefEqProofs [takA, no]
    | some x =>
      simp -implicitDefEqProofs [fndA, isa]
      obtain ⟨hm, hd, hl2⟩ := findN_mem f
      have et : tkV r lt (nums r)[i] = x := by
        have : ltOf r lt (nums r)[i] = lt[i] := by rw [ltOf, idxOf_num hO hi, e1]
        rw [tkV, this, f]; rfl
      have pm := put_mp isA x (byN_new (lt := lt) hO hi)
      rw [← et, ← byN_succ hi, et, isA, isa, hd] at pm
      simp -implicitDefEqProofs [hd, pm, w1]
      refine ⟨rfl, ?_, fun j hj => ?_⟩
      · refine Weak.sub (by simp [lk, keptA, AV.keys]) ?_
        simp only [List.mem_cons, List.not_mem_nil, or_false, forall_eq, kept_isA, and_true]
        simp [lk]
      · by_cases ej : j = i
        · subst ej
          simp only [List.getD_eq_getElem?_getD] at e1 e2
          rw [e1, e2, ← find_iff hL, f]; rfl
        · simpa using he j (by omega)
  · intro he
    refine GO_AR mixed 1000 ?_
    have yes : ltB r lt = true := by simp only [ltB, Bool.and_eq_true, decide_eq_true_eq]; exact ⟨q, range_all.2 he⟩
    simp -implicitDefEqProofs []
    refine GO_ret mixed 1000 ?_
    simp -implicitDefEqProofs []
    (first | refine CallK.of (has_pc r (nums r) n (nums_le hO) (nums_sml h.1.1)) (by simp) ?_ | refine CallD.of (has_pc r (nums r) n (nums_le hO) (nums_sml h.1.1)) (by simp) ?_)
    by_cases c : n ∈ nums r
    · have yes2 : askV r lt n = 0 := by simp [askV, e, yes, c]
      simp -implicitDefEqProofs [c, takA, yes2]
      have pu := byN_pure r lt (nums r).length
      simp -implicitDefEqProofs [pu, bkA, byA]
    · have no : askV r lt n = 6 := by simp [askV, e, yes, c]
      simp -implicitDefEqProofs [c, takA, no]
end
end Go.Proofs.YtdpmioiamcgfkaaDoor
