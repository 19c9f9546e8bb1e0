/-
  What the functions of package size compute (in, Check, both, wanted, Inside), by the abstract machine.
-/
import Derived.Test.YtikjooemblpnbaaDoorRc
import Derived.Test.YtikjooemblpnbaaDoorRcB
/-! What the functions of package size compute (in, Check, both, wanted, Inside), by the abstract machine. -/
namespace Go.Proofs.YtikjooemblpnbaaDoor
open Go.RowKit

/-- The index of the first number of which something is so, or -1. -/
def fstOf {α : Type} (p : α → Bool) (l : List α) : Int := match l.findIdx? p with | some i => (i : Int) | none => -1
theorem fstOf_hit {α : Type} {p : α → Bool} {l : List α} {i : Nat} (h : i < l.length) (hp : p l[i] = true) (hn : ∀ x ∈ l.take i, p x = false) : fstOf p l = i := by
  have : l.findIdx? p = some i := by
    rw [List.findIdx?_eq_some_iff_getElem]
    refine ⟨h, hp, fun j hj => ?_⟩
    rw [hn l[j] (List.mem_take_iff_getElem.2 ⟨j, by omega, rfl⟩)]; simp
  simp [fstOf, this]
theorem fstOf_none {α : Type} {p : α → Bool} {l : List α} (hn : ∀ x ∈ l, p x = false) : fstOf p l = -1 := by
  have : l.findIdx? p = none := List.findIdx?_eq_none_iff.2 hn
  simp [fstOf, this]
theorem fstOf_any {α : Type} (p : α → Bool) (l : List α) : decide (0 ≤ fstOf p l) = l.any p := by
  unfold fstOf
  cases h : l.findIdx? p with
  | none =>
    have h2 := List.findIdx?_eq_none_iff.1 h
    have : l.any p = false := by rw [← Bool.not_eq_true, List.any_eq_true]; rintro ⟨x, hx, hp⟩; rw [h2 x hx] at hp; cases hp
    simp [this]
  | some i =>
    obtain ⟨h1, h2, -⟩ := List.findIdx?_eq_some_iff_getElem.1 h
    have : l.any p = true := List.any_eq_true.2 ⟨l[i], List.getElem_mem h1, h2⟩
    simp [this]
theorem take_hit {α : Type} {p : α → Bool} {l : List α} {i : Nat} (h : i < l.length) (hp : p l[i] = false) (hn : ∀ x ∈ l.take i, p x = false) : ∀ x ∈ l.take (i + 1), p x = false := by
  rw [List.take_succ_eq_append_getElem h]
  intro x hx
  rcases List.mem_append.1 hx with hx | hx
  · exact hn x hx
  · rw [List.mem_singleton.1 hx]; exact hp

def ics (n : Int) : List AV := [.int .i64 n]

section
variable {G : Nat → Option (List AV)}

theorem indexI_pc (g : Nat) (caps : List AV) (p : Int → Bool) (l : List Int) (hc : caps.all AV.pure = true) (hl : l.length < 1000000)
    (hg : ∀ n ∈ l, PC Tryd.prog G g (.int .i64 n :: caps) (.bool (p n))) :
    PC Tryd.prog G 93 [.vsl (l.map ics), .func (.func g) [] caps] (.int .i64 (fstOf p l)) := by
  (refine pc_slices_IndexFunc_int_int (Nat.le_of_ble_eq_true rfl) fun R hG => GO_AR mixed 1000 ?_; subst hG)
  simp -implicitDefEqProofs [rc_slices_IndexFunc_int_int, rr_slices_IndexFunc_int_int]
  refine AR_loop (fun i : Nat => ⟨[(8, .int .i64 i), (7, .int .i64 l.length), (0, .vsl (l.map ics)), (1, .func (.func g) [] caps)], []⟩) (fun i => i ≤ l.length ∧ ∀ x ∈ l.take i, p x = false) (fun i => l.length - i) 0 (Weak.tm (by simp [lk])) ⟨by omega, by simp⟩ ?_
  rintro i ⟨hi, he⟩
  refine GO_AR mixed 1000 ?_
  by_cases h2 : i < l.length
  · have w1 : IntKind.i64.wrap ((i : Int) + 1) = ((i + 1 : Nat) : Int) := wrapI (by omega) (by omega)
    simp -implicitDefEqProofs [h2, ics]
    have hc2 : ∀ x ∈ caps, x.pure = true := List.all_eq_true.1 hc
    refine CallK.of (hg _ (List.getElem_mem h2)) (by simpa [AV.pure] using hc2) ?_
    cases h3 : p l[i]
    · simp -implicitDefEqProofs [w1]
      exact ⟨i + 1, Weak.tm (by simp [lk]), ⟨by omega, take_hit h2 h3 he⟩, by show l.length - (i + 1) < l.length - i; omega⟩
    · have e := fstOf_hit h2 h3 he
      simp -implicitDefEqProofs
      refine GO_ret mixed 1000 ?_
      simp -implicitDefEqProofs [e]
  · have e := fstOf_none (p := p) (l := l) (by rw [List.take_of_length_le (by omega)] at he; exact he)
    simp -implicitDefEqProofs [h2]
    refine GO_ret mixed 1000 ?_
    simp -implicitDefEqProofs [e]

theorem containsI_pc (g : Nat) (caps : List AV) (p : Int → Bool) (l : List Int) (hc : caps.all AV.pure = true) (hl : l.length < 1000000)
    (hg : ∀ n ∈ l, PC Tryd.prog G g (.int .i64 n :: caps) (.bool (p n))) :
    PC Tryd.prog G 80 [.vsl (l.map ics), .func (.func g) [] caps] (.bool (l.any p)) := by
  (refine pc_slices_ContainsFunc_int_int (Nat.le_of_ble_eq_true rfl) fun R hG => GO_AR mixed 1000 ?_; subst hG)
  simp -implicitDefEqProofs [rc_slices_ContainsFunc_int_int, rr_slices_ContainsFunc_int_int]
  have hc2 : ∀ x ∈ caps, x.pure = true := List.all_eq_true.1 hc
  refine CallK.of (indexI_pc g caps p l hc hl hg) (by simpa [AV.pure] using hc2) ?_
  have e := fstOf_any p l
  simp -implicitDefEqProofs [e]

theorem inC_pc (n lo hi : Int) : PC Tryd.prog G 81 [.int .i64 n, .vptr [.int .i64 lo] 0, .vptr [.int .i64 hi] 0] (.bool (!inR n lo hi)) := by
  (refine pc_size_in_1 (Nat.le_of_ble_eq_true rfl) fun R hG => GO_AR mixed 1000 ?_; subst hG)
  by_cases h1 : n < lo
  · have h2 : ¬ lo ≤ n := by omega
    simp -implicitDefEqProofs [rc_size_in_1, rr_size_in_1, h1, h2, inR]
  · have h2 : lo ≤ n := by omega
    by_cases h3 : hi < n
    · have h4 : ¬ n ≤ hi := by omega
      simp -implicitDefEqProofs [rc_size_in_1, rr_size_in_1, h1, h2, h3, h4, inR]
    · have h4 : n ≤ hi := by omega
      simp -implicitDefEqProofs [rc_size_in_1, rr_size_in_1, h1, h2, h3, h4, inR]

theorem inS_pc (lo hi : Int) (l : List Int) (hl : l.length < 1000000) : PC Tryd.prog G 55 [.int .i64 lo, .int .i64 hi, .vsl (l.map ics)] (.bool (l.all fun n => inR n lo hi)) := by
  (refine pc_size_in (Nat.le_of_ble_eq_true rfl) fun R hG => GO_AR mixed 1000 ?_; subst hG)
  simp -implicitDefEqProofs [rc_size_in, rr_size_in]
  (first | refine CallK.flat (containsI_pc 81 [.vptr [.int .i64 lo] 0, .vptr [.int .i64 hi] 0] (fun n => !inR n lo hi) l (by simp [AV.pure]) hl (fun n _ => inC_pc n lo hi)) (by simp [AV.flat]) (by simp) ?_ | refine CallD.flat (containsI_pc 81 [.vptr [.int .i64 lo] 0, .vptr [.int .i64 hi] 0] (fun n => !inR n lo hi) l (by simp [AV.pure]) hl (fun n _ => inC_pc n lo hi)) (by simp [AV.flat]) (by simp) ?_)
  have e : (!l.any fun n => !inR n lo hi) = l.all fun n => inR n lo hi := by simp [List.all_eq_not_any_not]
  simp -implicitDefEqProofs [e]
end
end Go.Proofs.YtikjooemblpnbaaDoor

/-! What the functions of package size compute (Check, both, wanted, Inside, Meet, rounded), by the abstract machine. -/
namespace Go.Proofs.YtikjooemblpnbaaDoor
open Go.RowKit

section
variable {G : Nat → Option (List AV)}

theorem checkS_pc (d : Dm) : PC Tryd.prog G 39 [.agg [.int .i64 d.n, .int .i64 d.l, .int .i64 d.u]] (.int .i64 (chk d)) := by
  (refine pc_size_Check (Nat.le_of_ble_eq_true rfl) fun R hG => GO_AR mixed 1000 ?_; subst hG)
  simp -implicitDefEqProofs [rc_size_Check, rr_size_Check]
  (first | refine CallK.of (inS_pc 0 1000000000 [d.n, d.l, d.u] (by simp)) (by simp) ?_ | refine CallD.of (inS_pc 0 1000000000 [d.n, d.l, d.u] (by simp)) (by simp) ?_)
  cases h1 : [d.n, d.l, d.u].all fun n => inR n 0 1000000000
  · have e : vd d = false := by
      refine decide_eq_false fun h => ?_
      have : ([d.n, d.l, d.u].all fun n => inR n 0 1000000000) = true := by
        simp [inR]; omega
      rw [this] at h1; cases h1
    simp -implicitDefEqProofs [chk, e]
  · have h2 : (0 ≤ d.n ∧ d.n ≤ 1000000000) ∧ (0 ≤ d.l ∧ d.l ≤ 1000000000) ∧ 0 ≤ d.u ∧ d.u ≤ 1000000000 := by
      simpa [inR] using h1
    by_cases h3 : d.u < d.l
    · have e : vd d = false := decide_eq_false (by omega)
      simp -implicitDefEqProofs [chk, e, h3]
    · have e : vd d = true := decide_eq_true (by omega)
      simp -implicitDefEqProofs [chk, e, h3]

theorem bothS_pc (a b : Dm) : PC Tryd.prog G 54 [.agg [.int .i64 a.n, .int .i64 a.l, .int .i64 a.u], .agg [.int .i64 b.n, .int .i64 b.l, .int .i64 b.u]] (.int .i64 (if vd a = true ∧ vd b = true then 0 else 10)) := by
  (refine pc_size_both (Nat.le_of_ble_eq_true rfl) fun R hG => GO_AR mixed 1000 ?_; subst hG)
  simp -implicitDefEqProofs [rc_size_both, rr_size_both]
  (first | refine CallK.of (checkS_pc _) (by simp) ?_ | refine CallD.of (checkS_pc _) (by simp) ?_)
  cases h1 : vd a
  · simp -implicitDefEqProofs [chk, h1]
  · simp -implicitDefEqProofs [chk, h1]
    (first | refine CallK.of (checkS_pc _) (by simp) ?_ | refine CallD.of (checkS_pc _) (by simp) ?_)
    cases h2 : vd b <;> simp -implicitDefEqProofs [chk, h2]

theorem wantedS_pc (lo hi : Int) : PC Tryd.prog G 58 [.agg [.int .i64 lo, .int .i64 hi]] (.int .i64 (if wantedB lo hi = true then 0 else 2)) := by
  (refine pc_size_wanted (Nat.le_of_ble_eq_true rfl) fun R hG => GO_AR mixed 1000 ?_; subst hG)
  simp -implicitDefEqProofs [rc_size_wanted, rr_size_wanted]
  (first | refine CallK.of (inS_pc (-1000000000) 1000000000 [lo, hi] (by simp)) (by simp) ?_ | refine CallD.of (inS_pc (-1000000000) 1000000000 [lo, hi] (by simp)) (by simp) ?_)
  cases h1 : [lo, hi].all fun n => inR n (-1000000000) 1000000000
  · have e : wantedB lo hi = false := by
      refine decide_eq_false fun h => ?_
      have : ([lo, hi].all fun n => inR n (-1000000000) 1000000000) = true := by
        simp [inR]; omega
      rw [this] at h1; cases h1
    simp -implicitDefEqProofs [e]
  · have h2 : (-1000000000 ≤ lo ∧ lo ≤ 1000000000) ∧ -1000000000 ≤ hi ∧ hi ≤ 1000000000 := by
      simpa [inR] using h1
    by_cases h3 : hi < lo
    · have e : wantedB lo hi = false := decide_eq_false (by omega)
      simp -implicitDefEqProofs [e, h3]
    · have e : wantedB lo hi = true := decide_eq_true (by omega)
      simp -implicitDefEqProofs [e, h3]

theorem insideS_pc (a b : Dm) : PC Tryd.prog G 22 [.agg [.int .i64 a.n, .int .i64 a.l, .int .i64 a.u], .agg [.int .i64 b.n, .int .i64 b.l, .int .i64 b.u]] (.tup [.bool (insideV a b).1, .int .i64 (insideV a b).2]) := by
  (refine pc_size_Inside (Nat.le_of_ble_eq_true rfl) fun R hG => GO_AR mixed 1000 ?_; subst hG)
  simp -implicitDefEqProofs [rc_size_Inside, rr_size_Inside]
  (first | refine CallK.of (bothS_pc a b) (by simp) ?_ | refine CallD.of (bothS_pc a b) (by simp) ?_)
  by_cases h1 : vd a = true ∧ vd b = true
  · by_cases h2 : a = b
    · subst h2
      have e : insideV a a = (true, 0) := by simp [insideV, h1.1]
      simp -implicitDefEqProofs [h1.1, e]
    · have e3 : (decide (a.n = b.n) && (decide (a.l = b.l) && decide (a.u = b.u))) = false := by
        cases h5 : (decide (a.n = b.n) && (decide (a.l = b.l) && decide (a.u = b.u)))
        · rfl
        · simp only [Bool.and_eq_true, decide_eq_true_eq] at h5
          exact absurd (Dm.ext h5.1 h5.2.1 h5.2.2) h2
      obtain ⟨x0, x1, x2, x3, x4⟩ := of_decide_eq_true h1.1
      obtain ⟨y0, y1, y2, y3, y4⟩ := of_decide_eq_true h1.2
      have e : insideV a b = ([a.l, a.u].all fun n => inR n b.l b.u, 0) := by
        have : (decide (b.l ≤ a.l ∧ a.u ≤ b.u)) = [a.l, a.u].all fun n => inR n b.l b.u := by
          simp only [List.all_cons, List.all_nil, Bool.and_true, inR, ← Bool.decide_and]
          exact decide_eq_decide.2 (by omega)
        simp only [insideV, h1, and_self, if_true, this]
      rw [e]
      generalize hp : ([a.l, a.u].all fun n => inR n b.l b.u) = p
      simp -implicitDefEqProofs [h1.1, h1.2, e3]
      refine CallK.of (inS_pc b.l b.u [a.l, a.u] (by simp)) (by simp) ?_
      rw [hp]
      simp -implicitDefEqProofs
  · have e : insideV a b = (false, 10) := by simp only [insideV, h1, if_false]
    simp -implicitDefEqProofs [h1, e]

theorem meetSz_pc (l : List Dm) : PC Tryd.prog G 30 [.vsl (l.map Dm.cs)] (.tup [.agg [.int .i64 (meetV l).1, .int .i64 (meetV l).2.1], .int .i64 (meetV l).2.2]) := by
  (refine pc_size_Meet (Nat.le_of_ble_eq_true rfl) fun R hG => GO_AR mixed 1000 ?_; subst hG)
  by_cases h1 : 20 < l.length
  · have h1' : (20 : Int) < l.length := by omega
    simp -implicitDefEqProofs [rc_size_Meet, rr_size_Meet, h1', h1, meetV]
  · have h1' : ¬ (20 : Int) < l.length := by omega
    simp -implicitDefEqProofs [rc_size_Meet, rr_size_Meet, h1']
    refine AR_loop (fun i : Nat => ⟨[(15, .int .i64 i), (14, .int .i64 l.length), (13, .vsl (l.map Dm.cs)), (4, .ptr 4 0), (2, .ptr 2 0), (0, .vsl (l.map Dm.cs))],
      [(2, .box [.int .i64 0, .int .i64 0]), (4, .box [.int .i64 (meetF (l.take i)).1, .int .i64 (meetF (l.take i)).2])]⟩) (fun i => i ≤ l.length ∧ ∀ x ∈ l.take i, vd x = true) (fun i => l.length - i) 0 (Weak.of (by simp [meetF]) (by simp [lk])) ⟨by omega, by simp⟩ ?_
    rintro i ⟨hi, he⟩
    refine GO_AR mixed 1000 ?_
    by_cases h2 : i < l.length
    · have w1 : IntKind.i64.wrap ((i : Int) + 1) = ((i + 1 : Nat) : Int) := wrapI (by omega) (by omega)
      simp -implicitDefEqProofs [h2, Dm.cs]
      (first | refine CallK.of (checkS_pc _) (by simp) ?_ | refine CallD.of (checkS_pc _) (by simp) ?_)
      cases h3 : vd l[i]
      · have h4 : l.all vd = false := by
          rw [← Bool.not_eq_true, List.all_eq_true]
          exact fun h => absurd (h l[i] (List.getElem_mem h2)) (by rw [h3]; simp)
        have h5 : meetV l = (0, 0, 10) := by simp [meetV, h1, h4]
        simp -implicitDefEqProofs [chk, h3]
        refine GO_ret mixed 1000 ?_
        simp -implicitDefEqProofs [h5]
      · simp -implicitDefEqProofs [chk, h3, w1]
        refine ⟨i + 1, Weak.sub ?_ ?_, ⟨by omega, ?_⟩, by show l.length - (i + 1) < l.length - i; omega⟩
        · simp [lk, keptA, AV.keys]
        · simp [lk, keptO, keptA, AV.keys, meetF_take l i h2, meetS]
        · rw [List.take_succ_eq_append_getElem h2]
          intro x hx
          rcases List.mem_append.1 hx with hx | hx
          · exact he x hx
          · rw [List.mem_singleton.1 hx]; exact h3
    · have ha : l.all vd = true := by
        rw [List.take_of_length_le (by omega)] at he
        exact List.all_eq_true.2 he
      have e1 : meetF (l.take i) = meetF l := by rw [List.take_of_length_le (by omega)]
      simp -implicitDefEqProofs [h2, e1]
      refine GO_ret mixed 1000 ?_
      by_cases h3 : l = []
      · have h5 : meetV [] = (0, 0, 6) := by simp [meetV]
        simp -implicitDefEqProofs [h5, h3]
      · have h3' : ¬ l.length = 0 := by simpa using h3
        by_cases h4 : (meetF l).2 < (meetF l).1
        · have h5 : meetV l = (0, 0, 6) := by simp [meetV, ha, h1, h3, h4]
          simp -implicitDefEqProofs [h5, h3, h4]
        · have h5 : meetV l = ((meetF l).1, (meetF l).2, 0) := by simp [meetV, ha, h1, h3, h4]
          simp -implicitDefEqProofs [h5, h3, h4]
end
end Go.Proofs.YtikjooemblpnbaaDoor
