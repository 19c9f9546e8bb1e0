/-
  Searches in sorted lists, by the abstract machine.
-/
import Derived.Test.YtdpmioiamcgfkaaDoorEa
namespace Go.Proofs.YtdpmioiamcgfkaaDoor
open Go.RowKit

/-- How many numbers of a sorted list are less. -/
def lowB (l : List Int) (n : Int) : Nat := l.countP (fun x => decide (x < n))
theorem lowB_le (l : List Int) (n : Int) : lowB l n ≤ l.length := List.countP_le_length
/-- The numbers ahead of it are less, those behind are not. -/
theorem lowB_at {l : List Int} (hs : l.Pairwise (· ≤ ·)) (n : Int) : ∀ (i : Nat) (hi : i < l.length), i < lowB l n ↔ l[i] < n := by
  induction l with
  | nil => intro i hi; simp at hi
  | cons x l ih =>
    obtain ⟨h1, h2⟩ := List.pairwise_cons.1 hs
    intro i hi
    by_cases hx : x < n
    · have e : lowB (x :: l) n = lowB l n + 1 := by simp [lowB, List.countP_cons, hx]
      rw [e]
      cases i with
      | zero => simp [hx]
      | succ i =>
        have := ih h2 i (by simpa using hi)
        simp only [List.getElem_cons_succ]
        rw [← this]; omega
    · have z : lowB l n = 0 := by
        unfold lowB
        rw [List.countP_eq_zero]
        intro y hy
        have := h1 y hy
        simp; omega
      have e : lowB (x :: l) n = 0 := by
        have : lowB (x :: l) n = lowB l n := by simp [lowB, List.countP_cons, hx]
        omega
      rw [e]
      have hge : ∀ (i : Nat) (hi : i < (x :: l).length), x ≤ (x :: l)[i] := fun i hi => by
        cases i with
        | zero => exact Int.le_refl _
        | succ i => exact h1 _ (List.getElem_mem _)
      have := hge i hi
      constructor
      · intro h; omega
      · intro h; omega
theorem lowB_eq {l : List Int} (hs : l.Pairwise (· ≤ ·)) {n : Int} {k : Nat} (hk : k ≤ l.length) (h1 : ∀ (i : Nat) (hi : i < l.length), i < k → l[i] < n) (h2 : ∀ (i : Nat) (hi : i < l.length), k ≤ i → ¬ l[i] < n) : lowB l n = k := by
  have hle := lowB_le l n
  by_cases c1 : lowB l n < k
  · have := h1 (lowB l n) (by omega) c1
    have := (lowB_at hs n (lowB l n) (by omega)).2 this
    omega
  · by_cases c2 : k < lowB l n
    · have := (lowB_at hs n k (by omega)).1 c2
      exact absurd this (h2 k (by omega) (Nat.le_refl _))
    · omega
theorem le_of_lt {l : List Int} (hs : l.Pairwise (· < ·)) : l.Pairwise (· ≤ ·) := hs.imp fun h => Int.le_of_lt h
theorem mem_lowB {l : List Int} (hs : l.Pairwise (· ≤ ·)) (n : Int) : n ∈ l ↔ l[lowB l n]? = some n := by
  constructor
  · intro hm
    obtain ⟨j, hj, he⟩ := List.getElem_of_mem hm
    have h1 : ¬ j < lowB l n := fun h => by have := (lowB_at hs n j hj).1 h; omega
    have h2 : lowB l n < l.length := by omega
    rw [List.getElem?_eq_getElem h2]
    have h3 : ¬ l[lowB l n] < n := fun h => by have := (lowB_at hs n _ h2).2 h; omega
    have h4 : l[lowB l n] ≤ l[j] := by
      by_cases e : lowB l n = j
      · simp [e]
      · exact List.pairwise_iff_getElem.1 hs _ _ h2 hj (by omega)
    congr 1; omega
  · intro h; exact List.mem_of_getElem? h

/-- A half, as the machine takes it. -/
theorem half_wrap {i j : Nat} (h : i + j ≤ 33554432) : IntKind.i64.wrap ((IntKind.u64.wrap (IntKind.i64.wrap ((i : Int) + j))).fdiv (2 ^ (min 1 IntKind.u64.bits))) = (((i + j) / 2 : Nat) : Int) := by
  show IntKind.i64.wrap ((IntKind.u64.wrap (IntKind.i64.wrap ((i : Int) + j))).fdiv (2 ^ (min 1 64))) = (((i + j) / 2 : Nat) : Int)
  have e1 : IntKind.i64.wrap ((i : Int) + j) = ((i + j : Nat) : Int) := by rw [wrapI (by omega) (by omega)]; omega
  have e2 : IntKind.u64.wrap (((i + j : Nat) : Int)) = ((i + j : Nat) : Int) := by
    have := IntWalk.u64_in (((i + j : Nat) : Int)) ⟨by omega, by omega⟩
    exact this
  rw [e1, e2]
  have e3 : (((i + j : Nat) : Int)).fdiv (2 ^ (min 1 64)) = (((i + j) / 2 : Nat) : Int) := by
    rw [Int.fdiv_eq_ediv_of_nonneg _ (by decide)]
    simp
  rw [e3, wrapI (by omega) (by omega)]

section
variable {G : Nat → Option (List AV)}

theorem isNaNc_pc (n : Int) : PC Tryd.prog G 135 [.int .i64 n] (.bool false) := by
  (refine pc_cmp_isNaN_int (Nat.le_of_ble_eq_true rfl) fun R hG hrd => GO_AR mixed 1000 ?_; subst hG)
  simp -implicitDefEqProofs [rc_cmp_isNaN_int, rr_cmp_isNaN_int]
theorem isNaNs_pc (n : Int) : PC Tryd.prog G 134 [.int .i64 n] (.bool false) := by
  (refine pc_slices_isNaN_int (Nat.le_of_ble_eq_true rfl) fun R hG hrd => GO_AR mixed 1000 ?_; subst hG)
  simp -implicitDefEqProofs [rc_slices_isNaN_int, rr_slices_isNaN_int]
theorem less_pc (a b : Int) : PC Tryd.prog G 133 [.int .i64 a, .int .i64 b] (.bool (decide (a < b))) := by
  (refine pc_cmp_Less_int (Nat.le_of_ble_eq_true rfl) fun R hG hrd => GO_AR mixed 1000 ?_; subst hG)
  by_cases h : a < b
  · simp -implicitDefEqProofs [rc_cmp_Less_int, rr_cmp_Less_int, h]
    try (first | refine CallK.of (isNaNc_pc a) (by simp) ?_ | refine CallD.of (isNaNc_pc a) (by simp) ?_)
    try simp -implicitDefEqProofs [h]
  · simp -implicitDefEqProofs [rc_cmp_Less_int, rr_cmp_Less_int, h]
    try (first | refine CallK.of (isNaNc_pc a) (by simp) ?_ | refine CallD.of (isNaNc_pc a) (by simp) ?_)
    try simp -implicitDefEqProofs [h]

theorem bsearch_pc (l : List Int) (n : Int) (hs : l.Pairwise (· ≤ ·)) (hl : Sml l) : PC Tryd.prog G 121 [.vsl (l.map ia), .int .i64 n] (.tup [.int .i64 (lowB l n), .bool (decide (n ∈ l))]) := by
  (refine pc_slices_BinarySearch_int_int (Nat.le_of_ble_eq_true rfl) fun R hG hrd => GO_AR mixed 1000 ?_; subst hG)
  unfold Sml at hl
  have hle := lowB_le l n
  simp -implicitDefEqProofs [rc_slices_BinarySearch_int_int, rr_slices_BinarySearch_int_int]
  refine AR_loop (fun p : Nat × Nat => ⟨[(8, .int .i64 p.2), (7, .int .i64 p.1), (6, .int .i64 l.length), (0, .vsl (l.map ia)), (1, .int .i64 n)], []⟩) (fun p => p.1 ≤ lowB l n ∧ lowB l n ≤ p.2 ∧ p.2 ≤ l.length) (fun p => p.2 - p.1) (0, l.length) (by (first | exact Weak.tm (by simp [lk]) | exact Weak.sub (by simp [lk, keptA, AV.keys]) (by simp [lk, keptO, keptA, AV.keys]))) ⟨by omega, hle, Nat.le_refl _⟩ ?_
  rintro ⟨lo, hi⟩ ⟨h1, h2, h3⟩
  simp only at h1 h2 h3
  refine GO_AR mixed 1000 ?_
  by_cases h4 : lo < hi
  · obtain ⟨m, hm⟩ : ∃ m, m = (lo + hi) / 2 := ⟨_, rfl⟩
    have hw := half_wrap (i := lo) (j := hi) (by omega)
    rw [← hm] at hw
    have m1 : m < l.length := by omega
    have w1 : IntKind.i64.wrap ((m : Int) + 1) = ((m + 1 : Nat) : Int) := wrapI (by omega) (by omega)
    have hb := lowB_at hs n m m1
    by_cases h5 : l[m] < n
    · simp -implicitDefEqProofs [h4, hw, m1, ia]
      (first | refine CallK.of (less_pc _ _) (by simp) ?_ | refine CallD.of (less_pc _ _) (by simp) ?_)
      simp -implicitDefEqProofs [h5, w1]
      exact ⟨(m + 1, hi), (by (first | exact Weak.tm (by simp [lk]) | exact Weak.sub (by simp [lk, keptA, AV.keys]) (by simp [lk, keptO, keptA, AV.keys]))), ⟨by have := hb.2 h5; show m + 1 ≤ _; omega, h2, h3⟩, by show hi - (m + 1) < hi - lo; omega⟩
    · simp -implicitDefEqProofs [h4, hw, m1, ia]
      (first | refine CallK.of (less_pc _ _) (by simp) ?_ | refine CallD.of (less_pc _ _) (by simp) ?_)
      simp -implicitDefEqProofs [h5]
      exact ⟨(lo, m), (by (first | exact Weak.tm (by simp [lk]) | exact Weak.sub (by simp [lk, keptA, AV.keys]) (by simp [lk, keptO, keptA, AV.keys]))), ⟨h1, by have : ¬ m < lowB l n := fun h => h5 (hb.1 h); show lowB l n ≤ m; omega, by show m ≤ _; omega⟩, by show m - lo < hi - lo; omega⟩
  · obtain rfl : lo = lowB l n := by omega
    have hmem := mem_lowB hs n
    by_cases h5 : lowB l n < l.length
    · by_cases h6 : l[lowB l n] = n
      · have e : n ∈ l := hmem.2 (by rw [List.getElem?_eq_getElem h5, h6])
        simp -implicitDefEqProofs [h4]
        refine GO_ret mixed 1000 ?_
        simp -implicitDefEqProofs [h5, ia, h6, e]
      · have e : ¬ n ∈ l := fun h => h6 (by have := hmem.1 h; rw [List.getElem?_eq_getElem h5] at this; exact Option.some.inj this)
        simp -implicitDefEqProofs [h4]
        refine GO_ret mixed 1000 ?_
        simp -implicitDefEqProofs [h5, ia, h6]
        (first | refine CallK.of (isNaNs_pc _) (by simp) ?_ | refine CallD.of (isNaNs_pc _) (by simp) ?_)
        simp -implicitDefEqProofs [e]
    · have e : ¬ n ∈ l := fun h => by have := hmem.1 h; rw [List.getElem?_eq_none (by omega)] at this; cases this
      simp -implicitDefEqProofs [h4]
      refine GO_ret mixed 1000 ?_
      simp -implicitDefEqProofs [h5, e]
end
end Go.Proofs.YtdpmioiamcgfkaaDoor
