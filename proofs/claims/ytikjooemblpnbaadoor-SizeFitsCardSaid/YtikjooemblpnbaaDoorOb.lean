/-
  What the functions of package size compute (Check, both, wanted, Inside, Meet, rounded), by the abstract machine.
-/
import Derived.Test.YtikjooemblpnbaaDoorOa
namespace Go.Proofs.YtikjooemblpnbaaDoor
open Go.RowKit

section
variable {G : Nat → Option (List AV)}

theorem checkS_pc (d : Dm) : PC Tryd.prog G 39 [.agg [.int .i64 d.n, .int .i64 d.l, .int .i64 d.u]] (.int .i64 (chk d)) := by
  (refine pc_size_Check (Nat.le_of_ble_eq_true rfl) fun R hG => GO_AR mixed 1000 ?_; subst hG)
  simp -implicitDefEqProofs [rc_size_Check, rr_size_Check]
  (first | refine CallK.of (inS_pc 0 1000000000 [d.n, d.l, d.u] (by simp)) (by simp) ?_ | refine CallD.of (inS_pc 0 1000000000 [d.n, d.l, d.u] (by simp)) (by simp) ?_)
  cases h1 : [d.n, d.l, d.u].all fun n => inR n 0 1000000000
  · have e : vd d = false := by
      refine decide_eq_false fun h => ?_
      have : ([d.n, d.l, d.u].all fun n => inR n 0 1000000000) = true := by
        simp [inR]; omega
      rw [this] at h1; cases h1
    simp -implicitDefEqProofs [chk, e]
  · have h2 : (0 ≤ d.n ∧ d.n ≤ 1000000000) ∧ (0 ≤ d.l ∧ d.l ≤ 1000000000) ∧ 0 ≤ d.u ∧ d.u ≤ 1000000000 := by
      simpa [inR] using h1
    by_cases h3 : d.u < d.l
    · have e : vd d = false := decide_eq_false (by omega)
      simp -implicitDefEqProofs [chk, e, h3]
    · have e : vd d = true := decide_eq_true (by omega)
      simp -implicitDefEqProofs [chk, e, h3]

theorem bothS_pc (a b : Dm) : PC Tryd.prog G 54 [.agg [.int .i64 a.n, .int .i64 a.l, .int .i64 a.u], .agg [.int .i64 b.n, .int .i64 b.l, .int .i64 b.u]] (.int .i64 (if vd a = true ∧ vd b = true then 0 else 10)) := by
  (refine pc_size_both (Nat.le_of_ble_eq_true rfl) fun R hG => GO_AR mixed 1000 ?_; subst hG)
  simp -implicitDefEqProofs [rc_size_both, rr_size_both]
  (first | refine CallK.of (checkS_pc _) (by simp) ?_ | refine CallD.of (checkS_pc _) (by simp) ?_)
  cases h1 : vd a
  · simp -implicitDefEqProofs [chk, h1]
  · simp -implicitDefEqProofs [chk, h1]
    (first | refine CallK.of (checkS_pc _) (by simp) ?_ | refine CallD.of (checkS_pc _) (by simp) ?_)
    cases h2 : vd b <;> simp -implicitDefEqProofs [chk, h2]

theorem wantedS_pc (lo hi : Int) : PC Tryd.prog G 58 [.agg [.int .i64 lo, .int .i64 hi]] (.int .i64 (if wantedB lo hi = true then 0 else 2)) := by
  (refine pc_size_wanted (Nat.le_of_ble_eq_true rfl) fun R hG => GO_AR mixed 1000 ?_; subst hG)
  simp -implicitDefEqProofs [rc_size_wanted, rr_size_wanted]
  (first | refine CallK.of (inS_pc (-1000000000) 1000000000 [lo, hi] (by simp)) (by simp) ?_ | refine CallD.of (inS_pc (-1000000000) 1000000000 [lo, hi] (by simp)) (by simp) ?_)
  cases h1 : [lo, hi].all fun n => inR n (-1000000000) 1000000000
  · have e : wantedB lo hi = false := by
      refine decide_eq_false fun h => ?_
      have : ([lo, hi].all fun n => inR n (-1000000000) 1000000000) = true := by
        simp [inR]; omega
      rw [this] at h1; cases h1
    simp -implicitDefEqProofs [e]
  · have h2 : (-1000000000 ≤ lo ∧ lo ≤ 1000000000) ∧ -1000000000 ≤ hi ∧ hi ≤ 1000000000 := by
      simpa [inR] using h1
    by_cases h3 : hi < lo
    · have e : wantedB lo hi = false := decide_eq_false (by omega)
      simp -implicitDefEqProofs [e, h3]
    · have e : wantedB lo hi = true := decide_eq_true (by omega)
      simp -implicitDefEqProofs [e, h3]

theorem insideS_pc (a b : Dm) : PC Tryd.prog G 22 [.agg [.int .i64 a.n, .int .i64 a.l, .int .i64 a.u], .agg [.int .i64 b.n, .int .i64 b.l, .int .i64 b.u]] (.tup [.bool (insideV a b).1, .int .i64 (insideV a b).2]) := by
  (refine pc_size_Inside (Nat.le_of_ble_eq_true rfl) fun R hG => GO_AR mixed 1000 ?_; subst hG)
  simp -implicitDefEqProofs [rc_size_Inside, rr_size_Inside]
  (first | refine CallK.of (bothS_pc a b) (by simp) ?_ | refine CallD.of (bothS_pc a b) (by simp) ?_)
  by_cases h1 : vd a = true ∧ vd b = true
  · by_cases h2 : a = b
    · subst h2
      have e : insideV a a = (true, 0) := by simp [insideV, h1.1]
      simp -implicitDefEqProofs [h1.1, e]
    · have e3 : (decide (a.n = b.n) && (decide (a.l = b.l) && decide (a.u = b.u))) = false := by
        cases h5 : (decide (a.n = b.n) && (decide (a.l = b.l) && decide (a.u = b.u)))
        · rfl
        · simp only [Bool.and_eq_true, decide_eq_true_eq] at h5
          exact absurd (Dm.ext h5.1 h5.2.1 h5.2.2) h2
      obtain ⟨x0, x1, x2, x3, x4⟩ := of_decide_eq_true h1.1
      obtain ⟨y0, y1, y2, y3, y4⟩ := of_decide_eq_true h1.2
      have e : insideV a b = ([a.l, a.u].all fun n => inR n b.l b.u, 0) := by
        have : (decide (b.l ≤ a.l ∧ a.u ≤ b.u)) = [a.l, a.u].all fun n => inR n b.l b.u := by
          simp only [List.all_cons, List.all_nil, Bool.and_true, inR, ← Bool.decide_and]
          exact decide_eq_decide.2 (by omega)
        simp only [insideV, h1, and_self, if_true, this]
      rw [e]
      generalize hp : ([a.l, a.u].all fun n => inR n b.l b.u) = p
      simp -implicitDefEqProofs [h1.1, h1.2, e3]
      refine CallK.of (inS_pc b.l b.u [a.l, a.u] (by simp)) (by simp) ?_
      rw [hp]
      simp -implicitDefEqProofs
  · have e : insideV a b = (false, 10) := by simp only [insideV, h1, if_false]
    simp -implicitDefEqProofs [h1, e]

theorem meetSz_pc (l : List Dm) : PC Tryd.prog G 30 [.vsl (l.map Dm.cs)] (.tup [.agg [.int .i64 (meetV l).1, .int .i64 (meetV l).2.1], .int .i64 (meetV l).2.2]) := by
  (refine pc_size_Meet (Nat.le_of_ble_eq_true rfl) fun R hG => GO_AR mixed 1000 ?_; subst hG)
  by_cases h1 : 20 < l.length
  · have h1' : (20 : Int) < l.length := by omega
    simp -implicitDefEqProofs [rc_size_Meet, rr_size_Meet, h1', h1, meetV]
  · have h1' : ¬ (20 : Int) < l.length := by omega
    simp -implicitDefEqProofs [rc_size_Meet, rr_size_Meet, h1']
    refine AR_loop (fun i : Nat => ⟨[(15, .int .i64 i), (14, .int .i64 l.length), (13, .vsl (l.map Dm.cs)), (4, .ptr 4 0), (2, .ptr 2 0), (0, .vsl (l.map Dm.cs))],
      [(2, .box [.int .i64 0, .int .i64 0]), (4, .box [.int .i64 (meetF (l.take i)).1, .int .i64 (meetF (l.take i)).2])]⟩) (fun i => i ≤ l.length ∧ ∀ x ∈ l.take i, vd x = true) (fun i => l.length - i) 0 (Weak.of (by simp [meetF]) (by simp [lk])) ⟨by omega, by simp⟩ ?_
    rintro i ⟨hi, he⟩
    refine GO_AR mixed 1000 ?_
    by_cases h2 : i < l.length
    · have w1 : IntKind.i64.wrap ((i : Int) + 1) = ((i + 1 : Nat) : Int) := wrapI (by omega) (by omega)
      simp -implicitDefEqProofs [h2, Dm.cs]
      (first | refine CallK.of (checkS_pc _) (by simp) ?_ | refine CallD.of (checkS_pc _) (by simp) ?_)
      cases h3 : vd l[i]
      · have h4 : l.all vd = false := by
          rw [← Bool.not_eq_true, List.all_eq_true]
          exact fun h => absurd (h l[i] (List.getElem_mem h2)) (by rw [h3]; simp)
        have h5 : meetV l = (0, 0, 10) := by simp [meetV, h1, h4]
        simp -implicitDefEqProofs [chk, h3]
        refine GO_ret mixed 1000 ?_
        simp -implicitDefEqProofs [h5]
      · simp -implicitDefEqProofs [chk, h3, w1]
        refine ⟨i + 1, Weak.sub ?_ ?_, ⟨by omega, ?_⟩, by show l.length - (i + 1) < l.length - i; omega⟩
        · simp [lk, keptA, AV.keys]
        · simp [lk, keptO, keptA, AV.keys, meetF_take l i h2, meetS]
        · rw [List.take_succ_eq_append_getElem h2]
          intro x hx
          rcases List.mem_append.1 hx with hx | hx
          · exact he x hx
          · rw [List.mem_singleton.1 hx]; exact h3
    · have ha : l.all vd = true := by
        rw [List.take_of_length_le (by omega)] at he
        exact List.all_eq_true.2 he
      have e1 : meetF (l.take i) = meetF l := by rw [List.take_of_length_le (by omega)]
      simp -implicitDefEqProofs [h2, e1]
      refine GO_ret mixed 1000 ?_
      by_cases h3 : l = []
      · have h5 : meetV [] = (0, 0, 6) := by simp [meetV]
        simp -implicitDefEqProofs [h5, h3]
      · have h3' : ¬ l.length = 0 := by simpa using h3
        by_cases h4 : (meetF l).2 < (meetF l).1
        · have h5 : meetV l = (0, 0, 6) := by simp [meetV, ha, h1, h3, h4]
          simp -implicitDefEqProofs [h5, h3, h4]
        · have h5 : meetV l = ((meetF l).1, (meetF l).2, 0) := by simp [meetV, ha, h1, h3, h4]
          simp -implicitDefEqProofs [h5, h3, h4]
end
end Go.Proofs.YtikjooemblpnbaaDoor
