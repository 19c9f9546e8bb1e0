/-
  What Meet of package bluelineref01 computes, by the abstract machine.
-/
import Derived.Test.YtikjooemblpnbaaDoorRc
namespace Go.Proofs.YtikjooemblpnbaaDoor
open Go.RowKit

/-- What is common, one size more. -/
def meetS (s : Int × Int) (d : Dm) : Int × Int := (max s.1 d.l, min s.2 d.u)
def meetF (l : List Dm) : Int × Int := l.foldl meetS (0, 1000000000)
def meetV (l : List Dm) : Int × Int × Int :=
  if 20 < l.length then (0, 0, 4)
  else if l.all vd = true then if l = [] ∨ (meetF l).2 < (meetF l).1 then (0, 0, 6) else ((meetF l).1, (meetF l).2, 0)
  else (0, 0, 10)

theorem meetF_take (l : List Dm) (k : Nat) (h : k < l.length) : meetF (l.take (k + 1)) = meetS (meetF (l.take k)) l[k] := by
  rw [List.take_succ_eq_append_getElem h, meetF, List.foldl_append]; rfl

section
variable {G : Nat → Option (List AV)}

theorem meetR_pc (l : List Dm) : PC Tryd.prog G 31 [.vsl (l.map Dm.cs)] (.tup [.agg [.int .i64 (meetV l).1, .int .i64 (meetV l).2.1], .int .i64 (meetV l).2.2]) := by
  (refine pc_ref01_Meet (Nat.le_of_ble_eq_true rfl) fun R hG => GO_AR mixed 1000 ?_; subst hG)
  by_cases h1 : 20 < l.length
  · have h1' : (20 : Int) < l.length := by omega
    simp -implicitDefEqProofs [rc_ref01_Meet, rr_ref01_Meet, h1', h1, meetV]
  · have h1' : ¬ (20 : Int) < l.length := by omega
    simp -implicitDefEqProofs [rc_ref01_Meet, rr_ref01_Meet, h1']
    refine AR_loop (fun i : Nat => ⟨[(4, .int .i64 i), (3, .int .i64 0), (2, .ptr 2 0), (0, .vsl (l.map Dm.cs))], [(2, .box [.int .i64 0, .int .i64 0])]⟩) (fun i => i ≤ l.length ∧ ∀ x ∈ l.take i, vd x = true) (fun i => l.length - i) 0 (Weak.tm (by simp [lk])) ⟨by omega, by simp⟩ ?_
    rintro i ⟨hi, he⟩
    refine GO_AR mixed 1000 ?_
    by_cases h2 : i < l.length
    · have w1 : IntKind.i64.wrap ((i : Int) + 1) = ((i + 1 : Nat) : Int) := wrapI (by omega) (by omega)
      simp -implicitDefEqProofs [h2, Dm.cs]
      (first | refine CallK.of (dim_pc _ _ _) (by simp) ?_ | refine CallD.of (dim_pc _ _ _) (by simp) ?_)
      cases h3 : vd ⟨l[i].n, l[i].l, l[i].u⟩
      · have h4 : l.all vd = false := by
          rw [← Bool.not_eq_true, List.all_eq_true]
          exact fun h => absurd (h l[i] (List.getElem_mem h2)) (by rw [show vd l[i] = false from h3]; simp)
        have h5 : meetV l = (0, 0, 10) := by simp [meetV, h1, h4]
        simp -implicitDefEqProofs
        refine GO_ret mixed 1000 ?_
        simp -implicitDefEqProofs [h5]
      · simp -implicitDefEqProofs [w1]
        refine ⟨i + 1, Weak.tm (by simp [lk]), ⟨by omega, ?_⟩, by show l.length - (i + 1) < l.length - i; omega⟩
        rw [List.take_succ_eq_append_getElem h2]
        intro x hx
        rcases List.mem_append.1 hx with hx | hx
        · exact he x hx
        · rw [List.mem_singleton.1 hx]; exact h3
    · have ha : l.all vd = true := by
        rw [List.take_of_length_le (by omega)] at he
        exact List.all_eq_true.2 he
      simp -implicitDefEqProofs [h2]
      refine GO_ret mixed 1000 ?_
      simp -implicitDefEqProofs
      clear he h2 hi
      refine AR_loop (fun i : Nat => ⟨[(6, .int .i64 i), (5, .ptr 5 0), (2, .ptr 2 0), (0, .vsl (l.map Dm.cs))], [(2, .box [.int .i64 0, .int .i64 0]), (5, .box [.int .i64 (meetF (l.take i)).1, .int .i64 (meetF (l.take i)).2])]⟩) (fun i => i ≤ l.length) (fun i => l.length - i) 0 (Weak.tm (by simp [lk])) (by omega) ?_
      intro i hi
      refine GO_AR mixed 1000 ?_
      by_cases h2 : i < l.length
      · have w1 : IntKind.i64.wrap ((i : Int) + 1) = ((i + 1 : Nat) : Int) := wrapI (by omega) (by omega)
        simp -implicitDefEqProofs [h2, Dm.cs, w1]
        refine ⟨rfl, i + 1, ?_, by omega, by show l.length - (i + 1) < l.length - i; omega⟩
        exact Weak.of (by simp [meetF_take l i h2, meetS]) (by simp [lk])
      · have e1 : meetF (l.take i) = meetF l := by rw [List.take_of_length_le (by omega)]
        simp -implicitDefEqProofs [h2, e1]
        refine GO_ret mixed 1000 ?_
        by_cases h3 : l = []
        · have h5 : meetV [] = (0, 0, 6) := by simp [meetV]
          simp -implicitDefEqProofs [h5, h3]
        · have h3' : ¬ l.length = 0 := by simpa using h3
          by_cases h4 : (meetF l).2 < (meetF l).1
          · have h5 : meetV l = (0, 0, 6) := by simp [meetV, ha, h1, h3, h4]
            simp -implicitDefEqProofs [h5, h3, h4]
          · have h5 : meetV l = ((meetF l).1, (meetF l).2, 0) := by simp [meetV, ha, h1, h3, h4]
            simp -implicitDefEqProofs [h5, h3, h4]
end
end Go.Proofs.YtikjooemblpnbaaDoor
