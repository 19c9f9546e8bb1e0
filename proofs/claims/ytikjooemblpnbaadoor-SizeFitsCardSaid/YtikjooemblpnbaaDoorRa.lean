/-
  What the functions of package bluelineref01 compute (sizes), by the abstract machine.
-/
import Derived.Test.YtikjooemblpnbaaDoorRcA
import Derived.Test.YtikjooemblpnbaaDoorMath
import Derived.IntWalk
namespace Go.Proofs.YtikjooemblpnbaaDoor
open Go.RowKit

theorem mixed : Tryd.prog.follows .mixedOrders = true := by kernel_rfl
def inR (n lo hi : Int) : Bool := decide (lo ≤ n ∧ n ≤ hi)
theorem wrapI {n : Int} (h0 : -9223372036854775808 ≤ n) (h1 : n ≤ 9223372036854775807) : IntKind.i64.wrap n = n := IntWalk.i64_in _ ⟨h0, h1⟩

section
variable {G : Nat → Option (List AV)}

theorem within_pc (n lo hi : Int) : PC Tryd.prog G 61 [.int .i64 n, .int .i64 lo, .int .i64 hi] (.bool (inR n lo hi)) := by
  (refine pc_ref01_within (Nat.le_of_ble_eq_true rfl) fun R hG => GO_AR mixed 1000 ?_; subst hG)
  by_cases h1 : lo ≤ n <;> simp -implicitDefEqProofs [rc_ref01_within, rr_ref01_within, h1, inR]

theorem dim_pc (n l u : Int) : PC Tryd.prog G 42 [.agg [.int .i64 n, .int .i64 l, .int .i64 u]] (.bool (vd ⟨n, l, u⟩)) := by
  (refine pc_ref01_Dim (Nat.le_of_ble_eq_true rfl) fun R hG => GO_AR mixed 1000 ?_; subst hG)
  have e : vd ⟨n, l, u⟩ = (inR n 0 1000000000 && (inR u 0 1000000000 && inR l 0 u)) := by
    unfold vd inR
    rw [← Bool.decide_and, ← Bool.decide_and]
    exact decide_eq_decide.2 (by simp only; omega)
  simp -implicitDefEqProofs [rc_ref01_Dim, rr_ref01_Dim, e]
  (first | refine CallK.of (within_pc _ _ _) (by simp) ?_ | refine CallD.of (within_pc _ _ _) (by simp) ?_)
  cases h1 : inR n 0 1000000000
  · simp -implicitDefEqProofs
  · simp -implicitDefEqProofs
    (first | refine CallK.of (within_pc _ _ _) (by simp) ?_ | refine CallD.of (within_pc _ _ _) (by simp) ?_)
    cases h2 : inR u 0 1000000000
    · simp -implicitDefEqProofs
    · simp -implicitDefEqProofs
      (first | refine CallK.of (within_pc _ _ _) (by simp) ?_ | refine CallD.of (within_pc _ _ _) (by simp) ?_)
      simp -implicitDefEqProofs

theorem step_pc (k : Int) : PC Tryd.prog G 50 [.int .u8 k] (.int .i64 (stp k)) := by
  (refine pc_ref01_Step (Nat.le_of_ble_eq_true rfl) fun R hG => GO_AR mixed 1000 ?_; subst hG)
  unfold stp
  by_cases h1 : k = 1
  · simp -implicitDefEqProofs [rc_ref01_Step, rr_ref01_Step, h1]
  · by_cases h2 : k = 2 <;> simp -implicitDefEqProofs [rc_ref01_Step, rr_ref01_Step, h1, h2]

theorem above_pc (n s : Int) (h0 : 0 ≤ n) (h1 : n ≤ 1000000000) (s0 : 1 ≤ s) (s1 : s ≤ 254) : PC Tryd.prog G 77 [.int .i64 n, .int .i64 s] (.int .i64 ((n + s - 1) / s * s)) := by
  (refine pc_ref01_above (Nat.le_of_ble_eq_true rfl) fun R hG => GO_AR mixed 1000 ?_; subst hG)
  have e1 : ¬ s = 0 := by omega
  obtain ⟨b0, b1⟩ := dm_bd (n + s - 1) s s0
  have hp : 0 ≤ (n + s - 1) / s := Int.ediv_nonneg (by omega) (by omega)
  have hq : (n + s - 1) / s ≤ n + s - 1 := Int.ediv_le_self _ (by omega)
  have e2 : IntKind.i64.wrap (n + s) = n + s := wrapI (by omega) (by omega)
  have e3 : IntKind.i64.wrap (n + s - 1) = n + s - 1 := wrapI (by omega) (by omega)
  have e4 : (n + s - 1).tdiv s = (n + s - 1) / s := Int.tdiv_eq_ediv_of_nonneg (by omega)
  have e5 : IntKind.i64.wrap ((n + s - 1) / s) = (n + s - 1) / s := wrapI (by omega) (by omega)
  have e6 : IntKind.i64.wrap ((n + s - 1) / s * s) = (n + s - 1) / s * s := wrapI (by omega) (by omega)
  simp -implicitDefEqProofs [rc_ref01_above, rr_ref01_above, e1, e2, e3, e4, e5, e6]

theorem wanted_pc (lo hi : Int) : PC Tryd.prog G 46 [.agg [.int .i64 lo, .int .i64 hi]] (.bool (wantedB lo hi)) := by
  (refine pc_ref01_Wanted (Nat.le_of_ble_eq_true rfl) fun R hG => GO_AR mixed 1000 ?_; subst hG)
  have e : wantedB lo hi = (inR lo (-1000000000) 1000000000 && (inR hi (-1000000000) 1000000000 && decide (lo ≤ hi))) := by
    unfold wantedB inR
    rw [← Bool.decide_and, ← Bool.decide_and]
    exact decide_eq_decide.2 (by omega)
  simp -implicitDefEqProofs [rc_ref01_Wanted, rr_ref01_Wanted, e]
  (first | refine CallK.of (within_pc _ _ _) (by simp) ?_ | refine CallD.of (within_pc _ _ _) (by simp) ?_)
  cases h1 : inR lo (-1000000000) 1000000000
  · simp -implicitDefEqProofs
  · simp -implicitDefEqProofs
    (first | refine CallK.of (within_pc _ _ _) (by simp) ?_ | refine CallD.of (within_pc _ _ _) (by simp) ?_)
    cases h2 : inR hi (-1000000000) 1000000000 <;> simp -implicitDefEqProofs

theorem check_pc (n l u : Int) : PC Tryd.prog G 40 [.agg [.int .i64 n, .int .i64 l, .int .i64 u]] (.int .i64 (chk ⟨n, l, u⟩)) := by
  (refine pc_ref01_Check (Nat.le_of_ble_eq_true rfl) fun R hG => GO_AR mixed 1000 ?_; subst hG)
  simp -implicitDefEqProofs [rc_ref01_Check, rr_ref01_Check, chk]
  (first | refine CallK.of (dim_pc _ _ _) (by simp) ?_ | refine CallD.of (dim_pc _ _ _) (by simp) ?_)
  cases h1 : vd ⟨n, l, u⟩ <;> simp -implicitDefEqProofs

theorem inside_pc (a b : Dm) : PC Tryd.prog G 23 [.agg [.int .i64 a.n, .int .i64 a.l, .int .i64 a.u], .agg [.int .i64 b.n, .int .i64 b.l, .int .i64 b.u]] (.tup [.bool (insideV a b).1, .int .i64 (insideV a b).2]) := by
  (refine pc_ref01_Inside (Nat.le_of_ble_eq_true rfl) fun R hG => GO_AR mixed 1000 ?_; subst hG)
  simp -implicitDefEqProofs [rc_ref01_Inside, rr_ref01_Inside, insideV]
  (first | refine CallK.of (dim_pc _ _ _) (by simp) ?_ | refine CallD.of (dim_pc _ _ _) (by simp) ?_)
  cases h1 : vd a
  · simp -implicitDefEqProofs [h1]
  · simp -implicitDefEqProofs [h1]
    (first | refine CallK.of (dim_pc _ _ _) (by simp) ?_ | refine CallD.of (dim_pc _ _ _) (by simp) ?_)
    cases h2 : vd b
    · simp -implicitDefEqProofs [h2]
    · simp -implicitDefEqProofs [h2]
      by_cases h3 : b.l ≤ a.l <;> simp -implicitDefEqProofs [h3]
end
end Go.Proofs.YtikjooemblpnbaaDoor
