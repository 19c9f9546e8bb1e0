/-
  The law SizeFits, by the abstract machine.
-/
import Derived.Test.YtikjooemblpnbaaDoorOd
namespace Go.Proofs.YtikjooemblpnbaaDoor
open Go.RowKit

theorem ite_last {p : Prop} [Decidable p] {α : Type} {x y : α} (h : p → x = y) : (if p then x else y) = y := by
  by_cases hp : p
  · rw [if_pos hp, h hp]
  · rw [if_neg hp]

section
variable {G : Nat → Option (List AV)}
theorem fits_pc (hU : G 0 = some unitsT) (a b : Dm) (n lo hi k : Int) (l : List Dm) (k0 : 0 ≤ k) (k1 : k ≤ 255) :
    PC Tryd.prog G 4 [.agg [.int .i64 a.n, .int .i64 a.l, .int .i64 a.u], .agg [.int .i64 b.n, .int .i64 b.l, .int .i64 b.u], .int .i64 n, .agg [.int .i64 lo, .int .i64 hi], .int .u8 k, .vsl (l.map Dm.cs)] (.bool true) := by
  (refine pc_law01_SizeFits (Nat.le_of_ble_eq_true rfl) fun R hG => GO_AR mixed 1000 ?_; subst hG)
  by_cases h1 : 40 < l.length
  · have h1' : (40 : Int) < l.length := by omega
    simp -implicitDefEqProofs [rc_law01_SizeFits, rr_law01_SizeFits, h1']
  · have h1' : ¬ (40 : Int) < l.length := by omega
    have hs : (l.map Dm.cs).all (fun r => r.all AV.one) = true := by simp [Dm.cs, AV.one]
    have hz : (l.map Dm.cs).all (fun r => r.length == 3) = true := by simp [Dm.cs]
    have hb : l.length * 24 ≤ 70368744177664 := by omega
    simp -implicitDefEqProofs [rc_law01_SizeFits, rr_law01_SizeFits, h1', hs, hz, hb]
    rw [ite_last (by rintro rfl; rfl)]
    simp -implicitDefEqProofs
    (first | refine CallK.of (insideS_pc a b) (by simp) ?_ | refine CallD.of (insideS_pc a b) (by simp) ?_)
    simp -implicitDefEqProofs
    (first | refine CallK.of (inside_pc a b) (by simp) ?_ | refine CallD.of (inside_pc a b) (by simp) ?_)
    simp -implicitDefEqProofs
    (first | refine CallK.of (fitS_pc a b) (by simp) ?_ | refine CallD.of (fitS_pc a b) (by simp) ?_)
    simp -implicitDefEqProofs
    (first | refine CallK.of (fitR_pc a b) (by simp) ?_ | refine CallD.of (fitR_pc a b) (by simp) ?_)
    simp -implicitDefEqProofs
    (first | refine CallK.of (RoomS_pc a lo hi) (by simp) ?_ | refine CallD.of (RoomS_pc a lo hi) (by simp) ?_)
    simp -implicitDefEqProofs
    (first | refine CallK.of (Room_pc a lo hi) (by simp) ?_ | refine CallD.of (Room_pc a lo hi) (by simp) ?_)
    simp -implicitDefEqProofs
    (first | refine CallK.of (shareS_pc hU n lo hi k k0 k1) (by simp) ?_ | refine CallD.of (shareS_pc hU n lo hi k k0 k1) (by simp) ?_)
    simp -implicitDefEqProofs [Dm.av]
    (first | refine CallK.of (shareR_pc n lo hi k) (by simp) ?_ | refine CallD.of (shareR_pc n lo hi k) (by simp) ?_)
    simp -implicitDefEqProofs [Dm.av]
    refine CallK.flat (meetSz_pc l) (by simp [AV.flat]) (by simp [Dm.cs, AV.pure]) ?_
    simp -implicitDefEqProofs
    (first | refine CallK.of (meetR_pc l) (by simp) ?_ | refine CallD.of (meetR_pc l) (by simp) ?_)
    simp -implicitDefEqProofs
    refine CallK.flat (sameR_pc l l (by omega)) (by simp [AV.flat]) (by simp [Dm.cs, AV.pure]) ?_
    simp -implicitDefEqProofs [Dm.beqs_true (rfl : l = l)]
end
end Go.Proofs.YtikjooemblpnbaaDoor
