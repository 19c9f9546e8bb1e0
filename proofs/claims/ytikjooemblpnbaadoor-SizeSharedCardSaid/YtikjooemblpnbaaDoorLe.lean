/-
  The law SizeShared: what it tells.
-/
import Derived.Test.YtikjooemblpnbaaDoorLd
namespace Go.Proofs.YtikjooemblpnbaaDoor
open Go.RowKit

/-- What is shared, in a unit of step s. -/
theorem shared_facts (s : Int) (hs : s = 100 ∨ s = 254) (n lo hi : Int) (n0 : 0 ≤ n) (n1 : n ≤ 1000000000) (hn : n % s = 0) (hw : wantedB lo hi = true) (hu : (shareHole n lo hi s).u ≤ 1000000000)
    (hr : (roomD (shareHole n lo hi s) lo hi).l ≤ (roomD (shareHole n lo hi s) lo hi).u) (ho : agnOk (roomD (shareHole n lo hi s) lo hi) s = true) :
    vd (shareHole n lo hi s) = true ∧ vd (agn (roomD (shareHole n lo hi s) lo hi) s) = true ∧ exa (shareHole n lo hi s) s = true ∧ exa (agn (roomD (shareHole n lo hi s) lo hi) s) s = true ∧ vd (roomD (shareHole n lo hi s) lo hi) = true ∧
      lo ≤ (shareHole n lo hi s).l - (agn (roomD (shareHole n lo hi s) lo hi) s).u ∧ (shareHole n lo hi s).u - (agn (roomD (shareHole n lo hi s) lo hi) s).l ≤ hi ∧
      0 ≤ (shareHole n lo hi s).u - n ∧ (shareHole n lo hi s).u - n ≤ (hi - lo) / 2 ∧ (hi - lo) / 2 < (shareHole n lo hi s).u - n + s := by
  obtain ⟨z0, z1, z2, z3, z4⟩ := of_decide_eq_true hw
  have h1 : vd (shareHole n lo hi s) = true := by
    refine decide_eq_true ⟨n0, n1, n0, ?_, hu⟩
    show n ≤ n + (hi - lo) / 2 / s * s
    rcases hs with rfl | rfl <;> omega
  have e1 : (roomD (shareHole n lo hi s) lo hi).l = max 0 ((shareHole n lo hi s).u - hi) := rfl
  have e2 : (roomD (shareHole n lo hi s) lo hi).u = min 1000000000 ((shareHole n lo hi s).l - lo) := rfl
  have h2 : vd (roomD (shareHole n lo hi s) lo hi) = true := decide_eq_true ⟨n0, n1, by omega, hr, by omega⟩
  have s0 : 1 ≤ s := by omega
  have s1 : s ≤ 254 := by omega
  have hb := agn_bd _ s h2 s0 s1
  have h3 := agn_vd _ s h2 s0 s1 ho
  have x1 : exa (shareHole n lo hi s) s = true := by
    refine decide_eq_true ⟨hn, hn, ?_⟩
    show (n + (hi - lo) / 2 / s * s) % s = 0
    rcases hs with rfl | rfl <;> omega
  have x2 : exa (agn (roomD (shareHole n lo hi s) lo hi) s) s = true := by
    generalize roomD (shareHole n lo hi s) lo hi = r
    refine decide_eq_true ⟨?_, ?_, ?_⟩
    · show nom r.n s % s = 0
      unfold nom
      rcases hs with rfl | rfl <;> split <;> omega
    · show (r.l + s - 1) / s * s % s = 0
      rcases hs with rfl | rfl <;> omega
    · show r.u / s * s % s = 0
      rcases hs with rfl | rfl <;> omega
  have e3 : (shareHole n lo hi s).u = n + (hi - lo) / 2 / s * s := rfl
  have e4 : (shareHole n lo hi s).l = n := rfl
  refine ⟨h1, h3, x1, x2, h2, by omega, by omega, ?_, ?_, ?_⟩
  · rw [e3]; rcases hs with rfl | rfl <;> omega
  · rw [e3]; rcases hs with rfl | rfl <;> omega
  · rw [e3]; rcases hs with rfl | rfl <;> omega

section
variable {G : Nat → Option (List AV)}

set_option maxHeartbeats 2000000 in
set_option maxRecDepth 8000 in
theorem sizeShared_pc (hg : Gs G) (n lo hi by' : Int) (n0 : -9223372036854775808 ≤ n) (n1 : n ≤ 9223372036854775807) (o0 : 0 ≤ by') (o1 : by' ≤ 255) :
    PC Tryd.prog G 13 [.int .i64 n, .agg [.int .i64 lo, .int .i64 hi], .int .u8 by'] (.bool true) := by
  have hU := hg.1
  (refine pc_law01_SizeShared (Nat.le_of_ble_eq_true rfl) fun R hG => GO_AR mixed 1000 ?_; subst hG)
  simp -implicitDefEqProofs [rc_law01_SizeShared, rr_law01_SizeShared]
  (first | refine CallK.of (alive_pc hg) (by simp) ?_ | refine CallD.of (alive_pc hg) (by simp) ?_)
  simp -implicitDefEqProofs
  (first | refine CallK.of (stepL_pc by' o0) (by simp) ?_ | refine CallD.of (stepL_pc by' o0) (by simp) ?_)
  have hk := stepK_cases by'
  generalize stepK by' = k at *
  have hs : stp k = 100 ∨ stp k = 254 := by rcases hk with rfl | rfl <;> simp [stp]
  have hs0 : ¬ stp k = 0 := by omega
  by_cases a0 : n < 0
  · simp -implicitDefEqProofs [a0]
  by_cases a1 : 1000000000 < n
  · simp -implicitDefEqProofs [a0, a1]
  have m1 : n.tmod (stp k) = n % stp k := Int.tmod_eq_emod_of_nonneg (by omega)
  by_cases a2 : n % stp k = 0
  case neg => simp -implicitDefEqProofs [a0, a1, hs0, m1, a2]
  simp -implicitDefEqProofs [a0, a1, hs0, m1, a2]
  (first | refine CallK.of (wanted_pc lo hi) (by simp) ?_ | refine CallD.of (wanted_pc lo hi) (by simp) ?_)
  cases h3 : wantedB lo hi
  · simp -implicitDefEqProofs
  obtain ⟨z0, z1, z2, z3, z4⟩ := of_decide_eq_true h3
  simp -implicitDefEqProofs
  (first | refine CallK.of (shareS_pc hU n lo hi k (by omega) (by omega)) (by simp) ?_ | refine CallD.of (shareS_pc hU n lo hi k (by omega) (by omega)) (by simp) ?_)
  have hin : inR n 0 1000000000 = true := decide_eq_true (by omega)
  have hsv : shareV n lo hi k = if (shareHole n lo hi (stp k)).u ≤ 1000000000 ∧ (roomD (shareHole n lo hi (stp k)) lo hi).l ≤ (roomD (shareHole n lo hi (stp k)) lo hi).u ∧ agnOk (roomD (shareHole n lo hi (stp k)) lo hi) (stp k) = true then (shareHole n lo hi (stp k), agn (roomD (shareHole n lo hi (stp k)) lo hi) (stp k), 0) else (Dm.zero, Dm.zero, 6) := by
    simp only [shareV, hin, h3, and_self, if_true, hs0, if_false, a2]
    by_cases b1 : (shareHole n lo hi (stp k)).u ≤ 1000000000 <;> by_cases b2 : (roomD (shareHole n lo hi (stp k)) lo hi).l ≤ (roomD (shareHole n lo hi (stp k)) lo hi).u <;> simp [b1, b2]
  rw [hsv]
  have w1 : IntKind.i64.wrap (hi - lo) = hi - lo := wrapI (by omega) (by omega)
  have w2 : (hi - lo).tdiv 2 = (hi - lo) / 2 := Int.tdiv_eq_ediv_of_nonneg (by omega)
  have w3 : IntKind.i64.wrap ((hi - lo) / 2) = (hi - lo) / 2 := wrapI (by omega) (by omega)
  split
  · rename_i hc
    obtain ⟨b1, b2, b3⟩ := hc
    obtain ⟨f1, f2, f3, f4, f5, f6, f7, f8, f9, f10⟩ := shared_facts (stp k) hs n lo hi (by omega) (by omega) a2 h3 b1 b2 b3
    have r1 : roomV (shareHole n lo hi (stp k)) lo hi = (roomD (shareHole n lo hi (stp k)) lo hi, 0) := by simp [roomV, f1, h3, b2]
    have r2 : conv (roomD (shareHole n lo hi (stp k)) lo hi) k = (agn (roomD (shareHole n lo hi (stp k)) lo hi) (stp k), 0) := by simp [conv, f5, hs0, b3]
    have e1 := bit_of _ k hk (exact_cases _ f1 k hk f3)
    have e2 := bit_of _ k hk (exact_cases _ f2 k hk f4)
    have c1 : chk (shareHole n lo hi (stp k)) = 0 := by simp [chk, f1]
    have c2 : chk (agn (roomD (shareHole n lo hi (stp k)) lo hi) (stp k)) = 0 := by simp [chk, f2]
    have l1 : (shareHole n lo hi (stp k)).n = n := rfl
    have l2 : (shareHole n lo hi (stp k)).l = n := rfl
    generalize roomD (shareHole n lo hi (stp k)) lo hi = r at *
    generalize agn r (stp k) = b at *
    generalize shareHole n lo hi (stp k) = a at *
    obtain ⟨an, al, au⟩ := a
    simp only at l1 l2 f1 f3 f6 f7 f8 f9 f10 e1 c1 r1 b1
    subst l1
    subst l2
    obtain ⟨y0, y1, y2, y3, y4⟩ := of_decide_eq_true f2
    simp only at *
    have w4 : IntKind.i64.wrap (au - al) = au - al := wrapI (by omega) (by omega)
    have w5 : IntKind.i64.wrap (au - al + stp k) = au - al + stp k := wrapI (by omega) (by omega)
    simp -implicitDefEqProofs [Dm.av, w1, w2, w3]
    (first | refine CallK.of (fitS_pc ⟨al, al, au⟩ b) (by simp) ?_ | refine CallD.of (fitS_pc ⟨al, al, au⟩ b) (by simp) ?_)
    rw [fitV_valid ⟨al, al, au⟩ b f1 f2]
    simp -implicitDefEqProofs []
    (first | refine CallK.of (exactSz_pc hU ⟨al, al, au⟩) (by simp) ?_ | refine CallD.of (exactSz_pc hU ⟨al, al, au⟩) (by simp) ?_)
    rw [c1]
    simp -implicitDefEqProofs []
    (first | refine CallK.of (exactSz_pc hU b) (by simp) ?_ | refine CallD.of (exactSz_pc hU b) (by simp) ?_)
    rw [c2]
    simp -implicitDefEqProofs []
    (first | refine CallK.of (RoomS_pc ⟨al, al, au⟩ lo hi) (by simp) ?_ | refine CallD.of (RoomS_pc ⟨al, al, au⟩ lo hi) (by simp) ?_)
    rw [r1]
    have g1 : lo ≤ al - b.u := by omega
    have g2 : au - b.l ≤ hi := by omega
    have g3 : 0 ≤ au - al := by omega
    have g4 : (hi - lo) / 2 < au - al + stp k := by omega
    have g5 : ¬ al - b.u < lo := by omega
    have g6 : ¬ hi < au - b.l := by omega
    have g7 : al ≤ au := by omega
    simp -implicitDefEqProofs [e1, e2, g1, g2, g5, g6]
    (first | refine CallK.of (conv_pc hU r k (by omega) (by omega)) (by simp) ?_ | refine CallD.of (conv_pc hU r k (by omega) (by omega)) (by simp) ?_)
    rw [r2]
    simp -implicitDefEqProofs [e1, e2, w4, w5, g1, g2, g3, g4, g7, f9]
  · simp -implicitDefEqProofs [Dm.av, Dm.zero, w1, w2, w3]
end
end Go.Proofs.YtikjooemblpnbaaDoor
