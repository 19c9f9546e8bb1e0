/-
  The law SizeRead: what it tells.
-/
import Derived.Test.YtikjooemblpnbaaDoorRl
import Derived.Test.YtikjooemblpnbaaDoorRcE
import Derived.Test.YtikjooemblpnbaaDoorLc
namespace Go.Proofs.YtikjooemblpnbaaDoor
open Go.RowKit

theorem exactV_bits (d : Dm) (hv : vd d = true) (k : Int) (hk : k = 1 ∨ k = 2) : (IntKind.u8.wrap (((exactV d % 2 ^ IntKind.u8.bits).toNat &&& (k % 2 ^ IntKind.u8.bits).toNat : Nat) : Int) = k) = (exa d (stp k) = true) := by
  have e : exactV d = (if exa d 100 = true then 1 else 0) + (if exa d 254 = true then 2 else 0) := by simp [exactV, hv]
  rw [e]
  rcases hk with rfl | rfl <;> simp only [stp, if_true, Int.reduceEq, if_false] <;> cases exa d 100 <;> cases exa d 254 <;> simp <;> decide

/-- What a text reads, and the error. -/
def readR (s : ByteArray) : Dm × Int × Int := match readV s with
  | some (d, k) => (d, k, 0)
  | none => (Dm.zero, 0, 13)

theorem wnS_le (bh n : Nat) (h : n < 10 ^ (bh + 6)) : (wnS bh n).size ≤ bh + 7 := by
  obtain ⟨f1, f2, f3, f4, f5⟩ := dU_facts (bh + 1) n
  have f6 := f5 (bh + 6) (by omega) h
  have e : (wnS bh n).size = (wnS bh n).data.toList.length := rfl
  rw [e, wnS_data, List.length_append, List.length_cons, List.length_take, List.length_drop]
  omega
theorem sgS_le (bh : Nat) (z : Int) (h : z.natAbs < 10 ^ (bh + 6)) : (sgS bh z).size ≤ bh + 8 := by
  have e : (sgS bh z).size = (sgS bh z).data.toList.length := rfl
  rw [e, sgS_data, List.length_cons]
  have := wnS_le bh (if z < 0 then (-z).toNat else z.toNat) (by split <;> omega)
  have e : (wnS bh (if z < 0 then (-z).toNat else z.toNat)).size = (wnS bh (if z < 0 then (-z).toNat else z.toNat)).data.toList.length := rfl
  omega
theorem wrV_le (d : Dm) (k : Int) (hk : k = 1 ∨ k = 2) (hv : vd d = true) : (wrV d k).size ≤ 60 := by
  obtain ⟨x0, x1, x2, x3, x4⟩ := of_decide_eq_true hv
  have hs : stp k = 100 ∧ bhV k = 3 ∨ stp k = 254 ∧ bhV k = 4 := by rcases hk with rfl | rfl <;> simp [stp, bhV]
  have t1 : ∀ a : Int, -1000000000 ≤ a → a ≤ 1000000000 → (a.tdiv (stp k)).natAbs < 10000001 := fun a q0 q1 => by
    rcases Int.le_total 0 a with c | c
    · rw [Int.tdiv_eq_ediv_of_nonneg c]
      rcases hs with ⟨h, -⟩ | ⟨h, -⟩ <;> rw [h] <;> omega
    · have e : a.tdiv (stp k) = -((-a).tdiv (stp k)) := by rw [Int.neg_tdiv, Int.neg_neg]
      rw [e, Int.tdiv_eq_ediv_of_nonneg (show 0 ≤ -a by omega)]
      rcases hs with ⟨h, -⟩ | ⟨h, -⟩ <;> rw [h] <;> omega
  have hn : (d.n / stp k).toNat < 10000001 := by rcases hs with ⟨h, -⟩ | ⟨h, -⟩ <;> rw [h] <;> omega
  have hp : 10000001 ≤ 10 ^ (bhV k + 6) := by rcases hs with ⟨-, h⟩ | ⟨-, h⟩ <;> rw [h] <;> decide
  have h0 := wnS_le (bhV k) (d.n / stp k).toNat (by omega)
  have h1 := sgS_le (bhV k) ((d.l - d.n).tdiv (stp k)) (by have := t1 (d.l - d.n) (by omega) (by omega); omega)
  have h2 := sgS_le (bhV k) ((d.u - d.n).tdiv (stp k)) (by have := t1 (d.u - d.n) (by omega) (by omega); omega)
  have h3 : (nmV k).size = 2 := by unfold nmV; split <;> rfl
  have e : ∀ b : ByteArray, b.data.toList.length = b.size := fun _ => rfl
  have hb : bhV k ≤ 4 := by omega
  rw [← e, wrV, jn_data]
  simp only [List.length_append, List.length_cons, e]
  omega

section
variable {G : Nat → Option (List AV)}
theorem read_pc (hg : Gs G) (s : ByteArray) (hs : s.size < 4294967281) :
    PC Tryd.prog G 37 [.str s] (.tup [.agg [.int .i64 (readR s).1.n, .int .i64 (readR s).1.l, .int .i64 (readR s).1.u], .int .u8 (readR s).2.1, .int .i64 (readR s).2.2]) := by
  cases h : readV s with
  | none =>
    have e : readR s = (Dm.zero, 0, 13) := by unfold readR; rw [h]
    rw [e]
    exact readN_pc hg s hs h
  | some p =>
    obtain ⟨d, k⟩ := p
    have e : readR s = (d, k, 0) := by unfold readR; rw [h]
    obtain ⟨hk, hv, hx, hw, w0, w1, w2, n, a, b, hws, hn, ha, hb, rfl⟩ := wr_readV h
    rw [e]
    exact readS_pc hg s w0 w1 w2 k n a b hs hws hk hn ha hb hv

set_option maxHeartbeats 2000000 in
set_option maxRecDepth 8000 in
theorem sizeRead_pc (hg : Gs G) (d : Dm) (by' : Int) (s : ByteArray) (o0 : 0 ≤ by') (o1 : by' ≤ 255) (_sz : s.size ≤ maxLen) :
    PC Tryd.prog G 9 [.agg [.int .i64 d.n, .int .i64 d.l, .int .i64 d.u], .int .u8 by', .str s] (.bool true) := by
  have hU := hg.1
  (refine pc_law01_SizeRead (Nat.le_of_ble_eq_true rfl) fun R hG => GO_AR mixed 1000 ?_; subst hG)
  simp -implicitDefEqProofs [rc_law01_SizeRead, rr_law01_SizeRead]
  (first | refine CallK.of (alive_pc hg) (by simp) ?_ | refine CallD.of (alive_pc hg) (by simp) ?_)
  by_cases z : 200 < s.size
  · have z1 : (200 : Int) < s.size := by omega
    simp -implicitDefEqProofs [z, z1]
  have z1 : ¬ (200 : Int) < s.size := by omega
  simp -implicitDefEqProofs [z1]
  (first | refine CallK.of (stepL_pc by' o0) (by simp) ?_ | refine CallD.of (stepL_pc by' o0) (by simp) ?_)
  have hk := stepK_cases by'
  generalize stepK by' = k at *
  simp -implicitDefEqProofs []
  (first | refine CallK.of (write_pc hU d k (by omega) (by omega)) (by simp) ?_ | refine CallD.of (write_pc hU d k (by omega) (by omega)) (by simp) ?_)
  simp -implicitDefEqProofs []
  (first | refine CallK.of (exactSz_pc hU d) (by simp) ?_ | refine CallD.of (exactSz_pc hU d) (by simp) ?_)
  have hs0 : ¬ stp k = 0 := by rcases hk with rfl | rfl <;> simp [stp]
  cases hv : vd d
  case' false =>
    have e1 : writeV d k = (⟨#[]⟩, 10) := by simp [writeV, hv]
    have e2 : chk d = 10 := by simp [chk, hv]
    rw [e1, e2]
    simp -implicitDefEqProofs []
  case' true =>
    have e2 : chk d = 0 := by simp [chk, hv]
    have hbit := exactV_bits d hv k hk
    rw [e2]
    cases hx : exa d (stp k)
    case' false =>
      have e1 : writeV d k = (⟨#[]⟩, 12) := by simp [writeV, hv, hs0, hx]
      rw [hx] at hbit
      have hb : ¬ _ := fun h => Bool.false_ne_true (hbit.mp h)
      rw [e1]
      simp -implicitDefEqProofs [hb]
    case' true =>
      have e1 : writeV d k = (wrV d k, 0) := by simp [writeV, hv, hs0, hx]
      have hr : readR (wrV d k) = (d, k, 0) := by unfold readR; rw [readV_wr d k hk hv hx]
      have hl := wrV_le d k hk hv
      rw [hx] at hbit
      have hb := hbit.mpr rfl
      rw [e1]
      simp -implicitDefEqProofs [hb]
      (first | refine CallK.of (read_pc hg (wrV d k) (by omega)) (by simp) ?_ | refine CallD.of (read_pc hg (wrV d k) (by omega)) (by simp) ?_)
      rw [hr]
      simp -implicitDefEqProofs []
  all_goals
    (first | refine CallK.of (read_pc hg s (by omega)) (by simp) ?_ | refine CallD.of (read_pc hg s (by omega)) (by simp) ?_)
    cases h : readV s with
    | none =>
      have e : readR s = (Dm.zero, 0, 13) := by unfold readR; rw [h]
      rw [e]
      simp -implicitDefEqProofs [Dm.zero]
    | some p =>
      obtain ⟨x, u⟩ := p
      have e : readR s = (x, u, 0) := by unfold readR; rw [h]
      obtain ⟨hk', hv', hx', hw', -⟩ := wr_readV h
      have hs0' : ¬ stp u = 0 := by rcases hk' with rfl | rfl <;> simp [stp]
      have e1 : writeV x u = (s, 0) := by rw [hw']; simp [writeV, hv', hs0', hx']
      have e2 : chk x = 0 := by simp [chk, hv']
      have e3 : (s.toList == s.toList) = true := by simp
      rw [e]
      simp -implicitDefEqProofs []
      (first | refine CallK.of (write_pc hU x u (by omega) (by omega)) (by simp) ?_ | refine CallD.of (write_pc hU x u (by omega) (by omega)) (by simp) ?_)
      rw [e1]
      simp -implicitDefEqProofs [e3]
      (first | refine CallK.of (checkS_pc x) (by simp) ?_ | refine CallD.of (checkS_pc x) (by simp) ?_)
      rw [e2]
      simp -implicitDefEqProofs []
end
end Go.Proofs.YtikjooemblpnbaaDoor
