/-
  The law SizeBoth: what it tells.
-/
import Derived.Test.YtikjooemblpnbaaDoorAl
namespace Go.Proofs.YtikjooemblpnbaaDoor
open Go.RowKit

theorem agn_exa (s : Int) (hs : s = 100 ∨ s = 254) (d : Dm) (hv : vd d = true) (hx : exa d s = true) : agn d s = d ∧ agnOk d s = true := by
  obtain ⟨x0, x1, x2, x3, x4⟩ := of_decide_eq_true hv
  obtain ⟨e1, e2, e3⟩ := of_decide_eq_true hx
  obtain ⟨n, l, u⟩ := d
  simp only at *
  have h : agn ⟨n, l, u⟩ s = ⟨n, l, u⟩ := by
    simp only [agn, nom, Dm.mk.injEq]
    rcases hs with rfl | rfl
    · refine ⟨?_, by omega, by omega⟩
      split <;> omega
    · refine ⟨?_, by omega, by omega⟩
      split <;> omega
  refine ⟨h, ?_⟩
  unfold agnOk
  rw [h]
  exact decide_eq_true x3

theorem both_exa (d : Dm) : (exa d 100 = true ∧ exa d 254 = true) ↔ (d.n % 12700 = 0 ∧ d.l % 12700 = 0 ∧ d.u % 12700 = 0) := by
  simp only [exa, decide_eq_true_eq]
  omega

section
variable {G : Nat → Option (List AV)}

set_option maxHeartbeats 2000000 in
set_option maxRecDepth 8000 in
theorem sizeBoth_pc (hg : Gs G) (d : Dm) (whole : Bool) :
    PC Tryd.prog G 8 [.agg [.int .i64 d.n, .int .i64 d.l, .int .i64 d.u], .bool whole] (.bool true) := by
  have hU := hg.1
  (refine pc_law01_SizeBoth (Nat.le_of_ble_eq_true rfl) fun R hG => GO_AR mixed 1000 ?_; subst hG)
  simp -implicitDefEqProofs [rc_law01_SizeBoth, rr_law01_SizeBoth]
  (first | refine CallK.of (alive_pc hg) (by simp) ?_ | refine CallD.of (alive_pc hg) (by simp) ?_)
  cases whole
  case' true =>
    simp -implicitDefEqProofs
    (first | refine CallK.of (dimL_pc _ _ _) (by simp) ?_ | refine CallD.of (dimL_pc _ _ _) (by simp) ?_)
    generalize IntKind.i64.wrap (IntKind.i64.wrap (d.n.tdiv 12700) * 12700) = n'
    generalize IntKind.i64.wrap (IntKind.i64.wrap (d.l.tdiv 12700) * 12700) = l'
    generalize IntKind.i64.wrap (IntKind.i64.wrap (d.u.tdiv 12700) * 12700) = u'
    obtain ⟨x, hd⟩ : ∃ x : Dm, x = ⟨n', l', u'⟩ := ⟨_, rfl⟩
    obtain rfl : x.n = n' := by rw [hd]
    obtain rfl : x.l = l' := by rw [hd]
    obtain rfl : x.u = u' := by rw [hd]
    clear hd
    simp -implicitDefEqProofs
  case' false =>
    obtain ⟨x, rfl⟩ : ∃ x, x = d := ⟨_, rfl⟩
    simp -implicitDefEqProofs
  all_goals
    (first | refine CallK.of (dim_pc x.n x.l x.u) (by simp) ?_ | refine CallD.of (dim_pc x.n x.l x.u) (by simp) ?_)
    cases h1 : vd x
    · have h1' : vd ⟨x.n, x.l, x.u⟩ = false := h1
      simp -implicitDefEqProofs [h1']
    have h1' : vd ⟨x.n, x.l, x.u⟩ = true := h1
    obtain ⟨x0, x1, x2, x3, x4⟩ := of_decide_eq_true h1
    have m1 : x.n.tmod 12700 = x.n % 12700 := Int.tmod_eq_emod_of_nonneg x0
    have m2 : x.l.tmod 12700 = x.l % 12700 := Int.tmod_eq_emod_of_nonneg x2
    have m3 : x.u.tmod 12700 = x.u % 12700 := Int.tmod_eq_emod_of_nonneg (by omega)
    have w0 : IntKind.i64.wrap 12700 = 12700 := rfl
    have z0 : exactV x = (if exa x 100 = true then 1 else 0) + (if exa x 254 = true then 2 else 0) := by simp [exactV, h1]
    have c0 : chk x = 0 := by simp [chk, h1]
    have hb := both_exa x
    have y1 := agn_exa 100 (.inl rfl) x h1
    have y2 := agn_exa 254 (.inr rfl) x h1
    have v1 : exa x 100 = true → conv x 1 = (x, 0) := fun h => by simp [conv, h1, stp, y1 h]
    have v2 : exa x 254 = true → conv x 2 = (x, 0) := fun h => by simp [conv, h1, stp, y2 h]
    have b21 : IntKind.u8.wrap ((2 % 2 ^ IntKind.u8.bits &&& 1 % 2 ^ IntKind.u8.bits : Nat) : Int) = 0 := by decide
    have b31 : IntKind.u8.wrap ((3 % 2 ^ IntKind.u8.bits &&& 1 % 2 ^ IntKind.u8.bits : Nat) : Int) = 1 := by decide
    have b12 : IntKind.u8.wrap ((1 % 2 ^ IntKind.u8.bits &&& 2 % 2 ^ IntKind.u8.bits : Nat) : Int) = 0 := by decide
    have b32 : IntKind.u8.wrap ((3 % 2 ^ IntKind.u8.bits &&& 2 % 2 ^ IntKind.u8.bits : Nat) : Int) = 2 := by decide
    have b1 : IntKind.u8.wrap ((1 : Int) % 2 ^ IntKind.u8.bits) = 1 := by decide
    have b2 : IntKind.u8.wrap ((2 : Int) % 2 ^ IntKind.u8.bits) = 2 := by decide
    have u0 : IntKind.u8.wrap 0 = 0 := rfl
    have u1 : IntKind.u8.wrap 1 = 1 := rfl
    have u2 : IntKind.u8.wrap 2 = 2 := rfl
    have u3 : IntKind.u8.wrap 3 = 3 := rfl
    clear y1 y2
    have r1 : writeV x 1 = if exa x 100 = true then (wrV x 1, 0) else (⟨#[]⟩, 12) := by simp [writeV, h1, stp]
    have r2 : writeV x 2 = if exa x 254 = true then (wrV x 2, 0) else (⟨#[]⟩, 12) := by simp [writeV, h1, stp]
    simp -implicitDefEqProofs [h1']
    (first | refine CallK.of (exactSz_pc hU x) (by simp) ?_ | refine CallD.of (exactSz_pc hU x) (by simp) ?_)
    rw [z0, c0]
    cases c1 : exa x 100 <;> cases c2 : exa x 254
    all_goals
      simp only [c1, c2] at hb
      rw [c1] at r1
      rw [c2] at r2
      simp only [true_and, and_true, and_self, and_false, false_and, reduceCtorEq, false_iff, true_iff] at hb
      rcases (by omega : (x.n % 12700 = 0 ∧ x.l % 12700 = 0 ∧ x.u % 12700 = 0) ∨ ¬ x.n % 12700 = 0 ∨ (x.n % 12700 = 0 ∧ ¬ x.l % 12700 = 0) ∨ (x.n % 12700 = 0 ∧ x.l % 12700 = 0 ∧ ¬ x.u % 12700 = 0)) with ⟨q1, q2, q3⟩ | q1 | ⟨q1, q2⟩ | ⟨q1, q2, q3⟩
      all_goals try (exfalso; omega)
    all_goals
      simp -implicitDefEqProofs [m1, m2, m3, w0, *]
      refine AR_weak (Weak.sub (t' := [(9, .int .u8 1), (7, .int .i64 0), (6, .int .u8 ((if exa x 100 = true then 1 else 0) + (if exa x 254 = true then 2 else 0))), (5, .bool true), (4, .bool false), (2, .ptr 2 0)]) (o' := [(2, .box [.int .i64 x.n, .int .i64 x.l, .int .i64 x.u])]) (by simp [lk, keptA, AV.keys, c1, c2]) (by simp [lk, keptO, keptA, AV.keys])) ?_
      refine AR_rounds 3 ?_
      unfold ARn
      refine GO_AR mixed 1000 ?_
      simp -implicitDefEqProofs
      (first | refine CallK.of (conv_pc hU x 1 (by omega) (by omega)) (by simp) ?_ | refine CallD.of (conv_pc hU x 1 (by omega) (by omega)) (by simp) ?_)
      try rw [v1 c1]
      simp -implicitDefEqProofs
      (first | refine CallK.of (write_pc hU x 1 (by omega) (by omega)) (by simp) ?_ | refine CallD.of (write_pc hU x 1 (by omega) (by omega)) (by simp) ?_)
      rw [r1]
      simp -implicitDefEqProofs [c1, c2, u0, u1, u2, u3, b21, b31, b12, b32, b1, b2]
      refine ARn_weak (Weak.sub (t' := [(9, .int .u8 2), (7, .int .i64 0), (6, .int .u8 ((if exa x 100 = true then 1 else 0) + (if exa x 254 = true then 2 else 0))), (5, .bool true), (4, .bool false), (2, .ptr 2 0)]) (o' := [(2, .box [.int .i64 x.n, .int .i64 x.l, .int .i64 x.u])]) (by simp [lk, keptA, AV.keys, c1, c2]) (by simp [lk, keptO, keptA, AV.keys])) ?_
      unfold ARn
      refine GO_AR mixed 1000 ?_
      simp -implicitDefEqProofs
      (first | refine CallK.of (conv_pc hU x 2 (by omega) (by omega)) (by simp) ?_ | refine CallD.of (conv_pc hU x 2 (by omega) (by omega)) (by simp) ?_)
      try rw [v2 c2]
      simp -implicitDefEqProofs
      (first | refine CallK.of (write_pc hU x 2 (by omega) (by omega)) (by simp) ?_ | refine CallD.of (write_pc hU x 2 (by omega) (by omega)) (by simp) ?_)
      rw [r2]
      simp -implicitDefEqProofs [c1, c2, u0, u1, u2, u3, b21, b31, b12, b32, b1, b2]
      unfold ARn
      refine GO_AR mixed 1000 ?_
      simp -implicitDefEqProofs []
      refine GO_ret mixed 1000 ?_
      simp -implicitDefEqProofs []
end
end Go.Proofs.YtikjooemblpnbaaDoor
