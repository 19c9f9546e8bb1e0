/-
  The law SizeInside: what it tells.
-/
import Derived.Test.YtikjooemblpnbaaDoorLc
namespace Go.Proofs.YtikjooemblpnbaaDoor
open Go.RowKit

theorem inside_facts (s : Int) (hs : s = 100 ∨ s = 254) (d : Dm) (hv : vd d = true) (q : Int) :
    (agn d s).n % s = 0 ∧ (agn d s).l % s = 0 ∧ (agn d s).u % s = 0 ∧ d.l ≤ (agn d s).l ∧ (agn d s).l - d.l < s ∧ (agn d s).u ≤ d.u ∧ d.u - (agn d s).u < s ∧ (d.l ≤ q * s → (agn d s).l ≤ q * s) ∧ (q * s ≤ d.u → q * s ≤ (agn d s).u) ∧
      ((agn d s).u < (agn d s).l → d.u - d.l < s - 1) := by
  obtain ⟨x0, x1, x2, x3, x4⟩ := of_decide_eq_true hv
  rcases hs with rfl | rfl
  · simp only [agn, nom]
    refine ⟨?_, by omega, by omega, by omega, by omega, by omega, by omega, by omega, by omega, by omega⟩
    split <;> omega
  · simp only [agn, nom]
    refine ⟨?_, by omega, by omega, by omega, by omega, by omega, by omega, by omega, by omega, by omega⟩
    split <;> omega

theorem nom_facts (s : Int) (hs : s = 100 ∨ s = 254) (n : Int) (x0 : 0 ≤ n) (x1 : n ≤ 1000000000) :
    2 * max (nom n s - n) (-(nom n s - n)) ≤ s + 2 * max 0 (n - (1000000000 - s)) := by
  rcases hs with rfl | rfl
  · unfold nom
    split <;> omega
  · unfold nom
    split <;> omega

theorem bit_of (e k : Int) (hk : k = 1 ∨ k = 2) (h : e = k ∨ e = 3) : IntKind.u8.wrap (((e % 2 ^ IntKind.u8.bits).toNat &&& (k % 2 ^ IntKind.u8.bits).toNat : Nat) : Int) = k := by
  rcases hk with rfl | rfl <;> rcases h with rfl | rfl <;> decide
theorem bit_1 (e : Int) (h : e = 1 ∨ e = 3) : IntKind.u8.wrap (((e % 2 ^ IntKind.u8.bits).toNat &&& 1 % 2 ^ IntKind.u8.bits : Nat) : Int) = 1 := by rcases h with rfl | rfl <;> decide
theorem bit_2 (e : Int) (h : e = 2 ∨ e = 3) : IntKind.u8.wrap (((e % 2 ^ IntKind.u8.bits).toNat &&& 2 % 2 ^ IntKind.u8.bits : Nat) : Int) = 2 := by rcases h with rfl | rfl <;> decide
theorem exact_cases (d : Dm) (hv : vd d = true) (k : Int) (hk : k = 1 ∨ k = 2) (hx : exa d (stp k) = true) : exactV d = k ∨ exactV d = 3 := by
  have e : exactV d = (if exa d 100 = true then 1 else 0) + (if exa d 254 = true then 2 else 0) := by simp [exactV, hv]
  rw [e]
  rcases hk with rfl | rfl
  · have hx : exa d 100 = true := hx
    rw [if_pos hx]
    cases exa d 254 <;> decide
  · have hx : exa d 254 = true := hx
    rw [if_pos hx]
    cases exa d 100 <;> decide

section
variable {G : Nat → Option (List AV)}

set_option maxHeartbeats 2000000 in
set_option maxRecDepth 8000 in
theorem sizeInside_pc (hg : Gs G) (d : Dm) (by' steps : Int) (o0 : 0 ≤ by') (o1 : by' ≤ 255) (t0 : 0 ≤ steps) (t1 : steps ≤ 4294967295) :
    PC Tryd.prog G 6 [.agg [.int .i64 d.n, .int .i64 d.l, .int .i64 d.u], .int .u8 by', .int .u32 steps] (.bool true) := by
  have hU := hg.1
  (refine pc_law01_SizeInside (Nat.le_of_ble_eq_true rfl) fun R hG => GO_AR mixed 1000 ?_; subst hG)
  simp -implicitDefEqProofs [rc_law01_SizeInside, rr_law01_SizeInside]
  (first | refine CallK.of (alive_pc hg) (by simp) ?_ | refine CallD.of (alive_pc hg) (by simp) ?_)
  simp -implicitDefEqProofs
  (first | refine CallK.of (dim_pc d.n d.l d.u) (by simp) ?_ | refine CallD.of (dim_pc d.n d.l d.u) (by simp) ?_)
  cases h1 : vd d
  · have h1' : vd ⟨d.n, d.l, d.u⟩ = false := h1
    simp -implicitDefEqProofs [h1']
  have h1' : vd ⟨d.n, d.l, d.u⟩ = true := h1
  obtain ⟨x0, x1, x2, x3, x4⟩ := of_decide_eq_true h1
  simp -implicitDefEqProofs [h1']
  (first | refine CallK.of (stepL_pc by' o0) (by simp) ?_ | refine CallD.of (stepL_pc by' o0) (by simp) ?_)
  have hk := stepK_cases by'
  generalize stepK by' = k at *
  have w1 : IntKind.i64.wrap steps = steps := wrapI (by omega) (by omega)
  rcases hk with rfl | rfl
  · have m1 : steps.tmod 10000001 = steps % 10000001 := Int.tmod_eq_emod_of_nonneg t0
    have q0 := Int.emod_nonneg steps (show (10000001 : Int) ≠ 0 by omega)
    have q1 := Int.emod_lt_of_pos steps (show (0 : Int) < 10000001 by omega)
    have hf := inside_facts 100 (.inl rfl) d h1 (steps % 10000001)
    have hn := nom_facts 100 (.inl rfl) d.n x0 x1
    have hns : (agn d 100).n = nom d.n 100 := rfl
    have hnb := nom_bd d.n 100 x0 x1 (by omega)
    rw [← hns] at hn hnb
    have hvx : (agn d 100).l ≤ (agn d 100).u → vd (agn d 100) = true := fun c => agn_vd d 100 h1 (by omega) (by omega) (decide_eq_true c)
    have hc : conv d 1 = if (agn d 100).l ≤ (agn d 100).u then (agn d 100, 0) else (Dm.zero, 6) := by simp [conv, h1, stp, agnOk]
    have w2 : IntKind.i64.wrap (steps % 10000001 * 100) = steps % 10000001 * 100 := wrapI (by omega) (by omega)
    have s1 : stp 1 = 100 := rfl
    have w0 : IntKind.i64.wrap 10000000 = 10000000 := rfl
    have w00 : IntKind.i64.wrap 10000001 = 10000001 := rfl
    rw [s1]
    simp -implicitDefEqProofs []
    (first | refine CallK.of (conv_pc hU d 1 (by omega) (by omega)) (by simp) ?_ | refine CallD.of (conv_pc hU d 1 (by omega) (by omega)) (by simp) ?_)
    simp -implicitDefEqProofs
    (first | refine CallK.of (lost_pc hU d 1 (by omega) (by omega)) (by simp) ?_ | refine CallD.of (lost_pc hU d 1 (by omega) (by omega)) (by simp) ?_)
    have hl : lostV d 1 = if (conv d 1).2 = 0 then ((conv d 1).1.l - d.l, d.u - (conv d 1).1.u, 0) else (0, 0, (conv d 1).2) := rfl
    rw [hl, hc]
    clear hl hc hns
    generalize agn d 100 = x at *
    obtain ⟨f1, f2, f3, f4, f5, f6, f7, f8, f9, f10⟩ := hf
    obtain ⟨kk, hkk⟩ : ∃ kk, steps % 10000001 * 100 = kk := ⟨_, rfl⟩
    rw [hkk] at f8 f9
    have w2 := w2.trans hkk
    by_cases c : x.l ≤ x.u
    · have hv := hvx c
      have hb := bit_1 _ (exact_cases x hv 1 (by omega) (decide_eq_true ⟨f1, f2, f3⟩))
      have hin : insideV x d = (true, 0) := by simp [insideV, hv, h1, f4, f6]
      have c1 : chk x = 0 := by simp [chk, hv]
      have w3 : IntKind.i64.wrap (x.l - d.l) = x.l - d.l := wrapI (by omega) (by omega)
      have w4 : IntKind.i64.wrap (d.u - x.u) = d.u - x.u := wrapI (by omega) (by omega)
      have w5 : IntKind.i64.wrap (x.n - d.n) = x.n - d.n := wrapI (by omega) (by omega)
      have w6 : IntKind.i64.wrap (-(x.n - d.n)) = -(x.n - d.n) := wrapI (by omega) (by omega)
      have w7 : IntKind.i64.wrap (2 * max (x.n - d.n) (-(x.n - d.n))) = 2 * max (x.n - d.n) (-(x.n - d.n)) := wrapI (by omega) (by omega)
      have w8 : IntKind.i64.wrap (d.n - 999999900) = d.n - 999999900 := wrapI (by omega) (by omega)
      have w9 : IntKind.i64.wrap (2 * max 0 (d.n - 999999900)) = 2 * max 0 (d.n - 999999900) := wrapI (by omega) (by omega)
      have w10 : IntKind.i64.wrap (100 + 2 * max 0 (d.n - 999999900)) = 100 + 2 * max 0 (d.n - 999999900) := wrapI (by omega) (by omega)
      have u1 : d.l ≤ x.l := f4
      have u2 : 0 ≤ x.l - d.l := by omega
      have u3 : 0 ≤ d.u - x.u := by omega
      have w11 : IntKind.i64.wrap 999999900 = 999999900 := rfl
      have hn : 2 * max (x.n - d.n) (-(x.n - d.n)) ≤ 100 + 2 * max 0 (d.n - 999999900) := by omega
      have u4 : (d.l ≤ kk) = (x.l ≤ kk) := propext ⟨f8, fun h => by omega⟩
      have u5 : (kk ≤ d.u) = (kk ≤ x.u) := propext ⟨f9, fun h => by omega⟩
      rw [if_pos c]
      by_cases p1 : x.l ≤ kk <;> by_cases p2 : kk ≤ x.u
      all_goals
        simp -implicitDefEqProofs [u4, u5, p1, p2, w0, w00, m1, w1, w2, w3, w4]
        (first | refine CallK.of (insideS_pc x d) (by simp) ?_ | refine CallD.of (insideS_pc x d) (by simp) ?_)
        rw [hin]
        simp -implicitDefEqProofs [p1, p2]
        (first | refine CallK.of (exactSz_pc hU x) (by simp) ?_ | refine CallD.of (exactSz_pc hU x) (by simp) ?_)
        rw [c1]
        simp -implicitDefEqProofs [u4, u5, p1, p2, hb, w3, w4, w5, w6, w7, w8, w9, w10, w11, u1, u2, u3, f5, f6, f7, hn]
    · have nf : ¬ (d.l ≤ kk ∧ kk ≤ d.u) := by omega
      have w3 : IntKind.i64.wrap (d.u - d.l) = d.u - d.l := wrapI (by omega) (by omega)
      have f11 : d.u - d.l < 99 := by have := f10 (by omega); omega
      have w99 : IntKind.i64.wrap 99 = 99 := rfl
      have w253 : IntKind.i64.wrap 253 = 253 := rfl
      rw [if_neg c]
      by_cases p1 : d.l ≤ kk
      · have p2 : ¬ kk ≤ d.u := fun h => nf ⟨p1, h⟩
        simp -implicitDefEqProofs [p1, p2, w0, w00, m1, w1, w2, w3, f11, w99, w253, Dm.zero]
      · simp -implicitDefEqProofs [p1, w0, w00, m1, w1, w2, w3, f11, w99, w253, Dm.zero]
  · have m1 : steps.tmod 3937008 = steps % 3937008 := Int.tmod_eq_emod_of_nonneg t0
    have q0 := Int.emod_nonneg steps (show (3937008 : Int) ≠ 0 by omega)
    have q1 := Int.emod_lt_of_pos steps (show (0 : Int) < 3937008 by omega)
    have hf := inside_facts 254 (.inr rfl) d h1 (steps % 3937008)
    have hn := nom_facts 254 (.inr rfl) d.n x0 x1
    have hns : (agn d 254).n = nom d.n 254 := rfl
    have hnb := nom_bd d.n 254 x0 x1 (by omega)
    rw [← hns] at hn hnb
    have hvx : (agn d 254).l ≤ (agn d 254).u → vd (agn d 254) = true := fun c => agn_vd d 254 h1 (by omega) (by omega) (decide_eq_true c)
    have hc : conv d 2 = if (agn d 254).l ≤ (agn d 254).u then (agn d 254, 0) else (Dm.zero, 6) := by simp [conv, h1, stp, agnOk]
    have w2 : IntKind.i64.wrap (steps % 3937008 * 254) = steps % 3937008 * 254 := wrapI (by omega) (by omega)
    have s1 : stp 2 = 254 := rfl
    have w0 : IntKind.i64.wrap 3937007 = 3937007 := rfl
    have w00 : IntKind.i64.wrap 3937008 = 3937008 := rfl
    rw [s1]
    simp -implicitDefEqProofs []
    (first | refine CallK.of (conv_pc hU d 2 (by omega) (by omega)) (by simp) ?_ | refine CallD.of (conv_pc hU d 2 (by omega) (by omega)) (by simp) ?_)
    simp -implicitDefEqProofs
    (first | refine CallK.of (lost_pc hU d 2 (by omega) (by omega)) (by simp) ?_ | refine CallD.of (lost_pc hU d 2 (by omega) (by omega)) (by simp) ?_)
    have hl : lostV d 2 = if (conv d 2).2 = 0 then ((conv d 2).1.l - d.l, d.u - (conv d 2).1.u, 0) else (0, 0, (conv d 2).2) := rfl
    rw [hl, hc]
    clear hl hc hns
    generalize agn d 254 = x at *
    obtain ⟨f1, f2, f3, f4, f5, f6, f7, f8, f9, f10⟩ := hf
    obtain ⟨kk, hkk⟩ : ∃ kk, steps % 3937008 * 254 = kk := ⟨_, rfl⟩
    rw [hkk] at f8 f9
    have w2 := w2.trans hkk
    by_cases c : x.l ≤ x.u
    · have hv := hvx c
      have hb := bit_2 _ (exact_cases x hv 2 (by omega) (decide_eq_true ⟨f1, f2, f3⟩))
      have hin : insideV x d = (true, 0) := by simp [insideV, hv, h1, f4, f6]
      have c1 : chk x = 0 := by simp [chk, hv]
      have w3 : IntKind.i64.wrap (x.l - d.l) = x.l - d.l := wrapI (by omega) (by omega)
      have w4 : IntKind.i64.wrap (d.u - x.u) = d.u - x.u := wrapI (by omega) (by omega)
      have w5 : IntKind.i64.wrap (x.n - d.n) = x.n - d.n := wrapI (by omega) (by omega)
      have w6 : IntKind.i64.wrap (-(x.n - d.n)) = -(x.n - d.n) := wrapI (by omega) (by omega)
      have w7 : IntKind.i64.wrap (2 * max (x.n - d.n) (-(x.n - d.n))) = 2 * max (x.n - d.n) (-(x.n - d.n)) := wrapI (by omega) (by omega)
      have w8 : IntKind.i64.wrap (d.n - 999999746) = d.n - 999999746 := wrapI (by omega) (by omega)
      have w9 : IntKind.i64.wrap (2 * max 0 (d.n - 999999746)) = 2 * max 0 (d.n - 999999746) := wrapI (by omega) (by omega)
      have w10 : IntKind.i64.wrap (254 + 2 * max 0 (d.n - 999999746)) = 254 + 2 * max 0 (d.n - 999999746) := wrapI (by omega) (by omega)
      have u1 : d.l ≤ x.l := f4
      have u2 : 0 ≤ x.l - d.l := by omega
      have u3 : 0 ≤ d.u - x.u := by omega
      have w11 : IntKind.i64.wrap 999999746 = 999999746 := rfl
      have hn : 2 * max (x.n - d.n) (-(x.n - d.n)) ≤ 254 + 2 * max 0 (d.n - 999999746) := by omega
      have u4 : (d.l ≤ kk) = (x.l ≤ kk) := propext ⟨f8, fun h => by omega⟩
      have u5 : (kk ≤ d.u) = (kk ≤ x.u) := propext ⟨f9, fun h => by omega⟩
      rw [if_pos c]
      by_cases p1 : x.l ≤ kk <;> by_cases p2 : kk ≤ x.u
      all_goals
        simp -implicitDefEqProofs [u4, u5, p1, p2, w0, w00, m1, w1, w2, w3, w4]
        (first | refine CallK.of (insideS_pc x d) (by simp) ?_ | refine CallD.of (insideS_pc x d) (by simp) ?_)
        rw [hin]
        simp -implicitDefEqProofs [p1, p2]
        (first | refine CallK.of (exactSz_pc hU x) (by simp) ?_ | refine CallD.of (exactSz_pc hU x) (by simp) ?_)
        rw [c1]
        simp -implicitDefEqProofs [u4, u5, p1, p2, hb, w3, w4, w5, w6, w7, w8, w9, w10, w11, u1, u2, u3, f5, f6, f7, hn]
    · have nf : ¬ (d.l ≤ kk ∧ kk ≤ d.u) := by omega
      have w3 : IntKind.i64.wrap (d.u - d.l) = d.u - d.l := wrapI (by omega) (by omega)
      have f11 : d.u - d.l < 253 := by have := f10 (by omega); omega
      have w99 : IntKind.i64.wrap 99 = 99 := rfl
      have w253 : IntKind.i64.wrap 253 = 253 := rfl
      rw [if_neg c]
      by_cases p1 : d.l ≤ kk
      · have p2 : ¬ kk ≤ d.u := fun h => nf ⟨p1, h⟩
        simp -implicitDefEqProofs [p1, p2, w0, w00, m1, w1, w2, w3, f11, w99, w253, Dm.zero]
      · simp -implicitDefEqProofs [p1, w0, w00, m1, w1, w2, w3, f11, w99, w253, Dm.zero]
end
end Go.Proofs.YtikjooemblpnbaaDoor
