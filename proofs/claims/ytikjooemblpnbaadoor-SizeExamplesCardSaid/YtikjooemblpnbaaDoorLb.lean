/-
  The laws SizeFitted, SizeRedrawn, SizeRoom: what they tell.
-/
import Derived.Test.YtikjooemblpnbaaDoorAl
namespace Go.Proofs.YtikjooemblpnbaaDoor
open Go.RowKit

def pickV (d : Dm) (by' : Int) : Int := d.l + by' % (d.u - d.l + 1)

theorem pick_bd (d : Dm) (b : Int) (hv : vd d = true) : d.l ≤ pickV d b ∧ pickV d b ≤ d.u := by
  obtain ⟨x0, x1, x2, x3, x4⟩ := of_decide_eq_true hv
  have h1 := Int.emod_nonneg b (show d.u - d.l + 1 ≠ 0 by omega)
  have h2 := Int.emod_lt_of_pos b (show 0 < d.u - d.l + 1 by omega)
  unfold pickV; omega

section
variable {G : Nat → Option (List AV)}

theorem pick_pc (d : Dm) (b : Int) (hv : vd d = true) (h0 : 0 ≤ b) (h1 : b ≤ 4294967295) : PC Tryd.prog G 45 [.agg [.int .i64 d.n, .int .i64 d.l, .int .i64 d.u], .int .u32 b] (.int .i64 (pickV d b)) := by
  have hb := pick_bd d b hv
  obtain ⟨x0, x1, x2, x3, x4⟩ := of_decide_eq_true hv
  have w1 : IntKind.i64.wrap b = b := wrapI (by omega) (by omega)
  have w2 : IntKind.i64.wrap (d.u - d.l) = d.u - d.l := wrapI (by omega) (by omega)
  have w3 : IntKind.i64.wrap (d.u - d.l + 1) = d.u - d.l + 1 := wrapI (by omega) (by omega)
  have w4 : b.tmod (d.u - d.l + 1) = b % (d.u - d.l + 1) := Int.tmod_eq_emod_of_nonneg h0
  have w5 : IntKind.i64.wrap (d.l + b % (d.u - d.l + 1)) = pickV d b := wrapI (by unfold pickV at hb; omega) (by unfold pickV at hb; omega)
  have ne : ¬ d.u - d.l + 1 = 0 := by omega
  (refine pc_law01_pick (Nat.le_of_ble_eq_true rfl) fun R hG => GO_AR mixed 1000 ?_; subst hG)
  simp -implicitDefEqProofs [rc_law01_pick, rr_law01_pick, w1, w2, w3, w4, w5, ne]
  rfl

set_option maxRecDepth 8000 in
theorem sizeFitted_pc (hg : Gs G) (a b : Dm) (one two : Int) (o0 : 0 ≤ one) (o1 : one ≤ 4294967295) (t0 : 0 ≤ two) (t1 : two ≤ 4294967295) :
    PC Tryd.prog G 10 [.agg [.int .i64 a.n, .int .i64 a.l, .int .i64 a.u], .agg [.int .i64 b.n, .int .i64 b.l, .int .i64 b.u], .int .u32 one, .int .u32 two] (.bool true) := by
  (refine pc_law01_SizeFitted (Nat.le_of_ble_eq_true rfl) fun R hG => GO_AR mixed 1000 ?_; subst hG)
  simp -implicitDefEqProofs [rc_law01_SizeFitted, rr_law01_SizeFitted]
  (first | refine CallK.of (alive_pc hg) (by simp) ?_ | refine CallD.of (alive_pc hg) (by simp) ?_)
  simp -implicitDefEqProofs
  (first | refine CallK.of (dim_pc a.n a.l a.u) (by simp) ?_ | refine CallD.of (dim_pc a.n a.l a.u) (by simp) ?_)
  cases h1 : vd a
  · have h1' : vd ⟨a.n, a.l, a.u⟩ = false := h1
    simp -implicitDefEqProofs [h1']
  · have h1' : vd ⟨a.n, a.l, a.u⟩ = true := h1
    simp -implicitDefEqProofs [h1']
    (first | refine CallK.of (dim_pc b.n b.l b.u) (by simp) ?_ | refine CallD.of (dim_pc b.n b.l b.u) (by simp) ?_)
    cases h2 : vd b
    · have h2' : vd ⟨b.n, b.l, b.u⟩ = false := h2
      simp -implicitDefEqProofs [h2']
    · have h2' : vd ⟨b.n, b.l, b.u⟩ = true := h2
      obtain ⟨x0, x1, x2, x3, x4⟩ := of_decide_eq_true h1
      obtain ⟨y0, y1, y2, y3, y4⟩ := of_decide_eq_true h2
      have p1 := pick_bd a one h1
      have p2 := pick_bd b two h2
      simp -implicitDefEqProofs [h2']
      (first | refine CallK.of (fitS_pc a b) (by simp) ?_ | refine CallD.of (fitS_pc a b) (by simp) ?_)
      simp -implicitDefEqProofs
      (first | refine CallK.of (fitS_pc b a) (by simp) ?_ | refine CallD.of (fitS_pc b a) (by simp) ?_)
      simp -implicitDefEqProofs
      (first | refine CallK.of (pick_pc a one h1 o0 o1) (by simp) ?_ | refine CallD.of (pick_pc a one h1 o0 o1) (by simp) ?_)
      simp -implicitDefEqProofs
      (first | refine CallK.of (pick_pc b two h2 t0 t1) (by simp) ?_ | refine CallD.of (pick_pc b two h2 t0 t1) (by simp) ?_)
      simp -implicitDefEqProofs
      generalize pickV a one = p at *
      generalize pickV b two = q at *
      have w1 : IntKind.i64.wrap (p - q) = p - q := wrapI (by omega) (by omega)
      have w2 : IntKind.i64.wrap (a.l - b.u) = a.l - b.u := wrapI (by omega) (by omega)
      have w3 : IntKind.i64.wrap (a.u - b.l) = a.u - b.l := wrapI (by omega) (by omega)
      have w4 : IntKind.i64.wrap (-(a.u - b.l)) = b.l - a.u := by rw [wrapI (by omega) (by omega)]; omega
      have w5 : IntKind.i64.wrap (-(a.l - b.u)) = b.u - a.l := by rw [wrapI (by omega) (by omega)]; omega
      have n1 : ¬ p - q < a.l - b.u := by omega
      have n2 : ¬ a.u - b.l < p - q := by omega
      have kd : ∀ x y : Dm, vd x = true → vd y = true → fitV x y = (x.l - y.u, x.u - y.l, if y.u ≤ x.l then 1 else if x.u ≤ y.l then 2 else 3, 0) := fun x y hx hy => by
        simp only [fitV, hx, hy, and_self, if_true]
        congr 3
        by_cases e1 : y.u ≤ x.l
        · rw [if_pos e1, if_pos (by omega)]
        · rw [if_neg e1, if_neg (by omega)]
          by_cases e2 : x.u ≤ y.l
          · rw [if_pos e2, if_pos (by omega)]
          · rw [if_neg e2, if_neg (by omega)]
      rw [kd a b h1 h2, kd b a h2 h1]
      by_cases c1 : b.u ≤ a.l <;> by_cases c2 : a.u ≤ b.l
      · have e1 : a.l - b.u = 0 := by omega
        have e2 : a.u - b.l = 0 := by omega
        have e3 : b.l - a.u = 0 := by omega
        have e4 : b.u - a.l = 0 := by omega
        have e5 : p - q = 0 := by omega
        have w0 : IntKind.i64.wrap 0 = 0 := rfl
        simp -implicitDefEqProofs [w0, n1, n2, c1, c2, e1, e2, e3, e4, e5]
        rfl
      · simp -implicitDefEqProofs [w1, w2, w3, w4, w5, n1, n2, c1, c2]
        rfl
      · have d1 : a.l - b.u < 0 := by omega
        have d2 : a.u - b.l ≤ 0 := by omega
        simp -implicitDefEqProofs [w1, w2, w3, w4, w5, n1, n2, c1, c2, d1, d2]
        rfl
      · have d1 : a.l - b.u < 0 := by omega
        have d2 : b.l < a.u := by omega
        simp -implicitDefEqProofs [w1, w2, w3, w4, w5, n1, n2, c1, c2, d1, d2]
        rfl
end
end Go.Proofs.YtikjooemblpnbaaDoor
