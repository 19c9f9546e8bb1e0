/-
  The laws SizeRoom and SizeRedrawn: what they tell.
-/
import Derived.Test.YtikjooemblpnbaaDoorLb
namespace Go.Proofs.YtikjooemblpnbaaDoor
open Go.RowKit

/-- A unit by a number. -/
def stepK (b : Int) : Int := if b % 2 = 0 then 1 else 2
theorem stepK_cases (b : Int) : stepK b = 1 ∨ stepK b = 2 := by unfold stepK; split <;> simp
theorem stp_stepK (b : Int) : stp (stepK b) = 100 ∨ stp (stepK b) = 254 := by rcases stepK_cases b with e | e <;> rw [e] <;> simp [stp]

theorem fitV_valid (x y : Dm) (hx : vd x = true) (hy : vd y = true) : fitV x y = (x.l - y.u, x.u - y.l, if y.u ≤ x.l then 1 else if x.u ≤ y.l then 2 else 3, 0) := by
  simp only [fitV, hx, hy, and_self, if_true]
  congr 3
  by_cases e1 : y.u ≤ x.l
  · rw [if_pos e1, if_pos (by omega)]
  · rw [if_neg e1, if_neg (by omega)]
    by_cases e2 : x.u ≤ y.l
    · rw [if_pos e2, if_pos (by omega)]
    · rw [if_neg e2, if_neg (by omega)]

section
variable {G : Nat → Option (List AV)}

theorem stepL_pc (b : Int) (h0 : 0 ≤ b) : PC Tryd.prog G 43 [.int .u8 b] (.tup [.int .u8 (stepK b), .int .i64 (stp (stepK b))]) := by
  have w4 : b.tmod 2 = b % 2 := Int.tmod_eq_emod_of_nonneg h0
  (refine pc_law01_step (Nat.le_of_ble_eq_true rfl) fun R hG => GO_AR mixed 1000 ?_; subst hG)
  by_cases hc : b % 2 = 0
  · simp -implicitDefEqProofs [rc_law01_step, rr_law01_step, w4, hc, stepK, stp]
  · simp -implicitDefEqProofs [rc_law01_step, rr_law01_step, w4, hc, stepK, stp]

set_option maxRecDepth 8000 in
theorem sizeRoom_pc (hg : Gs G) (a : Dm) (lo hi : Int) (b : Dm) :
    PC Tryd.prog G 12 [.agg [.int .i64 a.n, .int .i64 a.l, .int .i64 a.u], .agg [.int .i64 lo, .int .i64 hi], .agg [.int .i64 b.n, .int .i64 b.l, .int .i64 b.u]] (.bool true) := by
  (refine pc_law01_SizeRoom (Nat.le_of_ble_eq_true rfl) fun R hG => GO_AR mixed 1000 ?_; subst hG)
  simp -implicitDefEqProofs [rc_law01_SizeRoom, rr_law01_SizeRoom]
  (first | refine CallK.of (alive_pc hg) (by simp) ?_ | refine CallD.of (alive_pc hg) (by simp) ?_)
  simp -implicitDefEqProofs
  (first | refine CallK.of (dim_pc a.n a.l a.u) (by simp) ?_ | refine CallD.of (dim_pc a.n a.l a.u) (by simp) ?_)
  cases h1 : vd a
  · have h1' : vd ⟨a.n, a.l, a.u⟩ = false := h1
    simp -implicitDefEqProofs [h1']
  have h1' : vd ⟨a.n, a.l, a.u⟩ = true := h1
  simp -implicitDefEqProofs [h1']
  (first | refine CallK.of (dim_pc b.n b.l b.u) (by simp) ?_ | refine CallD.of (dim_pc b.n b.l b.u) (by simp) ?_)
  cases h2 : vd b
  · have h2' : vd ⟨b.n, b.l, b.u⟩ = false := h2
    simp -implicitDefEqProofs [h2']
  have h2' : vd ⟨b.n, b.l, b.u⟩ = true := h2
  simp -implicitDefEqProofs [h2']
  (first | refine CallK.of (wanted_pc lo hi) (by simp) ?_ | refine CallD.of (wanted_pc lo hi) (by simp) ?_)
  cases h3 : wantedB lo hi
  · simp -implicitDefEqProofs
  obtain ⟨x0, x1, x2, x3, x4⟩ := of_decide_eq_true h1
  obtain ⟨y0, y1, y2, y3, y4⟩ := of_decide_eq_true h2
  obtain ⟨z0, z1, z2, z3, z4⟩ := of_decide_eq_true h3
  simp -implicitDefEqProofs
  (first | refine CallK.of (RoomS_pc a lo hi) (by simp) ?_ | refine CallD.of (RoomS_pc a lo hi) (by simp) ?_)
  simp -implicitDefEqProofs
  (first | refine CallK.of (fitS_pc a b) (by simp) ?_ | refine CallD.of (fitS_pc a b) (by simp) ?_)
  rw [fitV_valid a b h1 h2]
  have hr : roomV a lo hi = if (roomD a lo hi).l ≤ (roomD a lo hi).u then (roomD a lo hi, 0) else (Dm.zero, 6) := by simp [roomV, h1, h3]
  have r1 : (roomD a lo hi).n = a.n := rfl
  have r2 : (roomD a lo hi).l = max 0 (a.u - hi) := rfl
  have r3 : (roomD a lo hi).u = min 1000000000 (a.l - lo) := rfl
  generalize roomD a lo hi = r at *
  rw [hr]
  by_cases c : r.l ≤ r.u
  · have hv : vd r = true := decide_eq_true ⟨by omega, by omega, by omega, c, by omega⟩
    have hin : insideV b r = (decide (lo ≤ a.l - b.u) && decide (a.u - b.l ≤ hi), 0) := by
      simp only [insideV, h2, hv, and_self, if_true]
      congr 1
      rw [← Bool.decide_and]
      exact decide_eq_decide.2 (by omega)
    have t1 : lo ≤ a.l - r.u := by omega
    have t2 : a.u - r.l ≤ hi := by omega
    rw [if_pos c]
    by_cases q1 : lo ≤ a.l - b.u <;> by_cases q2 : a.u - b.l ≤ hi
    all_goals
      simp -implicitDefEqProofs [q1, q2]
      (first | refine CallK.of (insideS_pc b r) (by simp) ?_ | refine CallD.of (insideS_pc b r) (by simp) ?_)
      rw [hin]
      simp -implicitDefEqProofs [q1, q2]
      (first | refine CallK.of (fitS_pc a r) (by simp) ?_ | refine CallD.of (fitS_pc a r) (by simp) ?_)
      rw [fitV_valid a r h1 hv]
      simp -implicitDefEqProofs [q1, q2, r1, t1, t2]
  · have nf : ¬ (lo ≤ a.l - b.u ∧ a.u - b.l ≤ hi) := by omega
    rw [if_neg c]
    by_cases q1 : lo ≤ a.l - b.u
    · by_cases q2 : a.u - b.l ≤ hi
      · exact absurd ⟨q1, q2⟩ nf
      · simp -implicitDefEqProofs [q1, q2, Dm.zero]
    · simp -implicitDefEqProofs [q1, Dm.zero]

set_option maxRecDepth 8000 in
theorem sizeRedrawn_pc (hg : Gs G) (a b : Dm) (one two : Int) (o0 : 0 ≤ one) (o1 : one ≤ 255) (t0 : 0 ≤ two) (t1 : two ≤ 255) :
    PC Tryd.prog G 11 [.agg [.int .i64 a.n, .int .i64 a.l, .int .i64 a.u], .agg [.int .i64 b.n, .int .i64 b.l, .int .i64 b.u], .int .u8 one, .int .u8 two] (.bool true) := by
  have hU := hg.1
  (refine pc_law01_SizeRedrawn (Nat.le_of_ble_eq_true rfl) fun R hG => GO_AR mixed 1000 ?_; subst hG)
  simp -implicitDefEqProofs [rc_law01_SizeRedrawn, rr_law01_SizeRedrawn]
  (first | refine CallK.of (alive_pc hg) (by simp) ?_ | refine CallD.of (alive_pc hg) (by simp) ?_)
  simp -implicitDefEqProofs
  (first | refine CallK.of (dim_pc a.n a.l a.u) (by simp) ?_ | refine CallD.of (dim_pc a.n a.l a.u) (by simp) ?_)
  cases h1 : vd a
  · have h1' : vd ⟨a.n, a.l, a.u⟩ = false := h1
    simp -implicitDefEqProofs [h1']
  have h1' : vd ⟨a.n, a.l, a.u⟩ = true := h1
  simp -implicitDefEqProofs [h1']
  (first | refine CallK.of (dim_pc b.n b.l b.u) (by simp) ?_ | refine CallD.of (dim_pc b.n b.l b.u) (by simp) ?_)
  cases h2 : vd b
  · have h2' : vd ⟨b.n, b.l, b.u⟩ = false := h2
    simp -implicitDefEqProofs [h2']
  have h2' : vd ⟨b.n, b.l, b.u⟩ = true := h2
  obtain ⟨x0, x1, x2, x3, x4⟩ := of_decide_eq_true h1
  obtain ⟨y0, y1, y2, y3, y4⟩ := of_decide_eq_true h2
  have k1 := stepK_cases one
  have k2 := stepK_cases two
  have cv : ∀ (d : Dm) (k : Int), vd d = true → k = 1 ∨ k = 2 → (conv d k).2 = 0 ∧ vd (conv d k).1 = true ∧ d.l ≤ (conv d k).1.l ∧ (conv d k).1.l ≤ (conv d k).1.u ∧ (conv d k).1.u ≤ d.u ∨ (conv d k).2 = 6 := fun d k hd hk => by
    have hs : ¬ stp k = 0 := by rcases hk with rfl | rfl <;> simp [stp]
    by_cases ho : agnOk d (stp k) = true
    · have e : (conv d k).2 = 0 := by simp [conv, hd, hs, ho]
      obtain ⟨g1, g2, g3, g4, g5, g6⟩ := conv_bd d k e
      exact .inl ⟨e, g6, g2, g3, g4⟩
    · exact .inr (by simp [conv, hd, hs, ho])
  have ca := cv a (stepK one) h1 k1
  have cb := cv b (stepK two) h2 k2
  simp -implicitDefEqProofs [h2']
  (first | refine CallK.of (stepL_pc one o0) (by simp) ?_ | refine CallD.of (stepL_pc one o0) (by simp) ?_)
  simp -implicitDefEqProofs
  (first | refine CallK.of (stepL_pc two t0) (by simp) ?_ | refine CallD.of (stepL_pc two t0) (by simp) ?_)
  simp -implicitDefEqProofs
  (first | refine CallK.of (conv_pc hU a (stepK one) (by omega) (by omega)) (by simp) ?_ | refine CallD.of (conv_pc hU a (stepK one) (by omega) (by omega)) (by simp) ?_)
  simp -implicitDefEqProofs
  (first | refine CallK.of (conv_pc hU b (stepK two) (by omega) (by omega)) (by simp) ?_ | refine CallD.of (conv_pc hU b (stepK two) (by omega) (by omega)) (by simp) ?_)
  generalize conv a (stepK one) = p at *
  generalize conv b (stepK two) = q at *
  obtain ⟨x, e⟩ := p
  obtain ⟨y, f⟩ := q
  simp only at ca cb
  rcases ca with ⟨rfl, g1, g2, g3, g4⟩ | rfl
  · rcases cb with ⟨rfl, g5, g6, g7, g8⟩ | rfl
    · simp -implicitDefEqProofs
      (first | refine CallK.of (fitS_pc a b) (by simp) ?_ | refine CallD.of (fitS_pc a b) (by simp) ?_)
      rw [fitV_valid a b h1 h2]
      simp -implicitDefEqProofs
      (first | refine CallK.of (fitS_pc x y) (by simp) ?_ | refine CallD.of (fitS_pc x y) (by simp) ?_)
      rw [fitV_valid x y g1 g5]
      have m1 : a.l - b.u ≤ x.l - y.u := by omega
      have m2 : x.u - y.l ≤ a.u - b.l := by omega
      by_cases c1 : b.u ≤ a.l
      · have d1 : y.u ≤ x.l := by omega
        simp -implicitDefEqProofs [m1, m2, c1, d1]
      · by_cases c2 : a.u ≤ b.l
        · have d2 : x.u ≤ y.l := by omega
          by_cases d1 : y.u ≤ x.l
          · have e1 : x.l - y.u = 0 := by omega
            have e2 : x.u - y.l = 0 := by omega
            have m3 : a.l - b.u ≤ 0 := by omega
            have m4 : 0 ≤ a.u - b.l := by omega
            have m5 : b.l ≤ a.u := by omega
            have m6 : a.l ≤ b.u := by omega
            by_cases z : a.l - b.u = 0
            · by_cases z2 : a.u - b.l = 0
              · simp -implicitDefEqProofs [m1, m2, m3, m4, m5, m6, c1, c2, d1, d2, e1, e2, z, z2]
              · simp -implicitDefEqProofs [m1, m2, m3, m4, m5, m6, c1, c2, d1, d2, e1, e2, z, z2]
            · simp -implicitDefEqProofs [m1, m2, m3, m4, m5, m6, c1, c2, d1, d2, e1, e2, z]
          · simp -implicitDefEqProofs [m1, m2, c1, c2, d1, d2]
        · simp -implicitDefEqProofs [m1, m2, c1, c2]
    · simp -implicitDefEqProofs
  · rcases cb with ⟨rfl, g5, g6, g7, g8⟩ | rfl
    · simp -implicitDefEqProofs
    · simp -implicitDefEqProofs
end
end Go.Proofs.YtikjooemblpnbaaDoor
