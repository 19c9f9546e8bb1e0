/-
  The law SizeMeets: what it tells.
-/
import Derived.Test.YtikjooemblpnbaaDoorAl
import Derived.Test.YtikjooemblpnbaaDoorRcD
namespace Go.Proofs.YtikjooemblpnbaaDoor
open Go.RowKit

theorem meetF_app (l : List Dm) (d : Dm) : meetF (l ++ [d]) = meetS (meetF l) d := by rw [meetF, List.foldl_append]; rfl

theorem meetF_le (l : List Dm) : ∀ k : Int, ((meetF l).1 ≤ k ↔ 0 ≤ k ∧ ∀ d ∈ l, d.l ≤ k) ∧ (k ≤ (meetF l).2 ↔ k ≤ 1000000000 ∧ ∀ d ∈ l, k ≤ d.u) := by
  have gen : ∀ (l : List Dm) (s : Int × Int) (k : Int), ((l.foldl meetS s).1 ≤ k ↔ s.1 ≤ k ∧ ∀ d ∈ l, d.l ≤ k) ∧ (k ≤ (l.foldl meetS s).2 ↔ k ≤ s.2 ∧ ∀ d ∈ l, k ≤ d.u) := by
    intro l
    induction l with
    | nil => intro s k; simp
    | cons d l ih =>
      intro s k
      obtain ⟨h1, h2⟩ := ih (meetS s d) k
      simp only [List.foldl_cons, List.forall_mem_cons]
      rw [h1, h2]
      simp only [meetS]
      constructor
      · rw [show (max s.1 d.l ≤ k) = (s.1 ≤ k ∧ d.l ≤ k) from propext (by omega), and_assoc]
      · rw [show (k ≤ min s.2 d.u) = (k ≤ s.2 ∧ k ≤ d.u) from propext (by omega), and_assoc]
  exact fun k => gen l (0, 1000000000) k

theorem meetF_perm (l t : List Dm) (h : ∀ d, d ∈ l ↔ d ∈ t) : meetF l = meetF t := by
  have a := meetF_le l
  have b := meetF_le t
  have e1 : ∀ k, (meetF l).1 ≤ k ↔ (meetF t).1 ≤ k := fun k => by
    rw [(a k).1, (b k).1]
    exact ⟨fun ⟨x, y⟩ => ⟨x, fun d hd => y d ((h d).2 hd)⟩, fun ⟨x, y⟩ => ⟨x, fun d hd => y d ((h d).1 hd)⟩⟩
  have e2 : ∀ k, k ≤ (meetF l).2 ↔ k ≤ (meetF t).2 := fun k => by
    rw [(a k).2, (b k).2]
    exact ⟨fun ⟨x, y⟩ => ⟨x, fun d hd => y d ((h d).2 hd)⟩, fun ⟨x, y⟩ => ⟨x, fun d hd => y d ((h d).1 hd)⟩⟩
  have := (e1 (meetF l).1).1 (Int.le_refl _)
  have := (e1 (meetF t).1).2 (Int.le_refl _)
  have := (e2 (meetF l).2).1 (Int.le_refl _)
  have := (e2 (meetF t).2).2 (Int.le_refl _)
  exact Prod.ext (by omega) (by omega)

/-- A list, turned, as far as it is built. -/
def turnV (l : List Dm) (o i : Nat) : List Dm := (List.range i).map fun j => l.getD ((j + o) % l.length) Dm.zero
theorem turnV_len (l : List Dm) (o i : Nat) : (turnV l o i).length = i := by simp [turnV]
theorem turnV_succ (l : List Dm) (o i : Nat) (h : (i + o) % l.length < l.length) : turnV l o (i + 1) = turnV l o i ++ [l[(i + o) % l.length]] := by
  simp [turnV, List.range_succ, h]
theorem turnV_mem (l : List Dm) (o : Nat) (h : 0 < l.length) (d : Dm) : d ∈ l ↔ d ∈ turnV l o l.length := by
  have hz : l.length ≠ 0 := by omega
  constructor
  · intro hd
    obtain ⟨i, hi, rfl⟩ := List.mem_iff_getElem.1 hd
    simp only [turnV, List.mem_map, List.mem_range]
    refine ⟨(i + (l.length - o % l.length)) % l.length, Nat.mod_lt _ h, ?_⟩
    have e : ((i + (l.length - o % l.length)) % l.length + o) % l.length = i := by
      have h1 := Nat.mod_lt o h
      rw [Nat.mod_add_mod]
      have h2 : i + (l.length - o % l.length) + o = i + l.length + l.length * (o / l.length) := by
        have := Nat.mod_add_div o l.length
        omega
      rw [h2, Nat.add_mul_mod_self_left, Nat.add_mod_right, Nat.mod_eq_of_lt hi]
    rw [e]; simp [hi]
  · intro hd
    simp only [turnV, List.mem_map, List.mem_range] at hd
    obtain ⟨j, hj, rfl⟩ := hd
    have := Nat.mod_lt (j + o) h
    simp [this]

theorem meetV_turn (l : List Dm) (o : Nat) (h : 0 < l.length) : meetV (turnV l o l.length) = meetV l := by
  have e0 := meetF_perm l _ (turnV_mem l o h)
  have e1 : (turnV l o l.length).all vd = l.all vd := by
    rw [Bool.eq_iff_iff, List.all_eq_true, List.all_eq_true]
    exact ⟨fun g x hx => g x ((turnV_mem l o h x).1 hx), fun g x hx => g x ((turnV_mem l o h x).2 hx)⟩
  have e2 : (turnV l o l.length = []) = (l = []) := propext ⟨fun g => by rw [← List.length_eq_zero_iff, turnV_len] at g; omega, fun g => by simp [g] at h⟩
  simp only [meetV, turnV_len, e0, e1, e2]

def onB (n : Int) (d : Dm) : Bool := decide (d.l ≤ n) && decide (n ≤ d.u)

/-- The loop's state. -/
def mtS (l : List Dm) (more : Dm) (n turn : Int) (o : Nat) : Nat → St
  | 0 => ⟨[(41, .int .i64 0), (40, .int .i64 l.length), (39, .vsl (l.map Dm.cs)), (11, .nils), (10, .bool true), (9, .bool true), (8, .bool false), (5, .ptr 5 0), (3, .int .u8 turn), (2, .int .i64 n), (0, .vsl (l.map Dm.cs))], [(5, .box [.int .i64 more.n, .int .i64 more.l, .int .i64 more.u])]⟩
  | i + 1 => ⟨[(41, .int .i64 ((i + 1 : Nat) : Int)), (40, .int .i64 l.length), (39, .vsl (l.map Dm.cs)), (11, .osl 78 (i + 1)), (10, .bool ((l.take (i + 1)).all (onB n))), (9, .bool true), (8, .bool false), (5, .ptr 5 0), (3, .int .u8 turn), (2, .int .i64 n), (0, .vsl (l.map Dm.cs))],
      [(5, .box [.int .i64 more.n, .int .i64 more.l, .int .i64 more.u]), (78, .row 3 ((turnV l o (i + 1)).map Dm.cs))]⟩

theorem cs_pure (l : List Dm) : (l.map Dm.cs).all (fun r => r.all AV.pure) = true := by
  rw [List.all_map]; exact List.all_eq_true.2 fun x _ => by simp [Dm.cs, AV.pure]
theorem cs_flat (l : List Dm) (f : List AV → List Nat) (h : ∀ d, f (Dm.cs d) = []) : (l.map Dm.cs).flatMap f = [] := by
  induction l with
  | nil => rfl
  | cons d l ih => rw [List.map_cons, List.flatMap_cons, h, ih]; rfl
theorem cs_one (l : List Dm) : (l.map Dm.cs).all (fun r => r.all AV.one) = true := by
  rw [List.all_map]; exact List.all_eq_true.2 fun x _ => by simp [Dm.cs, AV.one]

section
variable {G : Nat → Option (List AV)}

set_option maxHeartbeats 2000000 in
set_option maxRecDepth 8000 in
theorem sizeMeets_pc (hg : Gs G) (l : List Dm) (more : Dm) (n turn : Int) (_n0 : -9223372036854775808 ≤ n) (_n1 : n ≤ 9223372036854775807) (o0 : 0 ≤ turn) (o1 : turn ≤ 255) :
    PC Tryd.prog G 14 [.vsl (l.map Dm.cs), .agg [.int .i64 more.n, .int .i64 more.l, .int .i64 more.u], .int .i64 n, .int .u8 turn] (.bool true) := by
  (refine pc_law01_SizeMeetsO (Nat.le_of_ble_eq_true rfl) fun R hG => GO_AR mixed 1000 ?_; subst hG)
  simp -implicitDefEqProofs [rc_law01_SizeMeetsO, rr_law01_SizeMeetsO]
  (first | refine CallK.of (alive_pc hg) (by simp) ?_ | refine CallD.of (alive_pc hg) (by simp) ?_)
  by_cases z0 : l.length = 0
  · simp -implicitDefEqProofs [z0]
  by_cases z1 : 20 ≤ l.length
  · have z1' : (20 : Int) ≤ l.length := by omega
    simp -implicitDefEqProofs [z0, z1']
  have z1' : ¬ (20 : Int) ≤ l.length := by omega
  simp -implicitDefEqProofs [z0, z1']
  (first | refine CallK.of (dim_pc more.n more.l more.u) (by simp) ?_ | refine CallD.of (dim_pc more.n more.l more.u) (by simp) ?_)
  cases h1 : vd more
  · have h1' : vd ⟨more.n, more.l, more.u⟩ = false := h1
    simp -implicitDefEqProofs [h1']
  have h1' : vd ⟨more.n, more.l, more.u⟩ = true := h1
  simp -implicitDefEqProofs [h1']
  obtain ⟨o, ho⟩ : ∃ o : Nat, o = turn.toNat % l.length := ⟨_, rfl⟩
  have hlt : (0 : Int) < l.length := by omega
  have hm : turn.tmod l.length = (o : Int) := by
    rw [Int.tmod_eq_emod_of_nonneg o0, ho]
    have : turn = (turn.toNat : Int) := by omega
    rw [this, Int.toNat_natCast, Int.natCast_emod]
  have ol : o < l.length := by rw [ho]; exact Nat.mod_lt _ (by omega)
  refine AR_loop (mtS l more n turn o) (fun i => i ≤ l.length ∧ ∀ x ∈ l.take i, vd x = true) (fun i => l.length - i) 0 (Weak.sub (by simp [mtS, lk, keptA, AV.keys]) (by simp [mtS, lk, keptO, keptA, AV.keys])) ⟨by omega, by simp⟩ ?_
  rintro i ⟨hi, he⟩
  refine GO_AR mixed 1000 ?_
  have wt : IntKind.i64.wrap turn = turn := wrapI (by omega) (by omega)
  by_cases h2 : i < l.length
  · obtain ⟨j, hj⟩ : ∃ j : Nat, j = (i + o) % l.length := ⟨_, rfl⟩
    have hjl : j < l.length := by rw [hj]; exact Nat.mod_lt _ (by omega)
    have w1 : IntKind.i64.wrap ((i : Int) + 1) = ((i + 1 : Nat) : Int) := wrapI (by omega) (by omega)
    have w2 : IntKind.i64.wrap ((i : Int) + o) = ((i + o : Nat) : Int) := wrapI (by omega) (by omega)
    have w3 : ((i + o : Nat) : Int).tmod l.length = (j : Int) := by rw [Int.tmod_eq_emod_of_nonneg (by omega), hj, Int.natCast_emod]
    have ht := turnV_succ l o i (by rw [← hj]; exact hjl)
    simp only [← hj] at ht
    have hc : (l.take (i + 1)).all (onB n) = ((l.take i).all (onB n) && onB n l[i]) := by rw [List.take_succ_eq_append_getElem h2, List.all_append]; simp
    cases h3 : vd l[i]
    · cases i with
      | zero =>
        simp -implicitDefEqProofs [mtS, h2, Dm.cs]
        (first | refine CallK.of (dim_pc l[0].n l[0].l l[0].u) (by simp) ?_ | refine CallD.of (dim_pc l[0].n l[0].l l[0].u) (by simp) ?_)
        simp -implicitDefEqProofs [h3]
        refine GO_ret mixed 1000 ?_
        simp -implicitDefEqProofs
      | succ i =>
        have k1 : (i : Int) + 1 < l.length := by omega
        have k2 : ((i : Int) + 1).toNat = i + 1 := by omega
        have k3 : (0 : Int) ≤ (i : Int) + 1 := by omega
        simp -implicitDefEqProofs [mtS, h2, k1, k2, k3, Dm.cs]
        (first | refine CallK.of (dim_pc l[i + 1].n l[i + 1].l l[i + 1].u) (by simp) ?_ | refine CallD.of (dim_pc l[i + 1].n l[i + 1].l l[i + 1].u) (by simp) ?_)
        simp -implicitDefEqProofs [h3]
        refine GO_ret mixed 1000 ?_
        simp -implicitDefEqProofs
    · have inv : i + 1 ≤ l.length ∧ ∀ x ∈ l.take (i + 1), vd x = true := ⟨by omega, by
        rw [List.take_succ_eq_append_getElem h2]
        intro x hx
        rcases List.mem_append.1 hx with hx | hx
        · exact he x hx
        · rw [List.mem_singleton.1 hx]; exact h3⟩
      have dec : l.length - (i + 1) < l.length - i := by omega
      have hbd : (i + 1) * 24 ≤ 70368744177664 := by omega
      have tl : (turnV l o i).length = i := turnV_len _ _ _
      have eS : ∀ (b1 : Bool), b1 = onB n l[i] → ((l.take i).all (onB n) && b1) = (l.take (i + 1)).all (onB n) := fun b1 e => by rw [hc, e]
      cases i with
      | zero =>
        have v2 : IntKind.i64.wrap (o : Int) = o := wrapI (by omega) (by omega)
        have v3 : (o : Int).tmod l.length = (j : Int) := by rw [Int.tmod_eq_emod_of_nonneg (by omega), hj, Nat.zero_add, Int.natCast_emod]
        have v1 : IntKind.i64.wrap 1 = 1 := rfl
        by_cases p1 : l[0].l ≤ n <;> by_cases p2 : n ≤ l[0].u
        all_goals
          have hq : onB n l[0] = (decide (l[0].l ≤ n) && decide (n ≤ l[0].u)) := rfl
          simp only [p1, p2, decide_true, decide_false, Bool.and_true, Bool.and_false, Bool.true_and, Bool.false_and] at hq
          simp -implicitDefEqProofs [mtS, h2, Dm.cs]
          (first | refine CallK.of (dim_pc l[0].n l[0].l l[0].u) (by simp) ?_ | refine CallD.of (dim_pc l[0].n l[0].l l[0].u) (by simp) ?_)
          simp -implicitDefEqProofs [h3, p1, p2, wt, hm, z0, v1, v2, v3, hjl, tl, hbd, Dm.cs]
          exact ⟨1, Weak.sub (by simp [mtS, lk, keptA, AV.keys, hc, hq]) (by simp [mtS, lk, keptO, keptA, AV.keys, show turnV l o 1 = [l[j]] from ht, Dm.cs]), inv, dec⟩
      | succ i =>
        have k1 : (i : Int) + 1 < l.length := by omega
        have k2 : ((i : Int) + 1).toNat = i + 1 := by omega
        have k3 : (0 : Int) ≤ (i : Int) + 1 := by omega
        have v2 : IntKind.i64.wrap ((i : Int) + 1 + o) = (i : Int) + 1 + o := wrapI (by omega) (by omega)
        have v3 : ((i : Int) + 1 + o).tmod l.length = (j : Int) := by rw [Int.tmod_eq_emod_of_nonneg (by omega), hj, Int.natCast_emod]; rfl
        have v1 : IntKind.i64.wrap ((i : Int) + 1 + 1) = (i : Int) + 1 + 1 := wrapI (by omega) (by omega)
        cases hb : (l.take (i + 1)).all (onB n)
        · have hq : (l.take (i + 1 + 1)).all (onB n) = false := by rw [hc, hb]; rfl
          simp -implicitDefEqProofs [mtS, h2, k1, k2, k3, hb, Dm.cs]
          (first | refine CallK.of (dim_pc l[i + 1].n l[i + 1].l l[i + 1].u) (by simp) ?_ | refine CallD.of (dim_pc l[i + 1].n l[i + 1].l l[i + 1].u) (by simp) ?_)
          simp -implicitDefEqProofs [h3, wt, hm, z0, v1, v2, v3, hjl, tl, hbd, Dm.cs]
          exact ⟨i + 2, Weak.sub (by simp [mtS, lk, keptA, AV.keys, hq]) (by simp [mtS, lk, keptO, keptA, AV.keys, ht, Dm.cs]), inv, dec⟩
        · by_cases p1 : l[i + 1].l ≤ n <;> by_cases p2 : n ≤ l[i + 1].u
          all_goals
            have hq : onB n l[i + 1] = (decide (l[i + 1].l ≤ n) && decide (n ≤ l[i + 1].u)) := rfl
            simp only [p1, p2, decide_true, decide_false, Bool.and_true, Bool.and_false, Bool.true_and, Bool.false_and] at hq
            simp -implicitDefEqProofs [mtS, h2, k1, k2, k3, hb, Dm.cs]
            (first | refine CallK.of (dim_pc l[i + 1].n l[i + 1].l l[i + 1].u) (by simp) ?_ | refine CallD.of (dim_pc l[i + 1].n l[i + 1].l l[i + 1].u) (by simp) ?_)
            simp -implicitDefEqProofs [h3, p1, p2, wt, hm, z0, v1, v2, v3, hjl, tl, hbd, Dm.cs]
            exact ⟨i + 2, Weak.sub (by simp [mtS, lk, keptA, AV.keys, hc, hb, hq]) (by simp [mtS, lk, keptO, keptA, AV.keys, ht, Dm.cs]), inv, dec⟩
  · obtain rfl : i = l.length := by omega
    have ha : l.all vd = true := by
      rw [List.take_of_length_le (Nat.le_refl _)] at he
      exact List.all_eq_true.2 he
    have hV := meetV_turn l o (by omega)
    have hT : (turnV l o l.length).length = l.length := turnV_len _ _ _
    have hF := meetF_le l n
    have hA : l.all (onB n) = true ↔ ∀ d ∈ l, d.l ≤ n ∧ n ≤ d.u := by simp [onB]
    have hm1 : meetV l = if (meetF l).2 < (meetF l).1 then (0, 0, 6) else ((meetF l).1, (meetF l).2, 0) := by
      have : ¬ 20 < l.length := by omega
      have : ¬ l = [] := by rintro rfl; simp at z0
      simp [meetV, ha, *]
    have hm2 : meetV (l ++ [more]) = if min (meetF l).2 more.u < max (meetF l).1 more.l then (0, 0, 6) else (max (meetF l).1 more.l, min (meetF l).2 more.u, 0) := by
      have q1 : ¬ 20 < (l ++ [more]).length := by simp; omega
      have q2 : ¬ l ++ [more] = [] := by simp
      have q3 : (l ++ [more]).all vd = true := by simp [List.all_append, ha, h1]
      simp only [meetV, q1, q2, q3, if_false, if_true, false_or, meetF_app, meetS]
    have hs : mtS l more n turn o l.length = ⟨[(41, .int .i64 l.length), (40, .int .i64 l.length), (39, .vsl (l.map Dm.cs)), (11, .osl 78 l.length), (10, .bool (l.all (onB n))), (9, .bool true), (8, .bool false), (5, .ptr 5 0), (3, .int .u8 turn), (2, .int .i64 n), (0, .vsl (l.map Dm.cs))],
      [(5, .box [.int .i64 more.n, .int .i64 more.l, .int .i64 more.u]), (78, .row 3 ((turnV l o l.length).map Dm.cs))]⟩ := by
      cases e : l.length with
      | zero => exact absurd e z0
      | succ k => simp only [mtS]; rw [← e, List.take_length]
    rw [hs]
    have p1 : ∀ r ∈ (turnV l o l.length).map Dm.cs, ∀ x ∈ r, x.pure = true := by simp [Dm.cs, AV.pure]
    simp -implicitDefEqProofs
    refine GO_ret mixed 1000 ?_
    simp -implicitDefEqProofs
    (first | refine CallK.of (meetSz_pc l) (by simp) ?_ | refine CallD.of (meetSz_pc l) (by simp) ?_)
    simp -implicitDefEqProofs
    refine CallK.flat (meetSz_pc (turnV l o l.length)) (by simp [AV.flat]) (by simp [snapL, snap, snapF, okAll, St.get, lk, hT, Dm.cs, AV.pure]) ?_
    rw [hV]
    have hb1 : (l.length + 1) * 24 ≤ 70368744177664 := by omega
    have hne : ¬ l = [] := by rintro rfl; simp at z0
    have hb2 : l.length * 24 ≤ 70368744177664 := by omega
    simp -implicitDefEqProofs [hb1, hb2, hne, Dm.cs]
    refine CallD.flat (meetSz_pc (l ++ [more])) (by simp [AV.flat]) (by simp [snapL, snap, snapF, okAll, St.get, lk, Dm.cs, AV.pure]) ?_
    rw [hm1, hm2]
    have hcm : l.all (onB n) = (decide ((meetF l).1 ≤ n) && decide (n ≤ (meetF l).2)) := by
      rw [Bool.eq_iff_iff, hA, Bool.and_eq_true, decide_eq_true_eq, decide_eq_true_eq, hF.1, hF.2]
      constructor
      · intro h
        have hd := h l[0] (List.getElem_mem (by omega))
        have hv := List.all_eq_true.1 ha l[0] (List.getElem_mem (by omega))
        obtain ⟨x0, x1, x2, x3, x4⟩ := of_decide_eq_true hv
        exact ⟨⟨by omega, fun d hd => (h d hd).1⟩, by omega, fun d hd => (h d hd).2⟩
      · rintro ⟨⟨_, h1⟩, _, h2⟩ d hd
        exact ⟨h1 d hd, h2 d hd⟩
    obtain ⟨x0, x1, x2, x3, x4⟩ := of_decide_eq_true h1
    rw [hcm]
    clear hcm hm1 hm2 hF hA he hs hV hT p1
    generalize meetF l = p
    obtain ⟨a, b⟩ := p
    simp only
    by_cases c1 : b < a
    · have c2 : min b more.u < max a more.l := by omega
      have c3 : (decide (a ≤ n) && decide (n ≤ b)) = false := by
        rw [← Bool.decide_and]; exact decide_eq_false (by omega)
      rw [if_pos c1, if_pos c2, c3]
      simp -implicitDefEqProofs []
      (simp only [List.flatMap_append, cs_flat, Dm.cs, AV.keys, List.flatMap_cons, List.flatMap_nil, List.append_nil, implies_true]; rfl)
    · rw [if_neg c1]
      by_cases c2 : min b more.u < max a more.l
      · rw [if_pos c2]
        have c4 : more.u < a ∨ ¬ more.u < a ∧ b < more.l := by omega
        rcases c4 with c4 | ⟨c4, c5⟩
        all_goals
          by_cases q1 : a ≤ n <;> by_cases q2 : n ≤ b
          all_goals
            simp -implicitDefEqProofs [q1, q2, c1, *]
            (simp only [List.flatMap_append, cs_flat, Dm.cs, AV.keys, List.flatMap_cons, List.flatMap_nil, List.append_nil, implies_true]; rfl)
      · rw [if_neg c2]
        by_cases q1 : a ≤ n <;> by_cases q2 : n ≤ b
        all_goals
          simp -implicitDefEqProofs [q1, q2, c1]
          (simp only [List.flatMap_append, cs_flat, Dm.cs, AV.keys, List.flatMap_cons, List.flatMap_nil, List.append_nil, implies_true]; rfl)
end
end Go.Proofs.YtikjooemblpnbaaDoor
