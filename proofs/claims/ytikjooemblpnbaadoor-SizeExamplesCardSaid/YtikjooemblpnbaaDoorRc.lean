/-
  What the functions of package bluelineref01 compute (room, again, share), by the abstract machine.
-/
import Derived.Test.YtikjooemblpnbaaDoorRa
/-! What the functions of package bluelineref01 compute (room, again, share), by the abstract machine. -/
namespace Go.Proofs.YtikjooemblpnbaaDoor
open Go.RowKit

/-- What is shared: hole, shaft, error. -/
def shareHole (n lo hi s : Int) : Dm := ⟨n, n, n + (hi - lo) / 2 / s * s⟩
def shareV (n lo hi k : Int) : Dm × Dm × Int :=
  if inR n 0 1000000000 = true ∧ wantedB lo hi = true then
    if stp k = 0 then (Dm.zero, Dm.zero, 11)
    else if n % stp k = 0 then
      if (shareHole n lo hi (stp k)).u ≤ 1000000000 then
        if (roomD (shareHole n lo hi (stp k)) lo hi).l ≤ (roomD (shareHole n lo hi (stp k)) lo hi).u then
          if agnOk (roomD (shareHole n lo hi (stp k)) lo hi) (stp k) = true then (shareHole n lo hi (stp k), agn (roomD (shareHole n lo hi (stp k)) lo hi) (stp k), 0)
          else (Dm.zero, Dm.zero, 6)
        else (Dm.zero, Dm.zero, 6)
      else (Dm.zero, Dm.zero, 6)
    else (Dm.zero, Dm.zero, 12)
  else (Dm.zero, Dm.zero, 2)

section
variable {G : Nat → Option (List AV)}

theorem room_pc (h : Dm) (lo hi : Int) (h0 : 0 ≤ h.l) (h1 : h.l ≤ 1000000000) (h2 : 0 ≤ h.u) (h3 : h.u ≤ 1000000000) (hw : wantedB lo hi = true) :
    PC Tryd.prog G 59 [.agg [.int .i64 h.n, .int .i64 h.l, .int .i64 h.u], .agg [.int .i64 lo, .int .i64 hi]]
      (.tup [.agg [.int .i64 (roomD h lo hi).n, .int .i64 (roomD h lo hi).l, .int .i64 (roomD h lo hi).u], .bool (decide ((roomD h lo hi).l ≤ (roomD h lo hi).u))]) := by
  (refine pc_ref01_room (Nat.le_of_ble_eq_true rfl) fun R hG => GO_AR mixed 1000 ?_; subst hG)
  obtain ⟨y0, y1, y2, y3, y4⟩ := of_decide_eq_true hw
  have e1 : IntKind.i64.wrap (h.u - hi) = h.u - hi := wrapI (by omega) (by omega)
  have e2 : IntKind.i64.wrap (h.l - lo) = h.l - lo := wrapI (by omega) (by omega)
  simp -implicitDefEqProofs [rc_ref01_room, rr_ref01_room, e1, e2, roomD]
  exact ⟨rfl, rfl⟩

theorem Room_pc (h : Dm) (lo hi : Int) :
    PC Tryd.prog G 27 [.agg [.int .i64 h.n, .int .i64 h.l, .int .i64 h.u], .agg [.int .i64 lo, .int .i64 hi]]
      (.tup [.agg [.int .i64 (roomV h lo hi).1.n, .int .i64 (roomV h lo hi).1.l, .int .i64 (roomV h lo hi).1.u], .int .i64 (roomV h lo hi).2]) := by
  (refine pc_ref01_Room (Nat.le_of_ble_eq_true rfl) fun R hG => GO_AR mixed 1000 ?_; subst hG)
  simp -implicitDefEqProofs [rc_ref01_Room, rr_ref01_Room, roomV]
  (first | refine CallK.of (dim_pc _ _ _) (by simp) ?_ | refine CallD.of (dim_pc _ _ _) (by simp) ?_)
  cases h1 : vd h
  · simp -implicitDefEqProofs [h1, Dm.zero]
  · simp -implicitDefEqProofs [h1]
    (first | refine CallK.of (wanted_pc _ _) (by simp) ?_ | refine CallD.of (wanted_pc _ _) (by simp) ?_)
    cases h2 : wantedB lo hi
    · simp -implicitDefEqProofs [h2, Dm.zero]
    · obtain ⟨x0, x1, x2, x3, x4⟩ := of_decide_eq_true h1
      simp -implicitDefEqProofs [h2]
      (first | refine CallK.of (room_pc h lo hi (by omega) (by omega) (by omega) (by omega) h2) (by simp) ?_ | refine CallD.of (room_pc h lo hi (by omega) (by omega) (by omega) (by omega) h2) (by simp) ?_)
      cases h3 : decide ((roomD h lo hi).l ≤ (roomD h lo hi).u)
      · have h4 := of_decide_eq_false h3
        simp -implicitDefEqProofs [h4, Dm.zero]
      · have h4 := of_decide_eq_true h3
        simp -implicitDefEqProofs [h4]

theorem exact_pc (d : Dm) (s : Int) (hn : 0 ≤ d.n) (hl : 0 ≤ d.l) (hu : 0 ≤ d.u) (s0 : 1 ≤ s) (s1 : s ≤ 254) :
    PC Tryd.prog G 62 [.agg [.int .i64 d.n, .int .i64 d.l, .int .i64 d.u], .int .i64 s] (.bool (exa d s)) := by
  (refine pc_ref01_exact (Nat.le_of_ble_eq_true rfl) fun R hG => GO_AR mixed 1000 ?_; subst hG)
  have e0 : ¬ s = 0 := by omega
  have e1 : d.n.tmod s = d.n % s := Int.tmod_eq_emod_of_nonneg hn
  have e2 : d.l.tmod s = d.l % s := Int.tmod_eq_emod_of_nonneg hl
  have e3 : d.u.tmod s = d.u % s := Int.tmod_eq_emod_of_nonneg hu
  have b1 := Int.emod_nonneg d.n e0
  have b2 := Int.emod_nonneg d.l e0
  have b3 := Int.emod_nonneg d.u e0
  have c1 := Int.emod_lt_of_pos d.n (show (0 : Int) < s by omega)
  have c2 := Int.emod_lt_of_pos d.l (show (0 : Int) < s by omega)
  have c3 := Int.emod_lt_of_pos d.u (show (0 : Int) < s by omega)
  have e4 : IntKind.i64.wrap (d.n % s) = d.n % s := wrapI (by omega) (by omega)
  have e5 : IntKind.i64.wrap (d.l % s) = d.l % s := wrapI (by omega) (by omega)
  have e6 : IntKind.i64.wrap (d.u % s) = d.u % s := wrapI (by omega) (by omega)
  have e : exa d s = (decide (d.n % s = 0) && (decide (d.l % s = 0) && decide (d.u % s = 0))) := by
    unfold exa; rw [← Bool.decide_and, ← Bool.decide_and]
  rw [e]
  generalize hp : decide (d.n % s = 0) = p
  generalize hq : decide (d.l % s = 0) = q
  generalize hr : decide (d.u % s = 0) = r
  cases p <;> simp -implicitDefEqProofs [rc_ref01_exact, rr_ref01_exact, e0, e1, e2, e3, e4, e5, e6, hp, hq, hr]
  cases q <;> simp -implicitDefEqProofs [e0, e1, e2, e3, e4, e5, e6, hp, hq, hr]

theorem again_pc (d : Dm) (s : Int) (hv : vd d = true) (s0 : 1 ≤ s) (s1 : s ≤ 254) :
    PC Tryd.prog G 51 [.agg [.int .i64 d.n, .int .i64 d.l, .int .i64 d.u], .int .i64 s]
      (.tup [.agg [.int .i64 (agn d s).n, .int .i64 (agn d s).l, .int .i64 (agn d s).u], .bool (agnOk d s)]) := by
  (refine pc_ref01_Again (Nat.le_of_ble_eq_true rfl) fun R hG => GO_AR mixed 1000 ?_; subst hG)
  obtain ⟨x0, x1, x2, x3, x4⟩ := of_decide_eq_true hv
  have e0 : ¬ s = 0 := by omega
  have q1 : d.n.tdiv s = d.n / s := Int.tdiv_eq_ediv_of_nonneg x0
  have q2 : d.u.tdiv s = d.u / s := Int.tdiv_eq_ediv_of_nonneg (by omega)
  have p1 : 0 ≤ d.n / s := Int.ediv_nonneg x0 (by omega)
  have p2 : 0 ≤ d.u / s := Int.ediv_nonneg (by omega) (by omega)
  have p3 : d.n / s ≤ d.n := Int.ediv_le_self _ x0
  have p4 : d.u / s ≤ d.u := Int.ediv_le_self _ (by omega)
  obtain ⟨a0, a1⟩ := dm_bd d.n s s0
  obtain ⟨b0, b1⟩ := dm_bd d.u s s0
  have p5 : 0 ≤ d.n / s * s := Int.mul_nonneg p1 (by omega)
  have p6 : 0 ≤ d.u / s * s := Int.mul_nonneg p2 (by omega)
  have w1 : IntKind.i64.wrap (d.n / s) = d.n / s := wrapI (by omega) (by omega)
  have w2 : IntKind.i64.wrap (d.u / s) = d.u / s := wrapI (by omega) (by omega)
  have w3 : IntKind.i64.wrap (d.n / s * s) = d.n / s * s := wrapI (by omega) (by omega)
  have w4 : IntKind.i64.wrap (d.u / s * s) = d.u / s * s := wrapI (by omega) (by omega)
  have w5 : IntKind.i64.wrap (d.n / s * s + s) = d.n / s * s + s := wrapI (by omega) (by omega)
  have w6 : IntKind.i64.wrap (d.n / s * s + s - d.n) = d.n / s * s + s - d.n := wrapI (by omega) (by omega)
  have w7 : IntKind.i64.wrap (d.n - d.n / s * s) = d.n - d.n / s * s := wrapI (by omega) (by omega)
  have hok : agnOk d s = decide ((d.l + s - 1) / s * s ≤ d.u / s * s) := rfl
  by_cases h1 : d.n / s * s + s ≤ 1000000000
  · by_cases h2 : d.n / s * s + s - d.n < d.n - d.n / s * s
    · simp -implicitDefEqProofs [rc_ref01_Again, rr_ref01_Again, e0, q1, q2, w1, w2, w3, w4, w5, w6, w7, h1, h2, hok, agn, nom]
      (first | refine CallK.of (above_pc _ _ x2 (by omega) s0 s1) (by simp) ?_ | refine CallD.of (above_pc _ _ x2 (by omega) s0 s1) (by simp) ?_)
      simp -implicitDefEqProofs [e0, q2, w2, w4]
      exact ⟨rfl, rfl⟩
    · simp -implicitDefEqProofs [rc_ref01_Again, rr_ref01_Again, e0, q1, q2, w1, w2, w3, w4, w5, w6, w7, h1, h2, hok, agn, nom]
      (first | refine CallK.of (above_pc _ _ x2 (by omega) s0 s1) (by simp) ?_ | refine CallD.of (above_pc _ _ x2 (by omega) s0 s1) (by simp) ?_)
      simp -implicitDefEqProofs [e0, q2, w2, w4]
      exact ⟨rfl, rfl⟩
  · simp -implicitDefEqProofs [rc_ref01_Again, rr_ref01_Again, e0, q1, q2, w1, w2, w3, w4, w5, w6, w7, h1, hok, agn, nom]
    (first | refine CallK.of (above_pc _ _ x2 (by omega) s0 s1) (by simp) ?_ | refine CallD.of (above_pc _ _ x2 (by omega) s0 s1) (by simp) ?_)
    simp -implicitDefEqProofs [e0, q2, w2, w4]
    exact ⟨rfl, rfl⟩

theorem shareR_pc (n lo hi k : Int) : PC Tryd.prog G 29 [.int .i64 n, .agg [.int .i64 lo, .int .i64 hi], .int .u8 k]
    (.tup [(shareV n lo hi k).1.av, (shareV n lo hi k).2.1.av, .int .i64 (shareV n lo hi k).2.2]) := by
  (refine pc_ref01_Share (Nat.le_of_ble_eq_true rfl) fun R hG => GO_AR mixed 1000 ?_; subst hG)
  simp -implicitDefEqProofs [rc_ref01_Share, rr_ref01_Share, Dm.av]
  (first | refine CallK.of (step_pc _) (by simp) ?_ | refine CallD.of (step_pc _) (by simp) ?_)
  simp -implicitDefEqProofs
  (first | refine CallK.of (within_pc _ _ _) (by simp) ?_ | refine CallD.of (within_pc _ _ _) (by simp) ?_)
  have hb := stp_bd k
  cases h1 : inR n 0 1000000000
  · simp -implicitDefEqProofs [shareV, h1, Dm.zero]
  · simp -implicitDefEqProofs
    (first | refine CallK.of (wanted_pc _ _) (by simp) ?_ | refine CallD.of (wanted_pc _ _) (by simp) ?_)
    cases h2 : wantedB lo hi
    · simp -implicitDefEqProofs [shareV, h2, Dm.zero]
    · obtain ⟨y0, y1, y2, y3, y4⟩ := of_decide_eq_true h2
      obtain ⟨x0, x1⟩ := of_decide_eq_true h1
      by_cases h3 : stp k = 0
      · simp -implicitDefEqProofs [shareV, h1, h2, h3, Dm.zero]
      · have s0 : 1 ≤ stp k := by omega
        have r1 : n.tmod (stp k) = n % stp k := Int.tmod_eq_emod_of_nonneg x0
        have b1 := Int.emod_nonneg n h3
        have c1 := Int.emod_lt_of_pos n (show (0 : Int) < stp k by omega)
        have r2 : IntKind.i64.wrap (n % stp k) = n % stp k := wrapI (by omega) (by omega)
        have w1 : IntKind.i64.wrap (hi - lo) = hi - lo := wrapI (by omega) (by omega)
        have q1 : (hi - lo).tdiv 2 = (hi - lo) / 2 := Int.tdiv_eq_ediv_of_nonneg (by omega)
        have w2 : IntKind.i64.wrap ((hi - lo) / 2) = (hi - lo) / 2 := wrapI (by omega) (by omega)
        have q2 : ((hi - lo) / 2).tdiv (stp k) = (hi - lo) / 2 / stp k := Int.tdiv_eq_ediv_of_nonneg (by omega)
        have p1 : 0 ≤ (hi - lo) / 2 / stp k := Int.ediv_nonneg (by omega) (by omega)
        have p2 : (hi - lo) / 2 / stp k ≤ (hi - lo) / 2 := Int.ediv_le_self _ (by omega)
        have w3 : IntKind.i64.wrap ((hi - lo) / 2 / stp k) = (hi - lo) / 2 / stp k := wrapI (by omega) (by omega)
        obtain ⟨a0, a1⟩ := dm_bd ((hi - lo) / 2) (stp k) s0
        have p3 : 0 ≤ (hi - lo) / 2 / stp k * stp k := Int.mul_nonneg p1 (by omega)
        have w4 : IntKind.i64.wrap ((hi - lo) / 2 / stp k * stp k) = (hi - lo) / 2 / stp k * stp k := wrapI (by omega) (by omega)
        have w5 : IntKind.i64.wrap (n + (hi - lo) / 2 / stp k * stp k) = n + (hi - lo) / 2 / stp k * stp k := wrapI (by omega) (by omega)
        have hu : (shareHole n lo hi (stp k)).u = n + (hi - lo) / 2 / stp k * stp k := rfl
        by_cases h4 : n % stp k = 0
        · by_cases h5 : n + (hi - lo) / 2 / stp k * stp k ≤ 1000000000
          · have h5' : ¬ 1000000000 < n + (hi - lo) / 2 / stp k * stp k := by omega
            simp -implicitDefEqProofs [h3, r1, r2, h4, w1, q1, w2, q2, w3, w4, w5, h5']
            (first | refine CallK.of (room_pc (shareHole n lo hi (stp k)) lo hi (by simpa [shareHole] using x0) (by simpa [shareHole] using x1) (by rw [hu]; omega) (by rw [hu]; omega) h2) (by simp) ?_ | refine CallD.of (room_pc (shareHole n lo hi (stp k)) lo hi (by simpa [shareHole] using x0) (by simpa [shareHole] using x1) (by rw [hu]; omega) (by rw [hu]; omega) h2) (by simp) ?_)
            generalize hd : roomD (shareHole n lo hi (stp k)) lo hi = d
            cases h6 : decide (d.l ≤ d.u)
            · have h6' := of_decide_eq_false h6
              simp -implicitDefEqProofs [shareV, h1, h2, h3, h4, hu, h5, hd, h6', Dm.zero]
            · have h6' := of_decide_eq_true h6
              have hv : vd d = true := by
                subst hd
                exact decide_eq_true ⟨x0, x1, Int.le_max_left .., h6', Int.min_le_left ..⟩
              simp -implicitDefEqProofs
              (first | refine CallK.of (again_pc d (stp k) hv s0 (by omega)) (by simp) ?_ | refine CallD.of (again_pc d (stp k) hv s0 (by omega)) (by simp) ?_)
              cases h7 : agnOk d (stp k)
              · simp -implicitDefEqProofs [shareV, h1, h2, h3, h4, hu, h5, hd, h6', h7, Dm.zero]
              · have hs : shareV n lo hi k = (shareHole n lo hi (stp k), agn d (stp k), 0) := by
                  simp [shareV, h1, h2, h3, h4, hu, h5, hd, h6', h7]
                rw [hs]
                simp -implicitDefEqProofs [shareHole]
                rfl
          · have h5' : 1000000000 < n + (hi - lo) / 2 / stp k * stp k := by omega
            simp -implicitDefEqProofs [shareV, h1, h2, h3, r1, r2, h4, w1, q1, w2, q2, w3, w4, w5, hu, h5, h5', Dm.zero]
        · simp -implicitDefEqProofs [shareV, h1, h2, h3, r1, r2, h4, Dm.zero]

end
end Go.Proofs.YtikjooemblpnbaaDoor

/-! What Meet of package bluelineref01 computes, by the abstract machine. -/
namespace Go.Proofs.YtikjooemblpnbaaDoor
open Go.RowKit

/-- What is common, one size more. -/
def meetS (s : Int × Int) (d : Dm) : Int × Int := (max s.1 d.l, min s.2 d.u)
def meetF (l : List Dm) : Int × Int := l.foldl meetS (0, 1000000000)
def meetV (l : List Dm) : Int × Int × Int :=
  if 20 < l.length then (0, 0, 4)
  else if l.all vd = true then if l = [] ∨ (meetF l).2 < (meetF l).1 then (0, 0, 6) else ((meetF l).1, (meetF l).2, 0)
  else (0, 0, 10)

theorem meetF_take (l : List Dm) (k : Nat) (h : k < l.length) : meetF (l.take (k + 1)) = meetS (meetF (l.take k)) l[k] := by
  rw [List.take_succ_eq_append_getElem h, meetF, List.foldl_append]; rfl

section
variable {G : Nat → Option (List AV)}

theorem meetR_pc (l : List Dm) : PC Tryd.prog G 31 [.vsl (l.map Dm.cs)] (.tup [.agg [.int .i64 (meetV l).1, .int .i64 (meetV l).2.1], .int .i64 (meetV l).2.2]) := by
  (refine pc_ref01_Meet (Nat.le_of_ble_eq_true rfl) fun R hG => GO_AR mixed 1000 ?_; subst hG)
  by_cases h1 : 20 < l.length
  · have h1' : (20 : Int) < l.length := by omega
    simp -implicitDefEqProofs [rc_ref01_Meet, rr_ref01_Meet, h1', h1, meetV]
  · have h1' : ¬ (20 : Int) < l.length := by omega
    simp -implicitDefEqProofs [rc_ref01_Meet, rr_ref01_Meet, h1']
    refine AR_loop (fun i : Nat => ⟨[(4, .int .i64 i), (3, .int .i64 0), (2, .ptr 2 0), (0, .vsl (l.map Dm.cs))], [(2, .box [.int .i64 0, .int .i64 0])]⟩) (fun i => i ≤ l.length ∧ ∀ x ∈ l.take i, vd x = true) (fun i => l.length - i) 0 (Weak.tm (by simp [lk])) ⟨by omega, by simp⟩ ?_
    rintro i ⟨hi, he⟩
    refine GO_AR mixed 1000 ?_
    by_cases h2 : i < l.length
    · have w1 : IntKind.i64.wrap ((i : Int) + 1) = ((i + 1 : Nat) : Int) := wrapI (by omega) (by omega)
      simp -implicitDefEqProofs [h2, Dm.cs]
      (first | refine CallK.of (dim_pc _ _ _) (by simp) ?_ | refine CallD.of (dim_pc _ _ _) (by simp) ?_)
      cases h3 : vd ⟨l[i].n, l[i].l, l[i].u⟩
      · have h4 : l.all vd = false := by
          rw [← Bool.not_eq_true, List.all_eq_true]
          exact fun h => absurd (h l[i] (List.getElem_mem h2)) (by rw [show vd l[i] = false from h3]; simp)
        have h5 : meetV l = (0, 0, 10) := by simp [meetV, h1, h4]
        simp -implicitDefEqProofs
        refine GO_ret mixed 1000 ?_
        simp -implicitDefEqProofs [h5]
      · simp -implicitDefEqProofs [w1]
        refine ⟨i + 1, Weak.tm (by simp [lk]), ⟨by omega, ?_⟩, by show l.length - (i + 1) < l.length - i; omega⟩
        rw [List.take_succ_eq_append_getElem h2]
        intro x hx
        rcases List.mem_append.1 hx with hx | hx
        · exact he x hx
        · rw [List.mem_singleton.1 hx]; exact h3
    · have ha : l.all vd = true := by
        rw [List.take_of_length_le (by omega)] at he
        exact List.all_eq_true.2 he
      simp -implicitDefEqProofs [h2]
      refine GO_ret mixed 1000 ?_
      simp -implicitDefEqProofs
      clear he h2 hi
      refine AR_loop (fun i : Nat => ⟨[(6, .int .i64 i), (5, .ptr 5 0), (2, .ptr 2 0), (0, .vsl (l.map Dm.cs))], [(2, .box [.int .i64 0, .int .i64 0]), (5, .box [.int .i64 (meetF (l.take i)).1, .int .i64 (meetF (l.take i)).2])]⟩) (fun i => i ≤ l.length) (fun i => l.length - i) 0 (Weak.tm (by simp [lk])) (by omega) ?_
      intro i hi
      refine GO_AR mixed 1000 ?_
      by_cases h2 : i < l.length
      · have w1 : IntKind.i64.wrap ((i : Int) + 1) = ((i + 1 : Nat) : Int) := wrapI (by omega) (by omega)
        simp -implicitDefEqProofs [h2, Dm.cs, w1]
        refine ⟨rfl, i + 1, ?_, by omega, by show l.length - (i + 1) < l.length - i; omega⟩
        exact Weak.of (by simp [meetF_take l i h2, meetS]) (by simp [lk])
      · have e1 : meetF (l.take i) = meetF l := by rw [List.take_of_length_le (by omega)]
        simp -implicitDefEqProofs [h2, e1]
        refine GO_ret mixed 1000 ?_
        by_cases h3 : l = []
        · have h5 : meetV [] = (0, 0, 6) := by simp [meetV]
          simp -implicitDefEqProofs [h5, h3]
        · have h3' : ¬ l.length = 0 := by simpa using h3
          by_cases h4 : (meetF l).2 < (meetF l).1
          · have h5 : meetV l = (0, 0, 6) := by simp [meetV, ha, h1, h3, h4]
            simp -implicitDefEqProofs [h5, h3, h4]
          · have h5 : meetV l = ((meetF l).1, (meetF l).2, 0) := by simp [meetV, ha, h1, h3, h4]
            simp -implicitDefEqProofs [h5, h3, h4]
end
end Go.Proofs.YtikjooemblpnbaaDoor
