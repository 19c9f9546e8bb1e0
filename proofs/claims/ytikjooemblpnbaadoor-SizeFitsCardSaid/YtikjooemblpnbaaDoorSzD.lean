/-
  What room, Room, Convert and Lost of package bluelineref01 return.
-/
import Derived.Test.YtikjooemblpnbaaDoorSzC
namespace Go.Proofs.YtikjooemblpnbaaDoor
open Go.RowKit

theorem roomR_any (h : Dm) (lo hi : Int) (w : World) (hv : vd h = true) (hw : wantedB lo hi = true) :
    Calls Tryd.prog 59 #[.agg #[.int .i64 h.n, .int .i64 h.l, .int .i64 h.u], .agg #[.int .i64 lo, .int .i64 hi]] w fun e w' =>
      e = .returned (.tuple #[.agg #[.int .i64 (roomD h lo hi).n, .int .i64 (roomD h lo hi).l, .int .i64 (roomD h lo hi).u], .bool (decide ((roomD h lo hi).l ≤ (roomD h lo hi).u))]) ∧ Ext w w' := by
  obtain ⟨n, l, u⟩ := h
  obtain ⟨x0, x1, x2, x3, x4⟩ := of_decide_eq_true hv
  obtain ⟨y0, y1, y2, y3, y4⟩ := of_decide_eq_true hw
  clear hv hw
  dsimp only [roomD] at *
  go_enter Tryd.func59, Tryd.ntmps59
  go_upto_region 1 with fail
  go_cut [6] (fun v wx => v = .pointer (some ⟨w.heap.size + 1 + 1 + 1, 0, none⟩) ∧ Blk wx (w.heap.size + 1 + 1) [.int .i64 0, .int .i64 0, .int .i64 0] 23 ∧
    Blk wx (w.heap.size + 1 + 1 + 1) [.int .i64 n, .int .i64 (max 0 (u - hi)), .int .i64 (min 1000000000 (l - lo))] 23 ∧ Ext w wx)
  case first =>
    have hq1 : hi < u → max 0 (u - hi) = u - hi := fun _ => by omega
    have hq2 : ¬ hi < u → max 0 (u - hi) = 0 := fun _ => by omega
    have hq3 : 1000000000 ≤ l - lo → min 1000000000 (l - lo) = 1000000000 := fun _ => by omega
    have hq4 : ¬ 1000000000 ≤ l - lo → min 1000000000 (l - lo) = l - lo := fun _ => by omega
    go_wp2_with fail
    all_goals
      go_meet
      refine ⟨rfl, ((Blk.new' _ _ _ (by first | omega | (simp; done) | (simp; omega))).alloc _), ?_, (by repeat (first | exact hE | exact Ext.refl _ | apply Ext.al | apply Ext.dr | refine Ext.sc (by first | omega | (simp; done) | (simp; omega)) ?_ | assumption))⟩
      refine (congrArg (fun l => Blk _ _ l _) ?_).mp (Blk.new' _ [.int .i64 n, .int .i64 _, .int .i64 _] _ (by first | omega | (simp; done) | (simp; omega)))
      simp
      omega
  case rest =>
    obtain ⟨rfl, hR, hB, hE⟩ := hcut
    go_wp2_with fail
    refine wp_region_calm [0, 1, 2, 3, 4, 5] [6, 7] (fun k => k = w.heap.size + 1 + 1) (by kernel_rfl) (by kernel_rfl) ?_
    have hF := Lib.hid <| show ∀ w4, Kp (fun k => k = w.heap.size + 1 + 1) wc.drew w4 → Blk w4 (w.heap.size + 1 + 1 + 1) _ _ from fun w4 h4 => hB.drew.kp h4 (by first | omega | (simp; done) | (simp; omega))
    repeat
      refine walkE_step rfl rfl rfl ?_
      apply Exists.intro
      refine ⟨fun w4 h4 => ?_, ?_, ?_⟩
      · obtain ⟨f0, f1, f2, -⟩ := (hF.out w4 h4).three
        go_wp2_with (fail)
        exact EPost.intro (Ext.refl _) rfl
      · exact ⟨_, rfl⟩
    refine walkE_nil ?_
    refine walkT_cons rfl (fun w4 h4 => ?_)
    have hr4 := hR.drew.ext h4
    obtain ⟨k0, k1, k2, k3, k4, k5, k6⟩ := hr4.three
    go_wp2_with fail
    refine ⟨(((Kp.refl _ _).setCell (by first | omega | (simp; done) | (simp; omega)) _).setCell (by first | omega | (simp; done) | (simp; omega)) _).setCell (by first | omega | (simp; done) | (simp; omega)) _, ?_⟩
    clear k0 k1 k2 k3 k4 k5
    refine walkT_cons rfl (fun w5 h5 => ?_)
    go_wp2_with fail
    refine ⟨Kp.refl _ _, ?_⟩
    refine walkT_end (fun w6 h6 hk => ?_)
    have hr6 := ((((hr4.set 0 _).set 1 _).set 2 _).ext h5).ext h6
    simp only [List.set_cons_zero, List.set_cons_succ] at hr6
    have hB6 : Ext w w6 := hE.dr.thn hk (fun j hj => by omega)
    clear hk h6 h5 h4 hr4 hF
    obtain ⟨k0, k1, k2, -⟩ := hr6.three
    go_wp2_with fail
    refine bodyPost_ret (v := .tuple #[.agg #[.int .i64 n, .int .i64 (max 0 (u - hi)), .int .i64 (min 1000000000 (l - lo))], .bool (decide (max 0 (u - hi) ≤ min 1000000000 (l - lo)))]) ?_ rfl ⟨rfl, hB6⟩
    simp [results, Tryd.results59, go_sem, k0, k1, k2]


theorem RoomR_any (h : Dm) (lo hi : Int) (w : World) :
    Calls Tryd.prog 27 #[.agg #[.int .i64 h.n, .int .i64 h.l, .int .i64 h.u], .agg #[.int .i64 lo, .int .i64 hi]] w fun e w' =>
      e = .returned (.tuple #[.agg #[.int .i64 (roomV h lo hi).1.n, .int .i64 (roomV h lo hi).1.l, .int .i64 (roomV h lo hi).1.u], .int .i64 (roomV h lo hi).2]) ∧ Ext w w' := by
  obtain ⟨n, l, u⟩ := h
  dsimp only
  by_cases hv : vd ⟨n, l, u⟩ = true
  · by_cases hw : wantedB lo hi = true
    · go_enter Tryd.func27, Tryd.ntmps27
      go_wp2_with fail
      refine (dimD ⟨n, l, u⟩ _).mono ?_
      rintro e w1 ⟨rfl, h1⟩
      obtain ⟨hA, hB, hR⟩ := blk3 w [.int .i64 n, .int .i64 l, .int .i64 u] [.int .i64 lo, .int .i64 hi] [.int .i64 0, .int .i64 0, .int .i64 0] _ _ _ h1
      have hE := ext3 _ _ _ _ h1
      clear h1
      obtain ⟨b0, b1, -, -, b3⟩ := hB.two
      go_wp2_with fail
      refine (wantedR_any lo hi _).mono ?_
      rintro e w2 ⟨rfl, h2⟩
      replace hA := hA.ext h2; replace hB := hB.ext h2; replace hR := hR.ext h2; replace hE := hE.trans h2
      clear b0 b1 b3 h2
      obtain ⟨a0, a1, a2, -, -, -, a3⟩ := hA.three
      obtain ⟨b0, b1, -, -, b3⟩ := hB.two
      go_wp2_with fail
      refine (roomR_any ⟨n, l, u⟩ lo hi _ hv hw).mono ?_
      rintro e w3 ⟨rfl, h3⟩
      replace hR := hR.ext h3; replace hE := hE.trans h3
      clear a0 a1 a2 a3 b0 b1 b3 h3 hA hB
      obtain ⟨r0, r1, r2, r3, r4, r5, r6⟩ := hR.three
      have hV : roomV ⟨n, l, u⟩ lo hi = if (roomD ⟨n, l, u⟩ lo hi).l ≤ (roomD ⟨n, l, u⟩ lo hi).u then (roomD ⟨n, l, u⟩ lo hi, 0) else (Dm.zero, 6) := by simp [roomV, hv, hw]
      generalize roomD ⟨n, l, u⟩ lo hi = D at *
      have HV := Lib.hid hV
      clear hV
      cases hc : decide (D.l ≤ D.u)
      · go_wp2_with fail
        refine bodyPost_ret (v := .tuple #[.agg #[.int .i64 0, .int .i64 0, .int .i64 0], .int .i64 6]) ?_ rfl ⟨by rw [HV.out, if_neg (of_decide_eq_false hc)]; rfl, (by repeat (first | exact hE | exact Ext.refl _ | apply Ext.al | apply Ext.dr | refine Ext.sc (by first | omega | (simp; done) | (simp; omega)) ?_ | assumption))⟩
        simp [results, Tryd.results27, go_sem, *]
      · go_wp2_with fail
        refine bodyPost_ret (v := .tuple #[.agg #[.int .i64 D.n, .int .i64 D.l, .int .i64 D.u], .int .i64 0]) ?_ rfl ⟨by rw [HV.out, if_pos (of_decide_eq_true hc)], (by repeat (first | exact hE | exact Ext.refl _ | apply Ext.al | apply Ext.dr | refine Ext.sc (by first | omega | (simp; done) | (simp; omega)) ?_ | assumption))⟩
        simp [results, Tryd.results27, go_sem, *]
    · go_enter Tryd.func27, Tryd.ntmps27
      go_wp2_with fail
      refine (dimD ⟨n, l, u⟩ _).mono ?_
      rintro e w1 ⟨rfl, h1⟩
      obtain ⟨hA, hB, hR⟩ := blk3 w [.int .i64 n, .int .i64 l, .int .i64 u] [.int .i64 lo, .int .i64 hi] [.int .i64 0, .int .i64 0, .int .i64 0] _ _ _ h1
      have hE := ext3 _ _ _ _ h1
      clear h1
      obtain ⟨b0, b1, -, -, b3⟩ := hB.two
      go_wp2_with fail
      refine (wantedR_any lo hi _).mono ?_
      rintro e w2 ⟨rfl, h2⟩
      replace hR := hR.ext h2; replace hE := hE.trans h2
      obtain ⟨r0, r1, r2, r3, r4, r5, r6⟩ := hR.three
      go_wp2_with fail
      refine bodyPost_ret (v := .tuple #[.agg #[.int .i64 0, .int .i64 0, .int .i64 0], .int .i64 2]) ?_ rfl ⟨by simp [roomV, hv, hw, Dm.zero], (by repeat (first | exact hE | exact Ext.refl _ | apply Ext.al | apply Ext.dr | refine Ext.sc (by first | omega | (simp; done) | (simp; omega)) ?_ | assumption))⟩
      simp [results, Tryd.results27, go_sem, *]
  · go_enter Tryd.func27, Tryd.ntmps27
    go_wp2_with fail
    refine (dimD ⟨n, l, u⟩ _).mono ?_
    rintro e w1 ⟨rfl, h1⟩
    obtain ⟨hA, hB, hR⟩ := blk3 w [.int .i64 n, .int .i64 l, .int .i64 u] [.int .i64 lo, .int .i64 hi] [.int .i64 0, .int .i64 0, .int .i64 0] _ _ _ h1
    have hE := ext3 _ _ _ _ h1
    obtain ⟨r0, r1, r2, r3, r4, r5, r6⟩ := hR.three
    go_wp2_with fail
    refine bodyPost_ret (v := .tuple #[.agg #[.int .i64 0, .int .i64 0, .int .i64 0], .int .i64 10]) ?_ rfl ⟨by simp [roomV, hv, Dm.zero], (by repeat (first | exact hE | exact Ext.refl _ | apply Ext.al | apply Ext.dr | refine Ext.sc (by first | omega | (simp; done) | (simp; omega)) ?_ | assumption))⟩
    simp [results, Tryd.results27, go_sem, *]

end Go.Proofs.YtikjooemblpnbaaDoor
