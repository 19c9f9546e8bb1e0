/-
  What Convert, Lost and Exact of package bluelineref01 return.
-/
import Derived.Test.YtikjooemblpnbaaDoorSzD
import Derived.LoopN
namespace Go.Proofs.YtikjooemblpnbaaDoor
open Go.RowKit

theorem stp_of {k : Int} (h : ¬ stp k = 0) : 1 ≤ stp k ∧ stp k ≤ 254 := by have := stp_bd k; omega

theorem convR_any (d : Dm) (k : Int) (w : World) :
    Calls Tryd.prog 17 #[.agg #[.int .i64 d.n, .int .i64 d.l, .int .i64 d.u], .int .u8 k] w fun e w' =>
      e = .returned (.tuple #[.agg #[.int .i64 (conv d k).1.n, .int .i64 (conv d k).1.l, .int .i64 (conv d k).1.u], .int .i64 (conv d k).2]) ∧ Ext w w' := by
  obtain ⟨n, l, u⟩ := d
  dsimp only
  go_enter Tryd.func17, Tryd.ntmps17
  go_wp2_with fail
  refine (dimD ⟨n, l, u⟩ _).mono ?_
  rintro e w1 ⟨rfl, h1⟩
  obtain ⟨hA, hR⟩ := blk2 w [.int .i64 n, .int .i64 l, .int .i64 u] [.int .i64 0, .int .i64 0, .int .i64 0] _ _ h1
  have hE := ext2 _ _ _ h1
  clear h1
  by_cases hv : vd ⟨n, l, u⟩ = true
  · go_wp2_with fail
    refine (step_any k _).mono ?_
    rintro e w2 ⟨rfl, rfl⟩
    by_cases hs : stp k = 0
    · have HS := Lib.hid hs
      have hs' : (stp k == 0) = true := by simpa using hs
      clear hs
      obtain ⟨r0, r1, r2, r3, r4, r5, r6⟩ := hR.three
      go_wp2_with fail
      refine bodyPost_ret (v := .tuple #[.agg #[.int .i64 0, .int .i64 0, .int .i64 0], .int .i64 11]) ?_ rfl ⟨by simp [conv, hv, HS.out, Dm.zero], (by repeat (first | exact hE | exact Ext.refl _ | apply Ext.al | apply Ext.dr | refine Ext.sc (by first | omega | (simp; done) | (simp; omega)) ?_ | assumption))⟩
      simp [results, Tryd.results17, go_sem, *]
    · obtain ⟨s0, s1⟩ := stp_of hs
      have hs' : (stp k == 0) = false := by simpa using hs
      go_wp2_with fail
      refine wp_region_calm [0, 1, 2, 3, 4, 5, 6] [7, 8, 9] (fun k => w1.heap.size ≤ k) (by kernel_rfl) (by kernel_rfl) ?_
      have hF := Lib.hid <| show ∀ w4, Kp (fun k => w1.heap.size ≤ k) w1.drew w4 → Blk w4 w.heap.size _ _ from fun w4 h4 => hA.drew.kp h4 (by have := hA.lt; omega)
      repeat
        refine walkE_step rfl rfl rfl ?_
        apply Exists.intro
        refine ⟨fun w4 h4 => ?_, ?_, ?_⟩
        · obtain ⟨f0, f1, f2, -⟩ := (hF.out w4 h4).three
          go_wp2_with (first | (go_at_call 50; refine (step_any k _).mono ?_; rintro e w' ⟨rfl, rfl⟩) | (go_at_call 51; refine (again_any n l u (stp k) _ hv s0 s1).mono ?_; rintro e w5 ⟨rfl, h5⟩))
          first | exact EPost.intro (Ext.refl _) rfl | exact EPost.intro (Ext.drew _) rfl | exact EPost.intro (h5) rfl
        · exact ⟨_, rfl⟩
      refine walkE_nil ?_
      refine walkT_cons rfl (fun w4 h4 => ?_)
      go_wp2_with fail
      refine ⟨Kp.alloc _ _, ?_⟩
      refine walkT_cons rfl (fun w5 h5 => ?_)
      have hb := (Blk.new w4 [.int .i64 0, .int .i64 0, .int .i64 0] 23).ext h5
      obtain ⟨g0, g1, g2, g3, g4, g5, g6⟩ := hb.three
      have hz : w1.heap.size ≤ w4.heap.size := by have := h4.size; simpa using this
      go_wp2_with fail
      refine ⟨(((Kp.refl _ _).setCell (by first | omega | (simp; done) | (simp; omega)) _).setCell (by first | omega | (simp; done) | (simp; omega)) _).setCell (by first | omega | (simp; done) | (simp; omega)) _, ?_⟩
      clear g0 g1 g2 g3 g4 g5
      refine walkT_cons rfl (fun w6 h6 => ?_)
      go_wp2_with fail
      refine ⟨Kp.refl _ _, ?_⟩
      refine walkT_end (fun w7 h7 hk => ?_)
      have hb7 := ((((hb.set 0 _).set 1 _).set 2 _).ext h6).ext h7
      simp only [List.set_cons_zero, List.set_cons_succ] at hb7
      have hR7 := hR.drew.kp hk (by have := hR.lt; omega)
      have hE7 := hE.dr.thn hk (fun j hj => by have := hE.size; omega)
      generalize w4.heap.size = b at *
      clear h7 hk hb h6 h5 h4 hF hR hA hE
      obtain ⟨r0, r1, r2, r3, r4, r5, r6⟩ := hR7.three
      obtain ⟨b0, b1, b2, -, -, -, b3⟩ := hb7.three
      cases hc : agnOk ⟨n, l, u⟩ (stp k)
      · go_wp2_with fail
        refine bodyPost_ret (v := .tuple #[.agg #[.int .i64 0, .int .i64 0, .int .i64 0], .int .i64 6]) ?_ rfl ⟨by simp [conv, hv, hs, hc, Dm.zero], (by repeat (first | exact hE | exact Ext.refl _ | apply Ext.al | apply Ext.dr | refine Ext.sc (by first | omega | (simp; done) | (simp; omega)) ?_ | assumption))⟩
        simp [results, Tryd.results17, go_sem, *]
      · go_wp2_with fail
        refine bodyPost_ret (v := .tuple #[.agg #[.int .i64 (agn ⟨n, l, u⟩ (stp k)).n, .int .i64 (agn ⟨n, l, u⟩ (stp k)).l, .int .i64 (agn ⟨n, l, u⟩ (stp k)).u], .int .i64 0]) ?_ rfl ⟨by simp [conv, hv, hs, hc], (by repeat (first | exact hE | exact Ext.refl _ | apply Ext.al | apply Ext.dr | refine Ext.sc (by first | omega | (simp; done) | (simp; omega)) ?_ | assumption))⟩
        simp [results, Tryd.results17, go_sem, *]
  · obtain ⟨r0, r1, r2, r3, r4, r5, r6⟩ := hR.three
    go_wp2_with fail
    refine bodyPost_ret (v := .tuple #[.agg #[.int .i64 0, .int .i64 0, .int .i64 0], .int .i64 10]) ?_ rfl ⟨by simp [conv, hv, Dm.zero], (by repeat (first | exact hE | exact Ext.refl _ | apply Ext.al | apply Ext.dr | refine Ext.sc (by first | omega | (simp; done) | (simp; omega)) ?_ | assumption))⟩
    simp [results, Tryd.results17, go_sem, *]

theorem lostR_any (d : Dm) (k : Int) (w : World) :
    Calls Tryd.prog 21 #[.agg #[.int .i64 d.n, .int .i64 d.l, .int .i64 d.u], .int .u8 k] w fun e w' =>
      e = .returned (.tuple #[.int .i64 (lostV d k).1, .int .i64 (lostV d k).2.1, .int .i64 (lostV d k).2.2]) ∧ Ext w w' := by
  obtain ⟨n, l, u⟩ := d
  dsimp only
  go_enter Tryd.func21, Tryd.ntmps21
  go_wp2_with fail
  refine (convR_any ⟨n, l, u⟩ k _).mono ?_
  rintro e w1 ⟨rfl, h1⟩
  have hA := blk1 w [.int .i64 n, .int .i64 l, .int .i64 u] _ h1
  have hE := ext1 _ _ h1
  clear h1
  have hbd := conv_bd ⟨n, l, u⟩ k
  have hV : lostV ⟨n, l, u⟩ k = if (conv ⟨n, l, u⟩ k).2 = 0 then ((conv ⟨n, l, u⟩ k).1.l - l, u - (conv ⟨n, l, u⟩ k).1.u, 0) else (0, 0, (conv ⟨n, l, u⟩ k).2) := rfl
  generalize conv ⟨n, l, u⟩ k = C at *
  have HV := Lib.hid hV
  clear hV
  by_cases hc : C.2 = 0
  · obtain ⟨q0, q1, q2, q3, q4, q5⟩ := hbd hc
    have HC := Lib.hid hc
    have hc' : (C.2 != 0) = false := by simpa using hc
    clear hc hbd
    go_wp2_with fail
    have hb := Blk.new w1 [.int .i64 C.1.n, .int .i64 C.1.l, .int .i64 C.1.u] 23
    have hA' := hA.alloc (.cells #[.int .i64 C.1.n, .int .i64 C.1.l, .int .i64 C.1.u] 23)
    refine wp_region_calm [0, 1, 2, 3, 4, 5, 6, 7, 8, 9, 10, 11, 12] [] (fun _ => False) (by kernel_rfl) (by kernel_rfl) ?_
    have hF := Lib.hid <| And.intro (show ∀ w4, Kp (fun _ => False) (w1.alloc _).drew w4 → Blk w4 w.heap.size _ _ from fun w4 h4 => hA'.drew.kp h4 (fun h => h)) (show ∀ w4, Kp (fun _ => False) (w1.alloc _).drew w4 → Blk w4 w1.heap.size _ _ from fun w4 h4 => hb.drew.kp h4 (fun h => h))
    repeat
      refine walkE_step rfl rfl rfl ?_
      apply Exists.intro
      refine ⟨fun w4 h4 => ?_, ?_, ?_⟩
      · obtain ⟨f0, f1, f2, -⟩ := (hF.out.1 w4 h4).three; obtain ⟨g0, g1, g2, -⟩ := (hF.out.2 w4 h4).three
        go_wp2_with (fail)
        exact EPost.intro (Ext.refl _) rfl
      · exact ⟨_, rfl⟩
    refine walkE_nil ?_
    refine walkT_end (fun w7 h7 hk => ?_)
    have hE7 := (Ext.al (o := .cells #[.int .i64 C.1.n, .int .i64 C.1.l, .int .i64 C.1.u] 23) hE).dr.thn hk (fun j hj => hj.elim)
    go_wp2_with fail
    go_ret3
    exact ⟨by rw [HV.out, if_pos HC.out]; rfl, hE7⟩
  · have hc' : (C.2 != 0) = true := by simpa using hc
    have HC := Lib.hid hc
    clear hc hbd
    go_wp2_with fail
    go_ret3
    exact ⟨by rw [HV.out, if_neg HC.out]; rfl, (by repeat (first | exact hE | exact Ext.refl _ | apply Ext.al | apply Ext.dr | refine Ext.sc (by first | omega | (simp; done) | (simp; omega)) ?_ | assumption))⟩

theorem exactR_any (d : Dm) (w : World) :
    Calls Tryd.prog 34 #[.agg #[.int .i64 d.n, .int .i64 d.l, .int .i64 d.u]] w fun e w' =>
      e = .returned (.tuple #[.int .u8 (exactV d), .int .i64 (chk d)]) ∧ Ext w w' := by
  obtain ⟨n, l, u⟩ := d
  dsimp only
  go_enter Tryd.func34, Tryd.ntmps34
  go_wp2_with fail
  refine (dimD ⟨n, l, u⟩ _).mono ?_
  rintro e w1 ⟨rfl, h1⟩
  have hA := blk1 w [.int .i64 n, .int .i64 l, .int .i64 u] _ h1
  have hE := ext1 _ _ h1
  clear h1
  by_cases hv : vd ⟨n, l, u⟩ = true
  · obtain ⟨x0, x1, x2, x3, x4⟩ := of_decide_eq_true hv
    dsimp only at *
    go_wp2_with fail
    refine wp_loop_rounds 3 ?_
    rw [rounds_succ]
    go_wp2_with fail
    have HV := Lib.hid hv
    clear hv
    refine wp_region_calm [0, 1, 2, 3] [] (fun _ => False) (by kernel_rfl) (by kernel_rfl) ?_
    have hF := Lib.hid <| show ∀ w4, Kp (fun _ => False) w1.drew w4 → Blk w4 w.heap.size _ _ from fun w4 h4 => hA.drew.kp h4 (fun h => h)
    repeat
      refine walkE_step rfl rfl rfl ?_
      apply Exists.intro
      refine ⟨fun w4 h4 => ?_, ?_, ?_⟩
      · obtain ⟨f0, f1, f2, -⟩ := (hF.out w4 h4).three
        go_wp2_with (first | (go_at_call 50; refine ((step_any 1 _).mono (R' := fun e w' => e = .returned (.int .i64 100) ∧ _ = w') fun _ _ h => h).mono ?_; rintro e w' ⟨rfl, rfl⟩) | (go_at_call 62; refine (exact_any n l u 100 _ (by omega) (by omega) (by omega) (by omega) (by omega)).mono ?_; rintro e w5 ⟨rfl, h5⟩))
        first | exact EPost.intro (Ext.refl _) rfl | exact EPost.intro (Ext.drew _) rfl | exact EPost.intro (h5) rfl
      · exact ⟨_, rfl⟩
    refine walkE_nil ?_
    refine walkT_end (fun w7 h7 hk => ?_)
    replace hE := hE.dr.thn hk (fun j hj => hj.elim)
    replace hA := hA.drew.kp hk (fun h => h)
    clear h7 hk hF
    cases hx : exa ⟨n, l, u⟩ 100
    all_goals
      go_wp2_with fail
      rw [rounds_succ]
      go_wp2_with fail
      have HX := Lib.hid hx
      clear hx
      refine wp_region_calm [0, 1, 2, 3] [] (fun _ => False) (by kernel_rfl) (by kernel_rfl) ?_
      have hF := Lib.hid <| show ∀ w4, Kp (fun _ => False) w7.drew w4 → Blk w4 w.heap.size _ _ from fun w4 h4 => hA.drew.kp h4 (fun h => h)
      repeat
        refine walkE_step rfl rfl rfl ?_
        apply Exists.intro
        refine ⟨fun w4 h4 => ?_, ?_, ?_⟩
        · obtain ⟨f0, f1, f2, -⟩ := (hF.out w4 h4).three
          go_wp2_with (first | (go_at_call 50; refine ((step_any 2 _).mono (R' := fun e w' => e = .returned (.int .i64 254) ∧ _ = w') fun _ _ h => h).mono ?_; rintro e w' ⟨rfl, rfl⟩) | (go_at_call 62; refine (exact_any n l u 254 _ (by omega) (by omega) (by omega) (by omega) (by omega)).mono ?_; rintro e w5 ⟨rfl, h5⟩))
          first | exact EPost.intro (Ext.refl _) rfl | exact EPost.intro (Ext.drew _) rfl | exact EPost.intro (h5) rfl
        · exact ⟨_, rfl⟩
      refine walkE_nil ?_
      refine walkT_end (fun w8 h8 hk => ?_)
      have hE8 := hE.dr.thn hk (fun j hj => hj.elim)
      clear h8 hk hF hA hE
      cases hy : exa ⟨n, l, u⟩ 254
      all_goals
        go_wp2_with fail
        rw [rounds_succ]
        go_wp2_with fail
        go_ret2
        exact ⟨by simp [exactV, chk, HV.out, HX.out, hy], hE8⟩
  · go_wp2_with fail
    go_ret2
    exact ⟨by simp [exactV, chk, hv], hE⟩

end Go.Proofs.YtikjooemblpnbaaDoor
