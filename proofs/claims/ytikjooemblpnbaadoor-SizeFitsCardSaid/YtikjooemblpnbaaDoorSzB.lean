import Derived.Test.YtikjooemblpnbaaDoorSzA
import Derived.Deep.DeepCutAuto
import Derived.RangeFuncRecord
import Derived.Test.YtikjooemblpnbaaDoorReg
namespace Go.Proofs.YtikjooemblpnbaaDoor
open Go.RowKit
attribute [local go_sem ↓] Go.wp_at_zero Go.wp_at_succ

set_option maxHeartbeats 1000000 in
theorem again_any (n l u s : Int) (w : World) (hv : vd ⟨n, l, u⟩ = true) (s0 : 1 ≤ s) (s1 : s ≤ 254) :
    Calls Tryd.prog 51 #[.agg #[.int .i64 n, .int .i64 l, .int .i64 u], .int .i64 s] w fun e w' =>
      e = .returned (.tuple #[.agg #[.int .i64 (agn ⟨n, l, u⟩ s).n, .int .i64 (agn ⟨n, l, u⟩ s).l, .int .i64 (agn ⟨n, l, u⟩ s).u], .bool (agnOk ⟨n, l, u⟩ s)]) ∧ Below w.heap.size w w' := by
  obtain ⟨n0, n1, l0, l1, u1⟩ := of_decide_eq_true hv
  clear hv
  dsimp only at *
  obtain ⟨b0, b1⟩ := dm_bd n s s0
  obtain ⟨c0, c1⟩ := dm_bd u s s0
  obtain ⟨d0, d1⟩ := dm_bd (l + s - 1) s s0
  have e1 : IntKind.i64.wrap (u / s * s) = u / s * s := IntWalk.i64_in _ (by omega)
  have e2 : ¬ s = 0 := by omega
  have e3 : (s == 0) = false := by simp; omega
  have e5 : u.tdiv s = u / s := Int.tdiv_eq_ediv_of_nonneg (by omega)
  have e4 : IntKind.i64.wrap (u / s) = u / s := IntWalk.i64_in _ (by have := Int.ediv_nonneg (show 0 ≤ u by omega) (show 0 ≤ s by omega); have := Int.ediv_le_self s (show 0 ≤ u by omega); omega)
  have hcase : (nom n s = n / s * s + s ∧ n / s * s + s ≤ 1000000000 ∧ n / s * s + s - n < n - n / s * s) ∨ (nom n s = n / s * s ∧ n / s * s + s ≤ 1000000000 ∧ ¬ n / s * s + s - n < n - n / s * s) ∨ (nom n s = n / s * s ∧ ¬ n / s * s + s ≤ 1000000000) := by
    unfold nom
    by_cases h1 : n / s * s + s ≤ 1000000000 <;> by_cases h2 : n / s * s + s - n < n - n / s * s <;> simp [h1, h2]
  rcases hcase with ⟨hN, t1, t2⟩ | ⟨hN, t1, t2⟩ | ⟨hN, t1⟩
  all_goals
    go_enter Tryd.func51, Tryd.ntmps51
    go_wp2_with fail
  all_goals
    refine wp_region_calm [0, 1, 2, 3, 4, 5, 6, 7, 8, 9, 10, 11] [12, 13] (fun k => w.heap.size + 2 ≤ k) (by kernel_rfl) (by kernel_rfl) ?_
    have hF := Lib.hid <| show ∀ w1, Kp (fun k => w.heap.size + 2 ≤ k) ((w.alloc (.cells #[.int .i64 n, .int .i64 l, .int .i64 u] 23)).alloc (.cells #[.int .i64 0, .int .i64 0, .int .i64 0] 23)).drew w1 →
        Blk w1 w.heap.size [.int .i64 n, .int .i64 l, .int .i64 u] 23 from fun w1 h1 => (((Blk.new w _ _).alloc _).drew).kp h1 (by simp)
    repeat
      refine walkE_step rfl rfl rfl ?_
      apply Exists.intro
      refine ⟨fun w1 h1 => ?_, ?_, ?_⟩
      · obtain ⟨f0, f1, f2, -⟩ := (hF.out w1 h1).three
        go_wp2_with (go_at_call 77; refine (above_any _ _ _ (by omega) (by omega) (by omega) (by omega)).mono ?_; rintro e w' ⟨rfl, rfl⟩)
        exact EPost.intro (Ext.refl _) rfl
      · exact ⟨_, rfl⟩
    refine walkE_nil ?_
    refine walkT_cons rfl (fun w1 h1 => ?_)
    go_wp2_with fail
    refine ⟨Kp.alloc _ _, ?_⟩
    refine walkT_cons rfl (fun w2 h2 => ?_)
    have hb := (Blk.new w1 [.int .i64 0, .int .i64 0, .int .i64 0] 23).ext h2
    obtain ⟨g0, g1, g2, g3, g4, g5, g6⟩ := hb.three
    have hz := h1.size
    simp only [World.size_drew, World.size_alloc] at hz
    go_wp2_with fail
    refine ⟨(((Kp.refl _ _).setCell (by simp; omega) _).setCell (by simp; omega) _).setCell (by simp; omega) _, ?_⟩
    refine walkT_end (fun w3 h3 hk => ?_)
    have hb3 := (((hb.set 0 _).set 1 _).set 2 _).ext h3
    simp only [List.set_cons_zero, List.set_cons_succ] at hb3
    have hr3 : Blk w3 (w.heap.size + 1) [.int .i64 0, .int .i64 0, .int .i64 0] 23 := ((Blk.new' _ _ _ (by simp)).drew).kp hk (by simp)
    have hB3 : Below w.heap.size w w3 := below_kp (((Below.refl _ w).alloc (Nat.le_refl _) _).alloc (by simp) _).drew hk (by simp; omega) (fun j hj => by omega)
    generalize w1.heap.size = b at *
    clear h3 hk hb h2 h1 g0 g1 g2 g3 g4 g5
    go_wp2_with fail
    refine wp_region_calm [0, 1, 2, 3, 4, 5] [6, 7] (fun k => k = w.heap.size + 1) (by kernel_rfl) (by kernel_rfl) ?_
    have hF := Lib.hid <| show ∀ w4, Kp (fun k => k = w.heap.size + 1) w3.drew w4 →
        Blk w4 b [.int .i64 (nom n s), .int .i64 ((l + s - 1) / s * s), .int .i64 (u / s * s)] 23 from fun w4 h4 => by rw [hN]; exact hb3.drew.kp h4 (by omega)
    repeat
      refine walkE_step rfl rfl rfl ?_
      apply Exists.intro
      refine ⟨fun w4 h4 => ?_, ?_, ?_⟩
      · obtain ⟨f0, f1, f2, -⟩ := (hF.out w4 h4).three
        go_wp2_with (fail)
        exact EPost.intro (Ext.refl _) rfl
      · exact ⟨_, rfl⟩
    refine walkE_nil ?_
    refine walkT_cons rfl (fun w4 h4 => ?_)
    have hr4 := hr3.drew.ext h4
    obtain ⟨k0, k1, k2, k3, k4, k5, k6⟩ := hr4.three
    go_wp2_with fail
    refine ⟨(((Kp.refl _ _).setCell (by simp) _).setCell (by simp) _).setCell (by simp) _, ?_⟩
    clear k0 k1 k2 k3 k4 k5
    refine walkT_cons rfl (fun w5 h5 => ?_)
    go_wp2_with fail
    refine ⟨Kp.refl _ _, ?_⟩
    refine walkT_end (fun w6 h6 hk => ?_)
    have hr6 := ((((hr4.set 0 _).set 1 _).set 2 _).ext h5).ext h6
    simp only [List.set_cons_zero, List.set_cons_succ] at hr6
    have hB6 : Below w.heap.size w w6 := below_kp hB3.drew hk (by have := hB3.size; simpa using this) (fun j hj => by omega)
    clear hk h6 h5 h4 hr4 hF
    obtain ⟨k0, k1, k2, -⟩ := hr6.three
    go_wp2_with fail
    refine bodyPost_ret (v := .tuple #[.agg #[.int .i64 (agn ⟨n, l, u⟩ s).n, .int .i64 (agn ⟨n, l, u⟩ s).l, .int .i64 (agn ⟨n, l, u⟩ s).u], .bool (agnOk ⟨n, l, u⟩ s)]) ?_ rfl ⟨rfl, hB6⟩
    simp [results, Tryd.results51, go_sem, k0, k1, k2, agn, hN, agnOk]

end Go.Proofs.YtikjooemblpnbaaDoor
