/-
  What the small functions of package bluelineref01 return. Each theorem speaks of every argument within the bounds that it names.
-/
import Derived.Test.YtikjooemblpnbaaDoorProg
import Derived.Test.YtikjooemblpnbaaDoorMath
import Derived.WalkKit
import Derived.WalkSpells
import Derived.WalkLawsBesides
import Derived.Lib.Hide
import Derived.Deep.RegionHeld3
import Derived.Deep.QuietTactic
import Derived.BigQuiet
import Derived.StillTactics
import Derived.OwnWalk
import Derived.Deep.DrawnRows
import Derived.Deep.DeepCutAuto
import Derived.RangeFuncRecord
import Derived.Test.YtikjooemblpnbaaDoorReg
/-! What the small functions of package bluelineref01 return. Each theorem speaks of every argument within the bounds that it names. -/
namespace Go.Proofs.YtikjooemblpnbaaDoor
open Go.RowKit
attribute [local go_sem ↓] Go.wp_at_zero Go.wp_at_succ

theorem ret_bool {a b : Bool} (h : a = b) : Ending.returned (.bool a) = Ending.returned (.bool b) := by rw [h]
theorem ret_int {k : IntKind} {a b : Int} (h : a = b) : Ending.returned (.int k a) = .returned (.int k b) := by rw [h]

theorem within_any (n lo hi : Int) (w : World) :
    Calls Tryd.prog 61 #[.int .i64 n, .int .i64 lo, .int .i64 hi] w fun e w' => e = .returned (.bool (decide (lo ≤ n ∧ n ≤ hi))) ∧ w = w' := by
  go_enter Tryd.func61, Tryd.ntmps61
  go_wp2
  all_goals (go_ret; exact ⟨ret_bool (by simp; try omega), rfl⟩)

theorem dim_any (n l u : Int) (w : World) :
    Calls Tryd.prog 42 #[.agg #[.int .i64 n, .int .i64 l, .int .i64 u]] w fun e w' => e = .returned (.bool (vd ⟨n, l, u⟩)) ∧ Below w.heap.size w w' := by
  go_enter Tryd.func42, Tryd.ntmps42
  go_wp2_with (go_at_call 61; refine (within_any _ _ _ _).mono ?_; rintro e w' ⟨rfl, rfl⟩)
  all_goals (go_ret; exact ⟨ret_bool (by rw [Bool.eq_iff_iff]; simp [vd]; omega), (Below.refl _ _).alloc (Nat.le_refl _) _⟩)

theorem dimD (a : Dm) (w : World) :
    Calls Tryd.prog 42 #[.agg #[.int .i64 a.n, .int .i64 a.l, .int .i64 a.u]] w fun e w' => e = .returned (.bool (vd a)) ∧ Below w.heap.size w w' := dim_any a.n a.l a.u w

theorem step_any (k : Int) (w : World) :
    Calls Tryd.prog 50 #[.int .u8 k] w fun e w' => e = .returned (.int .i64 (stp k)) ∧ w = w' := by
  go_enter Tryd.func50, Tryd.ntmps50
  go_wp2
  all_goals (go_ret; exact ⟨ret_int (by unfold stp; simp_all), rfl⟩)

theorem above_any (n s : Int) (w : World) (h0 : 0 ≤ n) (h1 : n ≤ 1000000000) (s0 : 1 ≤ s) (s1 : s ≤ 254) :
    Calls Tryd.prog 77 #[.int .i64 n, .int .i64 s] w fun e w' => e = .returned (.int .i64 ((n + s - 1) / s * s)) ∧ w = w' := by
  obtain ⟨b0, b1⟩ := dm_bd (n + s - 1) s s0
  go_enter Tryd.func77, Tryd.ntmps77
  go_wp2
  go_ret
  exact ⟨rfl, rfl⟩

theorem exact_any (n l u s : Int) (w : World) (hn : 0 ≤ n) (hl : 0 ≤ l) (hu : 0 ≤ u) (s0 : 1 ≤ s) (s1 : s ≤ 254) :
    Calls Tryd.prog 62 #[.agg #[.int .i64 n, .int .i64 l, .int .i64 u], .int .i64 s] w fun e w' => e = .returned (.bool (exa ⟨n, l, u⟩ s)) ∧ Below w.heap.size w w' := by
  go_enter Tryd.func62, Tryd.ntmps62
  go_wp2
  all_goals (go_ret; exact ⟨ret_bool (by rw [Bool.eq_iff_iff]; simp [exa]; omega), (Below.refl _ _).alloc (Nat.le_refl _) _⟩)


end Go.Proofs.YtikjooemblpnbaaDoor

/-! SzB -/
namespace Go.Proofs.YtikjooemblpnbaaDoor
open Go.RowKit
attribute [local go_sem ↓] Go.wp_at_zero Go.wp_at_succ

set_option maxHeartbeats 1000000 in
theorem again_any (n l u s : Int) (w : World) (hv : vd ⟨n, l, u⟩ = true) (s0 : 1 ≤ s) (s1 : s ≤ 254) :
    Calls Tryd.prog 51 #[.agg #[.int .i64 n, .int .i64 l, .int .i64 u], .int .i64 s] w fun e w' =>
      e = .returned (.tuple #[.agg #[.int .i64 (agn ⟨n, l, u⟩ s).n, .int .i64 (agn ⟨n, l, u⟩ s).l, .int .i64 (agn ⟨n, l, u⟩ s).u], .bool (agnOk ⟨n, l, u⟩ s)]) ∧ Below w.heap.size w w' := by
  obtain ⟨n0, n1, l0, l1, u1⟩ := of_decide_eq_true hv
  clear hv
  dsimp only at *
  obtain ⟨b0, b1⟩ := dm_bd n s s0
  obtain ⟨c0, c1⟩ := dm_bd u s s0
  obtain ⟨d0, d1⟩ := dm_bd (l + s - 1) s s0
  have e1 : IntKind.i64.wrap (u / s * s) = u / s * s := IntWalk.i64_in _ (by omega)
  have e2 : ¬ s = 0 := by omega
  have e3 : (s == 0) = false := by simp; omega
  have e5 : u.tdiv s = u / s := Int.tdiv_eq_ediv_of_nonneg (by omega)
  have e4 : IntKind.i64.wrap (u / s) = u / s := IntWalk.i64_in _ (by have := Int.ediv_nonneg (show 0 ≤ u by omega) (show 0 ≤ s by omega); have := Int.ediv_le_self s (show 0 ≤ u by omega); omega)
  have hcase : (nom n s = n / s * s + s ∧ n / s * s + s ≤ 1000000000 ∧ n / s * s + s - n < n - n / s * s) ∨ (nom n s = n / s * s ∧ n / s * s + s ≤ 1000000000 ∧ ¬ n / s * s + s - n < n - n / s * s) ∨ (nom n s = n / s * s ∧ ¬ n / s * s + s ≤ 1000000000) := by
    unfold nom
    by_cases h1 : n / s * s + s ≤ 1000000000 <;> by_cases h2 : n / s * s + s - n < n - n / s * s <;> simp [h1, h2]
  rcases hcase with ⟨hN, t1, t2⟩ | ⟨hN, t1, t2⟩ | ⟨hN, t1⟩
  all_goals
    go_enter Tryd.func51, Tryd.ntmps51
    go_wp2_with fail
  all_goals
    refine wp_region_calm [0, 1, 2, 3, 4, 5, 6, 7, 8, 9, 10, 11] [12, 13] (fun k => w.heap.size + 2 ≤ k) (by kernel_rfl) (by kernel_rfl) ?_
    have hF := Lib.hid <| show ∀ w1, Kp (fun k => w.heap.size + 2 ≤ k) ((w.alloc (.cells #[.int .i64 n, .int .i64 l, .int .i64 u] 23)).alloc (.cells #[.int .i64 0, .int .i64 0, .int .i64 0] 23)).drew w1 →
        Blk w1 w.heap.size [.int .i64 n, .int .i64 l, .int .i64 u] 23 from fun w1 h1 => (((Blk.new w _ _).alloc _).drew).kp h1 (by simp)
    repeat
      refine walkE_step rfl rfl rfl ?_
      apply Exists.intro
      refine ⟨fun w1 h1 => ?_, ?_, ?_⟩
      · obtain ⟨f0, f1, f2, -⟩ := (hF.out w1 h1).three
        go_wp2_with (go_at_call 77; refine (above_any _ _ _ (by omega) (by omega) (by omega) (by omega)).mono ?_; rintro e w' ⟨rfl, rfl⟩)
        exact EPost.intro (Ext.refl _) rfl
      · exact ⟨_, rfl⟩
    refine walkE_nil ?_
    refine walkT_cons rfl (fun w1 h1 => ?_)
    go_wp2_with fail
    refine ⟨Kp.alloc _ _, ?_⟩
    refine walkT_cons rfl (fun w2 h2 => ?_)
    have hb := (Blk.new w1 [.int .i64 0, .int .i64 0, .int .i64 0] 23).ext h2
    obtain ⟨g0, g1, g2, g3, g4, g5, g6⟩ := hb.three
    have hz := h1.size
    simp only [World.size_drew, World.size_alloc] at hz
    go_wp2_with fail
    refine ⟨(((Kp.refl _ _).setCell (by simp; omega) _).setCell (by simp; omega) _).setCell (by simp; omega) _, ?_⟩
    refine walkT_end (fun w3 h3 hk => ?_)
    have hb3 := (((hb.set 0 _).set 1 _).set 2 _).ext h3
    simp only [List.set_cons_zero, List.set_cons_succ] at hb3
    have hr3 : Blk w3 (w.heap.size + 1) [.int .i64 0, .int .i64 0, .int .i64 0] 23 := ((Blk.new' _ _ _ (by simp)).drew).kp hk (by simp)
    have hB3 : Below w.heap.size w w3 := below_kp (((Below.refl _ w).alloc (Nat.le_refl _) _).alloc (by simp) _).drew hk (by simp; omega) (fun j hj => by omega)
    generalize w1.heap.size = b at *
    clear h3 hk hb h2 h1 g0 g1 g2 g3 g4 g5
    go_wp2_with fail
    refine wp_region_calm [0, 1, 2, 3, 4, 5] [6, 7] (fun k => k = w.heap.size + 1) (by kernel_rfl) (by kernel_rfl) ?_
    have hF := Lib.hid <| show ∀ w4, Kp (fun k => k = w.heap.size + 1) w3.drew w4 →
        Blk w4 b [.int .i64 (nom n s), .int .i64 ((l + s - 1) / s * s), .int .i64 (u / s * s)] 23 from fun w4 h4 => by rw [hN]; exact hb3.drew.kp h4 (by omega)
    repeat
      refine walkE_step rfl rfl rfl ?_
      apply Exists.intro
      refine ⟨fun w4 h4 => ?_, ?_, ?_⟩
      · obtain ⟨f0, f1, f2, -⟩ := (hF.out w4 h4).three
        go_wp2_with (fail)
        exact EPost.intro (Ext.refl _) rfl
      · exact ⟨_, rfl⟩
    refine walkE_nil ?_
    refine walkT_cons rfl (fun w4 h4 => ?_)
    have hr4 := hr3.drew.ext h4
    obtain ⟨k0, k1, k2, k3, k4, k5, k6⟩ := hr4.three
    go_wp2_with fail
    refine ⟨(((Kp.refl _ _).setCell (by simp) _).setCell (by simp) _).setCell (by simp) _, ?_⟩
    clear k0 k1 k2 k3 k4 k5
    refine walkT_cons rfl (fun w5 h5 => ?_)
    go_wp2_with fail
    refine ⟨Kp.refl _ _, ?_⟩
    refine walkT_end (fun w6 h6 hk => ?_)
    have hr6 := ((((hr4.set 0 _).set 1 _).set 2 _).ext h5).ext h6
    simp only [List.set_cons_zero, List.set_cons_succ] at hr6
    have hB6 : Below w.heap.size w w6 := below_kp hB3.drew hk (by have := hB3.size; simpa using this) (fun j hj => by omega)
    clear hk h6 h5 h4 hr4 hF
    obtain ⟨k0, k1, k2, -⟩ := hr6.three
    go_wp2_with fail
    refine bodyPost_ret (v := .tuple #[.agg #[.int .i64 (agn ⟨n, l, u⟩ s).n, .int .i64 (agn ⟨n, l, u⟩ s).l, .int .i64 (agn ⟨n, l, u⟩ s).u], .bool (agnOk ⟨n, l, u⟩ s)]) ?_ rfl ⟨rfl, hB6⟩
    simp [results, Tryd.results51, go_sem, k0, k1, k2, agn, hN, agnOk]

end Go.Proofs.YtikjooemblpnbaaDoor

/-! What Inside, Fit, Wanted and room of package bluelineref01 return. -/
namespace Go.Proofs.YtikjooemblpnbaaDoor
open Go.RowKit

theorem wantedR_any (lo hi : Int) (w : World) :
    Calls Tryd.prog 46 #[.agg #[.int .i64 lo, .int .i64 hi]] w fun e w' => e = .returned (.bool (wantedB lo hi)) ∧ Ext w w' := by
  go_enter Tryd.func46, Tryd.ntmps46
  go_wp2_with (go_at_call 61; refine (within_any _ _ _ _).mono ?_; rintro e w' ⟨rfl, rfl⟩)
  all_goals (go_ret; exact ⟨ret_bool (by rw [Bool.eq_iff_iff]; simp [wantedB]; omega), (Below.refl _ _).alloc (Nat.le_refl _) _⟩)

theorem ext2 (w : World) (x y : Obj) {w1 : World} (h : Ext ((w.alloc x).alloc y) w1) : Ext w w1 :=
  Ext.trans (((Below.refl _ w).alloc (Nat.le_refl _) _).alloc (by simp) _) h
theorem ext1 (w : World) (x : Obj) {w1 : World} (h : Ext (w.alloc x) w1) : Ext w w1 :=
  Ext.trans ((Below.refl _ w).alloc (Nat.le_refl _) _) h
theorem ext3 (w : World) (x y z : Obj) {w1 : World} (h : Ext (((w.alloc x).alloc y).alloc z) w1) : Ext w w1 :=
  Ext.trans ((((Below.refl _ w).alloc (Nat.le_refl _) _).alloc (by simp) _).alloc (by simp; omega) _) h
theorem blk2 (w : World) (vs us : List Value) (t u : TypeId) {w1 : World} (h : Ext ((w.alloc (.cells vs.toArray t)).alloc (.cells us.toArray u)) w1) :
    Blk w1 w.heap.size vs t ∧ Blk w1 (w.heap.size + 1) us u :=
  ⟨((Blk.new w vs t).alloc _).ext h, (Blk.new' _ us u (by simp)).ext h⟩
theorem blk1 (w : World) (vs : List Value) (t : TypeId) {w1 : World} (h : Ext (w.alloc (.cells vs.toArray t)) w1) : Blk w1 w.heap.size vs t := (Blk.new w vs t).ext h
theorem blk3 (w : World) (vs us xs : List Value) (t u x : TypeId) {w1 : World} (h : Ext (((w.alloc (.cells vs.toArray t)).alloc (.cells us.toArray u)).alloc (.cells xs.toArray x)) w1) :
    Blk w1 w.heap.size vs t ∧ Blk w1 (w.heap.size + 1) us u ∧ Blk w1 (w.heap.size + 1 + 1) xs x :=
  ⟨(((Blk.new w vs t).alloc _).alloc _).ext h, ((Blk.new' _ us u (by simp)).alloc _).ext h, (Blk.new' _ xs x (by simp)).ext h⟩

theorem insideR_any (a b : Dm) (w : World) :
    Calls Tryd.prog 23 #[.agg #[.int .i64 a.n, .int .i64 a.l, .int .i64 a.u], .agg #[.int .i64 b.n, .int .i64 b.l, .int .i64 b.u]] w fun e w' =>
      e = .returned (.tuple #[.bool (insideV a b).1, .int .i64 (insideV a b).2]) ∧ Ext w w' := by
  obtain ⟨an, al, au⟩ := a
  obtain ⟨bn, bl, bu⟩ := b
  dsimp only
  go_enter Tryd.func23, Tryd.ntmps23
  go_wp2_with fail
  refine (dimD ⟨an, al, au⟩ _).mono ?_
  rintro e w1 ⟨rfl, h1⟩
  obtain ⟨hA, hB⟩ := blk2 w [.int .i64 an, .int .i64 al, .int .i64 au] [.int .i64 bn, .int .i64 bl, .int .i64 bu] _ _ h1
  have hE := ext2 _ _ _ h1
  clear h1
  obtain ⟨a0, a1, a2, -, -, -, a3⟩ := hA.three
  obtain ⟨b0, b1, b2, -, -, -, b3⟩ := hB.three
  go_wp2_with (go_at_call 42; refine (dimD ⟨bn, bl, bu⟩ _).mono ?_; rintro e w2 ⟨rfl, h2⟩; obtain ⟨a0, a1, a2, -, -, -, a3⟩ := (hA.ext h2).three; obtain ⟨b0, b1, b2, -, -, -, b3⟩ := (hB.ext h2).three)
  all_goals
    go_ret2
    refine ⟨?_, by first | exact hE | exact hE.trans h2⟩
    clear hA hB hE a0 a1 a2 a3 b0 b1 b2 b3
    simp_all [insideV] <;> omega

theorem fitR_any (a b : Dm) (w : World) :
    Calls Tryd.prog 25 #[.agg #[.int .i64 a.n, .int .i64 a.l, .int .i64 a.u], .agg #[.int .i64 b.n, .int .i64 b.l, .int .i64 b.u]] w fun e w' =>
      e = .returned (.tuple #[.agg #[.int .i64 (fitV a b).1, .int .i64 (fitV a b).2.1], .int .u8 (fitV a b).2.2.1, .int .i64 (fitV a b).2.2.2]) ∧ Ext w w' := by
  obtain ⟨an, al, au⟩ := a
  obtain ⟨bn, bl, bu⟩ := b
  dsimp only
  go_enter Tryd.func25, Tryd.ntmps25
  go_wp2_with fail
  refine (dimD ⟨an, al, au⟩ _).mono ?_
  rintro e w1 ⟨rfl, h1⟩
  obtain ⟨hA, hB, hR⟩ := blk3 w [.int .i64 an, .int .i64 al, .int .i64 au] [.int .i64 bn, .int .i64 bl, .int .i64 bu] [.int .i64 0, .int .i64 0] _ _ _ h1
  have hE := ext3 _ _ _ _ h1
  clear h1
  obtain ⟨a0, a1, a2, -, -, -, a3⟩ := hA.three
  obtain ⟨b0, b1, b2, -, -, -, b3⟩ := hB.three
  obtain ⟨r0, r1, r2, r3, r4⟩ := hR.two
  by_cases hv : vd ⟨an, al, au⟩ = true
  · go_wp2_with fail
    refine (dimD ⟨bn, bl, bu⟩ _).mono ?_
    rintro e w2 ⟨rfl, h2⟩
    replace hA := hA.ext h2
    replace hB := hB.ext h2
    replace hR := hR.ext h2
    replace hE := hE.trans h2
    clear a0 a1 a2 a3 b0 b1 b2 b3 r0 r1 r2 r3 r4 h2
    obtain ⟨a0, a1, a2, -, -, -, a3⟩ := hA.three
    obtain ⟨b0, b1, b2, -, -, -, b3⟩ := hB.three
    obtain ⟨r0, r1, r2, r3, r4⟩ := hR.two
    by_cases hv' : vd ⟨bn, bl, bu⟩ = true
    · obtain ⟨x0, x1, x2, x3, x4⟩ := of_decide_eq_true hv
      obtain ⟨y0, y1, y2, y3, y4⟩ := of_decide_eq_true hv'
      dsimp only at *
      go_wp2_with fail
      all_goals
        refine bodyPost_ret (v := .tuple #[.agg #[.int .i64 (fitV ⟨an, al, au⟩ ⟨bn, bl, bu⟩).1, .int .i64 (fitV ⟨an, al, au⟩ ⟨bn, bl, bu⟩).2.1], .int .u8 (fitV ⟨an, al, au⟩ ⟨bn, bl, bu⟩).2.2.1, .int .i64 (fitV ⟨an, al, au⟩ ⟨bn, bl, bu⟩).2.2.2]) ?_ rfl ⟨rfl, ?_⟩
        · simp [results, Tryd.results25, go_sem, *, fitV] <;> omega
        · exact (by repeat (first | exact hE | exact Ext.refl _ | apply Ext.al | apply Ext.dr | refine Ext.sc (by first | omega | (simp; done) | (simp; omega)) ?_ | assumption))
    · go_wp2_with fail
      refine bodyPost_ret (v := .tuple #[.agg #[.int .i64 0, .int .i64 0], .int .u8 0, .int .i64 10]) ?_ rfl ⟨by simp [fitV, hv'], ?_⟩
      · simp [results, Tryd.results25, go_sem, *]
      · exact (by repeat (first | exact hE | exact Ext.refl _ | apply Ext.al | apply Ext.dr | refine Ext.sc (by first | omega | (simp; done) | (simp; omega)) ?_ | assumption))
  · go_wp2_with fail
    refine bodyPost_ret (v := .tuple #[.agg #[.int .i64 0, .int .i64 0], .int .u8 0, .int .i64 10]) ?_ rfl ⟨by simp [fitV, hv], ?_⟩
    · simp [results, Tryd.results25, go_sem, *]
    · exact (by repeat (first | exact hE | exact Ext.refl _ | apply Ext.al | apply Ext.dr | refine Ext.sc (by first | omega | (simp; done) | (simp; omega)) ?_ | assumption))

end Go.Proofs.YtikjooemblpnbaaDoor

/-! What room, Room, Convert and Lost of package bluelineref01 return. -/
namespace Go.Proofs.YtikjooemblpnbaaDoor
open Go.RowKit

theorem roomR_any (h : Dm) (lo hi : Int) (w : World) (hv : vd h = true) (hw : wantedB lo hi = true) :
    Calls Tryd.prog 59 #[.agg #[.int .i64 h.n, .int .i64 h.l, .int .i64 h.u], .agg #[.int .i64 lo, .int .i64 hi]] w fun e w' =>
      e = .returned (.tuple #[.agg #[.int .i64 (roomD h lo hi).n, .int .i64 (roomD h lo hi).l, .int .i64 (roomD h lo hi).u], .bool (decide ((roomD h lo hi).l ≤ (roomD h lo hi).u))]) ∧ Ext w w' := by
  obtain ⟨n, l, u⟩ := h
  obtain ⟨x0, x1, x2, x3, x4⟩ := of_decide_eq_true hv
  obtain ⟨y0, y1, y2, y3, y4⟩ := of_decide_eq_true hw
  clear hv hw
  dsimp only [roomD] at *
  go_enter Tryd.func59, Tryd.ntmps59
  go_upto_region 1 with fail
  go_cut [6] (fun v wx => v = .pointer (some ⟨w.heap.size + 1 + 1 + 1, 0, none⟩) ∧ Blk wx (w.heap.size + 1 + 1) [.int .i64 0, .int .i64 0, .int .i64 0] 23 ∧
    Blk wx (w.heap.size + 1 + 1 + 1) [.int .i64 n, .int .i64 (max 0 (u - hi)), .int .i64 (min 1000000000 (l - lo))] 23 ∧ Ext w wx)
  case first =>
    have hq1 : hi < u → max 0 (u - hi) = u - hi := fun _ => by omega
    have hq2 : ¬ hi < u → max 0 (u - hi) = 0 := fun _ => by omega
    have hq3 : 1000000000 ≤ l - lo → min 1000000000 (l - lo) = 1000000000 := fun _ => by omega
    have hq4 : ¬ 1000000000 ≤ l - lo → min 1000000000 (l - lo) = l - lo := fun _ => by omega
    go_wp2_with fail
    all_goals
      go_meet
      refine ⟨rfl, ((Blk.new' _ _ _ (by first | omega | (simp; done) | (simp; omega))).alloc _), ?_, (by repeat (first | exact hE | exact Ext.refl _ | apply Ext.al | apply Ext.dr | refine Ext.sc (by first | omega | (simp; done) | (simp; omega)) ?_ | assumption))⟩
      refine (congrArg (fun l => Blk _ _ l _) ?_).mp (Blk.new' _ [.int .i64 n, .int .i64 _, .int .i64 _] _ (by first | omega | (simp; done) | (simp; omega)))
      simp
      omega
  case rest =>
    obtain ⟨rfl, hR, hB, hE⟩ := hcut
    go_wp2_with fail
    refine wp_region_calm [0, 1, 2, 3, 4, 5] [6, 7] (fun k => k = w.heap.size + 1 + 1) (by kernel_rfl) (by kernel_rfl) ?_
    have hF := Lib.hid <| show ∀ w4, Kp (fun k => k = w.heap.size + 1 + 1) wc.drew w4 → Blk w4 (w.heap.size + 1 + 1 + 1) _ _ from fun w4 h4 => hB.drew.kp h4 (by first | omega | (simp; done) | (simp; omega))
    repeat
      refine walkE_step rfl rfl rfl ?_
      apply Exists.intro
      refine ⟨fun w4 h4 => ?_, ?_, ?_⟩
      · obtain ⟨f0, f1, f2, -⟩ := (hF.out w4 h4).three
        go_wp2_with (fail)
        exact EPost.intro (Ext.refl _) rfl
      · exact ⟨_, rfl⟩
    refine walkE_nil ?_
    refine walkT_cons rfl (fun w4 h4 => ?_)
    have hr4 := hR.drew.ext h4
    obtain ⟨k0, k1, k2, k3, k4, k5, k6⟩ := hr4.three
    go_wp2_with fail
    refine ⟨(((Kp.refl _ _).setCell (by first | omega | (simp; done) | (simp; omega)) _).setCell (by first | omega | (simp; done) | (simp; omega)) _).setCell (by first | omega | (simp; done) | (simp; omega)) _, ?_⟩
    clear k0 k1 k2 k3 k4 k5
    refine walkT_cons rfl (fun w5 h5 => ?_)
    go_wp2_with fail
    refine ⟨Kp.refl _ _, ?_⟩
    refine walkT_end (fun w6 h6 hk => ?_)
    have hr6 := ((((hr4.set 0 _).set 1 _).set 2 _).ext h5).ext h6
    simp only [List.set_cons_zero, List.set_cons_succ] at hr6
    have hB6 : Ext w w6 := hE.dr.thn hk (fun j hj => by omega)
    clear hk h6 h5 h4 hr4 hF
    obtain ⟨k0, k1, k2, -⟩ := hr6.three
    go_wp2_with fail
    refine bodyPost_ret (v := .tuple #[.agg #[.int .i64 n, .int .i64 (max 0 (u - hi)), .int .i64 (min 1000000000 (l - lo))], .bool (decide (max 0 (u - hi) ≤ min 1000000000 (l - lo)))]) ?_ rfl ⟨rfl, hB6⟩
    simp [results, Tryd.results59, go_sem, k0, k1, k2]


theorem RoomR_any (h : Dm) (lo hi : Int) (w : World) :
    Calls Tryd.prog 27 #[.agg #[.int .i64 h.n, .int .i64 h.l, .int .i64 h.u], .agg #[.int .i64 lo, .int .i64 hi]] w fun e w' =>
      e = .returned (.tuple #[.agg #[.int .i64 (roomV h lo hi).1.n, .int .i64 (roomV h lo hi).1.l, .int .i64 (roomV h lo hi).1.u], .int .i64 (roomV h lo hi).2]) ∧ Ext w w' := by
  obtain ⟨n, l, u⟩ := h
  dsimp only
  by_cases hv : vd ⟨n, l, u⟩ = true
  · by_cases hw : wantedB lo hi = true
    · go_enter Tryd.func27, Tryd.ntmps27
      go_wp2_with fail
      refine (dimD ⟨n, l, u⟩ _).mono ?_
      rintro e w1 ⟨rfl, h1⟩
      obtain ⟨hA, hB, hR⟩ := blk3 w [.int .i64 n, .int .i64 l, .int .i64 u] [.int .i64 lo, .int .i64 hi] [.int .i64 0, .int .i64 0, .int .i64 0] _ _ _ h1
      have hE := ext3 _ _ _ _ h1
      clear h1
      obtain ⟨b0, b1, -, -, b3⟩ := hB.two
      go_wp2_with fail
      refine (wantedR_any lo hi _).mono ?_
      rintro e w2 ⟨rfl, h2⟩
      replace hA := hA.ext h2; replace hB := hB.ext h2; replace hR := hR.ext h2; replace hE := hE.trans h2
      clear b0 b1 b3 h2
      obtain ⟨a0, a1, a2, -, -, -, a3⟩ := hA.three
      obtain ⟨b0, b1, -, -, b3⟩ := hB.two
      go_wp2_with fail
      refine (roomR_any ⟨n, l, u⟩ lo hi _ hv hw).mono ?_
      rintro e w3 ⟨rfl, h3⟩
      replace hR := hR.ext h3; replace hE := hE.trans h3
      clear a0 a1 a2 a3 b0 b1 b3 h3 hA hB
      obtain ⟨r0, r1, r2, r3, r4, r5, r6⟩ := hR.three
      have hV : roomV ⟨n, l, u⟩ lo hi = if (roomD ⟨n, l, u⟩ lo hi).l ≤ (roomD ⟨n, l, u⟩ lo hi).u then (roomD ⟨n, l, u⟩ lo hi, 0) else (Dm.zero, 6) := by simp [roomV, hv, hw]
      generalize roomD ⟨n, l, u⟩ lo hi = D at *
      have HV := Lib.hid hV
      clear hV
      cases hc : decide (D.l ≤ D.u)
      · go_wp2_with fail
        refine bodyPost_ret (v := .tuple #[.agg #[.int .i64 0, .int .i64 0, .int .i64 0], .int .i64 6]) ?_ rfl ⟨by rw [HV.out, if_neg (of_decide_eq_false hc)]; rfl, (by repeat (first | exact hE | exact Ext.refl _ | apply Ext.al | apply Ext.dr | refine Ext.sc (by first | omega | (simp; done) | (simp; omega)) ?_ | assumption))⟩
        simp [results, Tryd.results27, go_sem, *]
      · go_wp2_with fail
        refine bodyPost_ret (v := .tuple #[.agg #[.int .i64 D.n, .int .i64 D.l, .int .i64 D.u], .int .i64 0]) ?_ rfl ⟨by rw [HV.out, if_pos (of_decide_eq_true hc)], (by repeat (first | exact hE | exact Ext.refl _ | apply Ext.al | apply Ext.dr | refine Ext.sc (by first | omega | (simp; done) | (simp; omega)) ?_ | assumption))⟩
        simp [results, Tryd.results27, go_sem, *]
    · go_enter Tryd.func27, Tryd.ntmps27
      go_wp2_with fail
      refine (dimD ⟨n, l, u⟩ _).mono ?_
      rintro e w1 ⟨rfl, h1⟩
      obtain ⟨hA, hB, hR⟩ := blk3 w [.int .i64 n, .int .i64 l, .int .i64 u] [.int .i64 lo, .int .i64 hi] [.int .i64 0, .int .i64 0, .int .i64 0] _ _ _ h1
      have hE := ext3 _ _ _ _ h1
      clear h1
      obtain ⟨b0, b1, -, -, b3⟩ := hB.two
      go_wp2_with fail
      refine (wantedR_any lo hi _).mono ?_
      rintro e w2 ⟨rfl, h2⟩
      replace hR := hR.ext h2; replace hE := hE.trans h2
      obtain ⟨r0, r1, r2, r3, r4, r5, r6⟩ := hR.three
      go_wp2_with fail
      refine bodyPost_ret (v := .tuple #[.agg #[.int .i64 0, .int .i64 0, .int .i64 0], .int .i64 2]) ?_ rfl ⟨by simp [roomV, hv, hw, Dm.zero], (by repeat (first | exact hE | exact Ext.refl _ | apply Ext.al | apply Ext.dr | refine Ext.sc (by first | omega | (simp; done) | (simp; omega)) ?_ | assumption))⟩
      simp [results, Tryd.results27, go_sem, *]
  · go_enter Tryd.func27, Tryd.ntmps27
    go_wp2_with fail
    refine (dimD ⟨n, l, u⟩ _).mono ?_
    rintro e w1 ⟨rfl, h1⟩
    obtain ⟨hA, hB, hR⟩ := blk3 w [.int .i64 n, .int .i64 l, .int .i64 u] [.int .i64 lo, .int .i64 hi] [.int .i64 0, .int .i64 0, .int .i64 0] _ _ _ h1
    have hE := ext3 _ _ _ _ h1
    obtain ⟨r0, r1, r2, r3, r4, r5, r6⟩ := hR.three
    go_wp2_with fail
    refine bodyPost_ret (v := .tuple #[.agg #[.int .i64 0, .int .i64 0, .int .i64 0], .int .i64 10]) ?_ rfl ⟨by simp [roomV, hv, Dm.zero], (by repeat (first | exact hE | exact Ext.refl _ | apply Ext.al | apply Ext.dr | refine Ext.sc (by first | omega | (simp; done) | (simp; omega)) ?_ | assumption))⟩
    simp [results, Tryd.results27, go_sem, *]

end Go.Proofs.YtikjooemblpnbaaDoor
