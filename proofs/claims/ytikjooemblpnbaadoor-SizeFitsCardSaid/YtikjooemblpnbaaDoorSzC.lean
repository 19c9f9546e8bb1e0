/-
  What Inside, Fit, Wanted and room of package bluelineref01 return.
-/
import Derived.Test.YtikjooemblpnbaaDoorSzB
namespace Go.Proofs.YtikjooemblpnbaaDoor
open Go.RowKit

theorem wantedR_any (lo hi : Int) (w : World) :
    Calls Tryd.prog 46 #[.agg #[.int .i64 lo, .int .i64 hi]] w fun e w' => e = .returned (.bool (wantedB lo hi)) ∧ Ext w w' := by
  go_enter Tryd.func46, Tryd.ntmps46
  go_wp2_with (go_at_call 61; refine (within_any _ _ _ _).mono ?_; rintro e w' ⟨rfl, rfl⟩)
  all_goals (go_ret; exact ⟨ret_bool (by rw [Bool.eq_iff_iff]; simp [wantedB]; omega), (Below.refl _ _).alloc (Nat.le_refl _) _⟩)

theorem ext2 (w : World) (x y : Obj) {w1 : World} (h : Ext ((w.alloc x).alloc y) w1) : Ext w w1 :=
  Ext.trans (((Below.refl _ w).alloc (Nat.le_refl _) _).alloc (by simp) _) h
theorem ext1 (w : World) (x : Obj) {w1 : World} (h : Ext (w.alloc x) w1) : Ext w w1 :=
  Ext.trans ((Below.refl _ w).alloc (Nat.le_refl _) _) h
theorem ext3 (w : World) (x y z : Obj) {w1 : World} (h : Ext (((w.alloc x).alloc y).alloc z) w1) : Ext w w1 :=
  Ext.trans ((((Below.refl _ w).alloc (Nat.le_refl _) _).alloc (by simp) _).alloc (by simp; omega) _) h
theorem blk2 (w : World) (vs us : List Value) (t u : TypeId) {w1 : World} (h : Ext ((w.alloc (.cells vs.toArray t)).alloc (.cells us.toArray u)) w1) :
    Blk w1 w.heap.size vs t ∧ Blk w1 (w.heap.size + 1) us u :=
  ⟨((Blk.new w vs t).alloc _).ext h, (Blk.new' _ us u (by simp)).ext h⟩
theorem blk1 (w : World) (vs : List Value) (t : TypeId) {w1 : World} (h : Ext (w.alloc (.cells vs.toArray t)) w1) : Blk w1 w.heap.size vs t := (Blk.new w vs t).ext h
theorem blk3 (w : World) (vs us xs : List Value) (t u x : TypeId) {w1 : World} (h : Ext (((w.alloc (.cells vs.toArray t)).alloc (.cells us.toArray u)).alloc (.cells xs.toArray x)) w1) :
    Blk w1 w.heap.size vs t ∧ Blk w1 (w.heap.size + 1) us u ∧ Blk w1 (w.heap.size + 1 + 1) xs x :=
  ⟨(((Blk.new w vs t).alloc _).alloc _).ext h, ((Blk.new' _ us u (by simp)).alloc _).ext h, (Blk.new' _ xs x (by simp)).ext h⟩

theorem insideR_any (a b : Dm) (w : World) :
    Calls Tryd.prog 23 #[.agg #[.int .i64 a.n, .int .i64 a.l, .int .i64 a.u], .agg #[.int .i64 b.n, .int .i64 b.l, .int .i64 b.u]] w fun e w' =>
      e = .returned (.tuple #[.bool (insideV a b).1, .int .i64 (insideV a b).2]) ∧ Ext w w' := by
  obtain ⟨an, al, au⟩ := a
  obtain ⟨bn, bl, bu⟩ := b
  dsimp only
  go_enter Tryd.func23, Tryd.ntmps23
  go_wp2_with fail
  refine (dimD ⟨an, al, au⟩ _).mono ?_
  rintro e w1 ⟨rfl, h1⟩
  obtain ⟨hA, hB⟩ := blk2 w [.int .i64 an, .int .i64 al, .int .i64 au] [.int .i64 bn, .int .i64 bl, .int .i64 bu] _ _ h1
  have hE := ext2 _ _ _ h1
  clear h1
  obtain ⟨a0, a1, a2, -, -, -, a3⟩ := hA.three
  obtain ⟨b0, b1, b2, -, -, -, b3⟩ := hB.three
  go_wp2_with (go_at_call 42; refine (dimD ⟨bn, bl, bu⟩ _).mono ?_; rintro e w2 ⟨rfl, h2⟩; obtain ⟨a0, a1, a2, -, -, -, a3⟩ := (hA.ext h2).three; obtain ⟨b0, b1, b2, -, -, -, b3⟩ := (hB.ext h2).three)
  all_goals
    go_ret2
    refine ⟨?_, by first | exact hE | exact hE.trans h2⟩
    clear hA hB hE a0 a1 a2 a3 b0 b1 b2 b3
    simp_all [insideV] <;> omega

theorem fitR_any (a b : Dm) (w : World) :
    Calls Tryd.prog 25 #[.agg #[.int .i64 a.n, .int .i64 a.l, .int .i64 a.u], .agg #[.int .i64 b.n, .int .i64 b.l, .int .i64 b.u]] w fun e w' =>
      e = .returned (.tuple #[.agg #[.int .i64 (fitV a b).1, .int .i64 (fitV a b).2.1], .int .u8 (fitV a b).2.2.1, .int .i64 (fitV a b).2.2.2]) ∧ Ext w w' := by
  obtain ⟨an, al, au⟩ := a
  obtain ⟨bn, bl, bu⟩ := b
  dsimp only
  go_enter Tryd.func25, Tryd.ntmps25
  go_wp2_with fail
  refine (dimD ⟨an, al, au⟩ _).mono ?_
  rintro e w1 ⟨rfl, h1⟩
  obtain ⟨hA, hB, hR⟩ := blk3 w [.int .i64 an, .int .i64 al, .int .i64 au] [.int .i64 bn, .int .i64 bl, .int .i64 bu] [.int .i64 0, .int .i64 0] _ _ _ h1
  have hE := ext3 _ _ _ _ h1
  clear h1
  obtain ⟨a0, a1, a2, -, -, -, a3⟩ := hA.three
  obtain ⟨b0, b1, b2, -, -, -, b3⟩ := hB.three
  obtain ⟨r0, r1, r2, r3, r4⟩ := hR.two
  by_cases hv : vd ⟨an, al, au⟩ = true
  · go_wp2_with fail
    refine (dimD ⟨bn, bl, bu⟩ _).mono ?_
    rintro e w2 ⟨rfl, h2⟩
    replace hA := hA.ext h2
    replace hB := hB.ext h2
    replace hR := hR.ext h2
    replace hE := hE.trans h2
    clear a0 a1 a2 a3 b0 b1 b2 b3 r0 r1 r2 r3 r4 h2
    obtain ⟨a0, a1, a2, -, -, -, a3⟩ := hA.three
    obtain ⟨b0, b1, b2, -, -, -, b3⟩ := hB.three
    obtain ⟨r0, r1, r2, r3, r4⟩ := hR.two
    by_cases hv' : vd ⟨bn, bl, bu⟩ = true
    · obtain ⟨x0, x1, x2, x3, x4⟩ := of_decide_eq_true hv
      obtain ⟨y0, y1, y2, y3, y4⟩ := of_decide_eq_true hv'
      dsimp only at *
      go_wp2_with fail
      all_goals
        refine bodyPost_ret (v := .tuple #[.agg #[.int .i64 (fitV ⟨an, al, au⟩ ⟨bn, bl, bu⟩).1, .int .i64 (fitV ⟨an, al, au⟩ ⟨bn, bl, bu⟩).2.1], .int .u8 (fitV ⟨an, al, au⟩ ⟨bn, bl, bu⟩).2.2.1, .int .i64 (fitV ⟨an, al, au⟩ ⟨bn, bl, bu⟩).2.2.2]) ?_ rfl ⟨rfl, ?_⟩
        · simp [results, Tryd.results25, go_sem, *, fitV] <;> omega
        · exact (by repeat (first | exact hE | exact Ext.refl _ | apply Ext.al | apply Ext.dr | refine Ext.sc (by first | omega | (simp; done) | (simp; omega)) ?_ | assumption))
    · go_wp2_with fail
      refine bodyPost_ret (v := .tuple #[.agg #[.int .i64 0, .int .i64 0], .int .u8 0, .int .i64 10]) ?_ rfl ⟨by simp [fitV, hv'], ?_⟩
      · simp [results, Tryd.results25, go_sem, *]
      · exact (by repeat (first | exact hE | exact Ext.refl _ | apply Ext.al | apply Ext.dr | refine Ext.sc (by first | omega | (simp; done) | (simp; omega)) ?_ | assumption))
  · go_wp2_with fail
    refine bodyPost_ret (v := .tuple #[.agg #[.int .i64 0, .int .i64 0], .int .u8 0, .int .i64 10]) ?_ rfl ⟨by simp [fitV, hv], ?_⟩
    · simp [results, Tryd.results25, go_sem, *]
    · exact (by repeat (first | exact hE | exact Ext.refl _ | apply Ext.al | apply Ext.dr | refine Ext.sc (by first | omega | (simp; done) | (simp; omega)) ?_ | assumption))

end Go.Proofs.YtikjooemblpnbaaDoor
