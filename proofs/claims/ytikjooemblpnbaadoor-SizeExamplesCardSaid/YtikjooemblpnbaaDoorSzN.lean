/-
  What Redraw, Convert and Lost of package size return.
-/
import Derived.Test.YtikjooemblpnbaaDoorSzM
namespace Go.Proofs.YtikjooemblpnbaaDoor
open Go.RowKit
attribute [local go_sem] Oper.semAt_some

theorem bodyPostM_ret {F : Fence} {n : Nat} {P : Program} {fn : Func} {R : Ending → World → Prop} {a : Act} {w : World} {v : Value}
    (hr : (results fn a.tmps).run P w = .ok v w) (hd : a.defers = []) (hR : R (.returned v) w) : bodyPostM F n P fn R .ret a w := by
  change LeavesInM F n P fn a.tmps R a.defers .returning w; rw [hd]; exact ⟨v, hr, hR⟩

theorem bodyPostM_mark {F : Fence} {n : Nat} {P : Program} {fn : Func} {R : Ending → World → Prop} {a : Act} {w : World} {v : Value} {D : Nat}
    (hK : w.heap[D]? = some (.deferred (some []))) (hd : a.defers = [{ target := .collected D, args := #[] }])
    (hr : (results fn a.tmps).run P (w.putObj D (.deferred none)) = .ok v (w.putObj D (.deferred none))) (hR : R (.returned v) (w.putObj D (.deferred none))) : bodyPostM F n P fn R .ret a w := by
  change LeavesInM F n P fn a.tmps R a.defers .returning w; rw [hd]; exact ⟨by simp, .inl ⟨_, _, rfl, run_takeDeferred hK, v, hr, hR⟩⟩

theorem deferred_set {W : World} {D : Nat} {x : Option (List Deferred)} (h : W.heap[D]? = some (.deferred x)) (p : Addr) (v : Value) : (W.setCell p v).heap[D]? = some (.deferred x) :=
  (KeepsOthers.setCell W p v).same D _ h rfl
theorem Ext.po {w a : World} {D : Nat} {o : Obj} (h : Ext w a) (hD : w.heap.size ≤ D) : Ext w (a.putObj D o) :=
  ⟨h.os, h.tape, h.output, by simpa using h.size, fun i hi => by rw [World.putObj_heap_other (by intro e; subst e; omega)]; exact h.block i hi⟩
theorem Blk.po {W : World} {b D : Nat} {vs : List Value} {t : TypeId} {x : Option (List Deferred)} (h : Blk W b vs t) (hD : W.heap[D]? = some (.deferred x)) (o : Obj) : Blk (W.putObj D o) b vs t := by
  unfold Blk; rw [World.putObj_heap_other]; exact h
  intro e; subst e; rw [h] at hD; cases hD
theorem Blk.own {β : Type} {B b : Nat} {f : β → List Value} {t : TypeId} : OwnFrom B (fun (k : β) W => Blk W b (f k) t) := fun k W W' row h hg hr =>
  (hg.block b h.lt (by intro e; obtain ⟨_, o, ho, hc⟩ := hr b e.symm; rw [h] at ho; cases ho; cases hc)).trans h
theorem SlU.own {β : Type} {B : Nat} {v : Value} {l : List Int} : OwnFrom B (fun (_ : β) W => SlU W v l) := fun _ W W' row h hg hr => by
  obtain ⟨a, cap, h1, hn, h2⟩ := h
  refine ⟨a, cap, h1, hn, fun hl => ?_⟩
  obtain ⟨b, off, h3, h4, h5⟩ := h2 hl
  exact ⟨b, off, h3, Nat.lt_of_lt_of_le h4 hg.size, fun i hi => cell_kept (h5 i hi) hg (fun r e => (hr r e).2)⟩

set_option maxRecDepth 100000 in
set_option maxHeartbeats 4000000 in
theorem redrawS_any (d : Dm) (vu : Value) (l : List Int) (w : World) (hu : SlU w vu l) (hU : Units w) (hl255 : ∀ (j : Nat) (h : j < l.length), 0 ≤ l[j] ∧ l[j] ≤ 255) :
    Calls Tryd.prog 18 #[.agg #[.int .i64 d.n, .int .i64 d.l, .int .i64 d.u], vu] w fun e w' =>
      e = .returned (.tuple #[.agg #[.int .i64 (redraw d l).1.n, .int .i64 (redraw d l).1.l, .int .i64 (redraw d l).1.u], .int .i64 (redraw d l).2]) ∧ Ext w w' := by
  obtain ⟨xa, ca, rfl, hna, ha⟩ := hu
  obtain ⟨n, m, u⟩ := d
  dsimp only
  refine (callsIn_wide (n := 9)).1 ?_
  refine callsIn_of_wp_marks Tryd.func18 rfl trivial ?_ rfl
  simp only [Tryd.ntmps18, List.size_toArray, List.length_cons, List.length_nil, Nat.reduceAdd, Nat.reduceSub, Array.replicate_succ, Array.replicate_zero, List.push_toArray, List.append_toArray, List.nil_append, List.cons_append]
  gi_wp2_with fail
  refine ⟨trivial, ?_⟩
  refine (callsIn_wide.2 (checkS_any ⟨n, m, u⟩ _)).mono ?_
  rintro e w1 ⟨rfl, h1⟩
  obtain ⟨hA, hR⟩ := blk2 w [.int .i64 n, .int .i64 m, .int .i64 u] [.int .i64 0, .int .i64 0, .int .i64 0] _ _ h1
  have hE := ext2 _ _ _ h1
  clear h1
  by_cases hv : vd ⟨n, m, u⟩ = true
  · have hck : chk ⟨n, m, u⟩ = 0 := by simp [chk, hv]
    rw [hck]
    clear hck
    by_cases hm : 20 < l.length
    · obtain ⟨r0, r1, r2, r3, r4, r5, r6⟩ := hR.three
      have hm' : (20 : Int) < (l.length : Int) := by omega
      gi_wp2_with fail
      refine bodyPostM_ret (v := .tuple #[.agg #[.int .i64 0, .int .i64 0, .int .i64 0], .int .i64 4]) ?_ rfl ⟨by simp [redraw, hv, hm, Dm.zero], (by repeat (first | exact hE | exact Ext.refl _ | apply Ext.al | apply Ext.dr | refine Ext.sc (by first | omega | (simp; done) | (simp; omega)) ?_ | assumption))⟩
      simp [results, Tryd.results18, go_sem, *]
    · have hm' : ¬ (20 : Int) < (l.length : Int) := by omega
      gi_wp2_with fail
      have HV := Lib.hid hv
      clear hv
      gi_loopw [26] (fun i wr => ∃ k : Nat, k ≤ l.length ∧ i = .int .i64 k ∧ Ext w1 wr ∧ Hid (∀ j (h : j < l.length), j < k → ¬ stp l[j] = 0)) (fun i _ => l.length - (intOf i).toNat)
      case atStart => exact ⟨0, Nat.zero_le _, rfl, Ext.refl _, Lib.hid (fun j _ h => by omega)⟩
      case round =>
        obtain ⟨k, hk, rfl, h2, hall⟩ := hrel
        replace hR := hR.ext h2
        replace hA := hA.ext h2
        have hE2 := hE.trans h2
        by_cases hlt : k < l.length
        · obtain ⟨ba, oa, rfl, hba, hca⟩ := ha (by intro h; simp [h] at hlt)
          have hca1 := (hE2.cell (p := ⟨ba, oa + k, none⟩) hba).trans (hca k hlt)
          have hx255 := hl255 k hlt
          have HT : Hid (∀ x, x = l[k] → ¬ stp x = 0 → ∀ j (h : j < l.length), j < k + 1 → ¬ stp l[j] = 0) := fun x hx h0 j hj hjk => by
            rcases Nat.lt_or_ge j k with h | h
            · exact hall.out j hj h
            · obtain rfl : j = k := by omega
              rwa [← hx]
          have HF : Hid (∀ x, x = l[k] → stp x = 0 → l.any (fun k => decide (stp k = 0)) = true) := fun x hx h0 => List.any_eq_true.2 ⟨l[k], List.getElem_mem hlt, by rw [← hx]; simpa using h0⟩
          clear hca ha
          obtain ⟨x, hx⟩ : ∃ x, x = l[k] := ⟨_, rfl⟩
          rw [← hx] at hca1 hx255
          replace HT := Lib.hid (HT.out x hx)
          replace HF := Lib.hid (HF.out x hx)
          clear hx hall
          have hlt' : (k : Int) < (l.length : Int) := by omega
          gi_wp2_with fail
          refine ⟨trivial, ?_⟩
          refine (callsIn_wide.2 (ofS_any x _ (Units.ext hU hE2) hx255.1 hx255.2)).mono ?_
          rintro e w3 ⟨he, h3⟩
          replace hR := hR.ext h3
          have hE3 := hE2.trans h3
          have h13 := h2.trans h3
          clear h3 h2 hE2
          by_cases hs : stp x = 0
          · rw [if_pos hs] at he
            subst he
            have HS := Lib.hid hs
            clear hs
            obtain ⟨r0, r1, r2, r3, r4, r5, r6⟩ := hR.three
            gi_wp2_with fail
            refine bodyPostM_ret (v := .tuple #[.agg #[.int .i64 0, .int .i64 0, .int .i64 0], .int .i64 11]) ?_ rfl ⟨by have := HF.out HS.out; simp [redraw, HV.out, hm, this, Dm.zero], by have hE := hE3; exact (by repeat (first | exact hE | exact Ext.refl _ | apply Ext.al | apply Ext.dr | refine Ext.sc (by first | omega | (simp; done) | (simp; omega)) ?_ | assumption))⟩
            simp [results, Tryd.results18, go_sem, *]
          · rw [if_neg hs] at he
            obtain ⟨s, beh, nm, fv, hux⟩ : ∃ s beh nm fv, unitOf x = .agg #[.int .i64 s, .int .i64 beh, .string nm, fv] ∧ fv = .func (.func 143) #[] #[] := by
              unfold unitOf; split <;> exact ⟨_, _, _, _, rfl, rfl⟩
            obtain ⟨hux, rfl⟩ := hux
            rw [hux] at he
            subst he
            clear hux
            have HS := Lib.hid hs
            clear hs
            gi_wp2_with fail
            go_roundw
            case rel => exact ⟨k + 1, by omega, by go_num, h13.al, Lib.hid (HT.out HS.out)⟩
            case measure => simp [intOf]; omega
        · have hlt' : ¬ (k : Int) < (l.length : Int) := by omega
          have hall' : Hid (∀ j (h : j < l.length), ¬ stp l[j] = 0) := fun j h => hall.out j h (by omega)
          have hany : Hid (l.any (fun k => decide (stp k = 0)) = false) := by
            show _ = _
            rw [List.any_eq_false]
            intro x hx
            obtain ⟨j, hj, rfl⟩ := List.getElem_of_mem hx
            simpa using hall'.out j hj
          have hV : Hid (redraw ⟨n, m, u⟩ l = match redr ⟨n, m, u⟩ l with | some x => (x, 0) | none => (Dm.zero, 6)) := by
            show _ = _
            unfold redraw
            rw [if_pos HV.out, if_neg hm, if_neg (by rw [hany.out]; simp)]
            cases redr ⟨n, m, u⟩ l <;> rfl
          obtain rfl : k = l.length := by omega
          clear hall hany hlt hlt' hk
          obtain ⟨a0, a1, a2, -⟩ := hA.three
          gi_wp2_with fail
          refine ⟨trivial, ?_⟩
          refine (callsIn_wide.2 (sizesS_any ⟨n, m, u⟩ xa l.length ca _)).mono ?_
          rintro e w3 ⟨rfl, rfl⟩
          gi_wp2_with fail
          have hsz : w.heap.size + 2 ≤ wr.heap.size := by have := hR.lt; omega
          obtain ⟨W0, hw3⟩ : ∃ W0, W0 = (((wr.alloc (.cells #[.int .i64 n, .int .i64 m, .int .i64 u] 101)).alloc (.cells #[.int .i64 0] 3)).alloc (.cells #[.int .i64 n, .int .i64 m, .int .i64 u] 101)).alloc (.cells #[.slice xa l.length ca] 24) := ⟨_, rfl⟩
          rw [← hw3]
          have c11 : Blk W0 wr.heap.size [.int .i64 n, .int .i64 m, .int .i64 u] 101 := by rw [hw3]; exact (((Blk.new wr _ _).alloc _).alloc _).alloc _
          have c12 : Blk W0 (wr.heap.size + 1) [.int .i64 0] 3 := by rw [hw3]; exact ((Blk.new' _ [.int .i64 0] _ (by simp)).alloc _).alloc _
          have cd : Blk W0 (wr.heap.size + 2) [.int .i64 n, .int .i64 m, .int .i64 u] 101 := by rw [hw3]; exact (Blk.new' _ [.int .i64 n, .int .i64 m, .int .i64 u] _ (by simp)).alloc _
          have cl : Blk W0 (wr.heap.size + 3) [.slice xa l.length ca] 24 := by rw [hw3]; exact Blk.new' _ [.slice xa l.length ca] _ (by simp)
          have hEr : Ext wr W0 := by rw [hw3]; exact (Ext.refl wr).al.al.al.al
          have hE0 := hE2.trans hEr
          have hz0 : W0.heap.size = wr.heap.size + 4 := by rw [hw3]; simp
          have cr := hR.ext hEr
          have hsl : SlU w (.slice xa l.length ca) l := ⟨xa, ca, rfl, hna, ha⟩
          generalize Value.bool (decide ((20 : Int) < (l.length : Int))) = v22
          clear hw3
          refine wp_rangeFunc_steps (gf := 78) (lb := #[.pointer (some ⟨wr.heap.size + 3, 0, none⟩), .pointer (some ⟨wr.heap.size + 2, 0, none⟩)]) rfl (enters_of Tryd.func78 (by kernel_rfl) rfl)
            (fun j => j = wr.heap.size ∨ j = wr.heap.size + 1) (fun j h => by omega)
            (fun k => #[.agg #[.int .i64 (chn ⟨n, m, u⟩ l (k + 1)).n, .int .i64 (chn ⟨n, m, u⟩ l (k + 1)).l, .int .i64 (chn ⟨n, m, u⟩ l (k + 1)).u]]) (fun _ => rfl)
            (fun k W => ((Blk W wr.heap.size [.int .i64 (chn ⟨n, m, u⟩ l k).n, .int .i64 (chn ⟨n, m, u⟩ l k).l, .int .i64 (chn ⟨n, m, u⟩ l k).u] 101 ∧ Blk W (wr.heap.size + 1) [.int .i64 k] 3) ∧
              Blk W (wr.heap.size + 3) [.slice xa l.length ca] 24) ∧ Blk W (w.heap.size + 1) [.int .i64 0, .int .i64 0, .int .i64 0] 23 ∧ Ext w W)
            (OwnFrom.and (OwnFrom.and (OwnFrom.and Blk.own Blk.own) Blk.own) (OwnFrom.and Blk.own (ownFrom_below (Nat.le_refl _) (by omega))))
            ⟨⟨⟨c11, c12⟩, cl⟩, cr, hE0⟩ (Ended ⟨n, m, u⟩ l) l.length ?seq
            (fun k a W => ∃ bx, W0.heap.size ≤ bx ∧ Blk W bx [.int .i64 (chn ⟨n, m, u⟩ l (k + 1)).n, .int .i64 (chn ⟨n, m, u⟩ l (k + 1)).l, .int .i64 (chn ⟨n, m, u⟩ l (k + 1)).u] 101 ∧ a = { tmps := #[.agg #[.int .i64 n, .int .i64 m, .int .i64 u], .slice xa l.length ca, .pointer (some ⟨w.heap.size, 0, none⟩), undef, .pointer (some ⟨w.heap.size + 1, 0, none⟩), u5, .int .i64 0, undef, u8, u9, u10, .pointer (some ⟨wr.heap.size, 0, none⟩), .pointer (some ⟨wr.heap.size + 1, 0, none⟩), .pointer (some ⟨bx, 0, none⟩), .agg #[.int .i64 n, .int .i64 m, .int .i64 u], .int .i64 0, .int .i64 0, .bool false, undef, undef, .slice xa l.length ca, .int .i64 l.length, v22, undef, .slice xa l.length ca, .int .i64 l.length, .int .i64 l.length, .bool false, u28, u29, u30, u31, u32, u33, u34, u35, u36, u37, u38, u39, .agg #[.int .i64 n, .int .i64 m, .int .i64 u], .agg #[.int .i64 n, .int .i64 m, .int .i64 u], .agg #[.int .i64 n, .int .i64 m, .int .i64 u], .slice xa l.length ca, .func (.func 78) #[] #[.pointer (some ⟨wr.heap.size + 3, 0, none⟩), .pointer (some ⟨wr.heap.size + 2, 0, none⟩)], .agg #[.int .i64 (chn ⟨n, m, u⟩ l (k + 1)).n, .int .i64 (chn ⟨n, m, u⟩ l (k + 1)).l, .int .i64 (chn ⟨n, m, u⟩ l (k + 1)).u], undef, undef, undef, undef, undef, undef, undef, undef, undef, undef], defers := [] } ∧
              ((Blk W wr.heap.size [.int .i64 (chn ⟨n, m, u⟩ l k).n, .int .i64 (chn ⟨n, m, u⟩ l k).l, .int .i64 (chn ⟨n, m, u⟩ l k).u] 101 ∧ Blk W (wr.heap.size + 1) [.int .i64 k] 3) ∧
              Blk W (wr.heap.size + 3) [.slice xa l.length ca] 24) ∧ Blk W (w.heap.size + 1) [.int .i64 0, .int .i64 0, .int .i64 0] 23 ∧ Ext w W)
            ?own ?assign ?body ?done (by decide)
          case seq =>
            rintro l0 D lo dO W hl0 hD ⟨⟨⟨i1, i2⟩, i3⟩, i6, i7⟩ hEW hlo hdO hY
            refine (sizes1S_any 8 ⟨n, m, u⟩ (.slice xa l.length ca) l HV.out hall'.out l0 W (fun k W => ((((Blk W wr.heap.size [.int .i64 (chn ⟨n, m, u⟩ l k).n, .int .i64 (chn ⟨n, m, u⟩ l k).l, .int .i64 (chn ⟨n, m, u⟩ l k).u] 101 ∧ Blk W (wr.heap.size + 1) [.int .i64 k] 3) ∧
              Blk W (wr.heap.size + 3) [.slice xa l.length ca] 24) ∧ Blk W (w.heap.size + 1) [.int .i64 0, .int .i64 0, .int .i64 0] 23 ∧ Ext w W) ∧ W.heap[l0]? = some lo ∧ W.heap[D]? = some dO) ∧ wr.heap.size + 4 ≤ W.heap.size) (wr.heap.size + 2) (wr.heap.size + 3) (fun j => (j = wr.heap.size ∨ j = wr.heap.size + 1) ∨ j = l0)
              ?_ ?_ ?_ ?_ ?_ ?_ ?_ ?_).mono ?_
            · rintro k A B ⟨⟨⟨⟨⟨j1, j2⟩, j3⟩, j6, j7⟩, j8, j9⟩, j10⟩ hAB
              exact ⟨⟨⟨⟨⟨j1.ext hAB, j2.ext hAB⟩, j3.ext hAB⟩, j6.ext hAB, j7.trans hAB⟩, (hAB.block _ (Array.getElem?_eq_some_iff.1 j8).1).trans j8, (hAB.block _ (Array.getElem?_eq_some_iff.1 j9).1).trans j9⟩, Nat.le_trans j10 hAB.size⟩
            · rintro k A i v ⟨⟨⟨⟨⟨j1, j2⟩, j3⟩, j6, j7⟩, j8, j9⟩, j10⟩
              exact ⟨⟨⟨⟨⟨j1.set_other (by simp) _, j2.set_other (by simp) _⟩, j3.set_other (by simp) _⟩, j6.set_other (by simp; omega) _, Ext.sc (by simp; omega) j7⟩, (Below.heap_setCell A _ v l0 (by simp; omega)).trans j8, (Below.heap_setCell A _ v D (by simp; omega)).trans j9⟩, by simpa using j10⟩
            · rintro k A ⟨⟨⟨⟨⟨j1, j2⟩, j3⟩, j6, j7⟩, j8, j9⟩, j10⟩
              exact ⟨j3, hsl.ext j7, Units.ext hU j7⟩
            · omega
            · intro j hj
              have := (Array.getElem?_eq_some_iff.1 hlo).1
              have := hEW.size
              omega
            · rintro k W1 ⟨⟨j, j8, j9⟩, j10⟩ hk
              obtain ⟨fn, tmps, assign, body, hy, hr⟩ := hY k W1 j hk j8 j9
              refine ⟨fn, tmps, assign, body, hy, hr.mono ?_⟩
              rintro e W2 ⟨rfl, k1, k2, k3, k4⟩
              exact ⟨rfl, ⟨⟨k1, k2, k3⟩, Nat.le_trans j10 k4.size⟩, k4⟩
            · exact ⟨⟨⟨⟨⟨i1, i2⟩, i3⟩, i6, i7⟩, hlo, hdO⟩, by have := hEW.size; omega⟩
            · exact cd.ext hEW
            · rintro e W2 ⟨hv, k, hend, ⟨j, j8, j9⟩, j10⟩
              exact ⟨hv, k, hend, j, j8, j9⟩
          case own =>
            rintro k a W W' row ⟨bx, x1, x2, rfl, ⟨⟨j1, j2⟩, j3⟩, j6, j7⟩ hg hr
            exact ⟨bx, x1, Blk.own (f := fun _ : Unit => _) () W W' row x2 hg hr, rfl, ⟨⟨Blk.own (f := fun _ : Unit => _) () W W' row j1 hg hr, Blk.own (f := fun _ : Unit => _) () W W' row j2 hg hr⟩, Blk.own (f := fun _ : Unit => _) () W W' row j3 hg hr⟩,
              Blk.own (f := fun _ : Unit => _) () W W' row j6 hg hr, ownFrom_below (Nat.le_refl _) (by omega) () W W' row j7 hg hr⟩
          case assign =>
            rintro l0 k W ⟨⟨⟨j1, j2⟩, j3⟩, j6, j7⟩ hk
            gi_wp2_with fail
            exact ⟨⟨W.heap.size, by have := j3.lt; omega, Blk.new W _ _, rfl, ⟨⟨j1.alloc _, j2.alloc _⟩, j3.alloc _⟩, j6.alloc _, j7.al⟩, Kp.alloc _ _⟩
          case body =>
            rintro l0 k a1 W hl0 ⟨bx, x1, x2, rfl, ⟨⟨j1, j2⟩, j3⟩, j6, j7⟩ hk
            obtain ⟨f0, f1, f2, -⟩ := x2.three
            obtain ⟨g0, g1, g2, g3, g4, g5, g6⟩ := j1.three
            obtain ⟨p0, p1, p2⟩ := j2.one
            have hk2 : k < 20 := by omega
            gi_wp2_with fail
            refine ⟨((((Kp.refl _ _).setCell (Or.inl rfl) _).setCell (Or.inl rfl) _).setCell (Or.inl rfl) _).setCell (Or.inr rfl) _, ⟨⟨?_, ?_⟩, ?_⟩, ?_, ?_⟩
            · have := (((j1.set 0 (.int .i64 (chn ⟨n, m, u⟩ l (k + 1)).n)).set 1 (.int .i64 (chn ⟨n, m, u⟩ l (k + 1)).l)).set 2 (.int .i64 (chn ⟨n, m, u⟩ l (k + 1)).u)).set_other (p := ⟨wr.heap.size + 1, 0, none⟩) (by simp) (.int .i64 (k + 1))
              simpa only [List.set_cons_zero, List.set_cons_succ] using this
            · exact (((j2.set_other (by simp) _).set_other (by simp) _).set_other (by simp) _).set 0 _
            · exact (((j3.set_other (by simp) _).set_other (by simp) _).set_other (by simp) _).set_other (by simp) _
            · exact (((j6.set_other (by simp; omega) _).set_other (by simp; omega) _).set_other (by simp; omega) _).set_other (by simp; omega) _
            · exact Ext.sc (by simp; omega) (Ext.sc (by simp; omega) (Ext.sc (by simp; omega) (Ext.sc (by simp; omega) j7)))
          case done =>
            rintro D k W hD ⟨hk, hend⟩ ⟨⟨⟨j1, j2⟩, j3⟩, j6, j7⟩ hK
            obtain ⟨g0, g1, g2, -⟩ := j1.three
            obtain ⟨p0, -⟩ := j2.one
            obtain ⟨r0, r1, r2, r3, r4, r5, r6⟩ := j6.three
            have HEND := Lib.hid hend
            clear hend
            by_cases hkl : k < l.length
            · have hcmp : (k : Int) < (l.length : Int) := by omega
              gi_wp2_with fail
              have hK' := deferred_set (deferred_set (deferred_set hK ⟨w.heap.size + 1, 0, none⟩ (.int .i64 0)) ⟨w.heap.size + 1, 1, none⟩ (.int .i64 0)) ⟨w.heap.size + 1, 2, none⟩ (.int .i64 0)
              obtain ⟨q0, q1, q2, -⟩ := ((((j6.set 0 (.int .i64 0)).set 1 (.int .i64 0)).set 2 (.int .i64 0)).po hK' (.deferred none)).three
              refine bodyPostM_mark (v := .tuple #[.agg #[.int .i64 0, .int .i64 0, .int .i64 0], .int .i64 6]) hK' rfl ?_
                ⟨by rw [hV.out, HEND.out, if_pos hkl]; rfl, Ext.po (Ext.sc (by first | omega | (simp; done) | (simp; omega)) (Ext.sc (by first | omega | (simp; done) | (simp; omega)) (Ext.sc (by first | omega | (simp; done) | (simp; omega)) j7))) (by omega)⟩
              simp [results, Tryd.results18, go_sem, q0, q1, q2]
            · obtain rfl : k = l.length := by omega
              gi_wp2_with fail
              have hK' := deferred_set (deferred_set (deferred_set hK ⟨w.heap.size + 1, 0, none⟩ (.int .i64 (chn ⟨n, m, u⟩ l l.length).n)) ⟨w.heap.size + 1, 1, none⟩ (.int .i64 (chn ⟨n, m, u⟩ l l.length).l)) ⟨w.heap.size + 1, 2, none⟩ (.int .i64 (chn ⟨n, m, u⟩ l l.length).u)
              obtain ⟨q0, q1, q2, -⟩ := ((((j6.set 0 (.int .i64 (chn ⟨n, m, u⟩ l l.length).n)).set 1 (.int .i64 (chn ⟨n, m, u⟩ l l.length).l)).set 2 (.int .i64 (chn ⟨n, m, u⟩ l l.length).u)).po hK' (.deferred none)).three
              refine bodyPostM_mark (v := .tuple #[.agg #[.int .i64 (chn ⟨n, m, u⟩ l l.length).n, .int .i64 (chn ⟨n, m, u⟩ l l.length).l, .int .i64 (chn ⟨n, m, u⟩ l l.length).u], .int .i64 0]) hK' rfl ?_
                ⟨by rw [hV.out, HEND.out, if_neg hkl], Ext.po (Ext.sc (by first | omega | (simp; done) | (simp; omega)) (Ext.sc (by first | omega | (simp; done) | (simp; omega)) (Ext.sc (by first | omega | (simp; done) | (simp; omega)) j7))) (by omega)⟩
              simp [results, Tryd.results18, go_sem, q0, q1, q2]

  · have hck : ¬ chk ⟨n, m, u⟩ = 0 := by simp [chk, hv]
    have hck2 : chk ⟨n, m, u⟩ = 10 := by simp [chk, hv]
    rw [hck2]
    obtain ⟨r0, r1, r2, r3, r4, r5, r6⟩ := hR.three
    clear hck2 hck
    gi_wp2_with fail
    refine bodyPostM_ret (v := .tuple #[.agg #[.int .i64 0, .int .i64 0, .int .i64 0], .int .i64 10]) ?_ rfl ⟨by simp [redraw, hv, Dm.zero], (by repeat (first | exact hE | exact Ext.refl _ | apply Ext.al | apply Ext.dr | refine Ext.sc (by first | omega | (simp; done) | (simp; omega)) ?_ | assumption))⟩
    simp [results, Tryd.results18, go_sem, *]

theorem conv_redraw (d : Dm) (k : Int) : redraw d [k] = conv d k := by
  unfold redraw conv
  by_cases hv : vd d = true
  · by_cases hs : stp k = 0
    · simp [hv, hs]
    · by_cases ho : agnOk d (stp k) = true
      · simp [hv, hs, redr, ho]
      · simp [hv, hs, redr, ho]
  · simp [hv]

theorem convS_any (d : Dm) (k : Int) (w : World) (hU : Units w) (h0 : 0 ≤ k) (h1 : k ≤ 255) :
    Calls Tryd.prog 16 #[.agg #[.int .i64 d.n, .int .i64 d.l, .int .i64 d.u], .int .u8 k] w fun e w' =>
      e = .returned (.tuple #[.agg #[.int .i64 (conv d k).1.n, .int .i64 (conv d k).1.l, .int .i64 (conv d k).1.u], .int .i64 (conv d k).2]) ∧ Ext w w' := by
  rw [← conv_redraw]
  obtain ⟨n, l, u⟩ := d
  dsimp only
  go_enter Tryd.func16, Tryd.ntmps16
  go_wp2_with fail
  refine (redrawS_any ⟨n, l, u⟩ _ [k] _ ⟨some ⟨w.heap.size + 1 + 1, 0, none⟩, 1, rfl, by simp, fun _ => ⟨_, _, rfl, by simp, fun i hi => ?_⟩⟩ (((Units.alloc (Units.alloc (Units.alloc hU _) _) _))) (by intro j hj; simp at hj; subst hj; exact ⟨h0, h1⟩)).mono ?_
  · simp at hi
    subst hi
    exact (Blk.new' _ [.int .u8 k] _ (by simp)).cell 0
  rintro e w1 ⟨rfl, h2⟩
  obtain ⟨-, hR, -⟩ := blk3 w [.int .i64 n, .int .i64 l, .int .i64 u] [.int .i64 0, .int .i64 0, .int .i64 0] [.int .u8 k] _ _ _ h2
  have hE := ext3 _ _ _ _ h2
  clear h2
  obtain ⟨C, hC⟩ : ∃ C, C = redraw ⟨n, l, u⟩ [k] := ⟨_, rfl⟩
  rw [← hC]
  have HC := Lib.hid hC
  clear hC
  obtain ⟨r0, r1, r2, r3, r4, r5, r6⟩ := hR.three
  go_wp2_with fail
  refine bodyPost_ret (v := .tuple #[.agg #[.int .i64 C.1.n, .int .i64 C.1.l, .int .i64 C.1.u], .int .i64 C.2]) ?_ rfl ⟨by rw [HC.out], (by repeat (first | exact hE | exact Ext.refl _ | apply Ext.al | apply Ext.dr | refine Ext.sc (by first | omega | (simp; done) | (simp; omega)) ?_ | assumption))⟩
  simp [results, Tryd.results16, go_sem, *]

theorem lostS_any (d : Dm) (k : Int) (w : World) (hU : Units w) (h0 : 0 ≤ k) (h1 : k ≤ 255) :
    Calls Tryd.prog 20 #[.agg #[.int .i64 d.n, .int .i64 d.l, .int .i64 d.u], .int .u8 k] w fun e w' =>
      e = .returned (.tuple #[.int .i64 (lostV d k).1, .int .i64 (lostV d k).2.1, .int .i64 (lostV d k).2.2]) ∧ Ext w w' := by
  obtain ⟨n, l, u⟩ := d
  dsimp only
  go_enter Tryd.func20, Tryd.ntmps20
  go_wp2_with fail
  refine (convS_any ⟨n, l, u⟩ k _ (Units.alloc hU _) h0 h1).mono ?_
  clear h0 h1
  rintro e w1 ⟨rfl, h1⟩
  have hA := blk1 w [.int .i64 n, .int .i64 l, .int .i64 u] _ h1
  have hE := ext1 _ _ h1
  clear h1
  have hbd := conv_bd ⟨n, l, u⟩ k
  have hV : lostV ⟨n, l, u⟩ k = if (conv ⟨n, l, u⟩ k).2 = 0 then ((conv ⟨n, l, u⟩ k).1.l - l, u - (conv ⟨n, l, u⟩ k).1.u, 0) else (0, 0, (conv ⟨n, l, u⟩ k).2) := rfl
  generalize conv ⟨n, l, u⟩ k = C at *
  have HV := Lib.hid hV
  clear hV
  by_cases hc : C.2 = 0
  · obtain ⟨q0, q1, q2, q3, q4, q5⟩ := hbd hc
    have HC := Lib.hid hc
    have hc' : (C.2 != 0) = false := by simpa using hc
    clear hc hbd
    go_wp2_with fail
    have hb := Blk.new w1 [.int .i64 C.1.n, .int .i64 C.1.l, .int .i64 C.1.u] 23
    have hA' := hA.alloc (.cells #[.int .i64 C.1.n, .int .i64 C.1.l, .int .i64 C.1.u] 23)
    refine wp_region_calm [0, 1, 2, 3, 4, 5, 6, 7, 8, 9, 10, 11, 12] [] (fun _ => False) (by kernel_rfl) (by kernel_rfl) ?_
    have hF := Lib.hid <| And.intro (show ∀ w4, Kp (fun _ => False) (w1.alloc _).drew w4 → Blk w4 w.heap.size _ _ from fun w4 h4 => hA'.drew.kp h4 (fun h => h)) (show ∀ w4, Kp (fun _ => False) (w1.alloc _).drew w4 → Blk w4 w1.heap.size _ _ from fun w4 h4 => hb.drew.kp h4 (fun h => h))
    repeat
      refine walkE_step rfl rfl rfl ?_
      apply Exists.intro
      refine ⟨fun w4 h4 => ?_, ?_, ?_⟩
      · obtain ⟨f0, f1, f2, -⟩ := (hF.out.1 w4 h4).three; obtain ⟨g0, g1, g2, -⟩ := (hF.out.2 w4 h4).three
        go_wp2_with (fail)
        exact EPost.intro (Ext.refl _) rfl
      · exact ⟨_, rfl⟩
    refine walkE_nil ?_
    refine walkT_end (fun w7 h7 hk => ?_)
    have hE7 := (Ext.al (o := .cells #[.int .i64 C.1.n, .int .i64 C.1.l, .int .i64 C.1.u] 23) hE).dr.thn hk (fun j hj => hj.elim)
    go_wp2_with fail
    go_ret3
    exact ⟨by rw [HV.out, if_pos HC.out]; rfl, hE7⟩
  · have hc' : (C.2 != 0) = true := by simpa using hc
    have HC := Lib.hid hc
    clear hc hbd
    go_wp2_with fail
    go_ret3
    exact ⟨by rw [HV.out, if_neg HC.out]; rfl, (by repeat (first | exact hE | exact Ext.refl _ | apply Ext.al | apply Ext.dr | refine Ext.sc (by first | omega | (simp; done) | (simp; omega)) ?_ | assumption))⟩

end Go.Proofs.YtikjooemblpnbaaDoor
