/-
  The law SizeTurns: its walk.
-/
import Derived.Test.YtikjooemblpnbaaDoorSzN
import Derived.Laws.AppendOwnNone
import Derived.Laws.OwnMore
import Derived.ProofKit
import Derived.OwnWalk
import Derived.Lib.SmallJoins
namespace Go.Proofs.YtikjooemblpnbaaDoor
open Go.RowKit

theorem infoU8 : (Tryd.prog.info? 5).map (fun i => (i.zero, i.size, i.bytes)) = some (some (.int .u8 0), 1, 1) := by kernel_rfl

/-- What the call has built by append. -/
theorem SlU.of_row {W : World} {B : Nat} {v : Value} {n : Nat} {l : List Int} (h : W.ownsRow B 5 1 v n (l.map (Value.int .u8))) (hn : n = l.length) (hl : l.length ≤ 40) : SlU W v l := by
  subst hn
  rcases Joins.ownsRow_forms h with ⟨rfl, h0⟩ | ⟨g, cap, rfl⟩
  · obtain rfl : l = [] := List.length_eq_zero_iff.1 h0
    exact ⟨none, 0, rfl, by simp, fun h => absurd rfl h⟩
  · obtain ⟨-, h2 | ⟨g', cap', cur, hv, _, hg, _⟩⟩ := id h
    · exact absurd h2.1 (by simp)
    · refine ⟨_, cap, rfl, by omega, fun _ => ⟨g, 0, rfl, ?_, fun i hi => ?_⟩⟩
      · injection hv with e1; injection e1 with e1; injection e1 with e1; subst e1; exact (Array.getElem?_eq_some_iff.1 hg).1
      · have := h.cellAt i (by omega)
        simpa [hi] using this

theorem SlU.alloc' {W : World} {v : Value} {l : List Int} (h : SlU W v l) (o : Obj) : SlU (W.alloc o) v l := h.ext (Ext.refl W).al

set_option maxRecDepth 100000 in
set_option maxHeartbeats 4000000 in
theorem turns_any (d : Dm) (k : Int) (vu : Value) (l : List Int) (w : World) (hu : SlU w vu l) (hvu : vu = .slice none 0 0 ∨ ∃ ad c, vu = .slice (some ad) l.length c) (hU : Units w) (h0 : 0 ≤ k) (h1 : k ≤ 255) (hl255 : ∀ (j : Nat) (h : j < l.length), 0 ≤ l[j] ∧ l[j] ≤ 255) :
    Calls Tryd.prog 3 #[.agg #[.int .i64 d.n, .int .i64 d.l, .int .i64 d.u], .int .u8 k, vu] w fun e w' => e = .returned (.bool true) ∧ Ext w w' := by
  obtain ⟨n, m, u⟩ := d
  dsimp only
  obtain ⟨xa, ca, rfl, hna, ha⟩ := id hu
  obtain ⟨i0, hi, hz0, hz1, hz2⟩ := info_parts infoU8
  have hun := Tryd.underlying24
  by_cases hm : 40 < l.length
  · have hm' : (40 : Int) < (l.length : Int) := by omega
    go_enter Tryd.func3, Tryd.ntmps3
    go_wp2_with fail
    go_ret
    exact ⟨rfl, (Ext.refl _).al⟩
  · have hm' : ¬ (40 : Int) < (l.length : Int) := by omega
    go_enter Tryd.func3, Tryd.ntmps3
    go_upto_region 3 with fail
    go_cut [7] (fun v wx => SlU wx v l ∧ Ext w wx ∧ Blk wx w.heap.size [.int .i64 n, .int .i64 m, .int .i64 u] 23)
    case first =>
      have hrow0 : ((w.alloc (.cells #[.int .i64 n, .int .i64 m, .int .i64 u] 23)).alloc (.cells #[] 5)).ownsRow w.heap.size 5 1 (.slice (some ⟨w.heap.size + 1, 0, none⟩) 0 0) 0 [] :=
        ⟨rfl, .inr ⟨w.heap.size + 1, 0, #[], rfl, by omega, by have := World.alloc_heap_new (w.alloc (.cells #[.int .i64 n, .int .i64 m, .int .i64 u] 23)) (.cells #[] 5); rwa [World.size_alloc] at this, Nat.le_refl _, Nat.zero_le _, rfl, rfl⟩⟩
      have hE0 : Ext w ((w.alloc (.cells #[.int .i64 n, .int .i64 m, .int .i64 u] 23)).alloc (.cells #[] 5)) := (Ext.refl w).al.al
      have hB0 : Blk ((w.alloc (.cells #[.int .i64 n, .int .i64 m, .int .i64 u] 23)).alloc (.cells #[] 5)) w.heap.size [.int .i64 n, .int .i64 m, .int .i64 u] 23 := (Blk.new w _ _).alloc _
      rcases hvu with h | ⟨ad, c, h⟩
      · injection h with h2 h3 h4
        subst h2; subst h4
        obtain rfl : l = [] := List.length_eq_zero_iff.1 h3
        go_wp2_with (at_builtin; refine wpList_append_own_none rfl _ _ 24 rfl w.heap.size 5 i0 1 hun hi _ _ _ rfl hrow0 rfl ?_)
        go_meet
        exact ⟨⟨_, _, rfl, by simp, fun h => absurd rfl h⟩, hE0, hB0⟩
      · injection h with h2 h3 h4
        subst h2; subst h4
        have hnews : ∀ j u', (l.map (Value.int .u8))[j]? = some u' → ((w.alloc (.cells #[.int .i64 n, .int .i64 m, .int .i64 u] 23)).alloc (.cells #[] 5)).cell? (ad.add j) = some u' := by
          intro j u' hj
          have hjl : j < l.length := by have := (List.getElem?_eq_some_iff.1 hj).1; simpa using this
          obtain ⟨b, off, hab, hb, hc⟩ := ha (by intro h; simp [h] at hjl)
          injection hab with hab
          subst hab
          have := hE0.cell (p := ⟨b, off + j, none⟩) hb
          rw [WideShapes.add_plain, this, hc j hjl]
          simpa [hjl] using hj
        go_wp2_with (at_builtin; refine wpList_append_own _ rfl _ _ 24 rfl w.heap.size 5 i0 (.int .u8 0) 1 1 hun hi hz0 hz1 hz2 rfl (by decide) _ 0 [] rfl hrow0 ad l.length ca (l.map (Value.int .u8)) rfl (by simp) hnews (ints_oneCell .u8 l) (by unfold maxLen; omega) (by omega) (by simp; omega) ?_; intro v' w1 hown' hgrow' _)
        go_meet
        refine ⟨SlU.of_row (n := 0 + l.length) hown' (by omega) (by omega), Below.grown hE0 hgrow' (by simp; omega) (fun k e => by cases e; show w.heap.size ≤ w.heap.size + 1; omega), ?_⟩
        exact (hgrow'.block _ (by simp; omega) (fun e => by have e2 : some w.heap.size = some (w.heap.size + 1) := e; injection e2 with e2; omega)).trans hB0
    case rest =>
      obtain ⟨hs7, hE, hA⟩ := hcut
      clear hvu hna ha hm hi hz0 hz1 hz2 hun
      have hE7 := hE
      have hbC : Dm.beq ⟨(conv ⟨n, m, u⟩ k).1.n, (conv ⟨n, m, u⟩ k).1.l, (conv ⟨n, m, u⟩ k).1.u⟩ ⟨(conv ⟨n, m, u⟩ k).1.n, (conv ⟨n, m, u⟩ k).1.l, (conv ⟨n, m, u⟩ k).1.u⟩ = true := by simp [Dm.beq]
      have hbR : Dm.beq ⟨(redraw ⟨n, m, u⟩ l).1.n, (redraw ⟨n, m, u⟩ l).1.l, (redraw ⟨n, m, u⟩ l).1.u⟩ ⟨(redraw ⟨n, m, u⟩ l).1.n, (redraw ⟨n, m, u⟩ l).1.l, (redraw ⟨n, m, u⟩ l).1.u⟩ = true := by simp [Dm.beq]
      have hne := neqDim
      have hgd : ∀ (x y : Operand) (xs ys : Array Value) (w : World), (eqGuard .neq 23 x y (.agg xs) (.agg ys)).run Tryd.prog w = .ok () w := fun x y xs ys w => run_eqGuard_agg w .neq _ x y xs ys (by kernel_rfl)
      have HBC := Lib.hid hbC
      have HBR := Lib.hid hbR
      have HNE := Lib.hid hne
      have HGD := Lib.hid hgd
      clear hbC hbR hne hgd
      obtain ⟨a0, a1, a2, -, -, -, a3⟩ := hA.three
      go_wp2_with fail
      refine (convS_any ⟨n, m, u⟩ k _ (Units.ext hU hE) h0 h1).mono ?_
      rintro e w1 ⟨rfl, h2⟩
      have hE' := hE.trans h2
      have hA' := hA.ext h2
      have hs7' := hs7.ext h2
      clear h2 a0 a1 a2 a3 hA hE hs7
      have hE := hE'
      have hA := hA'
      have hs7 := hs7'
      clear hE' hA' hs7'
      obtain ⟨a0, a1, a2, -, -, -, a3⟩ := hA.three
      go_wp2_with fail
      refine (convR_any ⟨n, m, u⟩ k _).mono ?_
      rintro e w2 ⟨rfl, h2⟩
      have hE' := hE.trans (ext1 _ _ h2)
      have hA' := (hA.alloc _).ext h2
      have hs7' := hs7.ext (ext1 _ _ h2)
      have q0 := blk1 w1 [.int .i64 (conv ⟨n, m, u⟩ k).1.n, .int .i64 (conv ⟨n, m, u⟩ k).1.l, .int .i64 (conv ⟨n, m, u⟩ k).1.u] _ h2
      clear h2 a0 a1 a2 a3 hA hE hs7
      have hE := hE'
      have hA := hA'
      have hs7 := hs7'
      clear hE' hA' hs7'
      obtain ⟨a0, a1, a2, -, -, -, a3⟩ := hA.three
      go_wp2_with fail
      refine (redrawS_any ⟨n, m, u⟩ _ l _ (hs7.alloc' _) (Units.alloc (Units.ext hU hE) _) hl255).mono ?_
      rintro e w3 ⟨rfl, h2⟩
      have hE' := hE.trans (ext1 _ _ h2)
      have hA' := (hA.alloc _).ext h2
      have hs7' := hs7.ext (ext1 _ _ h2)
      have q1 := blk1 w2 [.int .i64 (conv ⟨n, m, u⟩ k).1.n, .int .i64 (conv ⟨n, m, u⟩ k).1.l, .int .i64 (conv ⟨n, m, u⟩ k).1.u] _ h2
      replace q0 := (q0.alloc _).ext h2
      clear h2 a0 a1 a2 a3 hA hE hs7
      have hE := hE'
      have hA := hA'
      have hs7 := hs7'
      clear hE' hA' hs7'
      obtain ⟨a0, a1, a2, -, -, -, a3⟩ := hA.three
      go_wp2_with fail
      refine (redrawR_any ⟨n, m, u⟩ _ l _ ((hu.ext hE).alloc' _)).mono ?_
      rintro e w4 ⟨rfl, h2⟩
      have hE' := hE.trans (ext1 _ _ h2)
      have hA' := (hA.alloc _).ext h2
      have hs7' := hs7.ext (ext1 _ _ h2)
      have q2 := blk1 w3 [.int .i64 (redraw ⟨n, m, u⟩ l).1.n, .int .i64 (redraw ⟨n, m, u⟩ l).1.l, .int .i64 (redraw ⟨n, m, u⟩ l).1.u] _ h2
      replace q0 := (q0.alloc _).ext h2
      replace q1 := (q1.alloc _).ext h2
      clear h2 a0 a1 a2 a3 hA hE hs7
      have hE := hE'
      have hA := hA'
      have hs7 := hs7'
      clear hE' hA' hs7'
      obtain ⟨a0, a1, a2, -, -, -, a3⟩ := hA.three
      go_wp2_with fail
      refine (lostS_any ⟨n, m, u⟩ k _ (Units.alloc (Units.ext hU hE) _) h0 h1).mono ?_
      rintro e w5 ⟨rfl, h2⟩
      have hE' := hE.trans (ext1 _ _ h2)
      have hA' := (hA.alloc _).ext h2
      have hs7' := hs7.ext (ext1 _ _ h2)
      have q3 := blk1 w4 [.int .i64 (redraw ⟨n, m, u⟩ l).1.n, .int .i64 (redraw ⟨n, m, u⟩ l).1.l, .int .i64 (redraw ⟨n, m, u⟩ l).1.u] _ h2
      replace q0 := (q0.alloc _).ext h2
      replace q1 := (q1.alloc _).ext h2
      replace q2 := (q2.alloc _).ext h2
      clear h2 a0 a1 a2 a3 hA hE hs7
      have hE := hE'
      have hA := hA'
      have hs7 := hs7'
      clear hE' hA' hs7'
      obtain ⟨a0, a1, a2, -, -, -, a3⟩ := hA.three
      go_wp2_with fail
      refine (lostR_any ⟨n, m, u⟩ k _).mono ?_
      rintro e w6 ⟨rfl, h2⟩
      have hE' := hE.trans h2
      have hs7' := hs7.ext h2
      replace q0 := q0.ext h2
      replace q1 := q1.ext h2
      replace q2 := q2.ext h2
      replace q3 := q3.ext h2
      clear h2 a0 a1 a2 a3 hA hE hs7
      obtain ⟨x0, x1, x2, -⟩ := q0.three
      obtain ⟨y0, y1, y2, -⟩ := q1.three
      obtain ⟨z0, z1, z2, -⟩ := q2.three
      obtain ⟨v0, v1, v2, -⟩ := q3.three
      have hbC := HBC.out
      have hbR := HBR.out
      have hne := HNE.out
      have hgd := HGD.out
      go_wp2_with fail
      clear hbC hbR hne hgd HBC HBR HNE HGD x0 x1 x2 y0 y1 y2 z0 z1 z2 v0 v1 v2 q0 q1 q2 q3
      have hu2 := hu.ext hE'
      obtain ⟨ya, cy, rfl, -, hy⟩ := hs7'
      obtain ⟨xa2, cx2, hx0, -, hx⟩ := hu2
      injection hx0 with hx1 hx2 hx3
      subst hx1
      subst hx3
      clear hx2 hu
      have HY := Lib.hid hy
      have HX := Lib.hid hx
      clear hy hx
      go_loopw [102] (fun i wr => ∃ j : Nat, j ≤ l.length ∧ i = .int .i64 j ∧ Ext w6 wr) (fun i _ => l.length - (intOf i).toNat)
      case atStart => exact ⟨0, Nat.zero_le _, rfl, Ext.refl _⟩
      case round =>
        obtain ⟨j, hj, rfl, hEr⟩ := hrel
        by_cases hlt : j < l.length
        · obtain ⟨ba, oa, rfl, hba, hca⟩ := HX.out (by intro h; simp [h] at hlt)
          obtain ⟨bb, ob, rfl, hbb, hcb⟩ := HY.out (by intro h; simp [h] at hlt)
          have hlt' : (j : Int) < (l.length : Int) := by omega
          have HP := Lib.hid (hca j hlt)
          have HB := Lib.hid (hcb j hlt)
          clear hca hcb
          generalize l[j] = x at *
          go_wp2_with fail
          refine wp_region_calm [0, 1, 2, 3, 4, 5, 6, 7, 8] [] (fun _ => False) (by kernel_rfl) (by kernel_rfl) ?_
          have hF := Lib.hid <| show ∀ w4, Kp (fun _ => False) wr.drew w4 → Ext w6 w4 from fun w4 h4 => hEr.dr.thn h4 (fun j hj => hj.elim)
          repeat
            refine walkE_step rfl rfl rfl ?_
            apply Exists.intro
            refine ⟨fun w4 h4 => ?_, ?_, ?_⟩
            · have h5 := hF.out w4 h4; have p0 := HP.out; have q0 := HB.out; rw [← h5.cell (by exact hba)] at p0; rw [← h5.cell (by exact hbb)] at q0
              go_wp2_with (fail)
              exact EPost.intro (Ext.refl _) rfl
            · exact ⟨_, rfl⟩
          refine walkE_nil ?_
          refine walkT_end (fun w7 h7 hk => ?_)
          have hE7 := hEr.dr.thn hk (fun j hj => hj.elim)
          go_wp2_with fail
          go_roundw
          case rel => exact ⟨j + 1, by omega, by go_num, hE7⟩
          case measure => simp [intOf]; omega
        · have hlt' : ¬ (j : Int) < (l.length : Int) := by omega
          go_wp2_with fail
          go_ret
          exact ⟨rfl, hE'.trans hEr⟩

end Go.Proofs.YtikjooemblpnbaaDoor
