/-
  What Convert, Lost and Exact of package bluelineref01 return.
-/
import Derived.Test.YtikjooemblpnbaaDoorSzA
import Derived.LoopN
/-! What Convert, Lost and Exact of package bluelineref01 return. -/
namespace Go.Proofs.YtikjooemblpnbaaDoor
open Go.RowKit

theorem stp_of {k : Int} (h : ¬ stp k = 0) : 1 ≤ stp k ∧ stp k ≤ 254 := by have := stp_bd k; omega

theorem convR_any (d : Dm) (k : Int) (w : World) :
    Calls Tryd.prog 17 #[.agg #[.int .i64 d.n, .int .i64 d.l, .int .i64 d.u], .int .u8 k] w fun e w' =>
      e = .returned (.tuple #[.agg #[.int .i64 (conv d k).1.n, .int .i64 (conv d k).1.l, .int .i64 (conv d k).1.u], .int .i64 (conv d k).2]) ∧ Ext w w' := by
  obtain ⟨n, l, u⟩ := d
  dsimp only
  go_enter Tryd.func17, Tryd.ntmps17
  go_wp2_with fail
  refine (dimD ⟨n, l, u⟩ _).mono ?_
  rintro e w1 ⟨rfl, h1⟩
  obtain ⟨hA, hR⟩ := blk2 w [.int .i64 n, .int .i64 l, .int .i64 u] [.int .i64 0, .int .i64 0, .int .i64 0] _ _ h1
  have hE := ext2 _ _ _ h1
  clear h1
  by_cases hv : vd ⟨n, l, u⟩ = true
  · go_wp2_with fail
    refine (step_any k _).mono ?_
    rintro e w2 ⟨rfl, rfl⟩
    by_cases hs : stp k = 0
    · have HS := Lib.hid hs
      have hs' : (stp k == 0) = true := by simpa using hs
      clear hs
      obtain ⟨r0, r1, r2, r3, r4, r5, r6⟩ := hR.three
      go_wp2_with fail
      refine bodyPost_ret (v := .tuple #[.agg #[.int .i64 0, .int .i64 0, .int .i64 0], .int .i64 11]) ?_ rfl ⟨by simp [conv, hv, HS.out, Dm.zero], (by repeat (first | exact hE | exact Ext.refl _ | apply Ext.al | apply Ext.dr | refine Ext.sc (by first | omega | (simp; done) | (simp; omega)) ?_ | assumption))⟩
      simp [results, Tryd.results17, go_sem, *]
    · obtain ⟨s0, s1⟩ := stp_of hs
      have hs' : (stp k == 0) = false := by simpa using hs
      go_wp2_with fail
      refine wp_region_calm [0, 1, 2, 3, 4, 5, 6] [7, 8, 9] (fun k => w1.heap.size ≤ k) (by kernel_rfl) (by kernel_rfl) ?_
      have hF := Lib.hid <| show ∀ w4, Kp (fun k => w1.heap.size ≤ k) w1.drew w4 → Blk w4 w.heap.size _ _ from fun w4 h4 => hA.drew.kp h4 (by have := hA.lt; omega)
      repeat
        refine walkE_step rfl rfl rfl ?_
        apply Exists.intro
        refine ⟨fun w4 h4 => ?_, ?_, ?_⟩
        · obtain ⟨f0, f1, f2, -⟩ := (hF.out w4 h4).three
          go_wp2_with (first | (go_at_call 50; refine (step_any k _).mono ?_; rintro e w' ⟨rfl, rfl⟩) | (go_at_call 51; refine (again_any n l u (stp k) _ hv s0 s1).mono ?_; rintro e w5 ⟨rfl, h5⟩))
          first | exact EPost.intro (Ext.refl _) rfl | exact EPost.intro (Ext.drew _) rfl | exact EPost.intro (h5) rfl
        · exact ⟨_, rfl⟩
      refine walkE_nil ?_
      refine walkT_cons rfl (fun w4 h4 => ?_)
      go_wp2_with fail
      refine ⟨Kp.alloc _ _, ?_⟩
      refine walkT_cons rfl (fun w5 h5 => ?_)
      have hb := (Blk.new w4 [.int .i64 0, .int .i64 0, .int .i64 0] 23).ext h5
      obtain ⟨g0, g1, g2, g3, g4, g5, g6⟩ := hb.three
      have hz : w1.heap.size ≤ w4.heap.size := by have := h4.size; simpa using this
      go_wp2_with fail
      refine ⟨(((Kp.refl _ _).setCell (by first | omega | (simp; done) | (simp; omega)) _).setCell (by first | omega | (simp; done) | (simp; omega)) _).setCell (by first | omega | (simp; done) | (simp; omega)) _, ?_⟩
      clear g0 g1 g2 g3 g4 g5
      refine walkT_cons rfl (fun w6 h6 => ?_)
      go_wp2_with fail
      refine ⟨Kp.refl _ _, ?_⟩
      refine walkT_end (fun w7 h7 hk => ?_)
      have hb7 := ((((hb.set 0 _).set 1 _).set 2 _).ext h6).ext h7
      simp only [List.set_cons_zero, List.set_cons_succ] at hb7
      have hR7 := hR.drew.kp hk (by have := hR.lt; omega)
      have hE7 := hE.dr.thn hk (fun j hj => by have := hE.size; omega)
      generalize w4.heap.size = b at *
      clear h7 hk hb h6 h5 h4 hF hR hA hE
      obtain ⟨r0, r1, r2, r3, r4, r5, r6⟩ := hR7.three
      obtain ⟨b0, b1, b2, -, -, -, b3⟩ := hb7.three
      cases hc : agnOk ⟨n, l, u⟩ (stp k)
      · go_wp2_with fail
        refine bodyPost_ret (v := .tuple #[.agg #[.int .i64 0, .int .i64 0, .int .i64 0], .int .i64 6]) ?_ rfl ⟨by simp [conv, hv, hs, hc, Dm.zero], (by repeat (first | exact hE | exact Ext.refl _ | apply Ext.al | apply Ext.dr | refine Ext.sc (by first | omega | (simp; done) | (simp; omega)) ?_ | assumption))⟩
        simp [results, Tryd.results17, go_sem, *]
      · go_wp2_with fail
        refine bodyPost_ret (v := .tuple #[.agg #[.int .i64 (agn ⟨n, l, u⟩ (stp k)).n, .int .i64 (agn ⟨n, l, u⟩ (stp k)).l, .int .i64 (agn ⟨n, l, u⟩ (stp k)).u], .int .i64 0]) ?_ rfl ⟨by simp [conv, hv, hs, hc], (by repeat (first | exact hE | exact Ext.refl _ | apply Ext.al | apply Ext.dr | refine Ext.sc (by first | omega | (simp; done) | (simp; omega)) ?_ | assumption))⟩
        simp [results, Tryd.results17, go_sem, *]
  · obtain ⟨r0, r1, r2, r3, r4, r5, r6⟩ := hR.three
    go_wp2_with fail
    refine bodyPost_ret (v := .tuple #[.agg #[.int .i64 0, .int .i64 0, .int .i64 0], .int .i64 10]) ?_ rfl ⟨by simp [conv, hv, Dm.zero], (by repeat (first | exact hE | exact Ext.refl _ | apply Ext.al | apply Ext.dr | refine Ext.sc (by first | omega | (simp; done) | (simp; omega)) ?_ | assumption))⟩
    simp [results, Tryd.results17, go_sem, *]

theorem lostR_any (d : Dm) (k : Int) (w : World) :
    Calls Tryd.prog 21 #[.agg #[.int .i64 d.n, .int .i64 d.l, .int .i64 d.u], .int .u8 k] w fun e w' =>
      e = .returned (.tuple #[.int .i64 (lostV d k).1, .int .i64 (lostV d k).2.1, .int .i64 (lostV d k).2.2]) ∧ Ext w w' := by
  obtain ⟨n, l, u⟩ := d
  dsimp only
  go_enter Tryd.func21, Tryd.ntmps21
  go_wp2_with fail
  refine (convR_any ⟨n, l, u⟩ k _).mono ?_
  rintro e w1 ⟨rfl, h1⟩
  have hA := blk1 w [.int .i64 n, .int .i64 l, .int .i64 u] _ h1
  have hE := ext1 _ _ h1
  clear h1
  have hbd := conv_bd ⟨n, l, u⟩ k
  have hV : lostV ⟨n, l, u⟩ k = if (conv ⟨n, l, u⟩ k).2 = 0 then ((conv ⟨n, l, u⟩ k).1.l - l, u - (conv ⟨n, l, u⟩ k).1.u, 0) else (0, 0, (conv ⟨n, l, u⟩ k).2) := rfl
  generalize conv ⟨n, l, u⟩ k = C at *
  have HV := Lib.hid hV
  clear hV
  by_cases hc : C.2 = 0
  · obtain ⟨q0, q1, q2, q3, q4, q5⟩ := hbd hc
    have HC := Lib.hid hc
    have hc' : (C.2 != 0) = false := by simpa using hc
    clear hc hbd
    go_wp2_with fail
    have hb := Blk.new w1 [.int .i64 C.1.n, .int .i64 C.1.l, .int .i64 C.1.u] 23
    have hA' := hA.alloc (.cells #[.int .i64 C.1.n, .int .i64 C.1.l, .int .i64 C.1.u] 23)
    refine wp_region_calm [0, 1, 2, 3, 4, 5, 6, 7, 8, 9, 10, 11, 12] [] (fun _ => False) (by kernel_rfl) (by kernel_rfl) ?_
    have hF := Lib.hid <| And.intro (show ∀ w4, Kp (fun _ => False) (w1.alloc _).drew w4 → Blk w4 w.heap.size _ _ from fun w4 h4 => hA'.drew.kp h4 (fun h => h)) (show ∀ w4, Kp (fun _ => False) (w1.alloc _).drew w4 → Blk w4 w1.heap.size _ _ from fun w4 h4 => hb.drew.kp h4 (fun h => h))
    repeat
      refine walkE_step rfl rfl rfl ?_
      apply Exists.intro
      refine ⟨fun w4 h4 => ?_, ?_, ?_⟩
      · obtain ⟨f0, f1, f2, -⟩ := (hF.out.1 w4 h4).three; obtain ⟨g0, g1, g2, -⟩ := (hF.out.2 w4 h4).three
        go_wp2_with (fail)
        exact EPost.intro (Ext.refl _) rfl
      · exact ⟨_, rfl⟩
    refine walkE_nil ?_
    refine walkT_end (fun w7 h7 hk => ?_)
    have hE7 := (Ext.al (o := .cells #[.int .i64 C.1.n, .int .i64 C.1.l, .int .i64 C.1.u] 23) hE).dr.thn hk (fun j hj => hj.elim)
    go_wp2_with fail
    go_ret3
    exact ⟨by rw [HV.out, if_pos HC.out]; rfl, hE7⟩
  · have hc' : (C.2 != 0) = true := by simpa using hc
    have HC := Lib.hid hc
    clear hc hbd
    go_wp2_with fail
    go_ret3
    exact ⟨by rw [HV.out, if_neg HC.out]; rfl, (by repeat (first | exact hE | exact Ext.refl _ | apply Ext.al | apply Ext.dr | refine Ext.sc (by first | omega | (simp; done) | (simp; omega)) ?_ | assumption))⟩

theorem exactR_any (d : Dm) (w : World) :
    Calls Tryd.prog 34 #[.agg #[.int .i64 d.n, .int .i64 d.l, .int .i64 d.u]] w fun e w' =>
      e = .returned (.tuple #[.int .u8 (exactV d), .int .i64 (chk d)]) ∧ Ext w w' := by
  obtain ⟨n, l, u⟩ := d
  dsimp only
  go_enter Tryd.func34, Tryd.ntmps34
  go_wp2_with fail
  refine (dimD ⟨n, l, u⟩ _).mono ?_
  rintro e w1 ⟨rfl, h1⟩
  have hA := blk1 w [.int .i64 n, .int .i64 l, .int .i64 u] _ h1
  have hE := ext1 _ _ h1
  clear h1
  by_cases hv : vd ⟨n, l, u⟩ = true
  · obtain ⟨x0, x1, x2, x3, x4⟩ := of_decide_eq_true hv
    dsimp only at *
    go_wp2_with fail
    refine wp_loop_rounds 3 ?_
    rw [rounds_succ]
    go_wp2_with fail
    have HV := Lib.hid hv
    clear hv
    refine wp_region_calm [0, 1, 2, 3] [] (fun _ => False) (by kernel_rfl) (by kernel_rfl) ?_
    have hF := Lib.hid <| show ∀ w4, Kp (fun _ => False) w1.drew w4 → Blk w4 w.heap.size _ _ from fun w4 h4 => hA.drew.kp h4 (fun h => h)
    repeat
      refine walkE_step rfl rfl rfl ?_
      apply Exists.intro
      refine ⟨fun w4 h4 => ?_, ?_, ?_⟩
      · obtain ⟨f0, f1, f2, -⟩ := (hF.out w4 h4).three
        go_wp2_with (first | (go_at_call 50; refine ((step_any 1 _).mono (R' := fun e w' => e = .returned (.int .i64 100) ∧ _ = w') fun _ _ h => h).mono ?_; rintro e w' ⟨rfl, rfl⟩) | (go_at_call 62; refine (exact_any n l u 100 _ (by omega) (by omega) (by omega) (by omega) (by omega)).mono ?_; rintro e w5 ⟨rfl, h5⟩))
        first | exact EPost.intro (Ext.refl _) rfl | exact EPost.intro (Ext.drew _) rfl | exact EPost.intro (h5) rfl
      · exact ⟨_, rfl⟩
    refine walkE_nil ?_
    refine walkT_end (fun w7 h7 hk => ?_)
    replace hE := hE.dr.thn hk (fun j hj => hj.elim)
    replace hA := hA.drew.kp hk (fun h => h)
    clear h7 hk hF
    cases hx : exa ⟨n, l, u⟩ 100
    all_goals
      go_wp2_with fail
      rw [rounds_succ]
      go_wp2_with fail
      have HX := Lib.hid hx
      clear hx
      refine wp_region_calm [0, 1, 2, 3] [] (fun _ => False) (by kernel_rfl) (by kernel_rfl) ?_
      have hF := Lib.hid <| show ∀ w4, Kp (fun _ => False) w7.drew w4 → Blk w4 w.heap.size _ _ from fun w4 h4 => hA.drew.kp h4 (fun h => h)
      repeat
        refine walkE_step rfl rfl rfl ?_
        apply Exists.intro
        refine ⟨fun w4 h4 => ?_, ?_, ?_⟩
        · obtain ⟨f0, f1, f2, -⟩ := (hF.out w4 h4).three
          go_wp2_with (first | (go_at_call 50; refine ((step_any 2 _).mono (R' := fun e w' => e = .returned (.int .i64 254) ∧ _ = w') fun _ _ h => h).mono ?_; rintro e w' ⟨rfl, rfl⟩) | (go_at_call 62; refine (exact_any n l u 254 _ (by omega) (by omega) (by omega) (by omega) (by omega)).mono ?_; rintro e w5 ⟨rfl, h5⟩))
          first | exact EPost.intro (Ext.refl _) rfl | exact EPost.intro (Ext.drew _) rfl | exact EPost.intro (h5) rfl
        · exact ⟨_, rfl⟩
      refine walkE_nil ?_
      refine walkT_end (fun w8 h8 hk => ?_)
      have hE8 := hE.dr.thn hk (fun j hj => hj.elim)
      clear h8 hk hF hA hE
      cases hy : exa ⟨n, l, u⟩ 254
      all_goals
        go_wp2_with fail
        rw [rounds_succ]
        go_wp2_with fail
        go_ret2
        exact ⟨by simp [exactV, chk, HV.out, HX.out, hy], hE8⟩
  · go_wp2_with fail
    go_ret2
    exact ⟨by simp [exactV, chk, hv], hE⟩

end Go.Proofs.YtikjooemblpnbaaDoor

/-! Slices of sizes and of units; what Same and Meet of package bluelineref01 return. -/
namespace Go.Proofs.YtikjooemblpnbaaDoor
open Go.RowKit

/-- A slice whose elements are single cells. -/
def Sl1 (W : World) (v : Value) (l : List Value) : Prop :=
  ∃ a cap, v = .slice a l.length cap ∧ (l ≠ [] → ∃ b off, a = some ⟨b, off, none⟩ ∧ b < W.heap.size ∧ ∀ i, i < l.length → W.cell? ⟨b, off + i, none⟩ = l[i]?)

/-- A slice of sizes. -/
def SlD (W : World) (v : Value) (l : List Dm) : Prop :=
  ∃ a cap, v = .slice a l.length cap ∧ l.length ≤ 9223372036854775807 ∧ (l ≠ [] → ∃ b off, a = some ⟨b, off, none⟩ ∧ b < W.heap.size ∧
    ∀ i (h : i < l.length), W.cell? ⟨b, off + i * 3, none⟩ = some (.int .i64 l[i].n) ∧ W.cell? ⟨b, off + i * 3 + 1, none⟩ = some (.int .i64 l[i].l) ∧ W.cell? ⟨b, off + i * 3 + 2, none⟩ = some (.int .i64 l[i].u))

section
open Go
theorem neqDim (w : World) (x y z x' y' z' : Int) : (binOp .neq 23 (.agg #[.int .i64 x, .int .i64 y, .int .i64 z]) (.agg #[.int .i64 x', .int .i64 y', .int .i64 z'])).run Tryd.prog w = .ok (.bool (!(Dm.beq ⟨x, y, z⟩ ⟨x', y', z'⟩))) w := by
  have u3 := Tryd.underlying3
  have a3 := Tryd.isAgg3
  have z3 := Tryd.sizeOf3
  have hS : Tryd.prog.underlying 23 = some (.struct (Tryd.prog.fieldsOf 23)) := by kernel_rfl
  have hp : Tryd.prog.stoodInHeld 23 = false := by kernel_rfl
  rw [run_neq_struct, show (10000 : Nat) = 9999 + 1 from rfl, run_equalIn_agg w 9999 23 _ _ hS hp]
  simp only [Program.fieldsOf, Tryd.underlying23]
  go_simp
  by_cases h1 : x = x' <;> by_cases h2 : y = y' <;> by_cases h3 : z = z' <;> simp [h1, h2, h3, Dm.beq]
theorem eqlDim (w : World) (x y z x' y' z' : Int) : (binOp .eql 23 (.agg #[.int .i64 x, .int .i64 y, .int .i64 z]) (.agg #[.int .i64 x', .int .i64 y', .int .i64 z'])).run Tryd.prog w = .ok (.bool (Dm.beq ⟨x, y, z⟩ ⟨x', y', z'⟩)) w := by
  have u3 := Tryd.underlying3
  have a3 := Tryd.isAgg3
  have z3 := Tryd.sizeOf3
  have hS : Tryd.prog.underlying 23 = some (.struct (Tryd.prog.fieldsOf 23)) := by kernel_rfl
  have hp : Tryd.prog.stoodInHeld 23 = false := by kernel_rfl
  rw [run_eql_struct, show (10000 : Nat) = 9999 + 1 from rfl, run_equalIn_agg w 9999 23 _ _ hS hp]
  simp only [Program.fieldsOf, Tryd.underlying23]
  go_simp
  by_cases h1 : x = x' <;> by_cases h2 : y = y' <;> by_cases h3 : z = z' <;> simp [h1, h2, h3, Dm.beq]
end

theorem sameR_any (va vb : Value) (a b : List Dm) (w : World) (ha : SlD w va a) (hb : SlD w vb b) :
    Calls Tryd.prog 32 #[va, vb] w fun e w' => e = .returned (.bool (Dm.beqs a b)) ∧ Ext w w' := by
  obtain ⟨xa, ca, rfl, hna, ha⟩ := ha
  obtain ⟨xb, cb, rfl, hnb, hb⟩ := hb
  by_cases hl : a.length = b.length
  · have HL := Lib.hid hl
    have hl' : ((a.length : Int) != (b.length : Int)) = false := by simp [hl]
    clear hl
    have hne := neqDim
    have hgd : ∀ (x y : Operand) (xs ys : Array Value) (w : World), (eqGuard .neq 23 x y (.agg xs) (.agg ys)).run Tryd.prog w = .ok () w := fun x y xs ys w => run_eqGuard_agg w .neq _ x y xs ys (by kernel_rfl)
    go_enter Tryd.func32, Tryd.ntmps32
    go_wp2_with fail
    go_loopw [5] (fun i wr => ∃ k : Nat, k ≤ a.length ∧ i = .int .i64 k ∧ Hid (a.take k = b.take k) ∧ Ext w wr) (fun i _ => a.length - (intOf i).toNat)
    case atStart => exact ⟨0, Nat.zero_le _, rfl, Lib.hid (by simp), Ext.refl _⟩
    case round =>
      obtain ⟨k, hk, rfl, heq, hE⟩ := hrel
      by_cases hlt : k < a.length
      · have hltb : k < b.length := by rw [← HL.out]; exact hlt
        obtain ⟨ba, oa, rfl, hba, hca⟩ := ha (by intro h; simp [h] at hlt)
        obtain ⟨bb, ob, rfl, hbb, hcb⟩ := hb (by intro h; simp [h] at hltb)
        have HP := Lib.hid (hca k hlt); have HB := Lib.hid (hcb k hltb)
        have ht : a.take (k + 1) = a.take k ++ [a[k]] := List.take_succ_eq_append_getElem hlt
        have hu : b.take (k + 1) = b.take k ++ [b[k]] := List.take_succ_eq_append_getElem hltb
        have HK : Hid (a[k] = b[k] → a.take (k + 1) = b.take (k + 1)) := fun h => by rw [ht, hu, heq.out, h]
        have HN : Hid (a[k] ≠ b[k] → a ≠ b) := fun h h' => h (by subst h'; rfl)
        clear hca hcb ha hb ht hu
        generalize a[k] = x at *
        generalize b[k] = y at *
        obtain ⟨x0, x1, x2⟩ := x
        obtain ⟨y0, y1, y2⟩ := y
        dsimp only at *
        go_wp2_with fail
        refine wp_region_calm [0, 1, 2, 3, 4, 5, 6, 7, 8] [] (fun _ => False) (by kernel_rfl) (by kernel_rfl) ?_
        have hF := Lib.hid <| show ∀ w4, Kp (fun _ => False) wr.drew w4 → Ext w w4 from fun w4 h4 => hE.dr.thn h4 (fun j hj => hj.elim)
        repeat
          refine walkE_step rfl rfl rfl ?_
          apply Exists.intro
          refine ⟨fun w4 h4 => ?_, ?_, ?_⟩
          · have h5 := hF.out w4 h4; obtain ⟨p0, p1, p2⟩ := HP.out; obtain ⟨q0, q1, q2⟩ := HB.out; rw [← h5.cell (by exact hba)] at p0 p1 p2; rw [← h5.cell (by exact hbb)] at q0 q1 q2
            go_wp2_with (fail)
            exact EPost.intro (Ext.refl _) rfl
          · exact ⟨_, rfl⟩
        refine walkE_nil ?_
        refine walkT_end (fun w5 h5 hk5 => ?_)
        have hE5 := hF.out w5 hk5
        clear h5 hk5 hF
        cases hq : Dm.beq ⟨x0, x1, x2⟩ ⟨y0, y1, y2⟩
        · go_wp2_with fail
          go_ret
          exact ⟨ret_bool (Dm.beqs_false (HN.out fun h => by rw [(Dm.beq_iff _ _).2 h] at hq; cases hq)).symm, hE5⟩
        · go_wp2_with fail
          go_roundw
          case rel => exact ⟨k + 1, by omega, by go_num, Lib.hid (HK.out ((Dm.beq_iff _ _).1 hq)), hE5⟩
          case measure => simp [intOf]; omega
      · go_wp2_with fail
        go_ret
        refine ⟨ret_bool (Dm.beqs_true ?_).symm, hE⟩
        have := heq.out
        rwa [List.take_of_length_le (by omega), List.take_of_length_le (by have := HL.out; omega)] at this
  · have hl' : ((a.length : Int) != (b.length : Int)) = true := by simp; omega
    go_enter Tryd.func32, Tryd.ntmps32
    go_wp2_with fail
    go_ret
    exact ⟨ret_bool (Dm.beqs_false (fun h => hl (by rw [h]))).symm, Ext.refl _⟩

end Go.Proofs.YtikjooemblpnbaaDoor

/-! What Redraw of package bluelineref01 returns. -/
namespace Go.Proofs.YtikjooemblpnbaaDoor
open Go.RowKit

/-- A slice of units. -/
def SlU (W : World) (v : Value) (l : List Int) : Prop :=
  ∃ a cap, v = .slice a l.length cap ∧ l.length ≤ 9223372036854775807 ∧ (l ≠ [] → ∃ b off, a = some ⟨b, off, none⟩ ∧ b < W.heap.size ∧ ∀ i (h : i < l.length), W.cell? ⟨b, off + i, none⟩ = some (.int .u8 l[i]))

theorem SlU.ext {W W' : World} {v : Value} {l : List Int} (h : SlU W v l) (he : Ext W W') : SlU W' v l := by
  obtain ⟨a, cap, h1, hn, h2⟩ := h
  refine ⟨a, cap, h1, hn, fun hl => ?_⟩
  obtain ⟨b, off, h3, h4, h5⟩ := h2 hl
  exact ⟨b, off, h3, Nat.lt_of_lt_of_le h4 he.size, fun i hi => (he.cell (by exact h4)).trans (h5 i hi)⟩

theorem redr_drop (c : Dm) (l : List Int) (k : Nat) (h : k < l.length) : redr c (l.drop k) = if agnOk c (stp l[k]) = true then redr (agn c (stp l[k])) (l.drop (k + 1)) else none := by
  rw [List.drop_eq_getElem_cons h]; rfl

set_option maxHeartbeats 2000000 in
theorem redrawR_any (d : Dm) (vu : Value) (l : List Int) (w : World) (hu : SlU w vu l) :
    Calls Tryd.prog 19 #[.agg #[.int .i64 d.n, .int .i64 d.l, .int .i64 d.u], vu] w fun e w' =>
      e = .returned (.tuple #[.agg #[.int .i64 (redraw d l).1.n, .int .i64 (redraw d l).1.l, .int .i64 (redraw d l).1.u], .int .i64 (redraw d l).2]) ∧ Ext w w' := by
  obtain ⟨xa, ca, rfl, hna, ha⟩ := hu
  obtain ⟨n, m, u⟩ := d
  dsimp only
  go_enter Tryd.func19, Tryd.ntmps19
  go_wp2_with fail
  refine (dimD ⟨n, m, u⟩ _).mono ?_
  rintro e w1 ⟨rfl, h1⟩
  obtain ⟨hA, hR⟩ := blk2 w [.int .i64 n, .int .i64 m, .int .i64 u] [.int .i64 0, .int .i64 0, .int .i64 0] _ _ h1
  have hE := ext2 _ _ _ h1
  clear h1
  by_cases hv : vd ⟨n, m, u⟩ = true
  · by_cases hm : 20 < l.length
    · obtain ⟨r0, r1, r2, r3, r4, r5, r6⟩ := hR.three
      have hm' : (20 : Int) < (l.length : Int) := by omega
      go_wp2_with fail
      refine bodyPost_ret (v := .tuple #[.agg #[.int .i64 0, .int .i64 0, .int .i64 0], .int .i64 4]) ?_ rfl ⟨by simp [redraw, hv, hm, Dm.zero], (by repeat (first | exact hE | exact Ext.refl _ | apply Ext.al | apply Ext.dr | refine Ext.sc (by first | omega | (simp; done) | (simp; omega)) ?_ | assumption))⟩
      simp [results, Tryd.results19, go_sem, *]
    · have hm' : ¬ (20 : Int) < (l.length : Int) := by omega
      go_wp2_with fail
      have HV := Lib.hid hv
      clear hv
      go_loop [6] (fun i => ∃ k : Nat, k ≤ l.length ∧ i = .int .i64 k ∧ Hid (∀ j (h : j < l.length), j < k → ¬ stp l[j] = 0)) (fun i => l.length - (intOf i).toNat)
      case atStart => exact ⟨0, Nat.zero_le _, rfl, Lib.hid (fun j _ h => by omega)⟩
      case round =>
        obtain ⟨k, hk, rfl, hall⟩ := hrel
        by_cases hlt : k < l.length
        · obtain ⟨ba, oa, rfl, hba, hca⟩ := ha (by intro h; simp [h] at hlt)
          have hca1 := (hE.cell (p := ⟨ba, oa + k, none⟩) hba).trans (hca k hlt)
          have HC := Lib.hid hca
          have HT : Hid (∀ x, x = l[k] → ¬ stp x = 0 → ∀ j (h : j < l.length), j < k + 1 → ¬ stp l[j] = 0) := fun x hx h0 j hj hjk => by
            rcases Nat.lt_or_ge j k with h | h
            · exact hall.out j hj h
            · obtain rfl : j = k := by omega
              rwa [← hx]
          have HF : Hid (∀ x, x = l[k] → stp x = 0 → l.any (fun k => decide (stp k = 0)) = true) := fun x hx h0 => List.any_eq_true.2 ⟨l[k], List.getElem_mem hlt, by rw [← hx]; simpa using h0⟩
          clear hca ha
          obtain ⟨x, hx⟩ : ∃ x, x = l[k] := ⟨_, rfl⟩
          rw [← hx] at hca1
          replace HT := Lib.hid (HT.out x hx)
          replace HF := Lib.hid (HF.out x hx)
          clear hx
          have hlt' : (k : Int) < (l.length : Int) := by omega
          by_cases hs : stp x = 0
          · have HS := Lib.hid hs
            have hs' : (stp x == 0) = true := by simpa using hs
            clear hs
            obtain ⟨r0, r1, r2, r3, r4, r5, r6⟩ := hR.three
            go_wp2_with (go_at_call 50; refine (step_any x _).mono ?_; rintro e w2 ⟨rfl, rfl⟩)
            refine bodyPost_ret (v := .tuple #[.agg #[.int .i64 0, .int .i64 0, .int .i64 0], .int .i64 11]) ?_ rfl ⟨by have := HF.out HS.out; simp [redraw, HV.out, hm, this, Dm.zero], (by repeat (first | exact hE | exact Ext.refl _ | apply Ext.al | apply Ext.dr | refine Ext.sc (by first | omega | (simp; done) | (simp; omega)) ?_ | assumption))⟩
            simp [results, Tryd.results19, go_sem, *]
          · have HS := Lib.hid hs
            have hs' : (stp x == 0) = false := by simpa using hs
            clear hs
            go_wp2_with (go_at_call 50; refine (step_any x _).mono ?_; rintro e w2 ⟨rfl, rfl⟩)
            go_round
            case rel => exact ⟨k + 1, by omega, by go_num, Lib.hid (HT.out HS.out)⟩
            case measure => simp [intOf]; omega
        · have hlt' : ¬ (k : Int) < (l.length : Int) := by omega
          have hall' : Hid (∀ j (h : j < l.length), ¬ stp l[j] = 0) := fun j h => hall.out j h (by omega)
          have hany : Hid (l.any (fun k => decide (stp k = 0)) = false) := by
            show _ = _
            rw [List.any_eq_false]
            intro x hx
            obtain ⟨j, hj, rfl⟩ := List.getElem_of_mem hx
            simpa using hall'.out j hj
          clear hall
          go_wp2_with fail
          have hV : Hid (redraw ⟨n, m, u⟩ l = match redr ⟨n, m, u⟩ l with | some x => (x, 0) | none => (Dm.zero, 6)) := by
            show _ = _
            simp only [redraw, HV.out, hm, hany.out]
            simp
            rfl
          go_loopw [7] (fun i wr => ∃ (q : Nat) (c : Dm), q ≤ l.length ∧ i = .int .i64 q ∧ Blk wr w.heap.size [.int .i64 c.n, .int .i64 c.l, .int .i64 c.u] 23 ∧ Hid (vd c = true) ∧
              Hid (redr ⟨n, m, u⟩ l = redr c (l.drop q)) ∧ Blk wr (w.heap.size + 1) [.int .i64 0, .int .i64 0, .int .i64 0] 23 ∧ Ext w wr) (fun i _ => l.length - (intOf i).toNat)
          case atStart => exact ⟨0, ⟨n, m, u⟩, Nat.zero_le _, rfl, hA, HV, Lib.hid rfl, hR, hE⟩
          case round =>
            clear hA hE hR
            obtain ⟨q, c, hq, rfl, hA, hvc, hrd, hR, hE⟩ := hrel
            obtain ⟨c0, c1, c2⟩ := c
            dsimp only at *
            by_cases hlq : q < l.length
            · obtain ⟨ba, oa, rfl, hba, hca⟩ := ha (by intro h; simp [h] at hlq)
              have hca1 := hca q hlq
              have hs0 := hall'.out q hlq
              have hrd' := hrd.out
              rw [redr_drop _ _ _ hlq] at hrd'
              obtain ⟨x, hx⟩ : ∃ x, x = l[q] := ⟨_, rfl⟩
              rw [← hx] at hca1 hs0 hrd'
              have HC := Lib.hid hca1
              have HD := Lib.hid hrd'
              obtain ⟨s0, s1⟩ := stp_of hs0
              clear hca1 hs0 hrd' hx hca ha hrd
              have hlq' : (q : Int) < (l.length : Int) := by omega
              have hlq0 : (0 : Int) ≤ (q : Int) := by omega
              go_wp2_with fail
              refine wp_region_calm [0, 1, 2, 3, 4, 5, 6, 7, 8, 9] [10, 11, 12] (fun k => wr.heap.size ≤ k) (by kernel_rfl) (by kernel_rfl) ?_
              have hF := Lib.hid <| show ∀ w4, Kp (fun k => wr.heap.size ≤ k) wr.drew w4 → Blk w4 w.heap.size _ _ ∧ w4.cell? ⟨ba, oa + q, none⟩ = _ from fun w4 h4 => ⟨hA.drew.kp h4 (by have := hA.lt; omega), ((h4.cell (by have := hE.size; simp; omega) (by have := hE.size; simp; omega)).trans (hE.cell (by exact hba))).trans HC.out⟩
              repeat
                refine walkE_step rfl rfl rfl ?_
                apply Exists.intro
                refine ⟨fun w4 h4 => ?_, ?_, ?_⟩
                · obtain ⟨hA4, hc4⟩ := hF.out w4 h4; obtain ⟨f0, f1, f2, -⟩ := hA4.three
                  go_wp2_with (first | (go_at_call 50; refine (step_any x _).mono ?_; rintro e w' ⟨rfl, rfl⟩) | (go_at_call 51; refine (again_any c0 c1 c2 (stp x) _ hvc.out s0 s1).mono ?_; rintro e w5 ⟨rfl, h5⟩))
                  first | exact EPost.intro (Ext.refl _) rfl | exact EPost.intro (Ext.drew _) rfl | exact EPost.intro (h5) rfl
                · exact ⟨_, rfl⟩
              refine walkE_nil ?_
              refine walkT_cons rfl (fun w4 h4 => ?_)
              go_wp2_with fail
              refine ⟨Kp.alloc _ _, ?_⟩
              refine walkT_cons rfl (fun w5 h5 => ?_)
              have hb := (Blk.new w4 [.int .i64 0, .int .i64 0, .int .i64 0] 23).ext h5
              obtain ⟨g0, g1, g2, g3, g4, g5, g6⟩ := hb.three
              have hz : wr.heap.size ≤ w4.heap.size := by have := h4.size; simpa using this
              go_wp2_with fail
              refine ⟨(((Kp.refl _ _).setCell (by first | omega | (simp; done) | (simp; omega)) _).setCell (by first | omega | (simp; done) | (simp; omega)) _).setCell (by first | omega | (simp; done) | (simp; omega)) _, ?_⟩
              clear g0 g1 g2 g3 g4 g5
              refine walkT_cons rfl (fun w6 h6 => ?_)
              go_wp2_with fail
              refine ⟨Kp.refl _ _, ?_⟩
              refine walkT_end (fun w7 h7 hk => ?_)
              have hb7 := ((((hb.set 0 _).set 1 _).set 2 _).ext h6).ext h7
              simp only [List.set_cons_zero, List.set_cons_succ] at hb7
              have hA7 := hA.drew.kp hk (by have := hA.lt; omega)
              have hR7 := hR.drew.kp hk (by have := hR.lt; omega)
              have hE7 := hE.dr.thn hk (fun j hj => by have := hE.size; omega)
              generalize w4.heap.size = b at *
              have hzb : w.heap.size + 1 < b := by have := hR.lt; omega
              clear h7 hk hb h6 h5 h4 hF hR hA hE
              obtain ⟨b0, b1, b2, -, -, -, b3⟩ := hb7.three
              cases hc : agnOk ⟨c0, c1, c2⟩ (stp x)
              · obtain ⟨r0, r1, r2, r3, r4, r5, r6⟩ := hR7.three
                go_wp2_with fail
                refine bodyPost_ret (v := .tuple #[.agg #[.int .i64 0, .int .i64 0, .int .i64 0], .int .i64 6]) ?_ rfl ⟨by rw [hV.out, HD.out]; simp [hc, Dm.zero], (by repeat (first | exact hE | exact Ext.refl _ | apply Ext.al | apply Ext.dr | refine Ext.sc (by first | omega | (simp; done) | (simp; omega)) ?_ | assumption))⟩
                simp [results, Tryd.results19, go_sem, *]
              · obtain ⟨r0, r1, r2, r3, r4, r5, r6⟩ := hA7.three
                go_wp2_with fail
                go_roundw
                case rel =>
                  refine ⟨q + 1, agn ⟨c0, c1, c2⟩ (stp x), by omega, by go_num, ?_, Lib.hid (agn_vd _ _ hvc.out s0 s1 hc), ?_, ?_, (by repeat (first | exact hE | exact Ext.refl _ | apply Ext.al | apply Ext.dr | refine Ext.sc (by first | omega | (simp; done) | (simp; omega)) ?_ | assumption))⟩
                  · simpa using ((hA7.set 0 _).set 1 _).set 2 _
                  · have := HD.out; rw [if_pos hc] at this; exact this
                  · exact ((hR7.set_other (by first | omega | (simp; done) | (simp; omega)) _).set_other (by first | omega | (simp; done) | (simp; omega)) _).set_other (by first | omega | (simp; done) | (simp; omega)) _
                case measure => simp [intOf]; omega
            · have hlq' : ¬ (q : Int) < (l.length : Int) := by omega
              have HD : Hid (redr ⟨n, m, u⟩ l = some ⟨c0, c1, c2⟩) := by
                show _ = _
                rw [hrd.out, List.drop_of_length_le (by omega)]
                rfl
              obtain ⟨a0, a1, a2, -⟩ := hA.three
              obtain ⟨r0, r1, r2, r3, r4, r5, r6⟩ := hR.three
              go_wp2_with fail
              refine bodyPost_ret (v := .tuple #[.agg #[.int .i64 c0, .int .i64 c1, .int .i64 c2], .int .i64 0]) ?_ rfl ⟨by rw [hV.out, HD.out], (by repeat (first | exact hE | exact Ext.refl _ | apply Ext.al | apply Ext.dr | refine Ext.sc (by first | omega | (simp; done) | (simp; omega)) ?_ | assumption))⟩
              simp [results, Tryd.results19, go_sem, *]
  · obtain ⟨r0, r1, r2, r3, r4, r5, r6⟩ := hR.three
    go_wp2_with fail
    refine bodyPost_ret (v := .tuple #[.agg #[.int .i64 0, .int .i64 0, .int .i64 0], .int .i64 10]) ?_ rfl ⟨by simp [redraw, hv, Dm.zero], (by repeat (first | exact hE | exact Ext.refl _ | apply Ext.al | apply Ext.dr | refine Ext.sc (by first | omega | (simp; done) | (simp; omega)) ?_ | assumption))⟩
    simp [results, Tryd.results19, go_sem, *]

end Go.Proofs.YtikjooemblpnbaaDoor
