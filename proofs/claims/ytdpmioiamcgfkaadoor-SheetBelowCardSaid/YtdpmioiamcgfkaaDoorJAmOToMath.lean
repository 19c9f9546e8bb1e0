/-
  The abstract machine: a range over a map whose values are looked at, one by one: if one is greater than six the function returns.
-/
import Derived.Test.YtdpmioiamcgfkaaDoorJAmHToAmN
import Derived.Maps.RangeRun
import Derived.RowKit
set_option linter.unusedSimpArgs false
set_option linter.unusedVariables false
namespace Go.Proofs.YtdpmioiamcgfkaaDoor
open Go.RowKit

def isO (o : Oper) (d : Nat) (f : Op → Bool) : Bool := decide (o.dst = some d) && o.guard.isNone && f o.op
def tmpB (n : Nat) : Operand → Bool
  | .tmp m => m == n
  | _ => false
/-- The code behind the test. -/
def opnRet : RCode := .seq (.reg 39 false [{ d := some 2, op := .mov (.c .nilp) }, { d := some 3, op := .mov (.c (.int .i64 20)) }]) .ret
def opnR (P : Program) (N : Nat) : Code → Bool
  | .seq (.region _ ops1 false) (.block b1 (.loop (.seq (.region _ ops2 false) (.seq (.cond t1 .skip (.exit b2)) (.block _ (.seq (.region _ ops3 false) (.seq (.region _ ops4 false) (.cond t2 c5 .skip)))))))) =>
    b1 == b2 && tmpB 116 t1 && tmpB 120 t2 && decide (120 < N) && okCode P N c5 opnRet && (match ops1.toList, ops2.toList, ops3.toList, ops4.toList with
    | [o1, o2], [o3, o4], [o5, o6, o7], [o8, o9] =>
      isO o1 113 (fun o => match o with | .move x | .assign x => tmpB 12 x | _ => false) && isO o2 114 (fun o => match o with | .range t x => tmpB 113 x && (match P.underlying t with | some (.map ..) => true | _ => false) | _ => false) &&
      isO o3 115 (fun o => match o with | .next x false => tmpB 114 x | _ => false) && isO o4 116 (fun o => match o with | .extract x 0 => tmpB 115 x | _ => false) &&
      isO o5 117 (fun o => match o with | .entry x => tmpB 114 x | _ => false) && isO o6 118 (fun o => match o with | .extract x 1 => tmpB 117 x | _ => false) && isO o7 15 (fun o => match o with | .move x | .assign x => tmpB 118 x | _ => false) &&
      isO o8 119 (fun o => match o with | .move x | .assign x => tmpB 15 x | _ => false) && isO o9 120 (fun o => match o with | .binOp .gtr t x (.const (.int .i64 6)) _ => tmpB 119 x && scalarT P t | _ => false)
    | _, _, _, _ => false)
  | _ => false

/-- The temporaries that the loop sets. -/
def opnT : List Nat := [15, 113, 114, 115, 116, 117, 118, 119, 120]

section
variable {P : Program} {R : Run} {st : St} {a : Act} {W : World} {κ : Nat → Option (Nat × Nat)}

theorem SK.retmp (h : SK R st a W κ) {a' : Act} (hs : a'.tmps.size = a.tmps.size) (hd : a'.defers = a.defers) (ht : ∀ n x, st.tmp n = some x → a'.tmps.getD n Go.undef = a.tmps.getD n Go.undef) : SK R st a' W κ :=
  ⟨by rw [hd]; exact h.defers, hs.trans h.size, fun n x hx => by rw [ht n x hx]; exact h.tm n x hx, h.obj, h.dom, h.inj, h.low, h.apart, h.kp, h.gr, h.mono, h.ent⟩

theorem put_get {a : Act} {d n : Nat} {v : Value} (hd : d < a.tmps.size) : (a.put (some d) v).tmps.getD n Go.undef = if d = n then v else a.tmps.getD n Go.undef := by
  show (a.tmps.setIfInBounds d v).getD n Go.undef = _
  by_cases e : d = n
  · subst e; simp [Array.getD, hd]
  · simp only [Array.getD_eq_getD_getElem?, Array.getElem?_setIfInBounds, if_neg e]
theorem put_size {a : Act} {d : Nat} {v : Value} : (a.put (some d) v).tmps.size = a.tmps.size := by simp [Act.put]

/-- One operation that yields a value. -/
theorem op_val {rd : Option Nat} {m : Nat} {ops : Array Oper} {j d : Nat} {o : Oper} {f : Op → Bool} {K : Act → World → Prop} {Q : Exit → Act → World → Prop} {v : Value} {W' : World} (ho : ops[j]? = some o) (hk : isO o d f = true) (hnd : ∀ c, o.op ≠ .defer c)
    (hr : (execOp a.eval o).run P W = .ok (.value v) W') (hK : K (a.put (some d) v) W') : wpOpIn (FW rd) m P ops Q j K a W := by
  simp only [isO, Bool.and_eq_true, decide_eq_true_eq, Option.isNone_iff_eq_none] at hk
  unfold wpOpIn
  simp only [ho]
  have hw : Region.wanted o (yielded ops a.tmps) = true := by unfold Region.wanted; rw [hk.1.2]
  rw [if_pos hw]
  refine ⟨fun _ _ => trivial, ?_⟩
  rw [Oper.semAt_eq _ _ _ hnd, hr]
  show K (a.put o.dst v) W'
  rw [hk.1.1]; exact hK


theorem tmpB_spec {n : Nat} {x : Operand} (h : tmpB n x = true) : x = .tmp n := by
  cases x <;> simp [tmpB] at h
  rw [h]
theorem eval_tmp (a : Act) (n : Nat) : a.eval (.tmp n) = a.tmps.getD n Go.undef := rfl
theorem isO_op {o : Oper} {d : Nat} {f : Op → Bool} (h : isO o d f = true) : f o.op = true := by
  simp only [isO, Bool.and_eq_true] at h; exact h.2


/-- Only these temporaries are new. -/
def KeptT (a a' : Act) : Prop := a'.tmps.size = a.tmps.size ∧ a'.defers = a.defers ∧ ∀ n, n ∉ opnT → a'.tmps.getD n Go.undef = a.tmps.getD n Go.undef
theorem KeptT.put {a a' : Act} (h : KeptT a a') {d : Nat} (hd : d ∈ opnT) (v : Value) : KeptT a (a'.put (some d) v) := by
  refine ⟨put_size.trans h.1, h.2.1, fun n hn => ?_⟩
  rw [← h.2.2 n hn]
  show (a'.tmps.setIfInBounds d v).getD n Go.undef = _
  have e : d ≠ n := by rintro rfl; exact hn hd
  simp only [Array.getD_eq_getD_getElem?, Array.getElem?_setIfInBounds, if_neg e]

theorem SK.iter (h : SK R st a W κ) {r bm since c c' : Nat} {seen seen' : Array Nat} (hr : W.heap[r]? = some (.mapIter (some bm) since seen c)) (hr0 : R.W0.heap.size ≤ r) : SK R st a (W.putObj r (.mapIter (some bm) since seen' c')) κ := by
  refine h.odd (.put hr trivial) rfl rfl rfl (fun b hb => World.putObj_heap_other (by omega)) rfl (h.defers.of fun x hx => ?_)
  rw [World.putObj_heap_other (by rintro rfl; rw [hr] at hx; cases hx)]
  exact hx

set_option maxRecDepth 4000 in
theorem AR_opn {Φ : Exit → St → Prop} {kvs : List (Int × Int)} (h12 : st.tmp 12 = some (.vmap (kvs.map fun p => (.int .i64 p.1, .int .i64 p.2)))) (hfree : ∀ n ∈ opnT, st.tmp n = none)
    (hok : (∀ p ∈ kvs, p.2 ≤ 6) → Φ .normal st) (hbad : (∃ p ∈ kvs, 6 < p.2) → AR P R opnRet st fun e s => e = .ret ∧ Φ .ret s) : AR P R (.raw (opnR P)) st Φ := by
  intro c hc m a W hs
  have hc : opnR P R.N c = true := by cases c <;> exact hc
  unfold opnR at hc
  split at hc <;> try (simp at hc; done)
  rename_i i1 ops1 b1 i2 ops2 t1 b2 b3 i3 ops3 i4 ops4 t2 c5 hcS
  simp only [Bool.and_eq_true, beq_iff_eq, decide_eq_true_eq] at hc
  obtain ⟨⟨⟨⟨⟨rfl, ht1⟩, ht2⟩, hN⟩, hc5⟩, hc⟩ := hc
  obtain rfl := tmpB_spec ht1
  obtain rfl := tmpB_spec ht2
  split at hc <;> try (simp at hc; done)
  rename_i o1 o2 o3 o4 o5 o6 o7 o8 o9 e1 e2 e3 e4
  obtain rfl : ops1 = #[o1, o2] := by rw [← Array.toList_inj]; exact e1
  obtain rfl : ops2 = #[o3, o4] := by rw [← Array.toList_inj]; exact e2
  obtain rfl : ops3 = #[o5, o6, o7] := by rw [← Array.toList_inj]; exact e3
  obtain rfl : ops4 = #[o8, o9] := by rw [← Array.toList_inj]; exact e4
  simp only [Bool.and_eq_true] at hc
  obtain ⟨⟨⟨⟨⟨⟨⟨⟨k1, k2⟩, k3⟩, k4⟩, k5⟩, k6⟩, k7⟩, k8⟩, k9⟩ := hc
  obtain ⟨κ, hk⟩ := hs
  have hsz : a.tmps.size = R.N := hk.size
  -- the map
  have hv := hk.tm 12 _ h12
  obtain ⟨b, es, clock, hmap, ho, hst, hn, hvals⟩ : ∃ b es clock, a.tmps.getD 12 Go.undef = .map (some b) ∧ W.heap[b]? = some (.map es clock) ∧ MapKept.Stamped es clock ∧ es.size = kvs.length ∧ ∀ (i : Nat) (p : Int × Int) (e : MapEntry), kvs[i]? = some p → es[i]? = some e → e.val = .int .i64 p.2 := by
    generalize hvv : a.tmps.getD 12 Go.undef = v at hv
    cases hv with
    | pv hv =>
      cases hv with
      | vmap _ b es clock hb hM ho hs hn hk' hv' =>
        refine ⟨b, es, clock, rfl, ho, hs, by simpa using hn, fun i p e hi he => ?_⟩
        have := hv' i (.int .i64 p.1) (.int .i64 p.2) e (by rw [List.getElem?_map, hi]; rfl) he
        generalize e.val = w at this
        cases this; rfl
  have hval : ∀ e ∈ es.toList, ∃ p ∈ kvs, e.val = .int .i64 p.2 := fun e he => by
    obtain ⟨i, hi, rfl⟩ := List.getElem_of_mem he
    simp only [Array.length_toList] at hi
    have hi2 : i < kvs.length := by omega
    exact ⟨kvs[i], List.getElem_mem _, hvals i _ _ (List.getElem?_eq_getElem hi2) (by simp [hi])⟩
  have hval2 : ∀ p ∈ kvs, ∃ e ∈ es.toList, e.val = .int .i64 p.2 := fun p hp => by
    obtain ⟨i, hi, rfl⟩ := List.getElem_of_mem hp
    have hi2 : i < es.size := by omega
    exact ⟨es[i], by simp, hvals i _ _ (List.getElem?_eq_getElem hi) (by simp [hi2])⟩
  -- the first region
  have e1o := isO_op k1
  have e2o := isO_op k2
  have run1 : (execOp a.eval o1).run P W = .ok (.value (.map (some b))) W := by
    split at e1o <;> try (simp at e1o; done)
    all_goals
      rename_i x hx
      obtain rfl := tmpB_spec e1o
      simp only [execOp, hx, Sem.run_bind, Sem.run_pure, Result.andThen_ok, eval_tmp, hmap]
  have nd1 : ∀ c, o1.op ≠ .defer c := fun c e => by rw [e] at e1o; simp at e1o
  have nd2 : ∀ c, o2.op ≠ .defer c := fun c e => by rw [e] at e2o; simp at e2o
  refine wpIn_seq (wpIn_region ?_)
  show wpOpsIn (FW R.rd) m P #[o1, o2] _ [0, 1] a W
  rw [wpOpsIn_cons]
  refine op_val rfl k1 nd1 run1 ?_
  rw [wpOpsIn_cons]
  have run2 : ∃ W1, W1 = W.alloc (.mapIter (some b) clock #[] clock) ∧ (execOp (a.put (some 113) (.map (some b))).eval o2).run P W = .ok (.value (.pointer (some ⟨W.heap.size, 0, none⟩))) W1 := by
    split at e2o <;> try (simp at e2o; done)
    rename_i t x hx
    simp only [Bool.and_eq_true] at e2o
    obtain rfl := tmpB_spec e2o.1
    have e2p := e2o.2
    split at e2p <;> try (simp at e2p; done)
    rename_i kt et hu
    refine ⟨_, rfl, ?_⟩
    have hr := run_range_map (P := P) W t kt et b es clock hu ho
    simp only [execOp, hx, Sem.run_bind, eval_tmp, put_get (show 113 < a.tmps.size by omega), if_true, hr, Result.andThen_ok, Sem.run_pure]
  obtain ⟨W1, hW1, run2⟩ := run2
  refine op_val rfl k2 nd2 run2 ?_
  -- the loop
  have hbW : b < W.heap.size := (Array.getElem?_eq_some_iff.1 ho).1
  have hk1 : SK R st a W1 κ := by rw [hW1]; exact hk.grow (Ext.al (Ext.refl W))
  have ho1 : W1.heap[b]? = some (.map es clock) := by rw [hW1]; exact (heap_alloc_old W _ hbW).trans ho
  have hr1 : W1.heap[W.heap.size]? = some (.mapIter (some b) clock #[] clock) := by rw [hW1]; exact heap_alloc_new W _
  have hr0 : R.W0.heap.size ≤ W.heap.size := hk.kp.size
  obtain ⟨r, hr⟩ : ∃ r, r = W.heap.size := ⟨_, rfl⟩
  rw [← hr] at hr1 hr0
  have hK0 : KeptT a ((a.put (some 113) (.map (some b))).put (some 114) (.pointer (some ⟨W.heap.size, 0, none⟩))) := .put (.put ⟨rfl, rfl, fun _ _ => rfl⟩ (by decide) _) (by decide) _
  have hp0 : ((a.put (some 113) (.map (some b))).put (some 114) (.pointer (some ⟨W.heap.size, 0, none⟩))).tmps.getD 114 Go.undef = .pointer (some ⟨r, 0, none⟩) := by
    rw [put_get (by rw [put_size]; omega), hr]; rfl
  generalize (a.put (some 113) (.map (some b))).put (some 114) (.pointer (some ⟨W.heap.size, 0, none⟩)) = a1 at hK0 hp0 ⊢
  have hne : ∀ {n : Nat} {x : AV}, st.tmp n = some x → n ∉ opnT := fun hx hn => by rw [hfree _ hn] at hx; cases hx
  have back : ∀ {a' : Act} {W' : World}, KeptT a a' → SK R st a W' κ → SK R st a' W' κ := fun hK h => h.retmp hK.1 hK.2.1 fun n x hx => hK.2.2 n (hne hx)
  have hsz' : ∀ {a' : Act}, KeptT a a' → a'.tmps.size = R.N := fun hK => hK.1.trans hsz
  show (Code.block _ _).wpIn _ _ _ _ _ _
  refine wpIn_block (wpIn_loop_ghost (fun n a' W' => ∃ seen c0, n = (leftOf es seen).size ∧ KeptT a a' ∧ a'.tmps.getD 114 Go.undef = .pointer (some ⟨r, 0, none⟩) ∧ SK R st a W' κ ∧
    W'.heap[r]? = some (.mapIter (some b) clock seen c0) ∧ W'.heap[b]? = some (.map es clock) ∧ clock ≤ c0 ∧ ∀ e ∈ es.toList, seen.contains e.born = true → ∃ i, e.val = .int .i64 i ∧ i ≤ 6) _ ⟨#[], clock, rfl, hK0, hp0, hk1, hr1, ho1, Nat.le_refl _, by simp⟩ ?_)
  rintro n a2 W2 ⟨seen, c0, rfl, hK, hp, hk2, hri, hmb, hcl, hseen⟩
  have hN2 := hsz' hK
  refine wpIn_seq (wpIn_region ?_)
  show wpOpsIn (FW R.rd) m P #[o3, o4] _ [0, 1] a2 W2
  have e3o := isO_op k3
  have e4o := isO_op k4
  have e5o := isO_op k5
  have e6o := isO_op k6
  have e7o := isO_op k7
  have e8o := isO_op k8
  have e9o := isO_op k9
  have nd3 : ∀ c, o3.op ≠ .defer c := fun c e => by rw [e] at e3o; simp at e3o
  have nd4 : ∀ c, o4.op ≠ .defer c := fun c e => by rw [e] at e4o; simp at e4o
  have nd5 : ∀ c, o5.op ≠ .defer c := fun c e => by rw [e] at e5o; simp at e5o
  have nd6 : ∀ c, o6.op ≠ .defer c := fun c e => by rw [e] at e6o; simp at e6o
  have nd7 : ∀ c, o7.op ≠ .defer c := fun c e => by rw [e] at e7o; simp at e7o
  have nd8 : ∀ c, o8.op ≠ .defer c := fun c e => by rw [e] at e8o; simp at e8o
  have nd9 : ∀ c, o9.op ≠ .defer c := fun c e => by rw [e] at e9o; simp at e9o
  -- the step
  have step : ((leftOf es seen).size = 0 ∧ (execOp a2.eval o3).run P W2 = .ok (.value (.tuple #[.bool false])) W2) ∨
      ∃ e ∈ (leftOf es seen).toList, ∃ W3, (W3 = W2 ∨ W3 = W2.drew) ∧ (execOp a2.eval o3).run P W2 = .ok (.value (.tuple #[.bool true, e.key, e.val])) (W3.putObj r (.mapIter (some b) clock (seen.push e.born) clock)) := by
    split at e3o <;> try (simp at e3o; done)
    rename_i x hx
    obtain rfl := tmpB_spec e3o
    rcases run_next_at (P := P) W2 o3.type r b clock c0 seen es clock hri hmb (fun x hx => hst.1 x hx) hcl with ⟨h0, hrun⟩ | ⟨e, he, W3, hW3, hrun⟩
    · refine .inl ⟨h0, ?_⟩
      simp only [execOp, hx, Sem.run_bind, eval_tmp, hp, hrun, Result.andThen_ok, Sem.run_pure]
    · refine .inr ⟨e, he, W3, hW3, ?_⟩
      simp only [execOp, hx, Sem.run_bind, eval_tmp, hp, hrun, Result.andThen_ok, Sem.run_pure]
      rfl
  have run4 : ∀ (a' : Act) (W' : World) (t : Bool) (vs : List Value), a'.tmps.getD 115 Go.undef = .tuple (.bool t :: vs).toArray → (execOp a'.eval o4).run P W' = .ok (.value (.bool t)) W' := by
    intro a' W' t vs h
    split at e4o <;> try (simp at e4o; done)
    rename_i x hx
    obtain rfl := tmpB_spec e4o
    simp [execOp, hx, Sem.run_bind, eval_tmp, h, Instr.extract]
  rcases step with ⟨h0, run3⟩ | ⟨e, he, W3, hW3, run3⟩
  · -- nothing is left
    rw [wpOpsIn_cons]
    refine op_val rfl k3 nd3 run3 ?_
    rw [wpOpsIn_cons]
    refine op_val rfl k4 nd4 (run4 _ _ false [] (by rw [put_get (by omega)]; rfl)) ?_
    have hK4 : KeptT a ((a2.put (some 115) (.tuple #[.bool false])).put (some 116) (.bool false)) := .put (.put hK (by decide) _) (by decide) _
    have hc4 : ((a2.put (some 115) (.tuple #[.bool false])).put (some 116) (.bool false)).tmps.getD 116 Go.undef = .bool false := by rw [put_get (by rw [put_size]; omega)]; rfl
    generalize (a2.put (some 115) (.tuple #[.bool false])).put (some 116) (.bool false) = a4 at hK4 hc4 ⊢
    show (Code.seq _ _).wpIn _ _ _ _ _ _
    refine wpIn_seq (wpIn_cond_false (by rw [eval_tmp]; exact hc4) (wpIn_exit ?_))
    show if b1 = b1 then _ else _
    rw [if_pos rfl]
    refine ⟨st, hok fun p hp' => ?_, κ, back hK4 hk2⟩
    obtain ⟨e, he, hv'⟩ := hval2 p hp'
    obtain ⟨i, hi, hle⟩ := hseen e he (all_seen es seen h0 e he)
    rw [hv'] at hi
    simp only [Value.int.injEq, true_and] at hi
    omega
  · -- an entry
    have hrS : W3.heap[r]? = some (.mapIter (some b) clock seen c0) := by rcases hW3 with rfl | rfl <;> exact hri
    have hbS : W3.heap[b]? = some (.map es clock) := by rcases hW3 with rfl | rfl <;> exact hmb
    have hkS : SK R st a W3 κ := by rcases hW3 with rfl | rfl; exact hk2; exact hk2.grow (Ext.dr (Ext.refl _))
    have hkI := hkS.iter (seen' := seen.push e.born) (c' := clock) hrS hr0
    have hrl : r < W3.heap.size := (Array.getElem?_eq_some_iff.1 hrS).1
    have hrI : (W3.putObj r (.mapIter (some b) clock (seen.push e.born) clock)).heap[r]? = some (.mapIter (some b) clock (seen.push e.born) clock) := World.putObj_heap_same hrl
    have hbI : (W3.putObj r (.mapIter (some b) clock (seen.push e.born) clock)).heap[b]? = some (.map es clock) := (World.putObj_heap_other (by omega)).trans hbS
    generalize W3.putObj r (.mapIter (some b) clock (seen.push e.born) clock) = W4 at hkI hrI hbI run3
    have hee := mem_left he
    rw [wpOpsIn_cons]
    refine op_val rfl k3 nd3 run3 ?_
    rw [wpOpsIn_cons]
    refine op_val rfl k4 nd4 (run4 _ _ true [e.key, e.val] (by rw [put_get (by omega)]; rfl)) ?_
    have hK4 : KeptT a ((a2.put (some 115) (.tuple #[.bool true, e.key, e.val])).put (some 116) (.bool true)) := .put (.put hK (by decide) _) (by decide) _
    have hc4 : ((a2.put (some 115) (.tuple #[.bool true, e.key, e.val])).put (some 116) (.bool true)).tmps.getD 116 Go.undef = .bool true := by rw [put_get (by rw [put_size]; omega)]; rfl
    have hp4 : ((a2.put (some 115) (.tuple #[.bool true, e.key, e.val])).put (some 116) (.bool true)).tmps.getD 114 Go.undef = .pointer (some ⟨r, 0, none⟩) := by
      rw [put_get (by rw [put_size]; omega), if_neg (by decide), put_get (by omega), if_neg (by decide), hp]
    generalize (a2.put (some 115) (.tuple #[.bool true, e.key, e.val])).put (some 116) (.bool true) = a4 at hK4 hc4 hp4 ⊢
    show (Code.seq _ _).wpIn _ _ _ _ _ _
    refine wpIn_seq (wpIn_cond_true (by rw [eval_tmp]; exact hc4) (wpIn_skip ?_))
    show (Code.block _ _).wpIn _ _ _ _ _ _
    refine wpIn_block (wpIn_seq (wpIn_region ?_))
    show wpOpsIn (FW R.rd) m P #[o5, o6, o7] _ [0, 1, 2] a4 W4
    have hN4 := hsz' hK4
    have run5 : (execOp a4.eval o5).run P W4 = .ok (.value (.tuple #[e.key, e.val])) W4 := by
      split at e5o <;> try (simp at e5o; done)
      rename_i x hx
      obtain rfl := tmpB_spec e5o
      simp only [execOp, hx, Sem.run_bind, eval_tmp, hp4, run_entry_at (P := P) W4 r b clock seen es clock e hrI hbI hee.1 hst.2.1, Result.andThen_ok, Sem.run_pure]
    rw [wpOpsIn_cons]
    refine op_val rfl k5 nd5 run5 ?_
    rw [wpOpsIn_cons]
    have hg5 : (a4.put (some 117) (.tuple #[e.key, e.val])).tmps.getD 117 Go.undef = .tuple #[e.key, e.val] := by rw [put_get (by omega)]; rfl
    have hp5 : (a4.put (some 117) (.tuple #[e.key, e.val])).tmps.getD 114 Go.undef = .pointer (some ⟨r, 0, none⟩) := by rw [put_get (by omega), if_neg (by decide), hp4]
    have hK5 : KeptT a (a4.put (some 117) (.tuple #[e.key, e.val])) := .put hK4 (by decide) _
    generalize a4.put (some 117) (.tuple #[e.key, e.val]) = a5 at hg5 hp5 hK5 ⊢
    have hN5 := hsz' hK5
    have run6 : (execOp a5.eval o6).run P W4 = .ok (.value e.val) W4 := by
      split at e6o <;> try (simp at e6o; done)
      rename_i x hx
      obtain rfl := tmpB_spec e6o
      simp [execOp, hx, Sem.run_bind, eval_tmp, hg5, Instr.extract]
    refine op_val rfl k6 nd6 run6 ?_
    rw [wpOpsIn_cons]
    have hg6 : (a5.put (some 118) e.val).tmps.getD 118 Go.undef = e.val := by rw [put_get (by omega)]; rfl
    have hp6 : (a5.put (some 118) e.val).tmps.getD 114 Go.undef = .pointer (some ⟨r, 0, none⟩) := by rw [put_get (by omega), if_neg (by decide), hp5]
    have hK6 : KeptT a (a5.put (some 118) e.val) := .put hK5 (by decide) _
    generalize a5.put (some 118) e.val = a6 at hg6 hp6 hK6 ⊢
    have hN6 := hsz' hK6
    have run7 : (execOp a6.eval o7).run P W4 = .ok (.value e.val) W4 := by
      split at e7o <;> try (simp at e7o; done)
      all_goals
        rename_i x hx
        obtain rfl := tmpB_spec e7o
        simp only [execOp, hx, Sem.run_bind, Sem.run_pure, Result.andThen_ok, eval_tmp, hg6]
    refine op_val rfl k7 nd7 run7 ?_
    have hg7 : (a6.put (some 15) e.val).tmps.getD 15 Go.undef = e.val := by rw [put_get (by omega)]; rfl
    have hp7 : (a6.put (some 15) e.val).tmps.getD 114 Go.undef = .pointer (some ⟨r, 0, none⟩) := by rw [put_get (by omega), if_neg (by decide), hp6]
    have hK7 : KeptT a (a6.put (some 15) e.val) := .put hK6 (by decide) _
    generalize a6.put (some 15) e.val = a7 at hg7 hp7 hK7 ⊢
    have hN7 := hsz' hK7
    show (Code.seq _ _).wpIn _ _ _ _ _ _
    refine wpIn_seq (wpIn_region ?_)
    show wpOpsIn (FW R.rd) m P #[o8, o9] _ [0, 1] a7 W4
    have run8 : (execOp a7.eval o8).run P W4 = .ok (.value e.val) W4 := by
      split at e8o <;> try (simp at e8o; done)
      all_goals
        rename_i x hx
        obtain rfl := tmpB_spec e8o
        simp only [execOp, hx, Sem.run_bind, Sem.run_pure, Result.andThen_ok, eval_tmp, hg7]
    rw [wpOpsIn_cons]
    refine op_val rfl k8 nd8 run8 ?_
    rw [wpOpsIn_cons]
    have hg8 : (a7.put (some 119) e.val).tmps.getD 119 Go.undef = e.val := by rw [put_get (by omega)]; rfl
    have hp8 : (a7.put (some 119) e.val).tmps.getD 114 Go.undef = .pointer (some ⟨r, 0, none⟩) := by rw [put_get (by omega), if_neg (by decide), hp7]
    have hK8 : KeptT a (a7.put (some 119) e.val) := .put hK7 (by decide) _
    generalize a7.put (some 119) e.val = a8 at hg8 hp8 hK8 ⊢
    have hN8 := hsz' hK8
    obtain ⟨p, hpk, hpv⟩ := hval e hee.1
    have run9 : (execOp a8.eval o9).run P W4 = .ok (.value (.bool (decide (6 < p.2)))) W4 := by
      split at e9o <;> try (simp at e9o; done)
      rename_i t x u hx
      simp only [Bool.and_eq_true] at e9o
      obtain rfl := tmpB_spec e9o.1
      obtain ⟨rv, hrun, hrv⟩ := aBin_sim (P := P) (op := .gtr) (t := t) (x' := .tmp 119) (y' := .const (.int .i64 6)) (E := st.env R.M κ) (W := W4) (x := .int .i64 p.2) (y := .int .i64 6) e9o.2 (.pv (.int _ _)) (.pv (.int _ _)) rfl
      have hrv := hrv.bool_inv
      subst hrv
      have hc : a8.eval (.const (.int .i64 6)) = .int .i64 6 := rfl
      have ht : a8.eval (.tmp 119) = .int .i64 p.2 := by rw [eval_tmp, hg8, hpv]
      simp only [execOp, hx, Sem.run_bind]
      rw [Sem.run_bind] at hrun
      rw [hc, ht, hrun]
      rfl
    refine op_val rfl k9 nd9 run9 ?_
    have hg9 : (a8.put (some 120) (.bool (decide (6 < p.2)))).tmps.getD 120 Go.undef = .bool (decide (6 < p.2)) := by rw [put_get (by omega)]; rfl
    have hp9 : (a8.put (some 120) (.bool (decide (6 < p.2)))).tmps.getD 114 Go.undef = .pointer (some ⟨r, 0, none⟩) := by rw [put_get (by omega), if_neg (by decide), hp8]
    have hK9 : KeptT a (a8.put (some 120) (.bool (decide (6 < p.2)))) := .put hK8 (by decide) _
    generalize a8.put (some 120) (.bool (decide (6 < p.2))) = a9 at hg9 hp9 hK9 ⊢
    show (Code.cond _ _ _).wpIn _ _ _ _ _ _
    refine wpIn_cond (by rw [eval_tmp]; exact hg9) ?_
    by_cases h6 : 6 < p.2
    · simp only [h6, decide_true, if_true]
      refine wpIn_mono (hbad ⟨p, hpk, h6⟩ c5 hc5 m a9 W4 ⟨κ, back hK9 hkI⟩) ?_
      rintro ex a' W' ⟨st', ⟨rfl, hΦ⟩, hs'⟩
      exact ⟨st', hΦ, hs'⟩
    · simp only [h6, decide_false, Bool.false_eq_true, if_false]
      refine wpIn_skip ?_
      refine ⟨_, left_shrinks es seen e he, seen.push e.born, clock, rfl, hK9, hp9, hkI, hrI, hbI, Nat.le_refl _, fun x hx hxs => ?_⟩
      rw [contains_push] at hxs
      simp only [Bool.or_eq_true, beq_iff_eq] at hxs
      rcases hxs with hxs | hxs
      · exact hseen x hx hxs
      · obtain rfl : x = e := born_inj hst.2.1 hx hee.1 hxs
        exact ⟨p.2, hpv, by omega⟩
end
end Go.Proofs.YtdpmioiamcgfkaaDoor

/-! The abstract machine: functions that return what they own. By a single list in new memory (PN), and by any objects (PB with more objects at its end). -/
namespace Go.Proofs.YtdpmioiamcgfkaaDoor
open Go.RowKit

/-- The end of a function that keeps objects which 'ok' does not name. -/
def FinO (ok : Nat → Bool) (rs : List RRes) (r : AV) (objs' : List (Nat × AObj)) : Exit → St → Prop
  | .normal, st | .ret, st => ∃ xs, evRess st rs = some xs ∧ r = tupV (xs.map (frzA ok ⟨iniT 0 xs, st.o⟩)) ∧ (frzSt ok ⟨iniT 0 xs, st.o⟩).o = objs'
  | _, _ => False

section
variable {P : Program}
theorem PBo_of (ok : Nat → Bool) (hok : ∀ k, ok k = true → k < 1000) {G : Nat → Option (List AV)} {f : FuncId} {fn : Func} {c : Code} {rc : RCode} {rs : List RRes} {objs objs' : List (Nat × AObj)} {args : List AV} {r : AV} (hf : P.funcs[f]? = some fn) (hb : fn.body = some c) (he : entB P f = true)
    (hc : okCode P fn.ntmps c rc = true) (hrs : allB2 (okRes P) fn.results.toList rs = true) (hn : args.length ≤ fn.ntmps)
    (h : ∀ R : Run, R.N = fn.ntmps → R.G = G → R.Top → AR P R rc ⟨iniT 0 args, objs⟩ (FinO ok rs r objs')) : PB P G f objs args r objs' := by
  refine ⟨he, fun R0 W κ vs hG hN hW hX hE hk hsz hvs => ?_⟩
  refine callsIn_wide.1 (callsIn_of_wp_marks (F := FW none) (n := 1) hf hb trivial ?_)
  let R : Run := { R0 with N := fn.ntmps, rd := none, nm := false }
  have hD0 : R0.D = [] := by
    obtain ⟨cs, e, -⟩ := hk.defers
    exact (List.append_eq_nil_iff.1 e.symm).2
  have h0 : SK R ⟨iniT 0 args, objs⟩ { tmps := vs ++ Array.replicate (fn.ntmps - vs.size) Go.undef, defers := [] } W κ := by
    refine ⟨hk.defers.weak, by show (vs ++ _).size = fn.ntmps; simp; omega, fun n x hx => ?_, hk.obj, hk.dom, hk.inj, hk.low, hk.apart, hk.kp, hk.gr, hk.mono, hk.ent⟩
    simp only [St.tmp, iniT_lk, Nat.zero_le, if_true, Nat.sub_zero] at hx
    show VR _ W x ((vs ++ Array.replicate (fn.ntmps - vs.size) Go.undef).getD n Go.undef)
    rw [Array.getD_eq_getD_getElem?, Array.getElem?_append]
    have c1 : n < args.length := (List.getElem?_eq_some_iff.1 hx).1
    rw [if_pos (by omega)]
    have : vs[n]? = some vs[n] := by simp
    rw [this]
    exact hvs n x _ hx this
  refine wpIn_mono (h R rfl hG ⟨rfl, rfl⟩ c hc 1 _ W ⟨_, h0⟩) ?_
  have key : ∀ (a' : Act) (W' : World) (st' : St), (∃ xs, evRess st' rs = some xs ∧ r = tupV (xs.map (frzA ok ⟨iniT 0 xs, st'.o⟩)) ∧ (frzSt ok ⟨iniT 0 xs, st'.o⟩).o = objs') → SR R st' a' W' →
      ∃ u, (results fn a'.tmps).run P W' = .ok u W' ∧ ∃ v κ', Ending.returned u = .returned v ∧ SK R0 (obSt objs') noAct W' κ' ∧ VR ((obSt objs').env R0.M κ') W' r v := by
    rintro a' W' st' ⟨xs0, h1, rfl, h3⟩ ⟨κ0, hk0⟩
    obtain ⟨us, h4, h50⟩ := ress_run (P := P) hk0 hrs h1
    have hl0 : us.length = xs0.length := by have := h50.1; omega
    have h20 : SK { R with N := us.length } ⟨iniT 0 xs0, st'.o⟩ { tmps := us.toArray, defers := a'.defers } W' κ0 := by
      refine ⟨hk0.defers, by simp, fun n x hx => ?_, hk0.obj, hk0.dom, hk0.inj, hk0.low, hk0.apart, hk0.kp, hk0.gr, hk0.mono, hk0.ent⟩
      simp only [St.tmp, iniT_lk, Nat.zero_le, if_true, Nat.sub_zero] at hx
      have hlt : n < us.length := by have := (List.getElem?_eq_some_iff.1 hx).1; omega
      have : us.toArray.getD n Go.undef = us[n] := by simp [Array.getD, hlt]
      rw [this]
      exact h50.2 n x _ hx (List.getElem?_eq_getElem hlt)
    obtain ⟨κ', hk'⟩ := Weak.frz ok ⟨iniT 0 xs0, st'.o⟩ (fun k hk => by exact Bool.eq_false_iff.2 fun e => by have := hok k e; omega) _ _ W' ⟨κ0, h20⟩
    obtain ⟨xs, hxs⟩ : ∃ xs, xs = xs0.map (frzA ok ⟨iniT 0 xs0, st'.o⟩) := ⟨_, rfl⟩
    rw [← hxs]
    have h5 : CR ((frzSt ok ⟨iniT 0 xs0, st'.o⟩).env R.M κ') W' xs us := by
      refine ⟨by rw [hxs]; simp; omega, fun i x u hx hu => ?_⟩
      have hlt : i < us.length := (List.getElem?_eq_some_iff.1 hu).1
      have := hk'.tm i x (by
        simp only [frzSt, St.tmp, lk_map, iniT_lk, Nat.zero_le, if_true, Nat.sub_zero]
        rw [hxs, List.getElem?_map] at hx
        exact hx)
      have e : us.toArray.getD i Go.undef = u := by
        rw [List.getElem?_eq_getElem hlt] at hu
        simp only [Option.some.injEq] at hu
        simp [Array.getD, hlt, hu]
      have this : VR ((frzSt ok ⟨iniT 0 xs0, st'.o⟩).env R.M κ') W' x (us.toArray.getD i Go.undef) := this
      rwa [e] at this
    have henv : (frzSt ok ⟨iniT 0 xs0, st'.o⟩).env R.M κ' = (obSt objs').env R0.M κ' := by subst h3; rfl
    have hl : us.length = xs.length := by have := h5.1; omega
    refine ⟨(if h : us.toArray.size = 1 then us.toArray[0] else .tuple us.toArray), ?_, _, κ', rfl, ?_, ?_⟩
    · unfold results
      rw [Sem.run_bind]
      have : (fn.results.mapM fun rv => (match rv with
        | .tmp t => pure (a'.tmps.getD t Go.undef)
        | .cell p t => do loadVar t (← asAddr (a'.tmps.getD p Go.undef)) : Sem Value)).run P W' = .ok us.toArray W' := by
        rw [Array.mapM_eq_mapM_toList, Sem.run_map]
        exact congrArg (fun z => Result.andThen z (fun a w' => Result.ok a.toArray w')) h4
      erw [this]
      rfl
    · have g := hk'.sub (t' := []) (fun n x hx => by simp [lk] at hx)
      have e : ({ frzSt ok ⟨iniT 0 xs0, st'.o⟩ with t := [] } : St) = obSt objs' := by subst h3; rfl
      rw [e] at g
      exact ⟨by rw [hD0]; exact .nil _ _ _ _, by show (#[] : Array Value).size = R0.N; rw [hN]; rfl, fun n x hx => by simp [obSt, St.tmp, lk] at hx, g.obj, g.dom, g.inj, g.low, g.apart, g.kp, g.gr, g.mono, g.ent⟩
    · rw [← henv]
      match xs, us, hl, h5 with
      | [], [], _, _ => exact .tup [] _ rfl (by simp)
      | [y], [u], _, h5 => exact h5.2 0 y u rfl rfl
      | y :: y2 :: ys, u :: u2 :: us, hl, h5 =>
        rw [dif_neg (by simp)]
        exact .tup _ _ (by simpa using hl) (fun i x w hx hw => h5.2 i x w hx (by simpa using hw))
  rintro e a' W' ⟨st', h1, κ2, h2⟩
  cases e <;> try (exact h1.elim)
  all_goals
    refine h2.leave (by simp) (show R.D = [] from hD0) fun a2 W2 ht hs2 => ?_
    have := key a2 W2 st' h1 ⟨κ2, hs2⟩
    rw [ht] at this
    exact this

end

theorem AV.pure_keys : ∀ x : AV, x.pure = true → x.keys = []
  | .func fn xs ys, h => by
    simp only [AV.pure, Bool.and_eq_true, List.all_eq_true, List.mem_attach, forall_const, Subtype.forall] at h
    simp only [AV.keys, List.append_eq_nil_iff, List.flatMap_eq_nil_iff, List.mem_attach, forall_const, Subtype.forall]
    exact ⟨fun x hx => AV.pure_keys x (h.1 x hx), fun x hx => AV.pure_keys x (h.2 x hx)⟩
  | .agg xs, h | .tup xs, h => by
    simp only [AV.pure, List.all_eq_true, List.mem_attach, forall_const, Subtype.forall] at h
    simp only [AV.keys, List.flatMap_eq_nil_iff, List.mem_attach, forall_const, Subtype.forall]
    exact fun x hx => AV.pure_keys x (h x hx)
  | .hole, _ | .int .., _ | .bool _, _ | .abool, _ | .str _, _ | .nilp, _ | .nils, _ | .nilm, _ | .nilf, _ | .vptr .., _ | .vsl _, _ | .vmap _, _ => by simp [AV.keys]
  | .undef, h | .ptr .., h | .eptr .., h | .osl .., h | .oss .., h | .mp _, h => by simp [AV.pure] at h

/-- Rows of plain values lie the same for whoever owns them. -/
theorem ObjR.anyE {E E' : Env} {W : World} {b s sz : Nat} {rows : List (List AV)} (hf : ∀ r ∈ rows, ∀ x ∈ r, x.flat = true) (hp : ∀ r ∈ rows, ∀ x ∈ r, x.pure = true) (h : ObjR E W b s (.row sz rows)) : ObjR E' W b s (.row sz rows) := by
  obtain ⟨h1, cs, t, h2, h3, h4⟩ := h
  refine ⟨h1, cs, t, h2, h3, fun i j r x hi hj => (h4 i j r x hi hj).imp fun v hv => ⟨hv.1, ?_⟩⟩
  have hr := List.mem_of_getElem? hi
  have hx := List.mem_of_getElem? hj
  exact .pv ((hv.2.toPV (hp r hr x hx)).flat (hf r hr x hx))

/-- The end of a function that returns a list in new memory. -/
def FinN (rs : List RRes) (sz : Nat) (rows : List (List AV)) : Exit → St → Prop
  | .normal, st | .ret, st => ∃ k, evRess st rs = some [.osl k rows.length] ∧ st.get k = some (.row sz rows)
  | _, _ => False

theorem PN_of {P : Program} {G : Nat → Option (List AV)} {f : FuncId} {fn : Func} {c : Code} {rc : RCode} {rs : List RRes} {args : List AV} {sz : Nat} {rows : List (List AV)} (hfl : ∀ r ∈ rows, ∀ x ∈ r, x.flat = true) (hpu : ∀ r ∈ rows, ∀ x ∈ r, x.pure = true)
    (hf : P.funcs[f]? = some fn) (hb : fn.body = some c) (he : entB P f = true)
    (hc : okCode P fn.ntmps c rc = true) (hrs : allB2 (okRes P) fn.results.toList rs = true) (hn : args.length ≤ fn.ntmps)
    (h : ∀ R : Run, R.N = fn.ntmps → R.G = G → R.Top → AR P R rc (initSt args) (FinN rs sz rows)) : PN P G f args sz rows := by
  refine ⟨he, fun M W vs hM hG hsz hvs => ?_⟩
  refine callsIn_wide.1 (callsIn_of_wp_marks (F := FW none) (n := 1) hf hb trivial ?_)
  let R : Run := { G := G, M := M, X := fun _ => False, W0 := W, N := fn.ntmps, E0 := { M := M, loc := fun _ => none, row := fun _ => none } }
  have h0 : SK R (initSt args) { tmps := vs ++ Array.replicate (fn.ntmps - vs.size) Go.undef, defers := [] } W (fun _ => none) := by
    have hGM : ∀ b, b < W.heap.size → ¬ M b → ¬ ((initSt args).env M (fun _ => none)).M b ∧ W.heap[b]? = W.heap[b]? := fun b _ h1 => ⟨(by rintro (h2 | ⟨k, s, h2⟩) <;> first | exact h1 h2 | cases h2), rfl⟩
    refine ⟨.nil _ _ _ _, by show (vs ++ _).size = fn.ntmps; simp; omega, fun n x hx => ?_, (fun k o ho => by simp [initSt, St.get, lk] at ho), (fun k p hk => by cases hk), (fun k k' b s s' hk => by cases hk), hM, fun _ _ h => h, Kp.refl _ _, hG.mono hGM (Nat.le_refl _), ⟨Nat.le_refl _, hGM, fun k p hk => (by cases hk), fun k sz m hk => (by cases hk)⟩, fun _ _ => ⟨rfl, rfl⟩⟩
    simp only [initSt, St.tmp, iniT_lk, Nat.zero_le, if_true, Nat.sub_zero] at hx
    show VR _ W x ((vs ++ Array.replicate (fn.ntmps - vs.size) Go.undef).getD n Go.undef)
    rw [Array.getD_eq_getD_getElem?, Array.getElem?_append]
    have c1 : n < args.length := (List.getElem?_eq_some_iff.1 hx).1
    rw [if_pos (by omega)]
    have : vs[n]? = some vs[n] := by simp
    rw [this]
    exact .pv ((hvs n x _ hx this).mono hGM (Nat.le_refl _))
  refine wpIn_mono (h R rfl rfl ⟨rfl, rfl⟩ c hc 1 _ W ⟨_, h0⟩) ?_
  have key : ∀ (a' : Act) (W' : World) (st' : St), (∃ k, evRess st' rs = some [.osl k rows.length] ∧ st'.get k = some (.row sz rows)) → SR R st' a' W' →
      ∃ u, (results fn a'.tmps).run P W' = .ok u W' ∧ ∃ b s cs t c, Ending.returned u = .returned (.slice (some ⟨b, s, none⟩) rows.length c) ∧ Ext W W' ∧ W.heap.size ≤ b ∧ b < W'.heap.size ∧
      rows.length ≤ c ∧ c ≤ maxLen ∧ W'.heap[b]? = some (.cells cs t (0, 0)) ∧ s + c * sz ≤ cs.size ∧ ∀ E : Env, ObjR E W' b s (.row sz rows) := by
    rintro a' W' st' ⟨k, h1, h2⟩ ⟨κ, hk⟩
    obtain ⟨us, h3, h4⟩ := ress_run (P := P) hk hrs h1
    have hE : Ext W W' := ⟨hk.kp.os, hk.kp.tape, hk.kp.output, hk.kp.size, fun i hi => hk.kp.block i hi (fun h => h)⟩
    obtain ⟨u, rfl⟩ : ∃ u, us = [u] := by
      have := h4.1
      match us, this with
      | [u], _ => exact ⟨u, rfl⟩
    have hu := h4.2 0 _ u rfl rfl
    obtain ⟨b, s, g1, g2, g3, g4⟩ := hk.obj k _ h2
    have g3 : W.heap.size ≤ b := g3.resolve_right (fun h => h)
    obtain ⟨b', s', c, cs, t, q1, q2, q3, q4, q5, q6⟩ : ∃ b' s' c cs t, u = .slice (some ⟨b', s', none⟩) rows.length c ∧ κ k = some (b', s') ∧ rows.length ≤ c ∧ c ≤ maxLen ∧ W'.heap[b']? = some (.cells cs t (0, 0)) ∧ s' + c * sz ≤ cs.size := by
      generalize hx : AV.osl k rows.length = x at hu
      cases hu with
      | pv hp => subst hx; cases hp
      | osl k2 n sz2 m a l c hr hn' he' =>
        cases hx
        have hr : (st'.get k).bind AObj.dim = some (sz2, m) := hr
        rw [h2] at hr
        have hr : some (sz, rows.length) = some (sz2, m) := hr
        simp only [Option.some.injEq, Prod.mk.injEq] at hr
        obtain ⟨rfl, rfl⟩ := hr
        obtain ⟨b', s', cs, t, e1, e2, e3, e4, e5, e6, e7⟩ := he' rfl
        subst e2; subst e3
        exact ⟨b', s', c, cs, t, rfl, e1, e4, e5, e6, e7⟩
      | _ => cases hx
    rw [g1] at q2
    cases q2
    subst q1
    refine ⟨.slice (some ⟨b, s, none⟩) rows.length c, ?_, b, s, cs, t, c, rfl, hE, g3, g2, q3, q4, q5, q6, fun E => g4.anyE hfl hpu⟩
    unfold results
    rw [Sem.run_bind]
    have : (fn.results.mapM fun rv => (match rv with
      | .tmp t => pure (a'.tmps.getD t Go.undef)
      | .cell p t => do loadVar t (← asAddr (a'.tmps.getD p Go.undef)) : Sem Value)).run P W' = .ok #[.slice (some ⟨b, s, none⟩) rows.length c] W' := by
      rw [Array.mapM_eq_mapM_toList, Sem.run_map]
      exact congrArg (fun z => Result.andThen z (fun a w' => Result.ok a.toArray w')) h3
    erw [this]
    rfl
  rintro e a' W' ⟨st', h1, κ, h2⟩
  cases e <;> try (exact h1.elim)
  all_goals
    refine h2.leave (by simp) rfl fun a2 W2 ht hs2 => ?_
    have := key a2 W2 st' h1 ⟨κ, hs2⟩
    rw [ht] at this
    exact this

section
variable {P : Program} {R : Run} {st : St} {a : Act} {W : World} {κ : Nat → Option (Nat × Nat)}

theorem leaveN (h : SK R st a W κ) {objs objs' : List (Nat × AObj)} {ρ : Nat → Nat} (hinj : ∀ k k', isK objs' k = true → isK objs' k' = true → ρ k = ρ k' → k = k')
    (ho : ∀ k o, lk objs k = some o → st.get (ρ k) = some (o.ren ρ)) (hd : ∀ k, isK objs k = true → isK objs' k = true) (hnw : ∀ k, isK objs' k = true → isK objs k = false → st.get (ρ k) = none) {κ' : Nat → Option (Nat × Nat)} {W' : World} (hc : SK (rC objs ρ R st κ W) (obSt objs') noAct W' κ')
    {st1 : St} (ht : st1.t = st.t) (hs1 : ∀ k o, lk objs' k = some o → st1.get (ρ k) = some (o.ren ρ)) (hs2 : ∀ j, (∀ k, isK objs' k = true → ρ k ≠ j) → st1.get j = st.get j) :
    ∃ κ1, SK R st1 a W' κ1 ∧ Mono (st.env R.M κ) W (st1.env R.M κ1) W' ∧ ∀ (x : AV) (v : Value), VR ((obSt objs').env (mC objs ρ R st κ) κ') W' x v → VR (st1.env R.M κ1) W' (x.ren ρ) v := by
  classical
  let κ1 : Nat → Option (Nat × Nat) := fun j => if e : ∃ k, isK objs' k = true ∧ ρ k = j then κ' (Classical.choose e) else κ j
  have hκ1 : ∀ k, isK objs' k = true → κ1 (ρ k) = κ' k := fun k hk => by
    have e : ∃ k', isK objs' k' = true ∧ ρ k' = ρ k := ⟨k, hk, rfl⟩
    simp only [κ1, dif_pos e]
    rw [hinj _ _ (Classical.choose_spec e).1 hk (Classical.choose_spec e).2]
  have hκ2 : ∀ j, (∀ k, isK objs' k = true → ρ k ≠ j) → κ1 j = κ j := fun j hj => by
    have e : ¬ ∃ k, isK objs' k = true ∧ ρ k = j := fun ⟨k, h1, h2⟩ => hj k h1 h2
    simp only [κ1, dif_neg e]
  have split : ∀ j, (∃ k, isK objs' k = true ∧ ρ k = j) ∨ (∀ k, isK objs' k = true → ρ k ≠ j) := fun j => by
    by_cases e : ∃ k, isK objs' k = true ∧ ρ k = j
    · exact .inl e
    · exact .inr fun k h1 h2 => e ⟨k, h1, h2⟩
  have kc : ∀ k, isK objs k = true → kC objs ρ κ k = κ (ρ k) := fun k hk => by simp only [kC, hk, if_true]
  have kcK : ∀ k p, kC objs ρ κ k = some p → isK objs k = true ∧ κ (ρ k) = some p := fun k p hk => by
    simp only [kC] at hk
    split at hk
    · rename_i e; exact ⟨e, hk⟩
    · cases hk
  have domK : ∀ k p, κ' k = some p → isK objs' k = true := fun k p hk => by
    exact Option.isSome_iff_exists.2 (hc.dom k p hk)
  have xE : ∀ b, (∃ k s, kC objs ρ κ k = some (b, s)) → (st.env R.M κ).M b := fun b ⟨k, s, hk⟩ => .inr ⟨ρ k, s, (kcK k _ hk).2⟩
  have range : ∀ b, (∃ k s, kC objs ρ κ k = some (b, s)) → R.W0.heap.size ≤ b ∨ R.X b := fun b ⟨k, s, hk⟩ => by
    obtain ⟨-, h2⟩ := kcK k _ hk
    obtain ⟨o, h3⟩ := h.dom _ _ h2
    obtain ⟨b', s', g1, g2, g3, -⟩ := h.obj _ _ h3
    rw [h2] at g1
    simp only [Option.some.injEq, Prod.mk.injEq] at g1
    obtain ⟨rfl, rfl⟩ := g1
    exact g3
  have F1 : ∀ b, (st1.env R.M κ1).M b → ((obSt objs').env (mC objs ρ R st κ) κ').M b := fun b hb => by
    rcases hb with hb | ⟨j, s, hj⟩
    · refine .inl ⟨.inl hb, fun hx => ?_⟩
      rcases range b hx with h1 | h1
      · have := h.low b hb; omega
      · exact h.apart b hb h1
    · rcases split j with ⟨k, hk, rfl⟩ | hj2
      · rw [hκ1 k hk] at hj; exact .inr ⟨k, s, hj⟩
      · rw [hκ2 j hj2] at hj
        refine .inl ⟨.inr ⟨j, s, hj⟩, fun ⟨k, s2, hk⟩ => ?_⟩
        obtain ⟨h1, h2⟩ := kcK k _ hk
        exact hj2 k (hd k h1) (h.inj _ _ b s2 s h2 hj)
  have row1 : ∀ k, isK objs' k = true → (st1.env R.M κ1).row (ρ k) = ((obSt objs').env (mC objs ρ R st κ) κ').row k := fun k hk => by
    obtain ⟨o, h1⟩ := Option.isSome_iff_exists.1 hk
    show (st1.get (ρ k)).bind AObj.dim = (lk objs' k).bind AObj.dim
    rw [h1, hs1 k o h1]
    exact AObj.ren_dim o
  have row0 : ∀ k, isK objs k = true → (st.env R.M κ).row (ρ k) = ((obSt objs).env (mC objs ρ R st κ) (kC objs ρ κ)).row k := fun k hk => by
    obtain ⟨o, h1⟩ := Option.isSome_iff_exists.1 hk
    show (st.get (ρ k)).bind AObj.dim = (lk objs k).bind AObj.dim
    rw [h1, ho k o h1]
    exact AObj.ren_dim o
  have rowK : ∀ k q, ((obSt objs').env (mC objs ρ R st κ) κ').row k = some q → isK objs' k = true := fun k q hk => by
    have hk : (lk objs' k).bind AObj.dim = some q := hk
    cases e : lk objs' k with
    | none => rw [e] at hk; cases hk
    | some o => simp [isK, e]
  have conv : ∀ (x : AV) (v : Value), VR ((obSt objs').env (mC objs ρ R st κ) κ') W' x v → VR (st1.env R.M κ1) W' (x.ren ρ) v := fun x v hv =>
    VR.toCaller (fun b hb hb' => hb (F1 b hb')) (fun k p hk => (hκ1 k (domK k p hk)).trans hk) (fun k q hk => ⟨(row1 k (rowK k q hk)).trans hk, hκ1 k (rowK k q hk)⟩) (fun k p hk hr => (row1 k (domK k p hk)).trans hr) hv
  have same : ∀ b, b < W.heap.size → ¬ (∃ k s, kC objs ρ κ k = some (b, s)) → W'.heap[b]? = W.heap[b]? := fun b hb hx => hc.kp.block b hb hx
  have apartK : ∀ j b s, (∀ k, isK objs' k = true → ρ k ≠ j) → κ j = some (b, s) → ¬ (∃ k s, kC objs ρ κ k = some (b, s)) := fun j b s hj hb ⟨k, s2, hk⟩ => by
    obtain ⟨h1, h2⟩ := kcK k _ hk
    exact hj k (hd k h1) (h.inj _ _ b s2 s h2 hb)
  have m : Mono (st.env R.M κ) W (st1.env R.M κ1) W' := by
    refine ⟨hc.kp.size, fun b hb hM => ⟨fun hM1 => ?_, same b hb fun hx => hM (xE b hx)⟩, fun j p hj hr => ?_, fun j sz m hj => ?_⟩
    · rcases F1 b hM1 with h1 | ⟨k, s, h1⟩
      · exact hM h1.1
      · obtain ⟨o, h2⟩ := hc.dom k _ h1
        obtain ⟨b', s', g1, g2, g3, -⟩ := hc.obj k o h2
        rw [h1] at g1
        simp only [Option.some.injEq, Prod.mk.injEq] at g1
        obtain ⟨rfl, rfl⟩ := g1
        rcases g3 with g3 | g3
        · have g3 : W.heap.size ≤ b := g3; omega
        · exact hM (xE b g3)
    · rcases split j with ⟨k, hk, rfl⟩ | hj2
      · have hk0 : isK objs k = true := by
          cases e : isK objs k
          · obtain ⟨o, ho'⟩ := h.dom _ _ hj; rw [hnw k hk e] at ho'; cases ho'
          · rfl
        obtain ⟨g1, g2⟩ := hc.mono.box k p ((kc k hk0).trans hj) ((row0 k hk0).symm.trans hr)
        exact ⟨(hκ1 k hk).trans g1, (row1 k hk).trans g2⟩
      · exact ⟨(hκ2 j hj2).trans hj, by show (st1.get j).bind AObj.dim = none; rw [hs2 j hj2]; exact hr⟩
    · rcases split j with ⟨k, hk, rfl⟩ | hj2
      · have hk0 : isK objs k = true := by
          cases e : isK objs k
          · have hj : (st.get (ρ k)).bind AObj.dim = _ := hj
            rw [hnw k hk e] at hj; cases hj
          · rfl
        obtain ⟨m', g1, g2, g3⟩ := hc.mono.row k sz m ((row0 k hk0).symm.trans hj)
        refine ⟨m', (row1 k hk).trans g1, g2, fun e b s cs t hl => ?_⟩
        obtain ⟨g4, g5⟩ := g3 e b s cs t ((kc k hk0).trans hl)
        exact ⟨(hκ1 k hk).trans g4, g5⟩
      · refine ⟨m, by show (st1.get j).bind AObj.dim = some (sz, m); rw [hs2 j hj2]; exact hj, Nat.le_refl _, fun _ b s cs t hl => ⟨(hκ2 j hj2).trans hl, fun hw => ⟨cs, (same b (h.loc_lt hl) (apartK j b s hj2 hl)).trans hw, rfl⟩⟩⟩
  refine ⟨κ1, ⟨h.defers.of fun c hc' => (same c (Array.getElem?_eq_some_iff.1 hc').1 fun ⟨k, s, hk⟩ => h.notdf (kcK k _ hk).2 hc').trans hc', h.size, fun n x hx => (h.tm n x (by simp only [St.tmp, ← ht]; exact hx)).mono m, fun j o hj => ?_, fun j p hj => ?_, fun j j' b s s' hj hj' => ?_, h.low, h.apart, ?_, h.gr.mono m.imm m.size, h.mono.trans m, h.ent⟩, m, conv⟩
  · rcases split j with ⟨k, hk, rfl⟩ | hj2
    · obtain ⟨o0, e0⟩ := Option.isSome_iff_exists.1 hk
      rw [hs1 k o0 e0] at hj
      simp only [Option.some.injEq] at hj
      subst hj
      obtain ⟨b, s, g1, g2, g3, g4⟩ := hc.obj k o0 e0
      refine ⟨b, s, (hκ1 k hk).trans g1, g2, ?_, ?_⟩
      · rcases g3 with g3 | g3
        · exact .inl (Nat.le_trans h.kp.size g3)
        · exact range b g3
      · cases o0 with
        | box cells =>
          obtain ⟨g0, cs, t, g5, g6, g7⟩ := g4
          refine ⟨g0, cs, t, g5, by simpa [AObj.ren] using g6, fun j x hj => ?_⟩
          rw [List.getElem?_map, Option.map_eq_some_iff] at hj
          obtain ⟨x0, g8, rfl⟩ := hj
          obtain ⟨v, g9, g10⟩ := g7 j x0 g8
          exact ⟨v, g9, conv _ _ g10⟩
        | row sz rows =>
          obtain ⟨g0, cs, t, g5, g6, g7⟩ := g4
          refine ⟨fun r hr => ?_, cs, t, g5, by simpa [AObj.ren] using g6, fun i j r x hi hj => ?_⟩
          · obtain ⟨r0, g8, rfl⟩ := List.mem_map.1 hr
            simpa using g0 r0 g8
          · rw [List.getElem?_map, Option.map_eq_some_iff] at hi
            obtain ⟨r0, g8, rfl⟩ := hi
            rw [List.getElem?_map, Option.map_eq_some_iff] at hj
            obtain ⟨x0, g9, rfl⟩ := hj
            obtain ⟨v, g10, g11⟩ := g7 i j r0 x0 g8 g9
            exact ⟨v, g10, conv _ _ g11⟩
        | mp kvs =>
          obtain ⟨g0, es, t, g5, g6, g7, g8⟩ := g4
          refine ⟨g0, es, t, g5, g6, by simpa [AObj.ren] using g7, fun i x y hi => ?_⟩
          rw [List.getElem?_map, Option.map_eq_some_iff] at hi
          obtain ⟨p, g9, g10⟩ := hi
          cases g10
          obtain ⟨e, g11, g12, g13⟩ := g8 i p.1 p.2 g9
          exact ⟨e, g11, conv _ _ g12, conv _ _ g13⟩
    · rw [hs2 j hj2] at hj
      obtain ⟨b, s, g1, g2, g3, g4⟩ := h.obj j o hj
      exact ⟨b, s, (hκ2 j hj2).trans g1, Nat.lt_of_lt_of_le g2 m.size, g3, g4.mono m (same b g2 (apartK j b s hj2 g1))⟩
  · rcases split j with ⟨k, hk, rfl⟩ | hj2
    · rw [hκ1 k hk] at hj
      obtain ⟨o, g1⟩ := hc.dom k p hj
      exact ⟨_, hs1 k o g1⟩
    · rw [hκ2 j hj2] at hj
      rw [hs2 j hj2]
      exact h.dom j p hj
  · have cross : ∀ k j' s s', isK objs' k = true → (∀ k, isK objs' k = true → ρ k ≠ j') → κ' k = some (b, s) → κ j' = some (b, s') → False := fun k j' s s' hk hj2 g1 g2 => by
      obtain ⟨o, g3⟩ := hc.dom k _ g1
      obtain ⟨b', s2, g4, g5, g6, -⟩ := hc.obj k o g3
      rw [g1] at g4
      simp only [Option.some.injEq, Prod.mk.injEq] at g4
      obtain ⟨rfl, rfl⟩ := g4
      rcases g6 with g6 | g6
      · have g6 : W.heap.size ≤ b := g6
        have := h.loc_lt g2; omega
      · exact apartK j' b s' hj2 g2 g6
    rcases split j with ⟨k, hk, rfl⟩ | hj2 <;> rcases split j' with ⟨k', hk', rfl⟩ | hj2'
    · rw [hκ1 k hk] at hj
      rw [hκ1 k' hk'] at hj'
      rw [hc.inj k k' b s s' hj hj']
    · rw [hκ1 k hk] at hj
      rw [hκ2 j' hj2'] at hj'
      exact (cross k j' s s' hk hj2' hj hj').elim
    · rw [hκ2 j hj2] at hj
      rw [hκ1 k' hk'] at hj'
      exact (cross k' j s' s hk' hj2 hj' hj).elim
    · rw [hκ2 j hj2] at hj
      rw [hκ2 j' hj2'] at hj'
      exact h.inj j j' b s s' hj hj'
  · refine ⟨hc.kp.os.trans h.kp.os, hc.kp.tape.trans h.kp.tape, hc.kp.output.trans h.kp.output, Nat.le_trans h.kp.size hc.kp.size, fun i hi hx => ?_⟩
    refine (same i (Nat.lt_of_lt_of_le hi h.kp.size) fun hx2 => ?_).trans (h.kp.block i hi hx)
    rcases range i hx2 with g | g
    · omega
    · exact hx g


/-- A call by reference that may hand over new objects, in the caller's state. -/
theorem callN_sim (h : SK R st a W κ) {f : FuncId} {objs objs' : List (Nat × AObj)} {ρ : Nat → Nat} {args : List AV} {r : AV} (hp : PB P R.G f objs args r objs')
    (hK : ∀ k, isK objs k = true → 1000 ≤ k) (hinj : ∀ k k', isK objs' k = true → isK objs' k' = true → ρ k = ρ k' → k = k')
    (ho : ∀ k o, lk objs k = some o → st.get (ρ k) = some (o.ren ρ)) (hin : ∀ k o, lk objs k = some o → inKO objs o) (hargs : ∀ x ∈ args, inK objs x) (hd : ∀ k, isK objs k = true → isK objs' k = true) (hnw : ∀ k, isK objs' k = true → isK objs k = false → st.get (ρ k) = none)
    {st1 : St} (ht : st1.t = st.t) (hs1 : ∀ k o, lk objs' k = some o → st1.get (ρ k) = some (o.ren ρ)) (hs2 : ∀ j, (∀ k, isK objs' k = true → ρ k ≠ j) → st1.get j = st.get j)
    {vs : Array Value} (ha : CR (st.env R.M κ) W (args.map (AV.ren ρ)) vs.toList) :
    entB P f = true ∧ Calls P f vs W fun e W' => ∃ u κ1, e = .returned u ∧ SK R st1 a W' κ1 ∧ VR (st1.env R.M κ1) W' (r.ren ρ) u := by
  obtain ⟨he, hc⟩ := hp
  obtain ⟨h0, conv⟩ := enterB h hK (fun k k' h1 h2 e => hinj k k' (hd k h1) (hd k' h2) e) ho hin
  have hsz : vs.size = args.length := by have := ha.1; simp at this; omega
  refine ⟨he, (hc (rC objs ρ R st κ W) W (kC objs ρ κ) vs rfl rfl rfl rfl rfl h0 hsz (fun i x u hx hu => conv x u (hargs x (List.mem_of_getElem? hx)) (ha.2 i (x.ren ρ) u (by rw [List.getElem?_map, hx]; rfl) (by simpa using hu)))).mono ?_⟩
  rintro e W' ⟨v, κ', rfl, h1, h2⟩
  obtain ⟨κ1, h3, -, h4⟩ := leaveN h hinj ho hd hnw h1 ht hs1 hs2
  exact ⟨v, κ1, rfl, h3, h4 r v h2⟩
end

section
variable {P : Program} {G : Nat → Option (List AV)} {st : St}

/-- A call of pure trees that hands over new objects. -/
theorem CallSem.objs {f : FuncId} {objs' : List (Nat × AObj)} {args : List AV} {r : AV} (h : PB P G f [] args r objs') (ρ : Nat → Nat) (hinj : (objs'.map fun p => ρ p.1).Nodup) (hnw : ∀ p ∈ objs', st.get (ρ p.1) = none) (hargs : args.all AV.pure = true)
    {r' : AV} {st1 : St} (hr : r' = r.ren ρ) (hs : st1 = setsB ρ objs' st) : CallSem P G st f args r' st1 := by
  subst hr; subst hs
  intro R a W κ vs hG hk ha
  subst hG
  have mem : ∀ k o, lk objs' k = some o → (k, o) ∈ objs' := fun k o h => lk_mem h
  have pure : ∀ x ∈ args, x.pure = true := List.all_eq_true.1 hargs
  have hren : args.map (AV.ren ρ) = args := by
    conv => rhs; rw [← List.map_id args]
    exact List.map_congr_left fun x hx => AV.ren_pure x (pure x hx)
  refine callN_sim hk h (fun k hk => by simp [isK, lk] at hk) (fun k k' h1 h2 e => ?_) (fun k o ho' => by simp [lk] at ho') (fun k o ho' => by simp [lk] at ho') (fun x hx k hk' => by rw [AV.pure_keys x (pure x hx)] at hk'; cases hk') (fun k hk => by simp [isK, lk] at hk) (fun k h1 _ => ?_) (setsB_t ρ _ _)
    (fun k o ho' => setsB_in ρ _ _ k o hinj ho') (fun j hj => setsB_out ρ j _ _ fun p hp => ?_) (by rw [hren]; exact ha)
  · have m1 := lk_isSome.1 h1
    have m2 := lk_isSome.1 h2
    have : (objs'.map (·.1)).map ρ = objs'.map (fun p => ρ p.1) := by simp [List.map_map, Function.comp_def]
    rw [← this] at hinj
    exact inj_of_nodup hinj m1 m2 e
  · obtain ⟨o, h1⟩ := Option.isSome_iff_exists.1 h1
    exact hnw (k, o) (mem k o h1)
  · exact hj p.1 (lk_isSome.2 (List.mem_map.2 ⟨p, hp, rfl⟩))
end
end Go.Proofs.YtdpmioiamcgfkaaDoor

/-! The abstract machine: a region whose order is drawn but for its last operations. -/
namespace Go.Proofs.YtdpmioiamcgfkaaDoor
open Go.RowKit

section
variable {P : Program} {R : Run} {rs : List ROper} {S : Nat → St}

end

end Go.Proofs.YtdpmioiamcgfkaaDoor

/-! The abstract machine: a call by reference that may also hand over new objects. -/
namespace Go.Proofs.YtdpmioiamcgfkaaDoor
open Go.RowKit

section
variable {P : Program} {G : Nat → Option (List AV)} {st : St}

theorem CallSem.refn {f : FuncId} {objs objs' : List (Nat × AObj)} {args : List AV} {r : AV} (h : PB P G f objs args r objs') (ρ : Nat → Nat) (hK : ∀ p ∈ objs, 1000 ≤ p.1)
    (hinj : (objs'.map fun p => ρ p.1).Nodup) (ho : ∀ p ∈ objs, st.get (ρ p.1) = some (p.2.ren ρ)) (hin : ∀ p ∈ objs, keptO objs p.2 = true) (hargs : args.all (keptA objs) = true)
    (hd : objs.all (fun p => isK objs' p.1) = true) (hnw : ∀ p ∈ objs', isK objs p.1 = true ∨ st.get (ρ p.1) = none)
    {args' : List AV} {r' : AV} {st1 : St} (ha : args' = args.map (AV.ren ρ)) (hr : r' = r.ren ρ) (hs : st1 = setsB ρ objs' st) : CallSem P G st f args' r' st1 := by
  subst ha; subst hr; subst hs
  intro R a W κ vs hG hk ha
  subst hG
  have mem : ∀ {l : List (Nat × AObj)} (k : Nat) (o : AObj), lk l k = some o → (k, o) ∈ l := fun k o h => lk_mem h
  have kept : ∀ x, keptA objs x = true → inK objs x := fun x hx k hk => List.all_eq_true.1 hx k hk
  have key : ∀ {l : List (Nat × AObj)} {k : Nat}, isK l k = true → ∃ o, (k, o) ∈ l ∧ lk l k = some o := fun {l k} h => by
    obtain ⟨o, h1⟩ := Option.isSome_iff_exists.1 h
    exact ⟨o, mem k o h1, h1⟩
  refine callN_sim hk h (fun k hk => ?_) (fun k k' h1 h2 e => ?_) (fun k o ho' => ho (k, o) (mem k o ho')) (fun k o ho' => ?_) (fun x hx => kept x (List.all_eq_true.1 hargs x hx)) (fun k hk => ?_) (fun k h1 h2 => ?_) (setsB_t ρ _ _)
    (fun k o ho' => setsB_in ρ _ _ k o hinj ho') (fun j hj => setsB_out ρ j _ _ fun p hp => ?_) ha
  · obtain ⟨o, h1, -⟩ := key hk
    exact hK (k, o) h1
  · have m1 := lk_isSome.1 h1
    have m2 := lk_isSome.1 h2
    have : (objs'.map (·.1)).map ρ = objs'.map (fun p => ρ p.1) := by simp [List.map_map, Function.comp_def]
    rw [← this] at hinj
    exact inj_of_nodup hinj m1 m2 e
  · have h2 := hin (k, o) (mem k o ho')
    cases o with
    | box cells => exact fun x hx => kept x (List.all_eq_true.1 h2 x hx)
    | row sz rows => exact fun r hr x hx => kept x (List.all_eq_true.1 (List.all_eq_true.1 h2 r hr) x hx)
    | mp kvs =>
      intro p hp
      have := List.all_eq_true.1 h2 p hp
      simp only [Bool.and_eq_true] at this
      exact ⟨kept _ this.1, kept _ this.2⟩
  · obtain ⟨o, h1, -⟩ := key hk
    exact List.all_eq_true.1 hd (k, o) h1
  · obtain ⟨o, h3, -⟩ := key h1
    rcases hnw (k, o) h3 with h4 | h4
    · rw [h4] at h2; cases h2
    · exact h4
  · exact hj p.1 (lk_isSome.2 (List.mem_map.2 ⟨p, hp, rfl⟩))
end
end Go.Proofs.YtdpmioiamcgfkaaDoor

/-! Plain functions that say what the functions of packages bluelineref01 and size compute. No program in sight. -/
namespace Go.Proofs.YtdpmioiamcgfkaaDoor

/-- A size: its nominal number, its lower and its upper end. -/
structure Dm where
  n : Int
  l : Int
  u : Int
  deriving DecidableEq, Inhabited

def Dm.zero : Dm := ⟨0, 0, 0⟩

def Dm.beq (a b : Dm) : Bool := a.n == b.n && (a.l == b.l && a.u == b.u)
/-- A size is valid. -/
def vd (d : Dm) : Bool := decide (0 ≤ d.n ∧ d.n ≤ 1000000000 ∧ 0 ≤ d.l ∧ d.l ≤ d.u ∧ d.u ≤ 1000000000)

/-- The step of a unit. -/
def stp (k : Int) : Int := if k = 1 then 100 else if k = 2 then 254 else 0

/-- The nominal number of a size that is drawn again. -/
def nom (n s : Int) : Int := if n / s * s + s ≤ 1000000000 ∧ n / s * s + s - n < n - n / s * s then n / s * s + s else n / s * s

/-- A size drawn again by a step. -/
def agn (d : Dm) (s : Int) : Dm := ⟨nom d.n s, (d.l + s - 1) / s * s, d.u / s * s⟩

def agnOk (d : Dm) (s : Int) : Bool := decide ((agn d s).l ≤ (agn d s).u)

/-- A size drawn again in a unit, and the error. -/
def conv (d : Dm) (k : Int) : Dm × Int :=
  if vd d = true then if stp k = 0 then (Dm.zero, 11) else if agnOk d (stp k) = true then (agn d (stp k), 0) else (Dm.zero, 6)
  else (Dm.zero, 10)

end Go.Proofs.YtdpmioiamcgfkaaDoor
