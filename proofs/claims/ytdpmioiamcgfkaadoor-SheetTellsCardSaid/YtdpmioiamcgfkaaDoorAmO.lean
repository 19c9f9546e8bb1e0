/-
  The abstract machine: a range over a map whose values are looked at, one by one: if one is greater than six the function returns.
-/
import Derived.Test.YtdpmioiamcgfkaaDoorAmN
import Derived.Maps.RangeRun
namespace Go.Proofs.YtdpmioiamcgfkaaDoor
open Go.RowKit

def isO (o : Oper) (d : Nat) (f : Op → Bool) : Bool := decide (o.dst = some d) && o.guard.isNone && f o.op
def tmpB (n : Nat) : Operand → Bool
  | .tmp m => m == n
  | _ => false
/-- The code behind the test. -/
def opnRet : RCode := .seq (.reg 39 false [{ d := some 2, op := .mov (.c .nilp) }, { d := some 3, op := .mov (.c (.int .i64 20)) }]) .ret
def opnR (P : Program) (N : Nat) : Code → Bool
  | .seq (.region _ ops1 false) (.block b1 (.loop (.seq (.region _ ops2 false) (.seq (.cond t1 .skip (.exit b2)) (.block _ (.seq (.region _ ops3 false) (.seq (.region _ ops4 false) (.cond t2 c5 .skip)))))))) =>
    b1 == b2 && tmpB 116 t1 && tmpB 120 t2 && decide (120 < N) && okCode P N c5 opnRet && (match ops1.toList, ops2.toList, ops3.toList, ops4.toList with
    | [o1, o2], [o3, o4], [o5, o6, o7], [o8, o9] =>
      isO o1 113 (fun o => match o with | .move x | .assign x => tmpB 12 x | _ => false) && isO o2 114 (fun o => match o with | .range t x => tmpB 113 x && (match P.underlying t with | some (.map ..) => true | _ => false) | _ => false) &&
      isO o3 115 (fun o => match o with | .next x false => tmpB 114 x | _ => false) && isO o4 116 (fun o => match o with | .extract x 0 => tmpB 115 x | _ => false) &&
      isO o5 117 (fun o => match o with | .entry x => tmpB 114 x | _ => false) && isO o6 118 (fun o => match o with | .extract x 1 => tmpB 117 x | _ => false) && isO o7 15 (fun o => match o with | .move x | .assign x => tmpB 118 x | _ => false) &&
      isO o8 119 (fun o => match o with | .move x | .assign x => tmpB 15 x | _ => false) && isO o9 120 (fun o => match o with | .binOp .gtr t x (.const (.int .i64 6)) _ => tmpB 119 x && scalarT P t | _ => false)
    | _, _, _, _ => false)
  | _ => false

/-- The temporaries that the loop sets. -/
def opnT : List Nat := [15, 113, 114, 115, 116, 117, 118, 119, 120]

section
variable {P : Program} {R : Run} {st : St} {a : Act} {W : World} {κ : Nat → Option (Nat × Nat)}

theorem SK.retmp (h : SK R st a W κ) {a' : Act} (hs : a'.tmps.size = a.tmps.size) (hd : a'.defers = a.defers) (ht : ∀ n x, st.tmp n = some x → a'.tmps.getD n Go.undef = a.tmps.getD n Go.undef) : SK R st a' W κ :=
  ⟨by rw [hd]; exact h.defers, hs.trans h.size, fun n x hx => by rw [ht n x hx]; exact h.tm n x hx, h.obj, h.dom, h.inj, h.low, h.apart, h.kp, h.gr, h.mono, h.ent⟩

theorem put_get {a : Act} {d n : Nat} {v : Value} (hd : d < a.tmps.size) : (a.put (some d) v).tmps.getD n Go.undef = if d = n then v else a.tmps.getD n Go.undef := by
  show (a.tmps.setIfInBounds d v).getD n Go.undef = _
  by_cases e : d = n
  · subst e; simp [Array.getD, hd]
  · simp only [Array.getD_eq_getD_getElem?, Array.getElem?_setIfInBounds, if_neg e]
theorem put_size {a : Act} {d : Nat} {v : Value} : (a.put (some d) v).tmps.size = a.tmps.size := by simp [Act.put]

/-- One operation that yields a value. -/
theorem op_val {rd : Option Nat} {m : Nat} {ops : Array Oper} {j d : Nat} {o : Oper} {f : Op → Bool} {K : Act → World → Prop} {Q : Exit → Act → World → Prop} {v : Value} {W' : World} (ho : ops[j]? = some o) (hk : isO o d f = true) (hnd : ∀ c, o.op ≠ .defer c)
    (hr : (execOp a.eval o).run P W = .ok (.value v) W') (hK : K (a.put (some d) v) W') : wpOpIn (FW rd) m P ops Q j K a W := by
  simp only [isO, Bool.and_eq_true, decide_eq_true_eq, Option.isNone_iff_eq_none] at hk
  unfold wpOpIn
  simp only [ho]
  have hw : Region.wanted o (yielded ops a.tmps) = true := by unfold Region.wanted; rw [hk.1.2]
  rw [if_pos hw]
  refine ⟨fun _ _ => trivial, ?_⟩
  rw [Oper.semAt_eq _ _ _ hnd, hr]
  show K (a.put o.dst v) W'
  rw [hk.1.1]; exact hK


theorem tmpB_spec {n : Nat} {x : Operand} (h : tmpB n x = true) : x = .tmp n := by
  cases x <;> simp [tmpB] at h
  rw [h]
theorem eval_tmp (a : Act) (n : Nat) : a.eval (.tmp n) = a.tmps.getD n Go.undef := rfl
theorem isO_op {o : Oper} {d : Nat} {f : Op → Bool} (h : isO o d f = true) : f o.op = true := by
  simp only [isO, Bool.and_eq_true] at h; exact h.2


/-- Only these temporaries are new. -/
def KeptT (a a' : Act) : Prop := a'.tmps.size = a.tmps.size ∧ a'.defers = a.defers ∧ ∀ n, n ∉ opnT → a'.tmps.getD n Go.undef = a.tmps.getD n Go.undef
theorem KeptT.put {a a' : Act} (h : KeptT a a') {d : Nat} (hd : d ∈ opnT) (v : Value) : KeptT a (a'.put (some d) v) := by
  refine ⟨put_size.trans h.1, h.2.1, fun n hn => ?_⟩
  rw [← h.2.2 n hn]
  show (a'.tmps.setIfInBounds d v).getD n Go.undef = _
  have e : d ≠ n := by rintro rfl; exact hn hd
  simp only [Array.getD_eq_getD_getElem?, Array.getElem?_setIfInBounds, if_neg e]

theorem SK.iter (h : SK R st a W κ) {r bm since c c' : Nat} {seen seen' : Array Nat} (hr : W.heap[r]? = some (.mapIter (some bm) since seen c)) (hr0 : R.W0.heap.size ≤ r) : SK R st a (W.putObj r (.mapIter (some bm) since seen' c')) κ := by
  refine h.odd (.put hr trivial) rfl rfl rfl (fun b hb => World.putObj_heap_other (by omega)) rfl (h.defers.of fun x hx => ?_)
  rw [World.putObj_heap_other (by rintro rfl; rw [hr] at hx; cases hx)]
  exact hx

set_option maxRecDepth 4000 in
theorem AR_opn {Φ : Exit → St → Prop} {kvs : List (Int × Int)} (h12 : st.tmp 12 = some (.vmap (kvs.map fun p => (.int .i64 p.1, .int .i64 p.2)))) (hfree : ∀ n ∈ opnT, st.tmp n = none)
    (hok : (∀ p ∈ kvs, p.2 ≤ 6) → Φ .normal st) (hbad : (∃ p ∈ kvs, 6 < p.2) → AR P R opnRet st fun e s => e = .ret ∧ Φ .ret s) : AR P R (.raw (opnR P)) st Φ := by
  intro c hc m a W hs
  have hc : opnR P R.N c = true := by cases c <;> exact hc
  unfold opnR at hc
  split at hc <;> try (simp at hc; done)
  rename_i i1 ops1 b1 i2 ops2 t1 b2 b3 i3 ops3 i4 ops4 t2 c5 hcS
  simp only [Bool.and_eq_true, beq_iff_eq, decide_eq_true_eq] at hc
  obtain ⟨⟨⟨⟨⟨rfl, ht1⟩, ht2⟩, hN⟩, hc5⟩, hc⟩ := hc
  obtain rfl := tmpB_spec ht1
  obtain rfl := tmpB_spec ht2
  split at hc <;> try (simp at hc; done)
  rename_i o1 o2 o3 o4 o5 o6 o7 o8 o9 e1 e2 e3 e4
  obtain rfl : ops1 = #[o1, o2] := by rw [← Array.toList_inj]; exact e1
  obtain rfl : ops2 = #[o3, o4] := by rw [← Array.toList_inj]; exact e2
  obtain rfl : ops3 = #[o5, o6, o7] := by rw [← Array.toList_inj]; exact e3
  obtain rfl : ops4 = #[o8, o9] := by rw [← Array.toList_inj]; exact e4
  simp only [Bool.and_eq_true] at hc
  obtain ⟨⟨⟨⟨⟨⟨⟨⟨k1, k2⟩, k3⟩, k4⟩, k5⟩, k6⟩, k7⟩, k8⟩, k9⟩ := hc
  obtain ⟨κ, hk⟩ := hs
  have hsz : a.tmps.size = R.N := hk.size
  -- the map
  have hv := hk.tm 12 _ h12
  obtain ⟨b, es, clock, hmap, ho, hst, hn, hvals⟩ : ∃ b es clock, a.tmps.getD 12 Go.undef = .map (some b) ∧ W.heap[b]? = some (.map es clock) ∧ MapKept.Stamped es clock ∧ es.size = kvs.length ∧ ∀ (i : Nat) (p : Int × Int) (e : MapEntry), kvs[i]? = some p → es[i]? = some e → e.val = .int .i64 p.2 := by
    generalize hvv : a.tmps.getD 12 Go.undef = v at hv
    cases hv with
    | pv hv =>
      cases hv with
      | vmap _ b es clock hb hM ho hs hn hk' hv' =>
        refine ⟨b, es, clock, rfl, ho, hs, by simpa using hn, fun i p e hi he => ?_⟩
        have := hv' i (.int .i64 p.1) (.int .i64 p.2) e (by rw [List.getElem?_map, hi]; rfl) he
        generalize e.val = w at this
        cases this; rfl
  have hval : ∀ e ∈ es.toList, ∃ p ∈ kvs, e.val = .int .i64 p.2 := fun e he => by
    obtain ⟨i, hi, rfl⟩ := List.getElem_of_mem he
    simp only [Array.length_toList] at hi
    have hi2 : i < kvs.length := by omega
    exact ⟨kvs[i], List.getElem_mem _, hvals i _ _ (List.getElem?_eq_getElem hi2) (by simp [hi])⟩
  have hval2 : ∀ p ∈ kvs, ∃ e ∈ es.toList, e.val = .int .i64 p.2 := fun p hp => by
    obtain ⟨i, hi, rfl⟩ := List.getElem_of_mem hp
    have hi2 : i < es.size := by omega
    exact ⟨es[i], by simp, hvals i _ _ (List.getElem?_eq_getElem hi) (by simp [hi2])⟩
  -- the first region
  have e1o := isO_op k1
  have e2o := isO_op k2
  have run1 : (execOp a.eval o1).run P W = .ok (.value (.map (some b))) W := by
    split at e1o <;> try (simp at e1o; done)
    all_goals
      rename_i x hx
      obtain rfl := tmpB_spec e1o
      simp only [execOp, hx, Sem.run_bind, Sem.run_pure, Result.andThen_ok, eval_tmp, hmap]
  have nd1 : ∀ c, o1.op ≠ .defer c := fun c e => by rw [e] at e1o; simp at e1o
  have nd2 : ∀ c, o2.op ≠ .defer c := fun c e => by rw [e] at e2o; simp at e2o
  refine wpIn_seq (wpIn_region ?_)
  show wpOpsIn (FW R.rd) m P #[o1, o2] _ [0, 1] a W
  rw [wpOpsIn_cons]
  refine op_val rfl k1 nd1 run1 ?_
  rw [wpOpsIn_cons]
  have run2 : ∃ W1, W1 = W.alloc (.mapIter (some b) clock #[] clock) ∧ (execOp (a.put (some 113) (.map (some b))).eval o2).run P W = .ok (.value (.pointer (some ⟨W.heap.size, 0, none⟩))) W1 := by
    split at e2o <;> try (simp at e2o; done)
    rename_i t x hx
    simp only [Bool.and_eq_true] at e2o
    obtain rfl := tmpB_spec e2o.1
    have e2p := e2o.2
    split at e2p <;> try (simp at e2p; done)
    rename_i kt et hu
    refine ⟨_, rfl, ?_⟩
    have hr := run_range_map (P := P) W t kt et b es clock hu ho
    simp only [execOp, hx, Sem.run_bind, eval_tmp, put_get (show 113 < a.tmps.size by omega), if_true, hr, Result.andThen_ok, Sem.run_pure]
  obtain ⟨W1, hW1, run2⟩ := run2
  refine op_val rfl k2 nd2 run2 ?_
  -- the loop
  have hbW : b < W.heap.size := (Array.getElem?_eq_some_iff.1 ho).1
  have hk1 : SK R st a W1 κ := by rw [hW1]; exact hk.grow (Ext.al (Ext.refl W))
  have ho1 : W1.heap[b]? = some (.map es clock) := by rw [hW1]; exact (heap_alloc_old W _ hbW).trans ho
  have hr1 : W1.heap[W.heap.size]? = some (.mapIter (some b) clock #[] clock) := by rw [hW1]; exact heap_alloc_new W _
  have hr0 : R.W0.heap.size ≤ W.heap.size := hk.kp.size
  obtain ⟨r, hr⟩ : ∃ r, r = W.heap.size := ⟨_, rfl⟩
  rw [← hr] at hr1 hr0
  have hK0 : KeptT a ((a.put (some 113) (.map (some b))).put (some 114) (.pointer (some ⟨W.heap.size, 0, none⟩))) := .put (.put ⟨rfl, rfl, fun _ _ => rfl⟩ (by decide) _) (by decide) _
  have hp0 : ((a.put (some 113) (.map (some b))).put (some 114) (.pointer (some ⟨W.heap.size, 0, none⟩))).tmps.getD 114 Go.undef = .pointer (some ⟨r, 0, none⟩) := by
    rw [put_get (by rw [put_size]; omega), hr]; rfl
  generalize (a.put (some 113) (.map (some b))).put (some 114) (.pointer (some ⟨W.heap.size, 0, none⟩)) = a1 at hK0 hp0 ⊢
  have hne : ∀ {n : Nat} {x : AV}, st.tmp n = some x → n ∉ opnT := fun hx hn => by rw [hfree _ hn] at hx; cases hx
  have back : ∀ {a' : Act} {W' : World}, KeptT a a' → SK R st a W' κ → SK R st a' W' κ := fun hK h => h.retmp hK.1 hK.2.1 fun n x hx => hK.2.2 n (hne hx)
  have hsz' : ∀ {a' : Act}, KeptT a a' → a'.tmps.size = R.N := fun hK => hK.1.trans hsz
  show (Code.block _ _).wpIn _ _ _ _ _ _
  refine wpIn_block (wpIn_loop_ghost (fun n a' W' => ∃ seen c0, n = (leftOf es seen).size ∧ KeptT a a' ∧ a'.tmps.getD 114 Go.undef = .pointer (some ⟨r, 0, none⟩) ∧ SK R st a W' κ ∧
    W'.heap[r]? = some (.mapIter (some b) clock seen c0) ∧ W'.heap[b]? = some (.map es clock) ∧ clock ≤ c0 ∧ ∀ e ∈ es.toList, seen.contains e.born = true → ∃ i, e.val = .int .i64 i ∧ i ≤ 6) _ ⟨#[], clock, rfl, hK0, hp0, hk1, hr1, ho1, Nat.le_refl _, by simp⟩ ?_)
  rintro n a2 W2 ⟨seen, c0, rfl, hK, hp, hk2, hri, hmb, hcl, hseen⟩
  have hN2 := hsz' hK
  refine wpIn_seq (wpIn_region ?_)
  show wpOpsIn (FW R.rd) m P #[o3, o4] _ [0, 1] a2 W2
  have e3o := isO_op k3
  have e4o := isO_op k4
  have e5o := isO_op k5
  have e6o := isO_op k6
  have e7o := isO_op k7
  have e8o := isO_op k8
  have e9o := isO_op k9
  have nd3 : ∀ c, o3.op ≠ .defer c := fun c e => by rw [e] at e3o; simp at e3o
  have nd4 : ∀ c, o4.op ≠ .defer c := fun c e => by rw [e] at e4o; simp at e4o
  have nd5 : ∀ c, o5.op ≠ .defer c := fun c e => by rw [e] at e5o; simp at e5o
  have nd6 : ∀ c, o6.op ≠ .defer c := fun c e => by rw [e] at e6o; simp at e6o
  have nd7 : ∀ c, o7.op ≠ .defer c := fun c e => by rw [e] at e7o; simp at e7o
  have nd8 : ∀ c, o8.op ≠ .defer c := fun c e => by rw [e] at e8o; simp at e8o
  have nd9 : ∀ c, o9.op ≠ .defer c := fun c e => by rw [e] at e9o; simp at e9o
  -- the step
  have step : ((leftOf es seen).size = 0 ∧ (execOp a2.eval o3).run P W2 = .ok (.value (.tuple #[.bool false])) W2) ∨
      ∃ e ∈ (leftOf es seen).toList, ∃ W3, (W3 = W2 ∨ W3 = W2.drew) ∧ (execOp a2.eval o3).run P W2 = .ok (.value (.tuple #[.bool true, e.key, e.val])) (W3.putObj r (.mapIter (some b) clock (seen.push e.born) clock)) := by
    split at e3o <;> try (simp at e3o; done)
    rename_i x hx
    obtain rfl := tmpB_spec e3o
    rcases run_next_at (P := P) W2 o3.type r b clock c0 seen es clock hri hmb (fun x hx => hst.1 x hx) hcl with ⟨h0, hrun⟩ | ⟨e, he, W3, hW3, hrun⟩
    · refine .inl ⟨h0, ?_⟩
      simp only [execOp, hx, Sem.run_bind, eval_tmp, hp, hrun, Result.andThen_ok, Sem.run_pure]
    · refine .inr ⟨e, he, W3, hW3, ?_⟩
      simp only [execOp, hx, Sem.run_bind, eval_tmp, hp, hrun, Result.andThen_ok, Sem.run_pure]
      rfl
  have run4 : ∀ (a' : Act) (W' : World) (t : Bool) (vs : List Value), a'.tmps.getD 115 Go.undef = .tuple (.bool t :: vs).toArray → (execOp a'.eval o4).run P W' = .ok (.value (.bool t)) W' := by
    intro a' W' t vs h
    split at e4o <;> try (simp at e4o; done)
    rename_i x hx
    obtain rfl := tmpB_spec e4o
    simp [execOp, hx, Sem.run_bind, eval_tmp, h, Instr.extract]
  rcases step with ⟨h0, run3⟩ | ⟨e, he, W3, hW3, run3⟩
  · -- nothing is left
    rw [wpOpsIn_cons]
    refine op_val rfl k3 nd3 run3 ?_
    rw [wpOpsIn_cons]
    refine op_val rfl k4 nd4 (run4 _ _ false [] (by rw [put_get (by omega)]; rfl)) ?_
    have hK4 : KeptT a ((a2.put (some 115) (.tuple #[.bool false])).put (some 116) (.bool false)) := .put (.put hK (by decide) _) (by decide) _
    have hc4 : ((a2.put (some 115) (.tuple #[.bool false])).put (some 116) (.bool false)).tmps.getD 116 Go.undef = .bool false := by rw [put_get (by rw [put_size]; omega)]; rfl
    generalize (a2.put (some 115) (.tuple #[.bool false])).put (some 116) (.bool false) = a4 at hK4 hc4 ⊢
    show (Code.seq _ _).wpIn _ _ _ _ _ _
    refine wpIn_seq (wpIn_cond_false (by rw [eval_tmp]; exact hc4) (wpIn_exit ?_))
    show if b1 = b1 then _ else _
    rw [if_pos rfl]
    refine ⟨st, hok fun p hp' => ?_, κ, back hK4 hk2⟩
    obtain ⟨e, he, hv'⟩ := hval2 p hp'
    obtain ⟨i, hi, hle⟩ := hseen e he (all_seen es seen h0 e he)
    rw [hv'] at hi
    simp only [Value.int.injEq, true_and] at hi
    omega
  · -- an entry
    have hrS : W3.heap[r]? = some (.mapIter (some b) clock seen c0) := by rcases hW3 with rfl | rfl <;> exact hri
    have hbS : W3.heap[b]? = some (.map es clock) := by rcases hW3 with rfl | rfl <;> exact hmb
    have hkS : SK R st a W3 κ := by rcases hW3 with rfl | rfl; exact hk2; exact hk2.grow (Ext.dr (Ext.refl _))
    have hkI := hkS.iter (seen' := seen.push e.born) (c' := clock) hrS hr0
    have hrl : r < W3.heap.size := (Array.getElem?_eq_some_iff.1 hrS).1
    have hrI : (W3.putObj r (.mapIter (some b) clock (seen.push e.born) clock)).heap[r]? = some (.mapIter (some b) clock (seen.push e.born) clock) := World.putObj_heap_same hrl
    have hbI : (W3.putObj r (.mapIter (some b) clock (seen.push e.born) clock)).heap[b]? = some (.map es clock) := (World.putObj_heap_other (by omega)).trans hbS
    generalize W3.putObj r (.mapIter (some b) clock (seen.push e.born) clock) = W4 at hkI hrI hbI run3
    have hee := mem_left he
    rw [wpOpsIn_cons]
    refine op_val rfl k3 nd3 run3 ?_
    rw [wpOpsIn_cons]
    refine op_val rfl k4 nd4 (run4 _ _ true [e.key, e.val] (by rw [put_get (by omega)]; rfl)) ?_
    have hK4 : KeptT a ((a2.put (some 115) (.tuple #[.bool true, e.key, e.val])).put (some 116) (.bool true)) := .put (.put hK (by decide) _) (by decide) _
    have hc4 : ((a2.put (some 115) (.tuple #[.bool true, e.key, e.val])).put (some 116) (.bool true)).tmps.getD 116 Go.undef = .bool true := by rw [put_get (by rw [put_size]; omega)]; rfl
    have hp4 : ((a2.put (some 115) (.tuple #[.bool true, e.key, e.val])).put (some 116) (.bool true)).tmps.getD 114 Go.undef = .pointer (some ⟨r, 0, none⟩) := by
      rw [put_get (by rw [put_size]; omega), if_neg (by decide), put_get (by omega), if_neg (by decide), hp]
    generalize (a2.put (some 115) (.tuple #[.bool true, e.key, e.val])).put (some 116) (.bool true) = a4 at hK4 hc4 hp4 ⊢
    show (Code.seq _ _).wpIn _ _ _ _ _ _
    refine wpIn_seq (wpIn_cond_true (by rw [eval_tmp]; exact hc4) (wpIn_skip ?_))
    show (Code.block _ _).wpIn _ _ _ _ _ _
    refine wpIn_block (wpIn_seq (wpIn_region ?_))
    show wpOpsIn (FW R.rd) m P #[o5, o6, o7] _ [0, 1, 2] a4 W4
    have hN4 := hsz' hK4
    have run5 : (execOp a4.eval o5).run P W4 = .ok (.value (.tuple #[e.key, e.val])) W4 := by
      split at e5o <;> try (simp at e5o; done)
      rename_i x hx
      obtain rfl := tmpB_spec e5o
      simp only [execOp, hx, Sem.run_bind, eval_tmp, hp4, run_entry_at (P := P) W4 r b clock seen es clock e hrI hbI hee.1 hst.2.1, Result.andThen_ok, Sem.run_pure]
    rw [wpOpsIn_cons]
    refine op_val rfl k5 nd5 run5 ?_
    rw [wpOpsIn_cons]
    have hg5 : (a4.put (some 117) (.tuple #[e.key, e.val])).tmps.getD 117 Go.undef = .tuple #[e.key, e.val] := by rw [put_get (by omega)]; rfl
    have hp5 : (a4.put (some 117) (.tuple #[e.key, e.val])).tmps.getD 114 Go.undef = .pointer (some ⟨r, 0, none⟩) := by rw [put_get (by omega), if_neg (by decide), hp4]
    have hK5 : KeptT a (a4.put (some 117) (.tuple #[e.key, e.val])) := .put hK4 (by decide) _
    generalize a4.put (some 117) (.tuple #[e.key, e.val]) = a5 at hg5 hp5 hK5 ⊢
    have hN5 := hsz' hK5
    have run6 : (execOp a5.eval o6).run P W4 = .ok (.value e.val) W4 := by
      split at e6o <;> try (simp at e6o; done)
      rename_i x hx
      obtain rfl := tmpB_spec e6o
      simp [execOp, hx, Sem.run_bind, eval_tmp, hg5, Instr.extract]
    refine op_val rfl k6 nd6 run6 ?_
    rw [wpOpsIn_cons]
    have hg6 : (a5.put (some 118) e.val).tmps.getD 118 Go.undef = e.val := by rw [put_get (by omega)]; rfl
    have hp6 : (a5.put (some 118) e.val).tmps.getD 114 Go.undef = .pointer (some ⟨r, 0, none⟩) := by rw [put_get (by omega), if_neg (by decide), hp5]
    have hK6 : KeptT a (a5.put (some 118) e.val) := .put hK5 (by decide) _
    generalize a5.put (some 118) e.val = a6 at hg6 hp6 hK6 ⊢
    have hN6 := hsz' hK6
    have run7 : (execOp a6.eval o7).run P W4 = .ok (.value e.val) W4 := by
      split at e7o <;> try (simp at e7o; done)
      all_goals
        rename_i x hx
        obtain rfl := tmpB_spec e7o
        simp only [execOp, hx, Sem.run_bind, Sem.run_pure, Result.andThen_ok, eval_tmp, hg6]
    refine op_val rfl k7 nd7 run7 ?_
    have hg7 : (a6.put (some 15) e.val).tmps.getD 15 Go.undef = e.val := by rw [put_get (by omega)]; rfl
    have hp7 : (a6.put (some 15) e.val).tmps.getD 114 Go.undef = .pointer (some ⟨r, 0, none⟩) := by rw [put_get (by omega), if_neg (by decide), hp6]
    have hK7 : KeptT a (a6.put (some 15) e.val) := .put hK6 (by decide) _
    generalize a6.put (some 15) e.val = a7 at hg7 hp7 hK7 ⊢
    have hN7 := hsz' hK7
    show (Code.seq _ _).wpIn _ _ _ _ _ _
    refine wpIn_seq (wpIn_region ?_)
    show wpOpsIn (FW R.rd) m P #[o8, o9] _ [0, 1] a7 W4
    have run8 : (execOp a7.eval o8).run P W4 = .ok (.value e.val) W4 := by
      split at e8o <;> try (simp at e8o; done)
      all_goals
        rename_i x hx
        obtain rfl := tmpB_spec e8o
        simp only [execOp, hx, Sem.run_bind, Sem.run_pure, Result.andThen_ok, eval_tmp, hg7]
    rw [wpOpsIn_cons]
    refine op_val rfl k8 nd8 run8 ?_
    rw [wpOpsIn_cons]
    have hg8 : (a7.put (some 119) e.val).tmps.getD 119 Go.undef = e.val := by rw [put_get (by omega)]; rfl
    have hp8 : (a7.put (some 119) e.val).tmps.getD 114 Go.undef = .pointer (some ⟨r, 0, none⟩) := by rw [put_get (by omega), if_neg (by decide), hp7]
    have hK8 : KeptT a (a7.put (some 119) e.val) := .put hK7 (by decide) _
    generalize a7.put (some 119) e.val = a8 at hg8 hp8 hK8 ⊢
    have hN8 := hsz' hK8
    obtain ⟨p, hpk, hpv⟩ := hval e hee.1
    have run9 : (execOp a8.eval o9).run P W4 = .ok (.value (.bool (decide (6 < p.2)))) W4 := by
      split at e9o <;> try (simp at e9o; done)
      rename_i t x u hx
      simp only [Bool.and_eq_true] at e9o
      obtain rfl := tmpB_spec e9o.1
      obtain ⟨rv, hrun, hrv⟩ := aBin_sim (P := P) (op := .gtr) (t := t) (x' := .tmp 119) (y' := .const (.int .i64 6)) (E := st.env R.M κ) (W := W4) (x := .int .i64 p.2) (y := .int .i64 6) e9o.2 (.pv (.int _ _)) (.pv (.int _ _)) rfl
      have hrv := hrv.bool_inv
      subst hrv
      have hc : a8.eval (.const (.int .i64 6)) = .int .i64 6 := rfl
      have ht : a8.eval (.tmp 119) = .int .i64 p.2 := by rw [eval_tmp, hg8, hpv]
      simp only [execOp, hx, Sem.run_bind]
      rw [Sem.run_bind] at hrun
      rw [hc, ht, hrun]
      rfl
    refine op_val rfl k9 nd9 run9 ?_
    have hg9 : (a8.put (some 120) (.bool (decide (6 < p.2)))).tmps.getD 120 Go.undef = .bool (decide (6 < p.2)) := by rw [put_get (by omega)]; rfl
    have hp9 : (a8.put (some 120) (.bool (decide (6 < p.2)))).tmps.getD 114 Go.undef = .pointer (some ⟨r, 0, none⟩) := by rw [put_get (by omega), if_neg (by decide), hp8]
    have hK9 : KeptT a (a8.put (some 120) (.bool (decide (6 < p.2)))) := .put hK8 (by decide) _
    generalize a8.put (some 120) (.bool (decide (6 < p.2))) = a9 at hg9 hp9 hK9 ⊢
    show (Code.cond _ _ _).wpIn _ _ _ _ _ _
    refine wpIn_cond (by rw [eval_tmp]; exact hg9) ?_
    by_cases h6 : 6 < p.2
    · simp only [h6, decide_true, if_true]
      refine wpIn_mono (hbad ⟨p, hpk, h6⟩ c5 hc5 m a9 W4 ⟨κ, back hK9 hkI⟩) ?_
      rintro ex a' W' ⟨st', ⟨rfl, hΦ⟩, hs'⟩
      exact ⟨st', hΦ, hs'⟩
    · simp only [h6, decide_false, Bool.false_eq_true, if_false]
      refine wpIn_skip ?_
      refine ⟨_, left_shrinks es seen e he, seen.push e.born, clock, rfl, hK9, hp9, hkI, hrI, hbI, Nat.le_refl _, fun x hx hxs => ?_⟩
      rw [contains_push] at hxs
      simp only [Bool.or_eq_true, beq_iff_eq] at hxs
      rcases hxs with hxs | hxs
      · exact hseen x hx hxs
      · obtain rfl : x = e := born_inj hst.2.1 hx hee.1 hxs
        exact ⟨p.2, hpv, by omega⟩
end
end Go.Proofs.YtdpmioiamcgfkaaDoor
