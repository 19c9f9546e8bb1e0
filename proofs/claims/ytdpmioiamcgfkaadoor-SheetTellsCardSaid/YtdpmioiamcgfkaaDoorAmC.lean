/-
  The abstract machine: what the world's changes mean for it; loads, stores, fields, boxes.
-/
import Derived.Test.YtdpmioiamcgfkaaDoorAmB
import Derived.Deep.Upon
import Derived.RangeFuncRecord
namespace Go.Proofs.YtdpmioiamcgfkaaDoor
open Go.RowKit

section
variable {P : Program} {R : Run} {st : St} {a : Act} {W W' : World} {κ : Nat → Option (Nat × Nat)}

theorem SK.owned_lt (h : SK R st a W κ) {b : Nat} (hb : (st.env R.M κ).M b) : b < W.heap.size := by
  rcases hb with hb | ⟨k, s, hk⟩
  · exact Nat.lt_of_lt_of_le (h.low b hb) h.kp.size
  · obtain ⟨o, ho⟩ := h.dom k _ hk
    obtain ⟨b', s', h1, h2, -⟩ := h.obj k o ho
    rw [hk] at h1
    simp only [Option.some.injEq, Prod.mk.injEq] at h1
    rw [h1.1]; exact h2

/-- The world has grown. -/
theorem Mono.grow {E : Env} (he : Ext W W') (ho : ∀ k b s, E.loc k = some (b, s) → b < W.heap.size) : Mono E W E W' where
  size := he.size
  imm b hb hM := ⟨hM, he.block b hb⟩
  box k p h hr := ⟨h, hr⟩
  row k sz m h := ⟨m, h, Nat.le_refl _, fun _ b s cs t hl => ⟨hl, fun hw => ⟨cs, (he.block b (ho k b s hl)).trans hw, rfl⟩⟩⟩

theorem SK.loc_lt (h : SK R st a W κ) {k b s : Nat} (hk : κ k = some (b, s)) : b < W.heap.size := h.owned_lt (.inr ⟨k, s, hk⟩)

theorem Marks.ext {nm : Bool} {D ds : List Deferred} {n0 : Nat} (h : Marks nm D n0 ds W) (he : Ext W W') : Marks nm D n0 ds W' := h.of fun c hc => (he.block c (Array.getElem?_eq_some_iff.1 hc).1).trans hc

theorem SK.grow (h : SK R st a W κ) (he : Ext W W') : SK R st a W' κ := by
  have m : Mono (st.env R.M κ) W (st.env R.M κ) W' := .grow he (fun k b s hk => h.loc_lt hk)
  refine ⟨h.defers.ext he, h.size, fun n x hx => (h.tm n x hx).mono m, fun k o ho => ?_, h.dom, h.inj, h.low, h.apart, h.kp.trans he.kp, h.gr.mono m.imm m.size, h.mono.trans m, h.ent⟩
  obtain ⟨b, s, h1, h2, h3, h4⟩ := h.obj k o ho
  exact ⟨b, s, h1, Nat.lt_of_lt_of_le h2 he.size, h3, h4.mono m (he.block b h2)⟩

/-- A block that is neither cells nor a map. -/
def Odd : Obj → Prop
  | .cells .. | .map .. => False
  | _ => True
/-- The same worlds, but for blocks that are neither cells nor maps. -/
def Dfr (W W' : World) : Prop := W.heap.size = W'.heap.size ∧ ∀ b : Nat, W'.heap[b]? = W.heap[b]? ∨ ∃ o, W.heap[b]? = some o ∧ Odd o
theorem Dfr.same (h : Dfr W W') {b : Nat} {o : Obj} (hb : W.heap[b]? = some o) (ho : ¬ Odd o) : W'.heap[b]? = some o := by
  rcases h.2 b with e | ⟨o', e, e2⟩
  · rw [e, hb]
  · rw [hb] at e; cases e; exact absurd e2 ho
theorem Dfr.cell (h : Dfr W W') {b o : Nat} {v : Value} (hc : W.cell? ⟨b, o, none⟩ = some v) : W'.cell? ⟨b, o, none⟩ = some v := by
  rcases h.2 b with e | ⟨o', e, e2⟩
  · rw [cell_of e]; exact hc
  · cases o' <;> first | exact e2.elim | simp [World.cell?, e] at hc
theorem PV.dfr {M : Nat → Prop} {x : AV} {v : Value} (hd : Dfr W W') (h : PV M W x v) : PV M W' x v := by
  induction h with
  | hole => exact .hole
  | int k n => exact .int k n
  | bool b => exact .bool b
  | abool b => exact .abool b
  | str s => exact .str s
  | nilp => exact .nilp
  | nils => exact .nils
  | nilm => exact .nilm
  | nilf => exact .nilf
  | vptr cells off b o f hb hM hc hr ih => exact .vptr cells off b o f (hd.1 ▸ hb) hM (fun j hj => hd.cell (hc j hj)) ih
  | vsl rows a cap sz b o f hcap hmax ha hn hs hc hr ih => exact .vsl rows a cap sz b o f hcap hmax (fun h => ⟨(ha h).1, hd.1 ▸ (ha h).2.1, (ha h).2.2⟩) hn hs (fun i j hi hj => hd.cell (hc i j hi hj)) ih
  | func fn xs ys us vs h1 h2 hx hy ihx ihy => exact .func fn xs ys us vs h1 h2 ihx ihy
  | agg xs us h1 hx ih => exact .agg xs us h1 ih
  | tup xs us h1 hx ih => exact .tup xs us h1 ih
  | vmap kvs b es clock hb hM ho hs hn hk' hv ihk ihv => exact .vmap kvs b es clock (hd.1 ▸ hb) hM (hd.same ho (fun e => e)) hs hn ihk ihv
theorem VR.dfr {E : Env} {x : AV} {v : Value} (hd : Dfr W W') (h : VR E W x v) : VR E W' x v := by
  induction h with
  | pv h => exact .pv (h.dfr hd)
  | undef v => exact .undef v
  | ptr k off b s h hr => exact .ptr k off b s h hr
  | eptr k n i off sz l p h hn he => exact .eptr k n i off sz l p h hn he
  | osl k n sz l a ll c h hn he =>
    refine .osl k n sz l a ll c h hn fun e => ?_
    obtain ⟨b, s, cs, t, h4, h5, h6, h7, h8, h9, h10⟩ := he e
    exact ⟨b, s, cs, t, h4, h5, h6, h7, h8, hd.same h9 (fun e => e), h10⟩
  | func fn xs ys us vs h1 h2 hx hy ihx ihy => exact .func fn xs ys us vs h1 h2 ihx ihy
  | agg xs us h1 hx ih => exact .agg xs us h1 ih
  | tup xs us h1 hx ih => exact .tup xs us h1 ih
  | mp k b h hr => exact .mp k b h hr
theorem PV.odd {M : Nat → Prop} {x : AV} {v : Value} (h : PV M W x v) (hd : Dfr W W') : PV M W' x v := h.dfr hd
/-- New blocks that are neither cells nor maps have turned. -/
theorem SK.odd (h : SK R st a W κ) (hd : Dfr W W') (hos : W'.os = W.os) (hta : W'.tape = W.tape) (hou : W'.output = W.output) (hlow : ∀ b : Nat, b < R.W0.heap.size → W'.heap[b]? = W.heap[b]?) {a' : Act} (ha : a'.tmps = a.tmps) (hm : Marks R.nm R.D R.W0.heap.size a'.defers W') : SK R st a' W' κ := by
  have hsz := hd.1
  refine ⟨hm, by rw [ha]; exact h.size, fun n x hx => by rw [ha]; exact (h.tm n x hx).dfr hd, fun k o hk => ?_, h.dom, h.inj, h.low, h.apart, ?_, fun g cs hg => (h.gr g cs hg).dfr hd, ?_, h.ent⟩
  · obtain ⟨b, s, h1, h2, h3, h4⟩ := h.obj k o hk
    refine ⟨b, s, h1, by omega, h3, ?_⟩
    cases o with
    | box cells =>
      obtain ⟨h0, cs, t, h5, h6, h7⟩ := h4
      exact ⟨h0, cs, t, hd.same h5 (fun e => e), h6, fun j x hj => (h7 j x hj).imp fun v hv => ⟨hv.1, hv.2.dfr hd⟩⟩
    | row sz rows =>
      obtain ⟨h0, cs, t, h5, h6, h7⟩ := h4
      exact ⟨h0, cs, t, hd.same h5 (fun e => e), h6, fun i j r x hi hj => (h7 i j r x hi hj).imp fun v hv => ⟨hv.1, hv.2.dfr hd⟩⟩
    | mp kvs =>
      obtain ⟨h0, es, t, h5, h6, h7, h8⟩ := h4
      exact ⟨h0, es, t, hd.same h5 (fun e => e), h6, h7, fun i x y hi => (h8 i x y hi).imp fun e he => ⟨he.1, he.2.1.dfr hd, he.2.2.dfr hd⟩⟩
  · exact ⟨hos.trans h.kp.os, hta.trans h.kp.tape, hou.trans h.kp.output, by have := h.kp.size; omega, fun i hi hx => (hlow i hi).trans (h.kp.block i hi hx)⟩
  · refine ⟨by have := h.mono.size; omega, fun b hb hM => ⟨(h.mono.imm b hb hM).1, (hlow b hb).trans (h.mono.imm b hb hM).2⟩, h.mono.box, fun k sz m hk => ?_⟩
    obtain ⟨m', g1, g2, g3⟩ := h.mono.row k sz m hk
    refine ⟨m', g1, g2, fun e b s cs t hl => ⟨(g3 e b s cs t hl).1, fun hw => ?_⟩⟩
    obtain ⟨cs', g4, g5⟩ := (g3 e b s cs t hl).2 hw
    exact ⟨cs', hd.same g4 (fun e => e), g5⟩

theorem Dfr.put {l : Nat} {o o' : Obj} (hl : W.heap[l]? = some o) (ho : Odd o) : Dfr W (W.putObj l o') := ⟨by simp, fun b => by
  by_cases e : b = l
  · subst e; exact .inr ⟨_, hl, ho⟩
  · exact .inl (World.putObj_heap_other e)⟩

/-- What is deferred and empty is taken. -/
theorem SK.take (h : SK R st a W κ) {c : Nat} {cs : List Nat} (hc : W.heap[c]? = some (.deferred (some []))) (hc0 : R.W0.heap.size ≤ c) (hcs : ∀ x ∈ cs, x ≠ c ∧ R.W0.heap.size ≤ x ∧ W.heap[x]? = some (.deferred (some []))) (hnd : cs.Nodup) (hnm : R.nm = true → cs = []) :
    SK R st { a with defers := cs.map coll ++ R.D } (W.putObj c (.deferred none)) κ :=
  h.odd (.put hc trivial) rfl rfl rfl (fun b hb => World.putObj_heap_other (by omega)) rfl ⟨cs, rfl, hnd, fun x hx => ⟨(hcs x hx).2.1, (World.putObj_heap_other (hcs x hx).1).trans (hcs x hx).2.2⟩, hnm⟩

/-- A temporary is set. -/
theorem SK.put (h : SK R st a W κ) {d : Nat} (hd : d < R.N) {x : AV} {v : Value} (hv : VR (st.env R.M κ) W x v) : SK R (st.put d x) (a.put (some d) v) W κ := by
  refine ⟨h.defers, by simpa [Act.put] using h.size, fun n y hy => ?_, h.obj, h.dom, h.inj, h.low, h.apart, h.kp, h.gr, h.mono, h.ent⟩
  show VR (st.env R.M κ) W y ((a.tmps.setIfInBounds d v).getD n Go.undef)
  rw [St.tmp_put] at hy
  have hd' : d < a.tmps.size := by rw [h.size]; exact hd
  by_cases e : d = n
  · subst e
    simp at hy
    subst hy
    simpa [Array.getD, hd'] using hv
  · simp only [e, if_false] at hy
    have h2 := h.tm n y hy
    have h3 : (a.tmps.setIfInBounds d v).getD n Go.undef = a.tmps.getD n Go.undef := by
      simp only [Array.getD_eq_getD_getElem?, Array.getElem?_setIfInBounds, if_neg e]
    rw [h3]; exact h2

/-- What is there may be forgotten: fewer temporaries. -/
theorem SK.sub (h : SK R st a W κ) {t' : List (Nat × AV)} (ht : ∀ n x, lk t' n = some x → lk st.t n = some x) : SK R { st with t := t' } a W κ :=
  ⟨h.defers, h.size, fun n x hx => h.tm n x (ht n x hx), h.obj, h.dom, h.inj, h.low, h.apart, h.kp, h.gr, h.mono, h.ent⟩

/-- Cells stand for an object's contents. -/
def RowOk (E : Env) (W : World) (cs : Array Value) (s : Nat) : AObj → Prop
  | .box cells => cs.size = cells.length ∧ s = 0 ∧ ∀ (j : Nat) (x : AV), cells[j]? = some x → ∃ v, cs[j]? = some v ∧ VR E W x v
  | .row sz rows => (∀ r ∈ rows, r.length = sz) ∧ s + rows.length * sz ≤ cs.size ∧
    ∀ (i j : Nat) (r : List AV) (x : AV), rows[i]? = some r → r[j]? = some x → ∃ v, cs[s + i * sz + j]? = some v ∧ VR E W x v
  | .mp _ => False
/-- A heap object stands for an object. -/
def ObOk (E : Env) (W : World) (ob : Obj) (s : Nat) : AObj → Prop
  | .mp kvs => s = 0 ∧ ∃ es clock, ob = .map es clock ∧ MapKept.Stamped es clock ∧ es.size = kvs.length ∧ ∀ (i : Nat) (x y : AV), kvs[i]? = some (x, y) → ∃ e, es[i]? = some e ∧ VR E W x e.key ∧ VR E W y e.val
  | o => ∃ cs t, ob = .cells cs t (0, 0) ∧ RowOk E W cs s o
theorem ObOk.obj {E E' : Env} {b s : Nat} {ob : Obj} {o : AObj} (ho : ObOk E W ob s o) (m : Mono E W E' W') (hw : W'.heap[b]? = some ob) : ObjR E' W' b s o := by
  cases o with
  | box cells =>
    obtain ⟨cs, t, rfl, ho⟩ := ho
    exact ⟨ho.2.1, cs, t, hw, ho.1, fun j x hj => (ho.2.2 j x hj).imp fun v hv => ⟨hv.1, hv.2.mono m⟩⟩
  | row sz rows =>
    obtain ⟨cs, t, rfl, ho⟩ := ho
    exact ⟨ho.1, cs, t, hw, ho.2.1, fun i j r x hi hj => (ho.2.2 i j r x hi hj).imp fun v hv => ⟨hv.1, hv.2.mono m⟩⟩
  | mp kvs =>
    obtain ⟨h0, es, t, rfl, h2, h3, h4⟩ := ho
    exact ⟨h0, es, t, hw, h2, h3, fun i x y hi => (h4 i x y hi).imp fun e he => ⟨he.1, he.2.1.mono m, he.2.2.mono m⟩⟩

/-- A block comes that the function owns. -/
theorem SK.newO (h : SK R st a W κ) {d : Nat} (hd : st.get d = none) {obj : AObj} {ob : Obj}
    (ho : ObOk (st.env R.M κ) W ob 0 obj) :
    SK R (st.set d obj) a (W.alloc ob) (fun k => if k = d then some (W.heap.size, 0) else κ k) := by
  have hnd : κ d = none := by
    cases e : κ d with
    | none => rfl
    | some p => obtain ⟨o, ho⟩ := h.dom d p e; rw [hd] at ho; cases ho
  have he : Ext W (W.alloc ob) := Ext.al (Ext.refl W)
  have m : Mono (st.env R.M κ) W ((st.set d obj).env R.M (fun k => if k = d then some (W.heap.size, 0) else κ k)) (W.alloc ob) := by
    refine ⟨he.size, fun b hb hM => ⟨?_, he.block b hb⟩, fun k p hk hr => ?_, fun k sz m hk => ⟨m, ?_, Nat.le_refl _, fun _ b s cs' t' hl => ?_⟩⟩
    · rintro (h1 | ⟨k, s, h1⟩)
      · exact hM (.inl h1)
      · by_cases e : k = d
        · simp only [e, if_true, Option.some.injEq, Prod.mk.injEq] at h1; omega
        · simp only [e, if_false] at h1; exact hM (.inr ⟨k, s, h1⟩)
    · have e : ¬ k = d := by rintro rfl; rw [show (st.env R.M κ).loc k = κ k from rfl, hnd] at hk; cases hk
      refine ⟨by simp only [St.env, e, if_false]; exact hk, ?_⟩
      simp only [St.env, St.get_set]
      rw [if_neg (fun e2 => e e2.symm)]
      exact hr
    · have e : ¬ k = d := by rintro rfl; simp [St.env, hd] at hk
      simp only [St.env, St.get_set]
      rw [if_neg (fun e2 => e e2.symm)]
      exact hk
    · have e : ¬ k = d := by rintro rfl; rw [show (st.env R.M κ).loc k = κ k from rfl, hnd] at hl; cases hl
      exact ⟨by simp only [St.env, e, if_false]; exact hl, fun hw => ⟨cs', (he.block b (h.loc_lt hl)).trans hw, rfl⟩⟩
  refine ⟨h.defers.ext he, h.size, fun n x hx => (h.tm n x hx).mono m, fun k o hk => ?_, fun k p hk => ?_, fun k k' b s s' hk hk' => ?_, h.low, h.apart, h.kp.trans he.kp, h.gr.mono m.imm m.size, h.mono.trans m, h.ent⟩
  · rw [St.get_set] at hk
    by_cases e : k = d
    · subst e
      simp only [if_true, Option.some.injEq] at hk
      subst hk
      refine ⟨W.heap.size, 0, by simp, by simp, .inl h.kp.size, ?_⟩
      exact ho.obj m (World.alloc_heap_new _ _)
    · rw [if_neg (fun e2 => e e2.symm)] at hk
      obtain ⟨b, s, h1, h2, h3, h4⟩ := h.obj k o hk
      exact ⟨b, s, by simp only [e, if_false]; exact h1, Nat.lt_of_lt_of_le h2 he.size, h3, h4.mono m (he.block b h2)⟩
  · rw [St.get_set]
    by_cases e : k = d
    · exact ⟨obj, by rw [if_pos e.symm]⟩
    · simp only [e, if_false] at hk
      rw [if_neg (fun e2 => e e2.symm)]
      exact h.dom k p hk
  · by_cases e : k = d <;> by_cases e' : k' = d
    · rw [e, e']
    · simp only [e, e', if_true, if_false, Option.some.injEq, Prod.mk.injEq] at hk hk'
      have := h.loc_lt hk'
      omega
    · simp only [e, e', if_true, if_false, Option.some.injEq, Prod.mk.injEq] at hk hk'
      have := h.loc_lt hk
      omega
    · simp only [e, e', if_false] at hk hk'
      exact h.inj k k' b s s' hk hk'

/-- A block comes that the function owns, in a later world. -/
theorem SK.newX (h : SK R st a W κ) {W' : World} (he : Ext W W') {b0 s0 : Nat} (hb0 : W.heap.size ≤ b0) (hb1 : b0 < W'.heap.size) {d : Nat} (hd : st.get d = none) {obj : AObj}
    (ho : ∀ E : Env, ObjR E W' b0 s0 obj) :
    SK R (st.set d obj) a W' (fun k => if k = d then some (b0, s0) else κ k) := by
  have hnd : κ d = none := by
    cases e : κ d with
    | none => rfl
    | some p => obtain ⟨o, ho⟩ := h.dom d p e; rw [hd] at ho; cases ho
  have m : Mono (st.env R.M κ) W ((st.set d obj).env R.M (fun k => if k = d then some (b0, s0) else κ k)) W' := by
    refine ⟨he.size, fun b hb hM => ⟨?_, he.block b hb⟩, fun k p hk hr => ?_, fun k sz m hk => ⟨m, ?_, Nat.le_refl _, fun _ b s cs' t' hl => ?_⟩⟩
    · rintro (h1 | ⟨k, s, h1⟩)
      · exact hM (.inl h1)
      · by_cases e : k = d
        · simp only [e, if_true, Option.some.injEq, Prod.mk.injEq] at h1; omega
        · simp only [e, if_false] at h1; exact hM (.inr ⟨k, s, h1⟩)
    · have e : ¬ k = d := by rintro rfl; rw [show (st.env R.M κ).loc k = κ k from rfl, hnd] at hk; cases hk
      refine ⟨by simp only [St.env, e, if_false]; exact hk, ?_⟩
      simp only [St.env, St.get_set]
      rw [if_neg (fun e2 => e e2.symm)]
      exact hr
    · have e : ¬ k = d := by rintro rfl; simp [St.env, hd] at hk
      simp only [St.env, St.get_set]
      rw [if_neg (fun e2 => e e2.symm)]
      exact hk
    · have e : ¬ k = d := by rintro rfl; rw [show (st.env R.M κ).loc k = κ k from rfl, hnd] at hl; cases hl
      exact ⟨by simp only [St.env, e, if_false]; exact hl, fun hw => ⟨cs', (he.block b (h.loc_lt hl)).trans hw, rfl⟩⟩
  refine ⟨h.defers.ext he, h.size, fun n x hx => (h.tm n x hx).mono m, fun k o hk => ?_, fun k p hk => ?_, fun k k' b s s' hk hk' => ?_, h.low, h.apart, h.kp.trans he.kp, h.gr.mono m.imm m.size, h.mono.trans m, h.ent⟩
  · rw [St.get_set] at hk
    by_cases e : k = d
    · subst e
      simp only [if_true, Option.some.injEq] at hk
      subst hk
      exact ⟨b0, s0, by simp, hb1, .inl (Nat.le_trans h.kp.size hb0), ho _⟩
    · rw [if_neg (fun e2 => e e2.symm)] at hk
      obtain ⟨b, s, h1, h2, h3, h4⟩ := h.obj k o hk
      exact ⟨b, s, by simp only [e, if_false]; exact h1, Nat.lt_of_lt_of_le h2 he.size, h3, h4.mono m (he.block b h2)⟩
  · rw [St.get_set]
    by_cases e : k = d
    · exact ⟨obj, by rw [if_pos e.symm]⟩
    · simp only [e, if_false] at hk
      rw [if_neg (fun e2 => e e2.symm)]
      exact h.dom k p hk
  · by_cases e : k = d <;> by_cases e' : k' = d
    · rw [e, e']
    · simp only [e, e', if_true, if_false, Option.some.injEq, Prod.mk.injEq] at hk hk'
      have := h.loc_lt hk'
      omega
    · simp only [e, e', if_true, if_false, Option.some.injEq, Prod.mk.injEq] at hk hk'
      have := h.loc_lt hk
      omega
    · simp only [e, e', if_false] at hk hk'
      exact h.inj k k' b s s' hk hk'

theorem SK.new (h : SK R st a W κ) {d : Nat} (hd : st.get d = none) {obj : AObj} {cs : Array Value} {t : TypeId}
    (ho : RowOk (st.env R.M κ) W cs 0 obj) :
    SK R (st.set d obj) a (W.alloc (.cells cs t)) (fun k => if k = d then some (W.heap.size, 0) else κ k) :=
  h.newO hd (by cases obj <;> first | exact ⟨cs, t, rfl, ho⟩ | exact ho.elim)

/-- The cells of an owned block change, not its place. -/
theorem SK.changeO (h : SK R st a W κ) {k b s : Nat} {o o' : AObj} {ob ob' : Obj} (hg : st.get k = some o) (hk : κ k = some (b, s)) (hb : W.heap[b]? = some ob) (hdf : ob ≠ .deferred (some []))
    (hd : o'.dim = o.dim) (hsz : ∀ cs t, ob = .cells cs t (0, 0) → ∃ cs', ob' = .cells cs' t (0, 0) ∧ cs'.size = cs.size) (hz : W'.heap.size = W.heap.size) (hw : W'.heap[b]? = some ob') (hot : ∀ i, i < W.heap.size → i ≠ b → W'.heap[i]? = W.heap[i]?)
    (hos : W'.os = W.os) (hta : W'.tape = W.tape) (hou : W'.output = W.output)
    (ho : ObOk (st.env R.M κ) W ob' s o') :
    SK R (st.set k o') a W' κ := by
  have henv : (st.set k o').env R.M κ = st.env R.M κ := by
    unfold St.env
    congr 1
    funext j
    rw [St.get_set]
    by_cases e : k = j
    · subst e; rw [if_pos rfl, hg]; simp [hd]
    · rw [if_neg e]
  have m : Mono (st.env R.M κ) W (st.env R.M κ) W' := by
    refine ⟨by omega, fun i hi hM => ⟨hM, hot i hi (fun e => hM (.inr ⟨k, s, by rw [e]; exact hk⟩))⟩, fun _ _ h1 h2 => ⟨h1, h2⟩, fun k' sz m hk' => ⟨m, hk', Nat.le_refl _, fun _ b' s' cs2 t2 hl => ⟨hl, fun hw2 => ?_⟩⟩⟩
    by_cases e : b' = b
    · subst e
      rw [hb] at hw2
      simp only [Option.some.injEq] at hw2
      obtain ⟨cs', g1, g2⟩ := hsz _ _ hw2
      exact ⟨cs', hw.trans (congrArg _ g1), g2⟩
    · exact ⟨cs2, (hot b' (h.loc_lt hl) e).trans hw2, rfl⟩
  obtain ⟨b1, s1, g1, g2, g3, g4⟩ := h.obj k o hg
  rw [hk] at g1
  simp only [Option.some.injEq, Prod.mk.injEq] at g1
  obtain ⟨rfl, rfl⟩ := g1
  have hkp : Kp R.X R.W0 W' := by
    refine ⟨hos.trans h.kp.os, hta.trans h.kp.tape, hou.trans h.kp.output, by have := h.kp.size; omega, fun i hi hx => ?_⟩
    rw [hot i (Nat.lt_of_lt_of_le hi h.kp.size) (by rintro rfl; rcases g3 with g3 | g3; · omega
                                                    · exact hx g3)]
    exact h.kp.block i hi hx
  refine ⟨h.defers.of fun c hc => (hot c (Array.getElem?_eq_some_iff.1 hc).1 (by rintro rfl; rw [hb] at hc; exact hdf (Option.some.inj hc))).trans hc, h.size, fun n x hx => by rw [henv]; exact (h.tm n x hx).mono m, fun k' o2 hk2 => ?_, fun k' p hk' => ?_, h.inj, h.low, h.apart, hkp, by rw [henv]; exact h.gr.mono m.imm m.size, by rw [henv]; exact h.mono.trans m, h.ent⟩
  · rw [St.get_set] at hk2
    by_cases e : k = k'
    · subst e
      rw [if_pos rfl] at hk2
      simp only [Option.some.injEq] at hk2
      subst hk2
      refine ⟨b, s, hk, by omega, g3, ?_⟩
      rw [henv]
      exact ho.obj m hw
    · rw [if_neg e] at hk2
      obtain ⟨b2, s2, h1, h2, h3, h4⟩ := h.obj k' o2 hk2
      have hne : b2 ≠ b := fun e2 => e (h.inj k k' b s s2 hk (by rw [← e2]; exact h1))
      exact ⟨b2, s2, h1, by omega, h3, by rw [henv]; exact h4.mono m (hot b2 h2 hne)⟩
  · rw [St.get_set]
    by_cases e : k = k'
    · exact ⟨o', by rw [if_pos e]⟩
    · rw [if_neg e]; exact h.dom k' p hk'

theorem SK.change (h : SK R st a W κ) {k b s : Nat} {o o' : AObj} {cs cs' : Array Value} {t : TypeId} (hg : st.get k = some o) (hk : κ k = some (b, s)) (hb : W.heap[b]? = some (.cells cs t (0, 0)))
    (hd : o'.dim = o.dim) (hsz : cs'.size = cs.size) (hz : W'.heap.size = W.heap.size) (hw : W'.heap[b]? = some (.cells cs' t (0, 0))) (hot : ∀ i, i < W.heap.size → i ≠ b → W'.heap[i]? = W.heap[i]?)
    (hos : W'.os = W.os) (hta : W'.tape = W.tape) (hou : W'.output = W.output)
    (ho : RowOk (st.env R.M κ) W cs' s o') :
    SK R (st.set k o') a W' κ :=
  h.changeO hg hk hb (fun e => by cases e) hd (fun cs2 t2 e => by cases e; exact ⟨cs', rfl, hsz⟩) hz hw hot hos hta hou (by cases o' <;> first | exact ⟨cs', t, rfl, ho⟩ | exact ho.elim)

theorem SK.notdf (h : SK R st a W κ) {k b s : Nat} (hk : κ k = some (b, s)) {ds : Option (List Deferred)} : W.heap[b]? ≠ some (.deferred ds) := by
  intro e
  obtain ⟨o, ho⟩ := h.dom k _ hk
  obtain ⟨b', s', h1, h2, h3, h4⟩ := h.obj k o ho
  rw [hk] at h1
  simp only [Option.some.injEq, Prod.mk.injEq] at h1
  obtain ⟨rfl, rfl⟩ := h1
  cases o with
  | box cells => obtain ⟨-, cs, t, q, -⟩ := h4; rw [q] at e; cases e
  | row sz rows => obtain ⟨-, cs, t, q, -⟩ := h4; rw [q] at e; cases e
  | mp kvs => obtain ⟨-, cs, t, q, -⟩ := h4; rw [q] at e; cases e

/-- Where a pointer's cells lie. -/
theorem SK.cellsAt (h : SK R st a W κ) {p : AV} {v : Value} (hp : VR (st.env R.M κ) W p v) {cs : List AV} {off : Nat} (hc : cellsAt st p = some (cs, off)) :
    ∃ b o, v = .pointer (some ⟨b, o + off, none⟩) ∧ ∀ (j : Nat) (x : AV), cs[j]? = some x → ∃ u, W.cell? ⟨b, o + j, none⟩ = some u ∧ VR (st.env R.M κ) W x u := by
  unfold Go.Proofs.YtdpmioiamcgfkaaDoor.cellsAt at hc
  split at hc
  · simp only [Option.some.injEq, Prod.mk.injEq] at hc
    obtain ⟨rfl, rfl⟩ := hc
    cases hp with
    | pv hp =>
      cases hp with
      | vptr _ _ b o f hb hM hc hr => exact ⟨b, o, rfl, fun j x hj => ⟨f j, hc j (List.getElem?_eq_some_iff.1 hj).1, .pv (hr j x hj)⟩⟩
  · rename_i k off'
    split at hc <;> simp only [Option.some.injEq, Prod.mk.injEq, reduceCtorEq] at hc
    rename_i cs' hg
    obtain ⟨rfl, rfl⟩ := hc
    obtain ⟨b, s, h1, -, hv⟩ := hp.ptr_inv
    obtain ⟨b', s', h2, h3, h4, h5, us, t, h6, h7, h8⟩ := h.obj k _ hg
    rw [show (st.env R.M κ).loc k = κ k from rfl, h2] at h1
    simp only [Option.some.injEq, Prod.mk.injEq] at h1
    obtain ⟨rfl, rfl⟩ := h1
    subst h5
    refine ⟨b', 0, hv, fun j x hj => ?_⟩
    obtain ⟨u, hu, hr⟩ := h8 j x hj
    exact ⟨u, by simp [World.cell?, h6, hu], hr⟩
  · rename_i k n i off'
    split at hc <;> try (simp at hc; done)
    rename_i sz rows hg
    split at hc <;> simp only [Option.map_eq_some_iff, Prod.mk.injEq, reduceCtorEq] at hc
    rename_i hn
    obtain ⟨r, hr, rfl, rfl⟩ := hc
    obtain ⟨sz', m, p, h1, h2, hv, he⟩ := hp.eptr_inv
    simp only [St.env, hg, Option.bind_some, AObj.dim, Option.some.injEq, Prod.mk.injEq] at h1
    obtain ⟨rfl, rfl⟩ := h1
    obtain ⟨b, s, hl, rfl⟩ := he hn
    obtain ⟨b', s', g2, g3, g4, g5, us, t, g6, g7, g8⟩ := h.obj k _ hg
    rw [show (st.env R.M κ).loc k = κ k from rfl, g2] at hl
    simp only [Option.some.injEq, Prod.mk.injEq] at hl
    obtain ⟨rfl, rfl⟩ := hl
    refine ⟨b', s' + i * sz, hv, fun j x hj => ?_⟩
    obtain ⟨u, hu, hx⟩ := g8 i j r x hr hj
    exact ⟨u, by simp [World.cell?, g6, hu], hx⟩
  · simp at hc

theorem agg_some {t : TypeId} {b : Bool} (h : aggB P t = some b) : ∃ d, P.underlying t = some d ∧ d.isRow = b := by
  exact Option.map_eq_some_iff.1 h
theorem sz_some {t : TypeId} {n : Nat} (h : szB P t = some n) : ∃ i, P.info? t = some i ∧ i.size = n := Option.map_eq_some_iff.1 h

theorem isAgg_run {t : TypeId} {b : Bool} (h : aggB P t = some b) (W : World) : (isAgg t).run P W = .ok b W := by
  obtain ⟨d, h1, h2⟩ := agg_some h
  simp only [isAgg, Sem.run_bind, run_underlying h1, Result.andThen_ok]
  cases d <;> simp_all [TypeDesc.isRow]

theorem sizeOf_run {t : TypeId} {n : Nat} (h : szB P t = some n) (W : World) : (sizeOf t).run P W = .ok n W := by
  obtain ⟨i, h1, h2⟩ := sz_some h
  simp [sizeOf, typeInfo, h1, h2, Sem.run_bind]

/-- Cells that are read. -/
theorem load_run {t : TypeId} {agg : Bool} {n b o off : Nat} {cs : List AV} {E : Env} {z : AV} (ha : aggB P t = some agg) (hn : szB P t = some n)
    (hc : ∀ (j : Nat) (x : AV), cs[j]? = some x → ∃ u, W.cell? ⟨b, o + j, none⟩ = some u ∧ VR E W x u) (hz : cut agg n cs off = some z) :
    ∃ v, (Instr.loadAt t (.pointer (some ⟨b, o + off, none⟩))).run P W = .ok v W ∧ VR E W z v := by
  unfold cut at hz
  cases agg with
  | true =>
    simp only [if_true] at hz
    split at hz <;> simp only [Option.some.injEq, reduceCtorEq] at hz
    rename_i hle
    subst hz
    obtain ⟨d, h1, h2⟩ := agg_some ha
    have hf : ∀ j, j < n → ∃ u, W.cell? ⟨b, o + off + j, none⟩ = some u ∧ ∀ x, cs[off + j]? = some x → VR E W x u := fun j hj => by
      obtain ⟨u, h3, h4⟩ := hc (off + j) cs[off + j] (by simp [show off + j < cs.length by omega])
      refine ⟨u, by rw [← h3, Nat.add_assoc], fun x hx => ?_⟩
      rw [List.getElem?_eq_getElem (by omega)] at hx
      simp only [Option.some.injEq] at hx
      rw [← hx]; exact h4
    have hg : ∃ f : Nat → Value, ∀ j, j < n → W.cell? ⟨b, o + off + j, none⟩ = some (f j) ∧ ∀ x, cs[off + j]? = some x → VR E W x (f j) := by
      refine ⟨fun j => (W.cell? ⟨b, o + off + j, none⟩).getD Go.undef, fun j hj => ?_⟩
      obtain ⟨u, h3, h4⟩ := hf j hj
      simp only [h3, Option.getD_some, true_and]
      exact h4
    obtain ⟨f, hf⟩ := hg
    have hl : ((List.range n).map f).length = n := by simp
    refine ⟨_, run_loadAt_mid W b (o + off) t ((List.range n).map f) d (fun j v hv => ?_) h1 h2 (by obtain ⟨i, h5, h6⟩ := sz_some hn; simp [h5, h6]), ?_⟩
    · have hj : j < n := by have := (List.getElem?_eq_some_iff.1 hv).1; simpa using this
      rw [(hf j hj).1]
      simpa [hj] using hv
    · refine VR.agg_of ⟨by simp; omega, fun i x u hi hu => ?_⟩
      have hi' : i < n := by have := (List.getElem?_eq_some_iff.1 hi).1; simp at this; omega
      simp [List.getElem?_take, hi', List.getElem?_drop] at hi
      simp [hi'] at hu
      subst hu
      exact (hf i hi').2 x hi
  | false =>
    simp only [Bool.false_eq_true, if_false] at hz
    obtain ⟨u, h1, h2⟩ := hc off z hz
    refine ⟨u, ?_, h2⟩
    simp only [Instr.loadAt, Instr.sureAddr, Sem.run_bind, Sem.run_pure, Result.andThen_ok, loadVar, isAgg_run ha]
    simp [load, Sem.run, h1]

theorem sim_load (h : SK R st a W κ) {o : Oper} {t : TypeId} {agg : Bool} {n : Nat} {x : Operand} {y : RA} (ho : o.op = .load t x) (ha : aggB P t = some agg) (hn : szB P t = some n) (hk : okA x y = true)
    {z : AV} {st' : St} {d : Nat} (hr : rop R.G st d (.load agg n y) = some (z, st')) : Sim P R a W o z st' := by
  have h1 := h.ev hk
  simp only [rop] at hr
  split at hr <;> simp only [Option.map_eq_some_iff, Prod.mk.injEq, reduceCtorEq] at hr
  rename_i cs off e
  obtain ⟨u, hu, rfl, rfl⟩ := hr
  obtain ⟨b, o', hv, hc⟩ := h.cellsAt h1 e
  obtain ⟨v, h2, h3⟩ := load_run (P := P) ha hn hc hu
  exact .val h (by simp only [execOp, ho, hv, Sem.run_bind, h2, Result.andThen_ok, Sem.run_pure]) h3

theorem sim_field (h : SK R st a W κ) {o : Oper} {t : TypeId} {i : Nat} {fs : Array Field} {f : Field} {agg : Bool} {n : Nat} {x : Operand} {y : RA} (ho : o.op = .field t x i)
    (hu : P.underlying t = some (.struct fs)) (hf : fs[i]? = some f) (ha : aggB P f.type = some agg) (hn : szB P f.type = some n) (hk : okA x y = true)
    {z : AV} {st' : St} {d : Nat} (hr : rop R.G st d (.field agg f.offset n y) = some (z, st')) : Sim P R a W o z st' := by
  have h1 := h.ev hk
  simp only [rop] at hr
  split at hr <;> simp only [Option.map_eq_some_iff, Prod.mk.injEq, reduceCtorEq] at hr
  rename_i cs e
  obtain ⟨u, hc, rfl, rfl⟩ := hr
  rw [e] at h1
  obtain ⟨us, hv, h2, h3⟩ := h1.agg_inv
  unfold cut at hc
  cases agg with
  | true =>
    simp only [if_true] at hc
    split at hc <;> simp only [Option.some.injEq, reduceCtorEq] at hc
    rename_i hle
    subst hc
    refine .val (v := .agg (us.extract f.offset (f.offset + n))) h ?_ (.agg _ _ ?_ ?_)
    · simp [execOp, ho, hv, Instr.field, Sem.run_bind, run_underlying hu, hf, part, asAgg, isAgg_run ha, sizeOf_run hn]
    · simp at h2 ⊢; omega
    · intro j x u hx hu
      have hj : j < n := by have := (List.getElem?_eq_some_iff.1 hx).1; simp at this; omega
      simp [List.getElem?_take, hj, List.getElem?_drop] at hx
      refine h3 (f.offset + j) x u hx ?_
      rw [Array.getElem?_extract] at hu
      split at hu
      · simpa using hu
      · cases hu
  | false =>
    simp only [Bool.false_eq_true, if_false] at hc
    have hlt : f.offset < us.size := by
      have := (List.getElem?_eq_some_iff.1 hc).1
      simp at h2; omega
    have hg : us[f.offset]? = some us[f.offset] := by simp [hlt]
    refine .val (v := us[f.offset]) h ?_ (h3 _ _ _ hc (by simp [hlt]))
    simp [execOp, ho, hv, Instr.field, Sem.run_bind, run_underlying hu, hf, part, asAgg, isAgg_run ha, hg]

theorem equal_bool {t : TypeId} (hu : P.underlying t = some .bool) (a b : Bool) : (Op.equal t (.bool a) (.bool b)).run P W = .ok (a == b) W := by
  show (Op.equalIn (Op.maxDepth - 1 + 1) t (.bool a) (.bool b)).run P W = _
  rw [Op.equalIn]
  simp [Sem.run_bind, run_underlying hu]
theorem beq_run {t : TypeId} {x y : Operand} (hu : P.underlying t = some .bool) (a b : Bool) : (do eqGuard .eql t x y (.bool a) (.bool b); binOp .eql t (.bool a) (.bool b) : Sem Value).run P W = .ok (.bool (a == b)) W := by
  have e : binOp .eql t (.bool a) (.bool b) = (do pure (.bool (← Op.equal t (.bool a) (.bool b)))) := rfl
  rw [e]
  simp [eqGuard, Sem.run_bind, equal_bool hu]
theorem bne_run {t : TypeId} {x y : Operand} (hu : P.underlying t = some .bool) (a b : Bool) : (do eqGuard .neq t x y (.bool a) (.bool b); binOp .neq t (.bool a) (.bool b) : Sem Value).run P W = .ok (.bool (!(a == b))) W := by
  have e : binOp .neq t (.bool a) (.bool b) = (do pure (.bool (!(← Op.equal t (.bool a) (.bool b))))) := rfl
  rw [e]
  simp [eqGuard, Sem.run_bind, equal_bool hu]

theorem equal_slice {t e : TypeId} (hu : P.underlying t = some (.slice e)) (ad : Option Addr) (n c : Nat) : (Op.equal t (.slice ad n c) (.slice none 0 0)).run P W = .ok ad.isNone W := by
  show (Op.equalIn (Op.maxDepth - 1 + 1) t (.slice ad n c) (.slice none 0 0)).run P W = _
  rw [Op.equalIn]
  cases ad <;> simp [Sem.run_bind, run_underlying hu]
theorem eqn_run {t e : TypeId} {x y : Operand} (hu : P.underlying t = some (.slice e)) (ad : Option Addr) (n c : Nat) : (do eqGuard .eql t x y (.slice ad n c) (.slice none 0 0); binOp .eql t (.slice ad n c) (.slice none 0 0) : Sem Value).run P W = .ok (.bool ad.isNone) W := by
  have e : binOp .eql t (.slice ad n c) (.slice none 0 0) = (do pure (.bool (← Op.equal t (.slice ad n c) (.slice none 0 0)))) := rfl
  rw [e]
  simp [eqGuard, Sem.run_bind, equal_slice hu]
theorem nen_run {t e : TypeId} {x y : Operand} (hu : P.underlying t = some (.slice e)) (ad : Option Addr) (n c : Nat) : (do eqGuard .neq t x y (.slice ad n c) (.slice none 0 0); binOp .neq t (.slice ad n c) (.slice none 0 0) : Sem Value).run P W = .ok (.bool (!ad.isNone)) W := by
  have e : binOp .neq t (.slice ad n c) (.slice none 0 0) = (do pure (.bool (!(← Op.equal t (.slice ad n c) (.slice none 0 0))))) := rfl
  rw [e]
  simp [eqGuard, Sem.run_bind, equal_slice hu]

theorem sim_vop (h : SK R st a W κ) {o : Oper} {op : Op} {v : VOp} {xs : List RA} (ho : o.op = op) (hk : okV P op v xs = true)
    {z : AV} {st' : St} {d : Nat} (hr : rop R.G st d (.vop v xs) = some (z, st')) : Sim P R a W o z st' := by
  simp only [rop, Option.map_eq_some_iff, Prod.mk.injEq] at hr
  obtain ⟨z', hz, rfl, rfl⟩ := hr
  unfold okV at hk
  split at hk
  · rename_i src dst x y
    simp only [Bool.and_eq_true] at hk
    obtain ⟨h1, h2⟩ := hk
    split at h1 <;> try (simp at h1; done)
    rename_i e hu1 hu2
    split at h1 <;> simp only [Bool.false_eq_true, decide_eq_true_eq] at h1
    rename_i k hu3
    subst h1
    have v1 := h.ev h2
    simp only [List.map_cons, List.map_nil] at hz
    generalize e1 : evA R.G st y = Y at hz v1
    cases Y <;> try (simp [vopF] at hz; done)
    · simp only [vopF, Option.some.injEq] at hz
      subst hz
      generalize hv : a.eval x = v at v1
      cases v1 with
      | pv v1 =>
        cases v1 with
        | nils => exact .val h (by simp only [execOp, ho, hv, Sem.run_bind]; rw [run_convert_bytes_nil W src e hu1 hu3 0 0 dst hu2]; rfl) (.pv (.str _))
    · rename_i rows
      simp only [vopF, Option.map_eq_some_iff] at hz
      obtain ⟨ns, hns, rfl⟩ := hz
      have hrows := rowInts_spec hns
      generalize hv : a.eval x = v at v1
      cases v1 with
      | pv v1 =>
        cases v1 with
        | vsl _ ad cap sz b o f hcap hmax ha hn hs hc hr =>
          have run : (convert src dst (.slice ad rows.length cap)).run P W = .ok (.string (strOfNums ns)) W := by
            by_cases e0 : rows = []
            · subst e0
              simp [rowInts] at hns
              subst hns
              rw [run_convert_bytes_string W src dst e _ _ cap hu1 hu3 hu2]
              cases ad <;> simp [Conv.bytesToString, loadCells]
              all_goals rfl
            · obtain ⟨rfl, -, -⟩ := ha e0
              have hsz : sz = 1 := by
                cases rows with
                | nil => exact absurd rfl e0
                | cons r rs =>
                  have := hs r (List.mem_cons_self ..)
                  cases ns with
                  | nil => simp at hrows
                  | cons n ns => simp at hrows; rw [hrows.1] at this; simpa using this.symm
              subst hsz
              refine run_convert_bytes_arg W src e hu1 hu3 b o _ cap ns (by rw [hrows]; simp) (fun i hi => ?_) dst hu2
              have h3 := hc i 0 hi (by omega)
              have hi2 : i < ns.length := by rw [hrows] at hi; simpa using hi
              have h4 := hr i 0 [AV.int .u8 ns[i]] (AV.int .u8 ns[i]) (by rw [hrows]; simp [hi2]) rfl
              generalize f i 0 = q at h3 h4
              cases h4
              simp only [Nat.mul_one, Nat.add_zero] at h3
              rw [h3]
              simp [List.getD, hi2]
          exact .val h (by simp only [execOp, ho, hv, Sem.run_bind]; rw [run]; rfl) (.pv (.str _))
  · rename_i t x i n sz y j
    simp only [Bool.and_eq_true] at hk
    obtain ⟨⟨h1, h2⟩, h3⟩ := hk
    split at h1 <;> simp only [Bool.false_eq_true, Bool.and_eq_true, decide_eq_true_eq] at h1
    rename_i n' e hu
    obtain ⟨rfl, hn⟩ := h1
    have v1 := h.ev h2
    have v2 := h.ev h3
    simp only [List.map_cons, List.map_nil] at hz
    have run : ∀ k m b off, 0 ≤ m → m < (n' : Int) → (Instr.indexAt t (.pointer (some ⟨b, off, none⟩)) (.int k m)).run P W = .ok (.pointer (some ⟨b, off + m.toNat * sz, none⟩)) W := fun k m b off g1 g2 => by
      simp only [Instr.indexAt, asIntOf, Instr.sureAddr, Sem.run_bind, Sem.run_pure, Result.andThen_ok, run_underlying hu, sizeOf_run hn]
      rw [if_pos ⟨g1, g2⟩]
      simp [Sem.run_bind, sizeOf_run hn, Addr.add_mid]
    generalize e1 : evA R.G st y = Y at hz v1
    generalize e2 : evA R.G st j = J at hz v2
    cases J <;> try (simp [vopF] at hz; done)
    cases Y <;> try (simp [vopF] at hz; done)
    · rename_i k o'
      simp only [vopF] at hz
      split at hz <;> simp only [Option.some.injEq, reduceCtorEq] at hz
      rename_i g
      subst hz
      obtain ⟨b, s, g2, g3, hv⟩ := v1.ptr_inv
      exact .val h (by simp only [execOp, ho, hv, v2.int_inv, Sem.run_bind, run _ _ _ _ g.1 g.2, Result.andThen_ok, Sem.run_pure]; rfl) (by rw [Nat.add_assoc]; exact .ptr k _ b s g2 g3)
    · rename_i cs o'
      simp only [vopF] at hz
      split at hz <;> simp only [Option.some.injEq, reduceCtorEq] at hz
      rename_i g
      subst hz
      cases v1 with
      | pv v1 =>
        generalize hv : a.eval x = X at v1
        cases v1 with
        | vptr _ _ b o f hb hM hc hr =>
          exact .val h (by simp only [execOp, ho, hv, v2.int_inv, Sem.run_bind, run _ _ _ _ g.1 g.2, Result.andThen_ok, Sem.run_pure]; rfl) (.pv (by rw [Nat.add_assoc]; exact .vptr cs _ b o f hb hM hc hr))
  · rename_i t x i agg n sz y j
    simp only [Bool.and_eq_true] at hk
    obtain ⟨⟨h1, h2⟩, h3⟩ := hk
    split at h1 <;> simp only [Bool.false_eq_true, Bool.and_eq_true, decide_eq_true_eq] at h1
    rename_i n' e hu
    obtain ⟨⟨rfl, ha⟩, hn⟩ := h1
    have v1 := h.ev h2
    have v2 := h.ev h3
    simp only [List.map_cons, List.map_nil] at hz
    generalize e1 : evA R.G st y = Y at hz v1
    generalize e2 : evA R.G st j = J at hz v2
    cases J <;> try (simp [vopF] at hz; done)
    cases Y <;> try (simp [vopF] at hz; done)
    rename_i k m cs
    simp only [vopF] at hz
    split at hz <;> try (simp at hz; done)
    rename_i g
    obtain ⟨us, hv, g2, g3⟩ := v1.agg_inv
    unfold cut at hz
    cases agg with
    | true =>
      simp only [if_true] at hz
      split at hz <;> simp only [Option.some.injEq, reduceCtorEq] at hz
      rename_i hle
      subst hz
      refine .val (v := .agg (us.extract (m.toNat * sz) (m.toNat * sz + sz))) h ?_ (.agg _ _ ?_ ?_)
      · simp only [execOp, ho, hv, v2.int_inv, Instr.index, asIntOf, Sem.run_bind, Sem.run_pure, run_underlying hu, Result.andThen_ok, sizeOf_run hn]
        rw [if_pos g]
        simp [part, asAgg, isAgg_run ha, sizeOf_run hn, Sem.run_bind]
      · simp at g2 ⊢; omega
      · intro j x u hx hu
        have hj : j < sz := by have := (List.getElem?_eq_some_iff.1 hx).1; simp at this; omega
        simp [List.getElem?_take, hj, List.getElem?_drop] at hx
        refine g3 (m.toNat * sz + j) x u hx ?_
        rw [Array.getElem?_extract] at hu
        split at hu
        · simpa using hu
        · cases hu
    | false =>
      simp only [Bool.false_eq_true, if_false] at hz
      have hlt : m.toNat * sz < us.size := by
        have := (List.getElem?_eq_some_iff.1 hz).1
        simp at g2; omega
      have hg : us[m.toNat * sz]? = some us[m.toNat * sz] := by simp [hlt]
      refine .val (v := us[m.toNat * sz]) h ?_ (g3 _ _ _ hz (by simp [hlt]))
      simp only [execOp, ho, hv, v2.int_inv, Instr.index, asIntOf, Sem.run_bind, Sem.run_pure, run_underlying hu, Result.andThen_ok, sizeOf_run hn]
      rw [if_pos g]
      simp [part, asAgg, isAgg_run ha, sizeOf_run hn, Sem.run_bind, hg]
  · rename_i t x i y j
    simp only [Bool.and_eq_true] at hk
    obtain ⟨⟨h1, h2⟩, h3⟩ := hk
    split at h1 <;> simp only [Bool.false_eq_true] at h1
    rename_i hu
    have v1 := h.ev h2
    have v2 := h.ev h3
    simp only [List.map_cons, List.map_nil] at hz
    generalize e1 : evA R.G st y = Y at hz v1
    generalize e2 : evA R.G st j = J at hz v2
    cases J <;> try (simp [vopF] at hz; done)
    cases Y <;> try (simp [vopF] at hz; done)
    rename_i k m s
    simp only [vopF] at hz
    split at hz <;> try (simp at hz; done)
    rename_i g
    simp only [Option.map_eq_some_iff] at hz
    obtain ⟨b, hb, rfl⟩ := hz
    refine .val (v := .int .u8 b.toNat) h ?_ (.pv (.int _ _))
    simp only [execOp, ho, v1.str_inv, v2.int_inv, Instr.index, asIntOf, Sem.run_bind, Sem.run_pure, run_underlying hu, Result.andThen_ok]
    simp [g, hb, Sem.run_bind]
  · rename_i op t x i at' neg y j
    simp only [Bool.and_eq_true] at hk
    obtain ⟨⟨⟨h0, h1⟩, h2⟩, h3⟩ := hk
    split at h1 <;> simp only [Bool.false_eq_true] at h1
    rename_i hu
    have v1 := h.ev h2
    have v2 := h.ev h3
    simp only [List.map_cons, List.map_nil] at hz
    generalize e1 : evA R.G st y = Y at hz v1
    generalize e2 : evA R.G st j = J at hz v2
    cases J <;> try (simp [vopF] at hz; done)
    cases Y <;> try (simp [vopF] at hz; done)
    rename_i b a'
    simp only [vopF, Option.some.injEq] at hz
    subst hz
    split at h0 <;> try (simp at h0; done)
    · refine .val (v := .bool (a' == b)) h ?_ (.pv (.bool _))
      have hr := beq_run (P := P) (W := W) (x := x) (y := i) hu a' b
      rw [Sem.run_bind] at hr
      simp only [execOp, ho, v1.bool_inv, v2.bool_inv, Sem.run_bind]
      rw [hr]
      rfl
    · refine .val (v := .bool (!(a' == b))) h ?_ (.pv (.bool _))
      have hr := bne_run (P := P) (W := W) (x := x) (y := i) hu a' b
      rw [Sem.run_bind] at hr
      simp only [execOp, ho, v1.bool_inv, v2.bool_inv, Sem.run_bind]
      rw [hr]
      rfl
  · rename_i op t x i at' neg y j
    simp only [Bool.and_eq_true] at hk
    obtain ⟨⟨⟨h0, h1⟩, h2⟩, h3⟩ := hk
    split at h1 <;> simp only [Bool.false_eq_true] at h1
    rename_i e hu
    have v1 := h.ev h2
    have v2 := h.ev h3
    simp only [List.map_cons, List.map_nil] at hz
    generalize e1 : evA R.G st y = Y at hz v1
    generalize e2 : evA R.G st j = J at hz v2
    have fin : ∀ (ad : Option Addr) (n c : Nat), a.eval x = .slice ad n c → a.eval i = .slice none 0 0 → (∃ b : Bool, b = (if neg = true then !ad.isNone else ad.isNone) ∧ VR (st.env R.M κ) W z' (.bool b)) → Sim P R a W o z' st := fun ad n c q1 q2 ⟨b, q3, q4⟩ => by
      subst q3
      refine .val h ?_ q4
      split at h0 <;> try (simp at h0; done)
      · have hr := eqn_run (P := P) (W := W) (x := x) (y := i) hu ad n c
        rw [Sem.run_bind] at hr
        simp only [execOp, ho, q1, q2, Sem.run_bind]
        rw [hr]
        rfl
      · have hr := nen_run (P := P) (W := W) (x := x) (y := i) hu ad n c
        rw [Sem.run_bind] at hr
        simp only [execOp, ho, q1, q2, Sem.run_bind]
        rw [hr]
        rfl
    cases J <;> try (cases Y <;> simp [vopF] at hz; done)
    have q2 : a.eval i = .slice none 0 0 := by
      cases v2 with
      | pv v2 => generalize hv : a.eval i = v at v2; cases v2; rfl
    cases Y <;> try (simp [vopF] at hz; done)
    · simp only [vopF, Option.some.injEq] at hz
      subst hz
      have q1 : a.eval x = .slice none 0 0 := by
        cases v1 with
        | pv v1 => generalize hv : a.eval x = v at v1; cases v1; rfl
      exact fin none 0 0 q1 q2 ⟨_, rfl, by cases neg <;> exact .pv (.bool _)⟩
    · rename_i rows
      simp only [vopF, Option.some.injEq] at hz
      subst hz
      cases v1 with
      | pv v1 =>
        generalize hv : a.eval x = v at v1
        cases v1 with
        | vsl _ ad cap sz b off f hcap hmax ha hn hs hc hr =>
          refine fin ad rows.length cap hv q2 ⟨_, rfl, ?_⟩
          by_cases e0 : rows = []
          · rw [if_pos (by simp [e0])]; exact .pv (.abool _)
          · rw [if_neg (by simpa using e0), (ha e0).1]
            cases neg <;> exact .pv (.bool _)
  · rename_i op t x i at' op' y j
    simp only [Bool.and_eq_true, decide_eq_true_eq] at hk
    obtain ⟨⟨⟨rfl, h1⟩, h2⟩, h3⟩ := hk
    have v1 := h.ev h2
    have v2 := h.ev h3
    simp only [List.map_cons, List.map_nil] at hz
    generalize e1 : evA R.G st y = Y at hz v1
    generalize e2 : evA R.G st j = J at hz v2
    cases J <;> try (simp [vopF] at hz; done)
    cases Y <;> try (simp [vopF] at hz; done)
    simp only [vopF] at hz
    split at hz <;> try (simp at hz; done)
    rename_i hkk
    subst hkk
    split at hz <;> simp only [Option.some.injEq, reduceCtorEq] at hz
    all_goals
      subst hz
      refine .val h ?_ (.pv (.int _ _))
      simp only [execOp, ho, v1.int_inv, v2.int_inv]
      simp [eqGuard, binOp, Op.intBits, Sem.run_bind]
  · rename_i op t x i at' left y j
    simp only [Bool.and_eq_true] at hk
    obtain ⟨⟨h1, h2⟩, h3⟩ := hk
    have v1 := h.ev h2
    have v2 := h.ev h3
    simp only [List.map_cons, List.map_nil] at hz
    generalize e1 : evA R.G st y = Y at hz v1
    generalize e2 : evA R.G st j = J at hz v2
    cases J <;> try (simp [vopF] at hz; done)
    cases Y <;> try (simp [vopF] at hz; done)
    rename_i kb b ka a'
    simp only [vopF] at hz
    split at hz <;> simp only [Option.some.injEq, reduceCtorEq] at hz
    rename_i hp
    have hp' : ¬ b < 0 := by omega
    subst hz
    split at h1 <;> try (simp at h1; done)
    all_goals
      refine .val h ?_ (.pv (.int _ _))
      simp only [execOp, ho, v1.int_inv, v2.int_inv]
      simp [eqGuard, binOp, Op.shift, Sem.run_bind, hp']
  · simp at hk

theorem sim_faddr (h : SK R st a W κ) {o : Oper} {t : TypeId} {i : Nat} {fs : Array Field} {f : Field} {n : Nat} {x : Operand} {y : RA} (ho : o.op = .fieldAddr t x i)
    (hu : P.underlying t = some (.struct fs)) (hf : fs[i]? = some f) (hn : szB P f.type = some (n + 1)) (hk : okA x y = true)
    {z : AV} {st' : St} {d : Nat} (hr : rop R.G st d (.faddr f.offset y) = some (z, st')) : Sim P R a W o z st' := by
  have h1 := h.ev hk
  have run : ∀ b off, (Instr.fieldAt t (.pointer (some ⟨b, off, none⟩)) i).run P W = .ok (.pointer (some ⟨b, off + f.offset, none⟩)) W := fun b off => by
    simp [Instr.fieldAt, Instr.sureAddr, Sem.run_bind, run_underlying hu, hf, fieldPlace, sizeOf_run hn, Addr.add_mid]
  simp only [rop] at hr
  split at hr
  · rename_i k off e
    simp only [Option.some.injEq, Prod.mk.injEq] at hr
    obtain ⟨rfl, rfl⟩ := hr
    rw [e] at h1
    obtain ⟨b, s, h2, h3, hv⟩ := h1.ptr_inv
    exact .val h (by simp only [execOp, ho, hv, Sem.run_bind, run, Result.andThen_ok, Sem.run_pure]; rfl) (by rw [Nat.add_assoc]; exact .ptr k _ b s h2 h3)
  · rename_i k m j off e
    split at hr <;> try (simp at hr; done)
    rename_i sz rows hg
    split at hr <;> simp only [Option.some.injEq, Prod.mk.injEq, reduceCtorEq] at hr
    rename_i hlen
    obtain ⟨rfl, rfl⟩ := hr
    rw [e] at h1
    obtain ⟨sz', m', p, h2, h3, hv, h4⟩ := h1.eptr_inv
    have hm : m' = m := by
      simp only [St.env, hg, Option.bind_some, AObj.dim, Option.some.injEq, Prod.mk.injEq] at h2
      omega
    obtain ⟨b, s, h5, rfl⟩ := h4 hm
    exact .val h (by simp only [execOp, ho, hv, Sem.run_bind, run, Result.andThen_ok, Sem.run_pure]; rfl) (.eptr k m j _ sz' m' _ h2 h3 (fun _ => ⟨b, s, h5, by rw [Nat.add_assoc]⟩))
  · rename_i cs off e
    simp only [Option.some.injEq, Prod.mk.injEq] at hr
    obtain ⟨rfl, rfl⟩ := hr
    rw [e] at h1
    have h2 := h1.vptr_inv
    generalize hv : a.eval x = v at *
    cases h2 with
    | vptr _ _ b o' ff hb hM hc hr' => exact .val h (by simp only [execOp, ho, hv, Sem.run_bind, run, Result.andThen_ok, Sem.run_pure]; rfl) (.pv (by rw [Nat.add_assoc]; exact .vptr cs _ b o' ff hb hM hc hr'))
  · simp at hr

end

end Go.Proofs.YtdpmioiamcgfkaaDoor
