/-
  The abstract machine: boxes, stores, composite values, elements of slices.
-/
import Derived.Test.YtdpmioiamcgfkaaDoorAmC
import Derived.Laws.StructEq
namespace Go.Proofs.YtdpmioiamcgfkaaDoor
open Go.RowKit

section
variable {P : Program} {R : Run} {st : St} {a : Act} {W W' : World} {κ : Nat → Option (Nat × Nat)}

theorem SK.getd (h : SK R st a W κ) {d : Nat} (hd : st.get d = none) : κ d = none := by
  cases e : κ d with
  | none => rfl
  | some p => obtain ⟨o, ho⟩ := h.dom d p e; rw [hd] at ho; cases ho

/-- A new box. -/
theorem SK.box (h : SK R st a W κ) {d : Nat} (hd : st.get d = none) {cells : List AV} {us : Array Value} (hc : CR (st.env R.M κ) W cells us.toList) (t : TypeId) :
    SK R (st.set d (.box cells)) a (W.alloc (.cells us t)) (fun k => if k = d then some (W.heap.size, 0) else κ k) ∧
      VR ((st.set d (.box cells)).env R.M (fun k => if k = d then some (W.heap.size, 0) else κ k)) (W.alloc (.cells us t)) (.ptr d 0) (.pointer (some ⟨W.heap.size, 0, none⟩)) := by
  refine ⟨h.new hd ⟨by simpa using hc.1, rfl, fun j x hj => ?_⟩, .ptr d 0 W.heap.size 0 (by simp [St.env]) (by simp [St.env, St.get_set, AObj.dim])⟩
  have hlt : j < us.size := by have := (List.getElem?_eq_some_iff.1 hj).1; have := hc.1; simp at this; omega
  exact ⟨us[j], by simp [hlt], hc.2 j x _ hj (by simp [hlt])⟩

theorem sim_box (h : SK R st a W κ) {o : Oper} {t : TypeId} {x : Operand} {y : RA} (ho : o.op = .box t x) (hk : okA x y = true)
    {z : AV} {st' : St} {d : Nat} (hr : rop R.G st d (.box y) = some (z, st')) : Sim P R a W o z st' := by
  have h1 := h.ev hk
  simp only [rop] at hr
  split at hr <;> try (simp at hr; done)
  rename_i hd
  split at hr <;> simp only [Option.some.injEq, Prod.mk.injEq, reduceCtorEq] at hr
  rename_i hkn
  obtain ⟨rfl, rfl⟩ := hr
  obtain ⟨g1, g2⟩ := h.box hd (h1.cells hkn) t
  exact ⟨_, _, _, .inl (by simp [execOp, ho, Instr.box, newVar, newRow, Sem.run_bind]), g1, g2⟩

theorem cst_cells {vs : List Value} {xs : List AV} {E : Env} (h : allB2 cstB vs xs = true) : CR E W xs vs := by
  obtain ⟨h1, h2⟩ := allB2_spec h
  exact ⟨h1, fun i x u hx hu => .pv (cst_pv (h2 i u x hu hx))⟩

theorem sim_alloc (h : SK R st a W κ) {o : Oper} {t : TypeId} {i : TypeInfo} {zv : Value} {cells : List AV} (ho : o.op = .alloc t) (hi : P.info? t = some i) (hz : i.zero = some zv) (hc : allB2 cstB zv.cells.toList cells = true)
    {z : AV} {st' : St} {d : Nat} (hr : rop R.G st d (.alloc cells) = some (z, st')) : Sim P R a W o z st' := by
  simp only [rop] at hr
  split at hr <;> simp only [Option.some.injEq, Prod.mk.injEq, reduceCtorEq] at hr
  rename_i hd
  obtain ⟨rfl, rfl⟩ := hr
  obtain ⟨g1, g2⟩ := h.box hd (cst_cells hc) t
  exact ⟨_, _, _, .inl (by simp [execOp, ho, Instr.alloc, newVar, newRow, Sem.run_bind, zeroValue, typeInfo, hi, hz]), g1, g2⟩

/-! ### Stores -/
theorem heap_setCells (b : Nat) : ∀ (us : List Value) (off : Nat) (W : World) (cs : Array Value) (t : TypeId), W.heap[b]? = some (.cells cs t (0, 0)) → off + us.length ≤ cs.size →
    ∃ cs', (W.setCells b off us).heap[b]? = some (.cells cs' t (0, 0)) ∧ cs'.size = cs.size ∧ (∀ j : Nat, (j < off ∨ off + us.length ≤ j) → cs'[j]? = cs[j]?) ∧ (∀ (j : Nat) (u : Value), us[j]? = some u → cs'[off + j]? = some u)
  | [], off, W, cs, t, h, _ => ⟨cs, h, rfl, fun _ _ => rfl, by simp⟩
  | u :: us, off, W, cs, t, h, hle => by
    simp only [List.length_cons] at hle
    have hlt : b < W.heap.size := (Array.getElem?_eq_some_iff.1 h).1
    have h1 : (W.setCell ⟨b, off, none⟩ u).heap[b]? = some (.cells (cs.setIfInBounds off u) t (0, 0)) := by
      have h' : W.heap[b] = .cells cs t (0, 0) := by simpa [Array.getElem?_eq_getElem hlt] using h
      show (W.heap.modify b _)[b]? = _
      rw [Array.getElem?_eq_getElem (by simpa using hlt), Array.getElem_modify_self, h']
      simp
    obtain ⟨cs', g1, g2, g3, g4⟩ := heap_setCells b us (off + 1) _ _ t h1 (by simp; omega)
    refine ⟨cs', g1, by simpa using g2, fun j hj => ?_, fun j v hv => ?_⟩
    · rw [g3 j (by simp at hj; omega), Array.getElem?_setIfInBounds, if_neg (by simp at hj; omega)]
    · cases j with
      | zero =>
        simp at hv
        subst hv
        rw [Nat.add_zero, g3 off (by omega), Array.getElem?_setIfInBounds, if_pos rfl, if_pos (by omega)]
      | succ j =>
        simp at hv
        rw [show off + (j + 1) = off + 1 + j by omega]
        exact g4 j v hv

theorem size_setCells (b : Nat) : ∀ (us : List Value) (off : Nat) (W : World), (W.setCells b off us).heap.size = W.heap.size
  | [], _, _ => rfl
  | _ :: us, off, W => by rw [World.setCells, size_setCells b us]; simp
theorem tape_setCells (b : Nat) : ∀ (us : List Value) (off : Nat) (W : World), (W.setCells b off us).tape = W.tape
  | [], _, _ => rfl
  | _ :: us, off, W => by rw [World.setCells, tape_setCells b us]; rfl

theorem splice_get {cs us : List AV} {off : Nat} (h : off + us.length ≤ cs.length) (j : Nat) : (splice cs off us)[j]? = if j < off then cs[j]? else if j < off + us.length then us[j - off]? else cs[j]? := by
  unfold splice
  by_cases h1 : j < off
  · rw [if_pos h1, List.append_assoc, List.getElem?_append_left (by simp; omega), List.getElem?_take, if_pos h1]
  · rw [if_neg h1, List.append_assoc, List.getElem?_append_right (by simp; omega)]
    have hl : (cs.take off).length = off := by simp; omega
    rw [hl]
    by_cases h2 : j < off + us.length
    · rw [if_pos h2, List.getElem?_append_left (by omega)]
    · rw [if_neg h2, List.getElem?_append_right (by omega), List.getElem?_drop]
      congr 1; omega
theorem splice_length {cs us : List AV} {off : Nat} (h : off + us.length ≤ cs.length) : (splice cs off us).length = cs.length := by
  unfold splice; simp; omega

theorem storeAt_run {t : TypeId} {b o : Nat} {v : Value} (ht : W.there b o v.cells.size) (hi : szB P t = some v.cells.size) (h1 : ∀ x ∈ v.cells.toList, x.oneCell' = true) :
    (Instr.storeAt t (.pointer (some ⟨b, o, none⟩)) v).run P W = .ok () (W.setCells b o v.cells.toList) := by
  have h2 := run_storeCells_cells (P := P) b o v.cells.toList 0 W (fun j hj => by simpa using (ht j (by simpa using hj)).1) (fun j hj => by simpa using (ht j (by simpa using hj)).2) h1
  simp only [Nat.add_zero] at h2
  simp [Instr.storeAt, Instr.sureAddr, storeVar, Sem.run_bind, sizeOf_run hi, h2]

/-- A store into an owned object. -/
theorem SK.store (h : SK R st a W κ) {p : AV} {v : Value} (hp : VR (st.env R.M κ) W p v) {xs : List AV} {us : List Value} (hx : CR (st.env R.M κ) W xs us) {st' : St} (hs : Go.Proofs.YtdpmioiamcgfkaaDoor.storeAt st xs p = some st') :
    ∃ b o, v = .pointer (some ⟨b, o, none⟩) ∧ W.there b o us.length ∧ SK R st' a (W.setCells b o us) κ := by
  have key : ∀ {k b s off : Nat} {obj obj' : AObj} {cs : Array Value} {t : TypeId}, st.get k = some obj → κ k = some (b, s) → W.heap[b]? = some (.cells cs t (0, 0)) → obj'.dim = obj.dim → off + us.length ≤ cs.size →
      (∀ cs' : Array Value, cs'.size = cs.size → (∀ j : Nat, (j < off ∨ off + us.length ≤ j) → cs'[j]? = cs[j]?) → (∀ (j : Nat) (u : Value), us[j]? = some u → cs'[off + j]? = some u) →
        RowOk (st.env R.M κ) W cs' s obj') →
      W.there b off us.length ∧ SK R (st.set k obj') a (W.setCells b off us) κ := by
    intro k b s off obj obj' cs t hg hk hb hd hle ho
    obtain ⟨cs', g1, g2, g3, g4⟩ := heap_setCells b us off W cs t hb hle
    refine ⟨fun j hj => ⟨by simp [World.cell?, hb]; omega, by simp [World.frozen?, hb]⟩, ?_⟩
    exact h.change hg hk hb hd g2 (size_setCells b us off W) g1 (fun i hi hne => World.heap_setCells_other W b off us hi hne) (World.os_setCells W b off us) (tape_setCells b us off W) (World.output_setCells W b off us) (ho cs' g2 g3 g4)
  unfold Go.Proofs.YtdpmioiamcgfkaaDoor.storeAt at hs
  split at hs <;> try (simp at hs; done)
  · rename_i k off
    split at hs <;> try (simp at hs; done)
    rename_i cells hg
    split at hs <;> simp only [Option.some.injEq, reduceCtorEq] at hs
    rename_i hle
    subst hs
    obtain ⟨b, s, h1, -, hv⟩ := hp.ptr_inv
    obtain ⟨b', s', h2, h3, h4, h5, cs, t, h6, h7, h8⟩ := h.obj k _ hg
    rw [show (st.env R.M κ).loc k = κ k from rfl, h2] at h1
    simp only [Option.some.injEq, Prod.mk.injEq] at h1
    obtain ⟨rfl, rfl⟩ := h1
    subst h5
    have hlen := hx.1
    obtain ⟨k1, k2⟩ := key (obj' := .box (splice cells off xs)) (off := off) hg h2 h6 rfl (by omega) (fun cs' e1 e2 e3 => by
      refine ⟨by rw [splice_length hle, e1, h7], rfl, fun j x hj => ?_⟩
      rw [splice_get hle] at hj
      split at hj
      · obtain ⟨u, hu, hr⟩ := h8 j x hj
        exact ⟨u, (e2 j (by omega)).trans hu, hr⟩
      · split at hj
        · have hlt : j - off < us.length := by omega
          refine ⟨us[j - off], ?_, hx.2 _ _ _ hj (by simp [hlt])⟩
          have := e3 (j - off) us[j - off] (by simp [hlt])
          rwa [show off + (j - off) = j by omega] at this
        · obtain ⟨u, hu, hr⟩ := h8 j x hj
          exact ⟨u, (e2 j (by omega)).trans hu, hr⟩)
    exact ⟨b', off, by rw [hv]; simp, k1, k2⟩
  · rename_i k n i off
    split at hs <;> try (simp at hs; done)
    rename_i sz rows hg
    split at hs <;> try (simp at hs; done)
    rename_i hn
    split at hs <;> try (simp at hs; done)
    rename_i r hr
    split at hs <;> simp only [Option.some.injEq, reduceCtorEq] at hs
    rename_i hle
    subst hs
    obtain ⟨sz', m, p, h1, h2, hv, he⟩ := hp.eptr_inv
    simp only [St.env, hg, Option.bind_some, AObj.dim, Option.some.injEq, Prod.mk.injEq] at h1
    obtain ⟨rfl, rfl⟩ := h1
    obtain ⟨b, s, hl, rfl⟩ := he hn
    obtain ⟨b', s', g2, g3, g4, g5, cs, t, g6, g7, g8⟩ := h.obj k _ hg
    rw [show (st.env R.M κ).loc k = κ k from rfl, g2] at hl
    simp only [Option.some.injEq, Prod.mk.injEq] at hl
    obtain ⟨rfl, rfl⟩ := hl
    have hlen := hx.1
    have hi : i < rows.length := (List.getElem?_eq_some_iff.1 hr).1
    have hrl : r.length = sz := g5 r (List.mem_of_getElem? hr)
    have hmul : i * sz + sz ≤ rows.length * sz := by
      have := Nat.mul_le_mul_right sz (show i + 1 ≤ rows.length by omega)
      rw [Nat.add_mul] at this; omega
    obtain ⟨k1, k2⟩ := key (obj' := .row sz (rows.set i (splice r off xs))) (off := s' + i * sz + off) hg g2 g6 (by simp [AObj.dim]) (by omega) (fun cs' e1 e2 e3 => by
      refine ⟨fun q hq => ?_, by simp; omega, fun i2 j r2 x hi2 hj => ?_⟩
      · rcases List.mem_or_eq_of_mem_set hq with hq | rfl
        · exact g5 q hq
        · rw [splice_length hle, hrl]
      · rw [List.getElem?_set] at hi2
        split at hi2
        · rename_i e
          subst e
          try rw [if_pos hi] at hi2
          simp only [Option.some.injEq] at hi2
          subst hi2
          rw [splice_get hle] at hj
          split at hj
          · obtain ⟨u, hu, hq⟩ := g8 i j r x hr hj
            exact ⟨u, (e2 _ (by omega)).trans hu, hq⟩
          · split at hj
            · have hlt : j - off < us.length := by omega
              refine ⟨us[j - off], ?_, hx.2 _ _ _ hj (by simp [hlt])⟩
              have := e3 (j - off) us[j - off] (by simp [hlt])
              rwa [show s' + i * sz + off + (j - off) = s' + i * sz + j by omega] at this
            · obtain ⟨u, hu, hq⟩ := g8 i j r x hr hj
              exact ⟨u, (e2 _ (by omega)).trans hu, hq⟩
        · rename_i hne
          obtain ⟨u, hu, hq⟩ := g8 i2 j r2 x hi2 hj
          have hj2 : j < sz := by
            have := (List.getElem?_eq_some_iff.1 hj).1
            rw [g5 r2 (List.mem_of_getElem? hi2)] at this; exact this
          refine ⟨u, (e2 _ ?_).trans hu, hq⟩
          rcases Nat.lt_or_gt_of_ne hne with h' | h'
          · have := Nat.mul_le_mul_right sz (show i + 1 ≤ i2 by omega)
            rw [Nat.add_mul] at this; omega
          · have := Nat.mul_le_mul_right sz (show i2 + 1 ≤ i by omega)
            rw [Nat.add_mul] at this; omega)
    exact ⟨b', s' + i * sz + off, by rw [hv], k1, k2⟩

theorem sim_store (h : SK R st a W κ) {o : Oper} {t : TypeId} {n : Nat} {x w : Operand} {y u : RA} (ho : o.op = .store t x w) (hn : szB P t = some n) (hk : okA x y = true) (hw : okA w u = true)
    {z : AV} {st' : St} {d : Nat} (hr : rop R.G st d (.store n y u) = some (z, st')) : Sim P R a W o z st' := by
  have h1 := h.ev hk
  have h2 := h.ev hw
  simp only [rop] at hr
  split at hr <;> simp only [Option.map_eq_some_iff, Prod.mk.injEq, reduceCtorEq] at hr
  rename_i hc
  obtain ⟨hlen, hone⟩ := hc
  obtain ⟨st2, hs, rfl, rfl⟩ := hr
  have hkn : (evA R.G st u).known = true := by
    cases e : evA R.G st u <;> simp_all [AV.known, AV.cellsL, AV.one]
  have hcr := h2.cells hkn
  obtain ⟨b, off, hv, ht, g⟩ := h.store h1 hcr hs
  have hsz : (a.eval w).cells.size = n := by have := hcr.1; simp at this; omega
  refine ⟨Go.undef, _, κ, .inr ⟨?_, rfl⟩, g, .pv .hole⟩
  have hrun := storeAt_run (P := P) (v := a.eval w) (t := t) (by simpa using ht) (by rw [hn, hsz]) (fun x hx => by
    obtain ⟨i, hi⟩ := List.getElem?_of_mem hx
    have hlt : i < (evA R.G st u).cellsL.length := by have := (List.getElem?_eq_some_iff.1 hi).1; have := hcr.1; omega
    exact (hcr.2 i _ x (List.getElem?_eq_getElem hlt) hi).oneCell (List.all_eq_true.1 hone _ (List.getElem_mem hlt)))
  simp only [execOp, ho, hv, Sem.run_bind, hrun, Result.andThen_ok, Sem.run_pure]

/-! ### Composite values -/
theorem fold_sets (l : List Value) (off : Nat) : ∀ (k : Nat) (cs : Array Value), off + k + l.length ≤ cs.size →
    (List.foldl (fun (cs : Array Value) (p : Value × Nat) => cs.setIfInBounds (off + p.2) p.1) cs (l.zipIdx k)).size = cs.size ∧
    ∀ j : Nat, (List.foldl (fun (cs : Array Value) (p : Value × Nat) => cs.setIfInBounds (off + p.2) p.1) cs (l.zipIdx k))[j]? = if j < off + k then cs[j]? else if j < off + k + l.length then l[j - (off + k)]? else cs[j]? := by
  induction l with
  | nil => intro k cs h; exact ⟨rfl, fun j => by by_cases c : j < off + k <;> simp [c]⟩
  | cons v l ih =>
    intro k cs h
    simp only [List.length_cons] at h
    obtain ⟨h1, h2⟩ := ih (k + 1) (cs.setIfInBounds (off + k) v) (by simp; omega)
    refine ⟨by simpa using h1, fun j => ?_⟩
    simp only [List.zipIdx_cons, List.foldl_cons]
    rw [h2 j]
    simp only [List.length_cons]
    by_cases c1 : j < off + k
    · rw [if_pos (by omega), if_pos c1, Array.getElem?_setIfInBounds, if_neg (by omega)]
    · rw [if_neg c1]
      by_cases c2 : j = off + k
      · subst c2
        rw [if_pos (by omega), if_pos (by omega), Array.getElem?_setIfInBounds, if_pos rfl, if_pos (by omega)]
        simp
      · rw [if_neg (by omega)]
        by_cases c3 : j < off + (k + 1) + l.length
        · rw [if_pos c3, if_pos (by omega), show j - (off + k) = (j - (off + (k + 1))) + 1 by omega, List.getElem?_cons_succ]
        · rw [if_neg c3, if_neg (by omega), Array.getElem?_setIfInBounds, if_neg (by omega)]

theorem CR.splice {E : Env} {xs ys : List AV} {us vs : Array Value} {off : Nat} (h : CR E W xs us.toList) (k : CR E W ys vs.toList) (hle : off + ys.length ≤ xs.length) :
    CR E W (splice xs off ys) (vs.zipIdx.foldl (fun cs (c, j) => cs.setIfInBounds (off + j) c) us).toList := by
  have e : vs.zipIdx.foldl (fun cs (c, j) => cs.setIfInBounds (off + j) c) us = List.foldl (fun (cs : Array Value) (p : Value × Nat) => cs.setIfInBounds (off + p.2) p.1) us (vs.toList.zipIdx 0) := by
    rw [← Array.foldl_toList, Array.toList_zipIdx]
  have h1 := h.1
  have k1 := k.1
  simp at h1 k1
  obtain ⟨f1, f2⟩ := fold_sets vs.toList off 0 us (by simp; omega)
  rw [e]
  refine ⟨by rw [splice_length hle, Array.length_toList, f1]; exact h1, fun i x u hx hu => ?_⟩
  rw [Array.getElem?_toList, f2 i] at hu
  rw [splice_get hle] at hx
  simp only [Nat.add_zero, Array.length_toList, Array.getElem?_toList] at hu
  by_cases c1 : i < off
  · rw [if_pos c1] at hx hu; exact h.2 i x u hx (by simpa using hu)
  · rw [if_neg c1] at hx hu
    by_cases c2 : i < off + ys.length
    · rw [if_pos c2] at hx; rw [if_pos (by omega)] at hu; exact k.2 _ x u hx (by simpa using hu)
    · rw [if_neg c2] at hx; rw [if_neg (by omega)] at hu; exact h.2 i x u hx (by simpa using hu)

theorem fill_sim {E : Env} {place : Nat → Option (Nat × Nat)} : ∀ (ps : List (Nat × Value)) (qs : List (Nat × Nat × AV)) (us : Array Value) (xs zs : List AV), CR E W xs us.toList →
    ps.length = qs.length → (∀ (i : Nat) (p : Nat × Value) (q : Nat × Nat × AV), ps[i]? = some p → qs[i]? = some q → place p.1 = some (q.1, q.2.1) ∧ VR E W q.2.2 p.2) → aFill xs qs = some zs →
    ∃ vs, Instr.fill place us ps = some vs ∧ CR E W zs vs.toList
  | [], [], us, xs, zs, h, _, _, hf => by simp only [aFill, Option.some.injEq] at hf; subst hf; exact ⟨us, rfl, h⟩
  | [], _ :: _, _, _, _, _, hl, _, _ => by simp at hl
  | _ :: _, [], _, _, _, _, hl, _, _ => by simp at hl
  | (i, v) :: ps, (off, n, x) :: qs, us, xs, zs, h, hl, hp, hf => by
    simp only [aFill] at hf
    split at hf <;> try (simp at hf; done)
    rename_i hc
    obtain ⟨c1, c2, c3⟩ := hc
    obtain ⟨p1, p2⟩ := hp 0 (i, v) (off, n, x) rfl rfl
    have hcr := p2.cells c1
    have hv : v.cells.size = n := by have := hcr.1; simp at this; omega
    have hu : us.size = xs.length := by simpa using h.1
    simp only [Instr.fill, p1, hv]
    rw [if_neg (by simp; omega)]
    exact fill_sim ps qs _ _ zs (h.splice hcr (show off + x.cellsL.length ≤ xs.length by have c4 : x.cellsL.length = n := c2; omega)) (by simpa using hl) (fun i p q h1 h2 => hp (i + 1) p q (by simpa using h1) (by simpa using h2)) hf

end
end Go.Proofs.YtdpmioiamcgfkaaDoor
