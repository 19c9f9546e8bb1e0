/-
  The abstract machine: maps.
-/
import Derived.Test.YtdpmioiamcgfkaaDoorAmE
import Derived.RangeFuncRecord
namespace Go.Proofs.YtdpmioiamcgfkaaDoor
open Go.RowKit

def KK.desc : KK → TypeDesc
  | .i k => .int k
  | .s => .string
  | .b => .bool

section
variable {P : Program} {R : Run} {st : St} {a : Act} {W W' : World} {κ : Nat → Option (Nat × Nat)}

theorem kkB_spec {t : TypeId} {kk : KK} (h : kkB P t kk = true) : P.underlying t = some kk.desc := by
  unfold kkB at h
  split at h <;> simp only [Bool.false_eq_true, decide_eq_true_eq] at h
  · subst h; assumption
  · assumption
  · assumption

theorem KK.key {kk : KK} {x : AV} {v : Value} {E : Env} (hk : kk.is x = true) (h : VR E W x v) : MapKept.IsKey kk.desc v := by
  cases kk <;> cases x <;> simp only [KK.is, Bool.false_eq_true, decide_eq_true_eq] at hk
  · subst hk; rw [h.int_inv]; rfl
  · rw [h.str_inv]; trivial
  · rw [h.bool_inv]; trivial

theorem KK.eq_sim {kk : KK} {x y : AV} {u v : Value} {E : Env} {b : Bool} (h : kk.eq x y = some b) (hx : VR E W x u) (hy : VR E W y v) : Instr.sameNow kk.desc u v = some b ∧ (b = true ↔ v = u) := by
  cases kk <;> cases x <;> cases y <;> simp only [KK.eq, reduceCtorEq] at h
  · split at h <;> simp only [Option.some.injEq, reduceCtorEq] at h
    rename_i e
    obtain ⟨rfl, rfl⟩ := e
    subst h
    rw [hx.int_inv, hy.int_inv]
    refine ⟨?_, by rw [decide_eq_true_iff, Value.int.injEq]; exact ⟨fun e => ⟨rfl, e.symm⟩, fun e => e.2.symm⟩⟩
    simp only [KK.desc, Instr.sameNow, if_true]
    exact congrArg some (Bool.eq_iff_iff.2 (by simp))
  · simp only [Option.some.injEq] at h
    subst h
    rw [hx.str_inv, hy.str_inv]
    exact ⟨rfl, (MapKept.bytes_beq _ _).trans ⟨fun e => by rw [e], fun e => by cases e; rfl⟩⟩
  · simp only [Option.some.injEq] at h
    subst h
    rw [hx.bool_inv, hy.bool_inv]
    exact ⟨rfl, beq_iff_eq.trans ⟨fun e => by rw [e], fun e => by cases e; rfl⟩⟩

theorem KK.find_sim {kk : KK} {x : AV} {u : Value} {E : Env} (hx : VR E W x u) : ∀ (kvs : List (AV × AV)) (l : List MapEntry) (n : Nat) (r : Option Nat), l.length = kvs.length →
    (∀ (i : Nat) (y z : AV) (e : MapEntry), kvs[i]? = some (y, z) → l[i]? = some e → VR E W y e.key) → kk.find x kvs = some r →
    match r with
    | none => Instr.findNow kk.desc u l n = some none ∧ ∀ e ∈ l, e.key ≠ u
    | some j => ∃ e p, l[j]? = some e ∧ kvs[j]? = some p ∧ e.key = u ∧ Instr.findNow kk.desc u l n = some (some (n + j, e.val))
  | [], [], n, r, _, _, h => by simp only [KK.find, Option.some.injEq] at h; subst h; exact ⟨rfl, by simp⟩
  | [], _ :: _, _, _, h, _, _ => by simp at h
  | _ :: _, [], _, _, h, _, _ => by simp at h
  | (y, z) :: kvs, e :: l, n, r, hl, hr, h => by
    simp only [KK.find] at h
    have h0 := hr 0 y z e rfl rfl
    split at h
    · rename_i e1
      simp only [Option.some.injEq] at h
      subst h
      obtain ⟨g1, g2⟩ := KK.eq_sim e1 hx h0
      exact ⟨e, (y, z), rfl, rfl, g2.1 rfl, by simp [Instr.findNow, g1]⟩
    · rename_i e1
      obtain ⟨g1, g2⟩ := KK.eq_sim e1 hx h0
      have hne : e.key ≠ u := fun q => by have := g2.2 q; cases this
      simp only [Option.map_eq_some_iff] at h
      obtain ⟨r', h1, rfl⟩ := h
      have ih := KK.find_sim hx kvs l (n + 1) r' (by simpa using hl) (fun i y z e h2 h3 => hr (i + 1) y z e (by simpa using h2) (by simpa using h3)) h1
      cases r' with
      | none =>
        obtain ⟨g3, g4⟩ := ih
        refine ⟨by simp [Instr.findNow, g1, g3], fun e' he' => ?_⟩
        rcases List.mem_cons.1 he' with rfl | he'
        · exact hne
        · exact g4 e' he'
      | some j =>
        obtain ⟨e', p, g3, g4, g5, g6⟩ := ih
        exact ⟨e', p, by simpa using g3, by simpa using g4, g5, by simp [Instr.findNow, g1, g6]; omega⟩
    · cases h

/-- What an own map is in the world. -/
theorem SK.mp (h : SK R st a W κ) {k : Nat} {v : Value} {kvs : List (AV × AV)} (hv : VR (st.env R.M κ) W (.mp k) v) (hg : st.get k = some (.mp kvs)) :
    ∃ b es clock, v = .map (some b) ∧ κ k = some (b, 0) ∧ W.heap[b]? = some (.map es clock) ∧ MapKept.Stamped es clock ∧ es.size = kvs.length ∧ ∀ (i : Nat) (x y : AV), kvs[i]? = some (x, y) → ∃ e, es[i]? = some e ∧ VR (st.env R.M κ) W x e.key ∧ VR (st.env R.M κ) W y e.val := by
  obtain ⟨b, h1, -, rfl⟩ := hv.mp_inv
  obtain ⟨b', s', h2, h3, h4, h5, es, t, h6, h7, h8, h9⟩ := h.obj k _ hg
  rw [show (st.env R.M κ).loc k = κ k from rfl, h2] at h1
  simp only [Option.some.injEq, Prod.mk.injEq] at h1
  obtain ⟨rfl, rfl⟩ := h1
  exact ⟨b', es, t, rfl, h2, h6, h7, h8, h9⟩

theorem pair_of {kvs : List (AV × AV)} {es : Array MapEntry} {E : Env} (hn : es.size = kvs.length) (h : ∀ (i : Nat) (x y : AV), kvs[i]? = some (x, y) → ∃ e, es[i]? = some e ∧ VR E W x e.key ∧ VR E W y e.val) :
    es.toList.length = kvs.length ∧ ∀ (i : Nat) (y z : AV) (e : MapEntry), kvs[i]? = some (y, z) → es.toList[i]? = some e → VR E W y e.key ∧ VR E W z e.val :=
  ⟨by simpa using hn, fun i y z e h1 h2 => by
    obtain ⟨e', h3, h4⟩ := h i y z h1
    rw [Array.getElem?_toList, h3] at h2
    cases h2; exact h4⟩

/-- The entries of a map. -/
theorem mapOf_sim (h : SK R st a W κ) {x : AV} {v : Value} {kvs : List (AV × AV)} (hv : VR (st.env R.M κ) W x v) (hm : mapOf st x = some kvs) :
    (v = .map none ∧ kvs = []) ∨ ∃ b es clock, v = .map (some b) ∧ W.heap[b]? = some (.map es clock) ∧ es.toList.length = kvs.length ∧ ∀ (i : Nat) (y z : AV) (e : MapEntry), kvs[i]? = some (y, z) → es.toList[i]? = some e → VR (st.env R.M κ) W y e.key ∧ VR (st.env R.M κ) W z e.val := by
  unfold mapOf at hm
  split at hm <;> try (simp at hm; done)
  · simp only [Option.some.injEq] at hm
    cases hv with
    | pv hv => cases hv; exact .inl ⟨rfl, hm.symm⟩
  · simp only [Option.some.injEq] at hm
    subst hm
    cases hv with
    | pv hv =>
      cases hv with
      | vmap _ b es clock hb hM ho hs hn hk hv =>
        refine .inr ⟨b, es, clock, rfl, ho, by simpa using hn, fun i y z e h1 h2 => ?_⟩
        rw [Array.getElem?_toList] at h2
        exact ⟨.pv (hk i y z e h1 h2), .pv (hv i y z e h1 h2)⟩
  · split at hm <;> simp only [Option.some.injEq, reduceCtorEq] at hm
    rename_i kvs' hg
    subst hm
    obtain ⟨b, es, t, rfl, -, h6, -, h8, h9⟩ := h.mp hv hg
    exact .inr ⟨b, es, t, rfl, h6, pair_of h8 h9⟩

theorem sim_mlen (h : SK R st a W κ) {o : Oper} {c : Call} {t : TypeId} {ts : List TypeId} {x : Operand} {y : RA} (ho : o.op = .call c) (hc : c = { callee := .builtin .len, args := ⟨[x]⟩, argTypes := ⟨t :: ts⟩ })
    {kt e : TypeId} (hu : P.underlying t = some (.map kt e)) (hk : okA x y = true)
    {z : AV} {st' : St} {d : Nat} (hr : rop R.G st d (.mlen y) = some (z, st')) : Sim P R a W o z st' := by
  simp only [rop, Option.map_eq_some_iff, Prod.mk.injEq] at hr
  obtain ⟨kvs, hn, rfl, rfl⟩ := hr
  subst hc
  refine .val (v := .int .i64 ((kvs.length : Nat) : Int)) h ?_ (.pv (.int _ _))
  rcases mapOf_sim h (h.ev hk) hn with ⟨h1, rfl⟩ | ⟨b, es, clock, h1, h2, h3, -⟩
  · simp [execOp, ho, resolve, invoke, builtin, Builtin.len_, Sem.run_bind, run_underlying hu, h1, goInt]
  · simp only [Array.length_toList] at h3
    simp [execOp, ho, resolve, invoke, builtin, Builtin.len_, Sem.run_bind, run_underlying hu, h1, goInt, MapKept.run_getObj_map h2, h3]

theorem cstV_pv {M : Nat → Prop} {v : Value} {x : AV} (h : cstV v x = true) : PV M W x v := by
  unfold cstV at h
  split at h
  · split at h <;> try (simp at h; done)
    obtain ⟨h1, h2⟩ := allB2_spec h
    refine .agg _ _ (by simpa using h1) fun i x u hi hu => cst_pv (h2 i u x (by simpa using hu) hi)
  · exact cst_pv h

theorem sim_look (h : SK R st a W κ) {o : Oper} {t : TypeId} {m k : Operand} {ok : Bool} {kk : KK} {zero : AV} {y j : RA} {kt e : TypeId} {ie : TypeInfo} {zv : Value} (ho : o.op = .lookup t m k ok)
    (hu : P.underlying t = some (.map kt e)) (hkk : kkB P kt kk = true) (hi : P.info? e = some ie) (hz : ie.zero = some zv) (hc : cstV zv zero = true) (hk : okA m y = true) (hk2 : okA k j = true)
    {z : AV} {st' : St} {d : Nat} (hr : rop R.G st d (.look kk zero ok y j) = some (z, st')) : Sim P R a W o z st' := by
  have h1 := h.ev hk
  have h2 := h.ev hk2
  have hd := kkB_spec hkk
  simp only [rop] at hr
  split at hr <;> try (simp at hr; done)
  rename_i kvs hm
  have hzr : (zeroValue e).run P W = .ok zv W := by simp [Sem.run_bind, zeroValue, typeInfo, hi, hz]
  -- what is found
  have found : ∀ r, kk.get (evA R.G st j) kvs = some r → ∃ v, (Instr.lookup t (a.eval m) (a.eval k) ok).run P W = .ok v W ∧ VR (st.env R.M κ) W (if ok = true then .tup [r.getD zero, .bool r.isSome] else r.getD zero) v := by
    intro r hg
    unfold KK.get at hg
    split at hg <;> try (simp at hg; done)
    rename_i his
    have hik := KK.key his h2
    have fin : ∀ (x : AV) (u : Value) (b : Bool), VR (st.env R.M κ) W x u → VR (st.env R.M κ) W (if ok = true then .tup [x, .bool b] else x) (if ok = true then .tuple #[u, .bool b] else u) := fun x u b hx => by
      cases ok
      · exact hx
      · refine .tup _ _ rfl fun i q w hq hw => ?_
        match i, hq, hw with
        | 0, hq, hw => cases hq; cases hw; exact hx
        | 1, hq, hw => cases hq; cases hw; exact .pv (.bool _)
    rcases mapOf_sim h h1 hm with ⟨g1, rfl⟩ | ⟨b, es, clock, g1, g2, g3, g4⟩
    · simp only [KK.find, Option.some.injEq] at hg
      subst hg
      refine ⟨_, ?_, fin zero zv false (.pv (cstV_pv hc))⟩
      have hf : Instr.findNow kk.desc (a.eval k) [] 0 = some none := rfl
      simp [Instr.lookup, Sem.run_bind, run_underlying hu, g1, MapKept.run_checkKey hd hik, MapKept.run_findKey hd hf, hzr]
      try (cases ok <;> rfl)
    · split at hg
      · rename_i q hq
        obtain ⟨e1, p, q1, q2, q3, q4⟩ := KK.find_sim h2 kvs es.toList 0 _ g3 (fun i y z e h5 h6 => (g4 i y z e h5 h6).1) hq
        rw [q2] at hg
        simp only [Option.map_some, Option.some.injEq] at hg
        subst hg
        refine ⟨_, ?_, fin p.2 e1.val true (g4 q p.1 p.2 e1 q2 q1).2⟩
        simp [Instr.lookup, Sem.run_bind, run_underlying hu, g1, MapKept.run_getObj_map g2, MapKept.run_checkKey hd hik, MapKept.run_findKey hd q4]
        try (cases ok <;> rfl)
      · rename_i hq
        simp only [Option.some.injEq] at hg
        subst hg
        obtain ⟨q4, -⟩ := KK.find_sim h2 kvs es.toList 0 _ g3 (fun i y z e h5 h6 => (g4 i y z e h5 h6).1) hq
        refine ⟨_, ?_, fin zero zv false (.pv (cstV_pv hc))⟩
        simp [Instr.lookup, Sem.run_bind, run_underlying hu, g1, MapKept.run_getObj_map g2, MapKept.run_checkKey hd hik, MapKept.run_findKey hd q4, hzr]
        try (cases ok <;> rfl)
      · cases hg
  split at hr <;> simp only [Option.some.injEq, Prod.mk.injEq, reduceCtorEq] at hr
  all_goals
    rename_i hg
    obtain ⟨rfl, rfl⟩ := hr
    obtain ⟨v, g1, g2⟩ := found _ hg
    exact .val h (by simp only [execOp, ho, Sem.run_bind, g1, Result.andThen_ok, Sem.run_pure]) g2

theorem sim_mkmap (h : SK R st a W κ) {o : Oper} {t : TypeId} {r : Option Operand} (ho : o.op = .makeMap t r)
    (hr0 : okMk P t r = true)
    {z : AV} {st' : St} {d : Nat} (hr : rop R.G st d .mkmap = some (z, st')) : Sim P R a W o z st' := by
  simp only [rop] at hr
  split at hr <;> simp only [Option.some.injEq, Prod.mk.injEq, reduceCtorEq] at hr
  rename_i hd
  obtain ⟨rfl, rfl⟩ := hr
  have hrun : (Instr.makeMap t (r.map a.eval)).run P W = .ok (.map (some W.heap.size)) (W.alloc (.map #[] 0)) := by
    unfold okMk at hr0
    split at hr0 <;> try (simp at hr0; done)
    · simp [Instr.makeMap, Sem.run_bind]
    · split at hr0 <;> try (simp at hr0; done)
      rename_i k n kt e hu
      simp [Instr.makeMap, Sem.run_bind, Act.eval, run_underlying hu, asInt, asIntOf]
  refine ⟨.map (some W.heap.size), _, _, .inl (by simp only [execOp, ho, Sem.run_bind, hrun, Result.andThen_ok, Sem.run_pure]), h.newO hd (obj := .mp []) (ob := .map #[] 0) ⟨rfl, #[], 0, rfl, MapKept.stamped_empty 0, rfl, by simp⟩, ?_⟩
  exact .mp d W.heap.size (by simp [St.env]) (by simp [St.env, St.get_set, AObj.dim])

/-- An own map's entries are others. -/
theorem SK.setMap (h : SK R st a W κ) {k b : Nat} {kvs kvs' : List (AV × AV)} {es es' : Array MapEntry} {c c' : Nat} (hg : st.get k = some (.mp kvs)) (hk : κ k = some (b, 0)) (hb : W.heap[b]? = some (.map es c))
    (hs : MapKept.Stamped es' c') (hn : es'.size = kvs'.length) (hv : ∀ (i : Nat) (x y : AV), kvs'[i]? = some (x, y) → ∃ e, es'[i]? = some e ∧ VR (st.env R.M κ) W x e.key ∧ VR (st.env R.M κ) W y e.val) :
    SK R (st.set k (.mp kvs')) a { W with heap := W.heap.setIfInBounds b (.map es' c') } κ := by
  obtain ⟨g1, g2⟩ := MapKept.heap_set (o' := .map es' c') hb
  exact h.changeO hg hk hb (fun e => by cases e) rfl (fun cs t e => by cases e) (by simp) g1 (fun i _ hi => g2 i hi) rfl rfl rfl ⟨rfl, es', c', rfl, hs, hn, hv⟩

theorem sim_mupd (h : SK R st a W κ) {o : Oper} {t : TypeId} {m k v : Operand} {kk : KK} {y j u : RA} {kt e : TypeId} (ho : o.op = .mapUpdate t m k v ∨ o.op = .insert t m k v)
    (hu : P.underlying t = some (.map kt e)) (hkk : kkB P kt kk = true) (hk : okA m y = true) (hk2 : okA k j = true) (hk3 : okA v u = true)
    {z : AV} {st' : St} {d : Nat} (hr : rop R.G st d (.mupd kk y j u) = some (z, st')) : Sim P R a W o z st' := by
  have h1 := h.ev hk
  have h2 := h.ev hk2
  have h3 := h.ev hk3
  have hd := kkB_spec hkk
  simp only [rop] at hr
  split at hr <;> try (simp at hr; done)
  rename_i n e1
  rw [e1] at h1
  split at hr <;> try (simp at hr; done)
  rename_i kvs hg
  split at hr <;> simp only [Option.some.injEq, Prod.mk.injEq, reduceCtorEq] at hr
  rename_i kvs' hp
  obtain ⟨rfl, rfl⟩ := hr
  obtain ⟨b, es, c, g1, g2, g3, g4, g5, g6⟩ := h.mp h1 hg
  obtain ⟨p1, p2⟩ := pair_of g5 g6
  unfold KK.put at hp
  split at hp <;> try (simp at hp; done)
  rename_i his
  have hik := KK.key his h2
  have fin : ∀ {W' : World}, (Instr.mapUpdate t (a.eval m) (a.eval k) (a.eval v)).run P W = .ok () W' → (execOp a.eval o).run P W = .ok .skip W' := fun {W'} hrun => by
    rcases ho with ho | ho <;> simp only [execOp, ho, Sem.run_bind, hrun, Result.andThen_ok, Sem.run_pure]
  split at hp
  · rename_i q hq
    simp only [Option.some.injEq] at hp
    subst hp
    obtain ⟨e2, p, q1, q2, q3, q4⟩ := KK.find_sim h2 kvs es.toList 0 _ p1 (fun i y z e h5 h6 => (p2 i y z e h5 h6).1) hq
    have hj : es[q]? = some e2 := by simpa using q1
    rw [Nat.zero_add] at q4
    have hrun : (Instr.mapUpdate t (a.eval m) (a.eval k) (a.eval v)).run P W = .ok () { W with heap := W.heap.setIfInBounds b (.map (es.modify q fun e => { e with key := a.eval k, val := a.eval v }) c) } := by
      simp [Instr.mapUpdate, Sem.run_bind, run_underlying hu, g1, MapKept.run_getObj_map g3, MapKept.run_checkKey hd hik, MapKept.run_findKey hd q4, hj, q3, MapKept.run_keyThatStays hik, MapKept.run_setObj_map _ g3]
    refine ⟨Go.undef, _, κ, .inr ⟨fin hrun, rfl⟩, h.setMap hg g2 g3 (MapKept.stamped_modify g4 q _ (fun _ _ => rfl) (fun e3 _ he3 => by rw [hj] at he3; cases he3; exact q3.symm)) (by simpa using g5) (fun i x y hi => ?_), .pv .hole⟩
    rw [List.getElem?_set] at hi
    rw [Array.getElem?_modify]
    split at hi
    · rename_i e3
      subst e3
      split at hi <;> simp only [Option.some.injEq, Prod.mk.injEq, reduceCtorEq] at hi
      obtain ⟨rfl, rfl⟩ := hi
      exact ⟨_, by rw [if_pos rfl, hj]; rfl, h2, h3⟩
    · rename_i e3
      obtain ⟨e4, r1, r2⟩ := g6 i x y hi
      exact ⟨e4, by rw [if_neg e3]; exact r1, r2⟩
  · rename_i hq
    simp only [Option.some.injEq] at hp
    subst hp
    obtain ⟨q4, q5⟩ := KK.find_sim h2 kvs es.toList 0 _ p1 (fun i y z e h5 h6 => (p2 i y z e h5 h6).1) hq
    have hrun : (Instr.mapUpdate t (a.eval m) (a.eval k) (a.eval v)).run P W = .ok () { W with heap := W.heap.setIfInBounds b (.map (es.push { key := a.eval k, val := a.eval v, born := c }) (c + 1)) } := by
      simp [Instr.mapUpdate, Sem.run_bind, run_underlying hu, g1, MapKept.run_getObj_map g3, MapKept.run_checkKey hd hik, MapKept.run_findKey hd q4, MapKept.run_setObj_map _ g3]
    refine ⟨Go.undef, _, κ, .inr ⟨fin hrun, rfl⟩, h.setMap hg g2 g3 (MapKept.stamped_push g4 q5) (by simp [g5]) (fun i x y hi => ?_), .pv .hole⟩
    rw [Array.getElem?_push]
    rw [List.getElem?_append] at hi
    split at hi
    · rename_i hlt
      obtain ⟨e4, r1, r2⟩ := g6 i x y hi
      exact ⟨e4, by rw [if_neg (by omega)]; exact r1, r2⟩
    · rename_i hge
      have h0 : i - kvs.length = 0 := by have := (List.getElem?_eq_some_iff.1 hi).1; simp at this; omega
      rw [h0] at hi
      simp only [List.getElem?_cons_zero, Option.some.injEq, Prod.mk.injEq] at hi
      obtain ⟨rfl, rfl⟩ := hi
      exact ⟨_, by rw [if_pos (by omega)], h2, h3⟩
  · cases hp

theorem sim_mdel (h : SK R st a W κ) {o : Oper} {c : Call} {t : TypeId} {ts : List TypeId} {m k : Operand} {kk : KK} {y j : RA} {kt e : TypeId} (ho : o.op = .call c) (hc : c = { callee := .builtin .delete, args := ⟨[m, k]⟩, argTypes := ⟨t :: ts⟩ })
    (hu : P.underlying t = some (.map kt e)) (hkk : kkB P kt kk = true) (hk : okA m y = true) (hk2 : okA k j = true)
    {z : AV} {st' : St} {d : Nat} (hr : rop R.G st d (.mdel kk y j) = some (z, st')) : Sim P R a W o z st' := by
  have h1 := h.ev hk
  have h2 := h.ev hk2
  have hd := kkB_spec hkk
  subst hc
  simp only [rop] at hr
  split at hr <;> try (simp at hr; done)
  rename_i n e1
  rw [e1] at h1
  split at hr <;> try (simp at hr; done)
  rename_i kvs hg
  split at hr <;> simp only [Option.some.injEq, Prod.mk.injEq, reduceCtorEq] at hr
  rename_i kvs' hp
  obtain ⟨rfl, rfl⟩ := hr
  obtain ⟨b, es, c, g1, g2, g3, g4, g5, g6⟩ := h.mp h1 hg
  obtain ⟨p1, p2⟩ := pair_of g5 g6
  unfold KK.del at hp
  split at hp <;> try (simp at hp; done)
  rename_i his
  have hik := KK.key his h2
  have fin : ∀ {W' : World}, (Builtin.delete_ ⟨t :: ts⟩ o.type #[a.eval m, a.eval k]).run P W = .ok (.tuple #[]) W' → (execOp a.eval o).run P W = .ok (.value (.tuple #[])) W' := fun {W'} hrun => by
    simp only [execOp, ho, resolve, invoke, builtin, Sem.run_bind, Sem.run_pure, Result.andThen_ok, List.map_toArray, List.map_cons, List.map_nil, hrun]
  have tu : ∀ {E : Env} {W : World}, VR E W (.tup []) (.tuple #[]) := .pv (.tup [] #[] rfl (by simp))
  split at hp
  · rename_i q hq
    simp only [Option.some.injEq] at hp
    subst hp
    obtain ⟨e2, p, q1, q2, q3, q4⟩ := KK.find_sim h2 kvs es.toList 0 _ p1 (fun i y z e h5 h6 => (p2 i y z e h5 h6).1) hq
    have hj : es[q]? = some e2 := by simpa using q1
    have hlt : q < es.size := (Array.getElem?_eq_some_iff.1 hj).1
    rw [Nat.zero_add] at q4
    have hrun : (Builtin.delete_ ⟨t :: ts⟩ o.type #[a.eval m, a.eval k]).run P W = .ok (.tuple #[]) { W with heap := W.heap.setIfInBounds b (.map (es.eraseIdxIfInBounds q) c) } := by
      simp [Builtin.delete_, Sem.run_bind, run_underlying hu, g1, MapKept.run_getObj_map g3, MapKept.run_checkKey hd hik, MapKept.run_findKey hd q4, MapKept.run_setObj_map _ g3]
    refine ⟨_, _, κ, .inl (fin hrun), h.setMap hg g2 g3 (MapKept.stamped_erase g4 q) ?_ (fun i x y hi => ?_), tu⟩
    · unfold Array.eraseIdxIfInBounds
      rw [dif_pos hlt, Array.size_eraseIdx, List.length_eraseIdx, if_pos (by omega), g5]
    · have he : (es.eraseIdxIfInBounds q)[i]? = if i < q then es[i]? else es[i + 1]? := by
        unfold Array.eraseIdxIfInBounds
        rw [dif_pos hlt, Array.getElem?_eraseIdx]
      rw [List.getElem?_eraseIdx] at hi
      rw [he]
      split at hi
      · rename_i h5
        rw [if_pos h5]
        exact g6 i x y hi
      · rename_i h5
        rw [if_neg h5]
        exact g6 (i + 1) x y hi
  · rename_i hq
    simp only [Option.some.injEq] at hp
    subst hp
    obtain ⟨q4, q5⟩ := KK.find_sim h2 kvs es.toList 0 _ p1 (fun i y z e h5 h6 => (p2 i y z e h5 h6).1) hq
    have hrun : (Builtin.delete_ ⟨t :: ts⟩ o.type #[a.eval m, a.eval k]).run P W = .ok (.tuple #[]) { W with heap := W.heap.setIfInBounds b (.map es c) } := by
      simp [Builtin.delete_, Sem.run_bind, run_underlying hu, g1, MapKept.run_getObj_map g3, MapKept.run_checkKey hd hik, MapKept.run_findKey hd q4, MapKept.run_setObj_map _ g3]
    exact ⟨_, _, κ, .inl (fin hrun), h.setMap hg g2 g3 g4 g5 g6, tu⟩
  · cases hp

end
end Go.Proofs.YtdpmioiamcgfkaaDoor
