/-
  The abstract machine: composite values, elements, lengths, comparisons, slices.
-/
import Derived.Test.YtdpmioiamcgfkaaDoorAmD
import Derived.ArgAppend
import Derived.Laws.MakeOwn
import Derived.Laws.AppendOwn
namespace Go.Proofs.YtdpmioiamcgfkaaDoor
open Go.RowKit

section
variable {P : Program} {R : Run} {st : St} {a : Act} {W W' : World} {κ : Nat → Option (Nat × Nat)}

theorem built_sim (h : SK R st a W κ) {place : Nat → Option (Nat × Nat)} {zs : List Value} {zero : List AV} {parts : List (Nat × Operand)} {qs : List (Nat × Nat × RA)} (hz : allB2 cstB zs zero = true) (hl : parts.length = qs.length)
    (hp : ∀ (i : Nat) (p : Nat × Operand) (q : Nat × Nat × RA), parts[i]? = some p → qs[i]? = some q → place p.1 = some (q.1, q.2.1) ∧ okA p.2 q.2.2 = true) {cs : List AV}
    (hf : aFill zero (qs.map fun p => (p.1, p.2.1, evA R.G st p.2.2)) = some cs) :
    ∃ us, Instr.fill place zs.toArray (parts.map fun p => (p.1, a.eval p.2)) = some us ∧ CR (st.env R.M κ) W cs us.toList := by
  refine fill_sim _ _ _ _ _ (by simpa using cst_cells hz) (by simpa using hl) (fun i p q h1 h2 => ?_) hf
  simp only [List.getElem?_map, Option.map_eq_some_iff] at h1 h2
  obtain ⟨p', h1, rfl⟩ := h1
  obtain ⟨q', h2, rfl⟩ := h2
  obtain ⟨h3, h4⟩ := hp i p' q' h1 h2
  exact ⟨h3, h.ev h4⟩

theorem sim_build (h : SK R st a W κ) {o : Oper} {t : TypeId} {parts : Array (Nat × Operand)} {zero : List AV} {qs : List (Nat × Nat × RA)} (ho : o.op = .build t parts) (hk : okOp P (.build t parts) (.build zero qs) = true)
    {z : AV} {st' : St} {d : Nat} (hr : rop R.G st d (.build zero qs) = some (z, st')) : Sim P R a W o z st' := by
  simp only [rop, Option.map_eq_some_iff, Prod.mk.injEq] at hr
  obtain ⟨cs, hf, rfl, rfl⟩ := hr
  simp only [okOp] at hk
  split at hk <;> try (simp at hk; done)
  · rename_i it fs hi hu
    split at hk <;> try (simp at hk; done)
    rename_i zv places hz hpl
    simp only [Bool.and_eq_true] at hk
    obtain ⟨h1, h2⟩ := allB2_spec hk.2
    obtain ⟨us, hus, hc⟩ := built_sim (R := R) (a := a) (W := W) (κ := κ) (place := (places.toArray[·]?)) h hk.1 h1 (fun i p q hp hq => by
      have := h2 i p q hp hq
      simp only [Bool.and_eq_true, decide_eq_true_eq] at this
      exact this) hf
    have hb : P.built t (parts.toList.map fun p => (p.1, a.eval p.2)) = some us := by
      simp only [Program.built, hi, hu, hz, hpl]
      simpa using hus
    have hrun := run_build W t (parts.map fun p => (p.1, a.eval p.2)) us (by simpa using hb)
    exact .val h (by simp only [execOp, ho, Sem.run_bind]; erw [hrun]; rfl) (by simpa using VR.agg_of hc)
  · rename_i it n e hi hu
    split at hk <;> try (simp at hk; done)
    rename_i zv ie hz hie
    simp only [Bool.and_eq_true] at hk
    obtain ⟨h1, h2⟩ := allB2_spec hk.2
    obtain ⟨us, hus, hc⟩ := built_sim (R := R) (a := a) (W := W) (κ := κ) (place := fun i => some (i * ie.size, ie.size)) h hk.1 h1 (fun i p q hp hq => by
      have := h2 i p q hp hq
      simp only [Bool.and_eq_true, decide_eq_true_eq] at this
      obtain ⟨⟨e1, e2⟩, e3⟩ := this
      exact ⟨by rw [e1, e2], e3⟩) hf
    have hb : P.built t (parts.toList.map fun p => (p.1, a.eval p.2)) = some us := by
      simp only [Program.built, hi, hu, hz, hie]
      simpa using hus
    have hrun := run_build W t (parts.map fun p => (p.1, a.eval p.2)) us (by simpa using hb)
    exact .val h (by simp only [execOp, ho, Sem.run_bind]; erw [hrun]; rfl) (by simpa using VR.agg_of hc)

theorem VR.osl_inv {E : Env} {k n : Nat} {v : Value} (h : VR E W (.osl k n) v) : ∃ sz m a' l c, v = .slice a' l c ∧ E.row k = some (sz, m) ∧ n ≤ m ∧
    (m = n → ∃ b s cs t, E.loc k = some (b, s) ∧ a' = some ⟨b, s, none⟩ ∧ l = n ∧ n ≤ c ∧ c ≤ maxLen ∧ W.heap[b]? = some (.cells cs t (0, 0)) ∧ s + c * sz ≤ cs.size) := by
  cases h with
  | pv h => cases h
  | osl _ _ sz m a' l c h hn he => exact ⟨sz, m, a', l, c, rfl, h, hn, he⟩

/-- An owned slice that is whole. -/
theorem SK.osl (h : SK R st a W κ) {k n sz : Nat} {rows : List (List AV)} {v : Value} (hv : VR (st.env R.M κ) W (.osl k n) v) (hg : st.get k = some (.row sz rows)) (hn : rows.length = n) :
    ∃ b s c cs t, κ k = some (b, s) ∧ v = .slice (some ⟨b, s, none⟩) n c ∧ n ≤ c ∧ c ≤ maxLen ∧ W.heap[b]? = some (.cells cs t (0, 0)) ∧ s + c * sz ≤ cs.size ∧ (∀ r ∈ rows, r.length = sz) ∧
      ∀ (i j : Nat) (r : List AV) (x : AV), rows[i]? = some r → r[j]? = some x → ∃ v, cs[s + i * sz + j]? = some v ∧ VR (st.env R.M κ) W x v := by
  obtain ⟨sz', m, a', l, c, rfl, h1, h2, h3⟩ := hv.osl_inv
  simp only [St.env, hg, Option.bind_some, AObj.dim, Option.some.injEq, Prod.mk.injEq] at h1
  obtain ⟨rfl, rfl⟩ := h1
  obtain ⟨b, s, cs, t, h4, rfl, rfl, h5, h6, h7, h8⟩ := h3 hn
  obtain ⟨b', s', g2, g3, g4, g5, cs', t', g6, g7, g8⟩ := h.obj k _ hg
  rw [show (st.env R.M κ).loc k = κ k from rfl, g2] at h4
  simp only [Option.some.injEq, Prod.mk.injEq] at h4
  obtain ⟨rfl, rfl⟩ := h4
  rw [h7] at g6
  simp only [Option.some.injEq, Obj.cells.injEq] at g6
  obtain ⟨rfl, rfl, -⟩ := g6
  exact ⟨b', s', c, cs, t, g2, rfl, h5, h6, h7, h8, g5, g8⟩

theorem vsl_inv {M : Nat → Prop} {rows : List (List AV)} {v : Value} (h : PV M W (.vsl rows) v) : ∃ (a' : Option Addr) (cap sz b o : Nat) (f : Nat → Nat → Value), v = .slice a' rows.length cap ∧ rows.length ≤ cap ∧ cap ≤ maxLen ∧
    (rows ≠ [] → a' = some ⟨b, o, none⟩ ∧ b < W.heap.size ∧ ¬ M b) ∧ (a' = none → rows = [] ∧ cap = 0) ∧ (∀ r ∈ rows, r.length = sz) ∧
    (∀ i j, i < rows.length → j < sz → W.cell? ⟨b, o + i * sz + j, none⟩ = some (f i j)) ∧ (∀ (i j : Nat) (r : List AV) (x : AV), rows[i]? = some r → r[j]? = some x → PV M W x (f i j)) := by
  cases h with
  | vsl _ a' cap sz b o f hcap hmax ha hn hs hc hr => exact ⟨a', cap, sz, b, o, f, rfl, hcap, hmax, ha, hn, hs, hc, hr⟩
theorem VR.vsl_inv' {E : Env} {rows : List (List AV)} {v : Value} (h : VR E W (.vsl rows) v) : PV E.M W (.vsl rows) v := by cases h with | pv h => exact h
theorem VR.nils_inv {E : Env} {v : Value} (h : VR E W .nils v) : v = .slice none 0 0 := by cases h with | pv h => cases h; rfl

theorem sim_iaddr (h : SK R st a W κ) {o : Oper} {t e : TypeId} {sz : Nat} {x i : Operand} {y j : RA} (ho : o.op = .indexAddr t x i) (hu : P.underlying t = some (.slice e)) (hn : szB P e = some sz) (hk : okA x y = true) (hj : okA i j = true)
    {z : AV} {st' : St} {d : Nat} (hr : rop R.G st d (.iaddr sz y j) = some (z, st')) : Sim P R a W o z st' := by
  have h1 := h.ev hk
  have h2 := h.ev hj
  simp only [rop] at hr
  split at hr <;> try (simp at hr; done)
  rename_i k n ei
  split at hr <;> try (simp at hr; done)
  rename_i hpos
  rw [ei] at h2
  have hi := h2.int_inv
  have run : ∀ b s len cap, n.toNat < len → (Instr.indexAt t (.slice (some ⟨b, s, none⟩) len cap) (.int k n)).run P W = .ok (.pointer (some ⟨b, s + n.toNat * sz, none⟩)) W := fun b s len cap hlt => by
    simp only [Instr.indexAt, asIntOf, Sem.run_bind, Sem.run_pure, Result.andThen_ok, run_underlying hu, sizeOf_run hn]
    rw [if_pos (by omega)]
    simp [Sem.run_bind, sizeOf_run hn, Addr.add_mid]
  split at hr <;> try (simp at hr; done)
  · rename_i rows es
    split at hr <;> try (simp at hr; done)
    rename_i r hrow
    split at hr <;> simp only [Option.some.injEq, Prod.mk.injEq, reduceCtorEq] at hr
    rename_i hlen
    obtain ⟨rfl, rfl⟩ := hr
    rw [es] at h1
    obtain ⟨a', cap, sz', b, off, f, hv, g1, g2, g3, g4, g5, g6, g7⟩ := vsl_inv h1.vsl_inv'
    have hlt : n.toNat < rows.length := (List.getElem?_eq_some_iff.1 hrow).1
    obtain ⟨rfl, g8, g9⟩ := g3 (by intro e; simp [e] at hlt)
    have hsz : sz' = sz := by rw [← g5 r (List.mem_of_getElem? hrow), hlen]
    subst hsz
    refine .val h (by simp only [execOp, ho, hv, hi, Sem.run_bind, run _ _ _ _ hlt, Result.andThen_ok, Sem.run_pure]; rfl) (.pv (.vptr r 0 b (off + n.toNat * sz') (f n.toNat) g8 g9 (fun j hj => g6 _ _ hlt (by omega)) (fun j x hx => g7 _ _ r x hrow hx)))
  · rename_i k' m es
    split at hr <;> try (simp at hr; done)
    rename_i sz' rows hg
    split at hr <;> simp only [Option.some.injEq, Prod.mk.injEq, reduceCtorEq] at hr
    rename_i hc
    obtain ⟨rfl, hm, hlt⟩ := hc
    obtain ⟨rfl, rfl⟩ := hr
    rw [es] at h1
    obtain ⟨b, s, c, cs, t', g1, hv, g2, g3, g4, g5, g6, g7⟩ := h.osl h1 hg hm
    refine .val h (by simp only [execOp, ho, hv, hi, Sem.run_bind, run _ _ _ _ hlt, Result.andThen_ok, Sem.run_pure]; rfl) (.eptr k' m n.toNat 0 sz' rows.length _ (by simp [St.env, hg, AObj.dim]) (by omega) fun _ => ⟨b, s, g1, by simp⟩)

theorem sim_len (h : SK R st a W κ) {o : Oper} {c : Call} {t : TypeId} {ts : List TypeId} {x : Operand} {y : RA} (ho : o.op = .call c) (hc : c = { callee := .builtin .len, args := ⟨[x]⟩, argTypes := ⟨t :: ts⟩ })
    {e : TypeId} (hu : P.underlying t = some (.slice e)) (hk : okA x y = true)
    {z : AV} {st' : St} {d : Nat} (hr : rop R.G st d (.len y) = some (z, st')) : Sim P R a W o z st' := by
  have h1 := h.ev hk
  simp only [rop, Option.map_eq_some_iff, Prod.mk.injEq] at hr
  obtain ⟨n, hn, rfl, rfl⟩ := hr
  subst hc
  have key : ∃ p c, a.eval x = .slice p n c := by
    unfold aLen at hn
    split at hn <;> try (simp at hn; done)
    · rename_i rows e
      rw [e] at h1
      simp only [Option.some.injEq] at hn
      obtain ⟨a', cap, sz', b, off, f, hv, -⟩ := vsl_inv h1.vsl_inv'
      exact ⟨a', cap, by rw [hv, hn]⟩
    · rename_i e
      rw [e] at h1
      simp only [Option.some.injEq] at hn
      exact ⟨none, 0, by rw [h1.nils_inv, hn]⟩
    · rename_i k m e
      rw [e] at h1
      split at hn <;> try (simp at hn; done)
      rename_i sz rows hg
      split at hn <;> simp only [Option.some.injEq, reduceCtorEq] at hn
      rename_i hm
      subst hn
      obtain ⟨b, s, c, cs, t', g1, hv, -⟩ := h.osl h1 hg hm
      exact ⟨_, c, hv⟩
  refine .val (v := .int .i64 ((n : Nat) : Int)) h ?_ (.pv (.int _ _))
  obtain ⟨p, c, hs⟩ := key
  simp [execOp, ho, resolve, invoke, builtin, Builtin.len_, Sem.run_bind, run_underlying hu, hs, goInt]

theorem sim_slen (h : SK R st a W κ) {o : Oper} {c : Call} {t : TypeId} {ts : List TypeId} {x : Operand} {y : RA} (ho : o.op = .call c) (hc : c = { callee := .builtin .len, args := ⟨[x]⟩, argTypes := ⟨t :: ts⟩ })
    (hu : P.underlying t = some .string) (hk : okA x y = true)
    {z : AV} {st' : St} {d : Nat} (hr : rop R.G st d (.slen y) = some (z, st')) : Sim P R a W o z st' := by
  have h1 := h.ev hk
  simp only [rop] at hr
  split at hr <;> simp only [Option.some.injEq, Prod.mk.injEq, reduceCtorEq] at hr
  rename_i s e
  obtain ⟨rfl, rfl⟩ := hr
  subst hc
  rw [e] at h1
  refine .val (v := .int .i64 ((s.size : Nat) : Int)) h ?_ (.pv (.int _ _))
  simp [execOp, ho, resolve, invoke, builtin, Builtin.len_, Sem.run_bind, run_underlying hu, h1.str_inv, goInt]

theorem aMx_sim {E : Env} {great : Bool} {x y z : AV} {u v : Value} (hx : VR E W x u) (hy : VR E W y v) (h : aMx great x y = some z) :
    ∃ w, (if great = true then Builtin.max2 u v else Builtin.min2 u v).run P W = .ok w W ∧ VR E W z w := by
  unfold aMx at h
  split at h <;> try (simp at h; done)
  rename_i k a k' b
  split at h <;> simp only [Option.some.injEq, reduceCtorEq] at h
  rename_i e
  subst e
  subst h
  rw [hx.int_inv, hy.int_inv]
  refine ⟨_, ?_, .pv (.int _ _)⟩
  cases great
  · simp only [Bool.false_eq_true, if_false, Builtin.min2, Sem.run_pure]
    congr 2
    simp only [Int.min_def]
    split <;> split <;> omega
  · simp only [if_true, Builtin.max2, Sem.run_pure]
    congr 2
    simp only [Int.max_def]
    split <;> split <;> omega

theorem aMxs_sim {E : Env} {great : Bool} : ∀ (xs : List AV) (us : List Value) (x z : AV) (u : Value), VR E W x u → CR E W xs us → aMxs great x xs = some z →
    ∃ w, (us.foldlM (fun p q => if great = true then Builtin.max2 p q else Builtin.min2 p q) u).run P W = .ok w W ∧ VR E W z w
  | [], us, x, z, u, hx, hc, h => by
    have : us = [] := List.length_eq_zero_iff.1 hc.1
    subst this
    simp only [aMxs, Option.some.injEq] at h
    subst h
    exact ⟨u, rfl, hx⟩
  | y :: ys, [], x, z, u, hx, hc, h => by have := hc.1; simp at this
  | y :: ys, v :: vs, x, z, u, hx, hc, h => by
    simp only [aMxs] at h
    split at h <;> try (simp at h; done)
    rename_i q hq
    obtain ⟨w, hw, hr⟩ := aMx_sim (P := P) hx (hc.2 0 y v rfl rfl) hq
    obtain ⟨w', hw', hr'⟩ := aMxs_sim ys vs q z w hr ⟨by simpa using hc.1, fun i x u h1 h2 => hc.2 (i + 1) x u (by simpa using h1) (by simpa using h2)⟩ h
    refine ⟨w', ?_, hr'⟩
    rw [List.foldlM_cons, Sem.run_bind, hw]
    exact hw'

theorem sim_mx (h : SK R st a W κ) {o : Oper} {c : Call} {great : Bool} {ts : Array TypeId} {x : Operand} {xs : List Operand} {y : RA} {ys : List RA} (ho : o.op = .call c)
    (hc : c = { callee := .builtin (if great = true then .max else .min), args := ⟨x :: xs⟩, argTypes := ts }) (hk : okA x y = true) (hks : allB2 okA xs ys = true)
    {z : AV} {st' : St} {d : Nat} (hr : rop R.G st d (.mx great y ys) = some (z, st')) : Sim P R a W o z st' := by
  simp only [rop, Option.map_eq_some_iff, Prod.mk.injEq] at hr
  obtain ⟨n, hn, rfl, rfl⟩ := hr
  obtain ⟨w, hw, hr⟩ := aMxs_sim (P := P) _ _ _ _ _ (h.ev hk) (h.evs hks) hn
  subst hc
  refine .val h ?_ hr
  cases great
  · simp only [Bool.false_eq_true, if_false] at hw
    simp [execOp, ho, resolve, invoke, builtin, Builtin.min_, Sem.run_bind, hw]
  · simp only [if_true] at hw
    simp [execOp, ho, resolve, invoke, builtin, Builtin.max_, Sem.run_bind, hw]


/-! ### Comparisons -/
theorem eqL_append : ∀ (ks ks' : List CK) (xs xs' ys ys' : List AV) (b : Bool), xs.length = ks.length → ys.length = ks.length → eqL (ks ++ ks') (xs ++ xs') (ys ++ ys') = some b →
    ∃ b1 b2, eqL ks xs ys = some b1 ∧ eqL ks' xs' ys' = some b2 ∧ b = (b1 && b2)
  | [], ks', [], xs', [], ys', b, _, _, h => ⟨true, b, rfl, h, rfl⟩
  | k :: ks, ks', x :: xs, xs', y :: ys, ys', b, h1, h2, h => by
    simp only [List.cons_append, eqL] at h
    split at h <;> simp only [Option.some.injEq, reduceCtorEq] at h
    rename_i c1 c2 e1 e2
    subst h
    obtain ⟨b1, b2, g1, g2, rfl⟩ := eqL_append ks ks' xs xs' ys ys' c2 (by simpa using h1) (by simpa using h2) e2
    exact ⟨c1 && b1, b2, by simp only [eqL, e1, g1], g2, by rw [Bool.and_assoc]⟩
  | [], _, _ :: _, _, _, _, _, h, _, _ => by simp at h
  | [], _, [], _, _ :: _, _, _, _, h, _ => by simp at h
  | _ :: _, _, [], _, _, _, _, h, _, _ => by simp at h
  | _ :: _, _, _ :: _, _, [], _, _, _, h, _ => by simp at h

def mkV (agg : Bool) (us : List Value) : Value := if agg = true then .agg us.toArray else us.headD Go.undef

/-- Part of a list of cells. -/
theorem CR.part {E : Env} {xs : List AV} {us : List Value} (h : CR E W xs us) (off n : Nat) : CR E W ((xs.drop off).take n) ((us.drop off).take n) := by
  refine ⟨by simp [h.1], fun i x u hx hu => ?_⟩
  rw [List.getElem?_take] at hx hu
  split at hx <;> try (simp at hx; done)
  rename_i hi
  rw [if_pos hi] at hu
  rw [List.getElem?_drop] at hx hu
  exact h.2 _ x u hx hu

theorem part_run {t : TypeId} {agg : Bool} {n off : Nat} {us : List Value} (ha : aggB P t = some agg) (hn : szB P t = some n) (h1 : agg = false → n = 1) (hle : off + n ≤ us.length) :
    (Go.part t us.toArray off).run P W = .ok (mkV agg ((us.drop off).take n)) W := by
  cases agg with
  | true =>
    simp only [Go.part, Sem.run_bind, isAgg_run ha, Result.andThen_ok, if_true, sizeOf_run hn, Sem.run_pure, mkV]
    congr 2
    apply Array.ext'
    simp [Array.toList_extract, List.extract]
  | false =>
    have h2 := h1 rfl
    subst h2
    have hg : us.toArray[off]? = some us[off] := by simp
    simp only [Go.part, Sem.run_bind, isAgg_run ha, Result.andThen_ok, Bool.false_eq_true, if_false, hg, Sem.run_pure, mkV]
    congr 1
    rw [List.drop_eq_getElem_cons (by omega)]
    rfl

theorem flatK_agg {d : Nat} {t : TypeId} {ks : List CK} (h : flatK P d t = some ks) : szB P t = some ks.length ∧ ((aggB P t = some true) ∨ (aggB P t = some false ∧ ks.length = 1)) := by
  cases d with
  | zero => simp [flatK] at h
  | succ d =>
    simp only [flatK] at h
    split at h <;> try (simp at h; done)
    · rename_i hu
      split at h <;> simp only [Option.some.injEq, reduceCtorEq] at h
      subst h
      exact ⟨‹_›, .inr ⟨by simp [aggB, hu, TypeDesc.isRow], rfl⟩⟩
    · rename_i hu
      split at h <;> simp only [Option.some.injEq, reduceCtorEq] at h
      subst h
      exact ⟨‹_›, .inr ⟨by simp [aggB, hu, TypeDesc.isRow], rfl⟩⟩
    · rename_i hu
      split at h <;> simp only [Option.some.injEq, reduceCtorEq] at h
      subst h
      exact ⟨‹_›, .inr ⟨by simp [aggB, hu, TypeDesc.isRow], rfl⟩⟩
    · rename_i hu
      split at h <;> try (simp at h; done)
      split at h <;> try (simp at h; done)
      split at h <;> simp only [Option.some.injEq, reduceCtorEq] at h
      subst h
      exact ⟨‹_›, .inl (by simp [aggB, hu, TypeDesc.isRow])⟩

theorem flat_eq {E : Env} : ∀ (d : Nat) (t : TypeId) (ks : List CK), flatK P d t = some ks → ∀ (D : Nat), d ≤ D → ∀ (agg : Bool), aggB P t = some agg → ∀ (xs ys : List AV) (us vs : List Value) (b : Bool),
    xs.length = ks.length → ys.length = ks.length → CR E W xs us → CR E W ys vs → eqL ks xs ys = some b → (Op.equalIn D t (mkV agg us) (mkV agg vs)).run P W = .ok b W := by
  intro d
  induction d with
  | zero => intro t ks h; simp [flatK] at h
  | succ d ih =>
    intro t ks h D hD agg ha xs ys us vs b hx hy hu hv he
    obtain ⟨D, rfl⟩ : ∃ D', D = D' + 1 := ⟨D - 1, by omega⟩
    simp only [flatK] at h
    have one : ∀ {k : CK}, ks = [k] → ∃ x y u v, xs = [x] ∧ ys = [y] ∧ us = [u] ∧ vs = [v] ∧ VR E W x u ∧ VR E W y v := by
      rintro k rfl
      match xs, ys, hx, hy with
      | [x], [y], _, _ =>
        match us, vs, hu, hv with
        | [u], [v], hu, hv => exact ⟨x, y, u, v, rfl, rfl, rfl, rfl, hu.2 0 x u rfl rfl, hv.2 0 y v rfl rfl⟩
        | [], _, hu, _ => exact absurd hu.1 (by simp)
        | _ :: _ :: _, _, hu, _ => exact absurd hu.1 (by simp)
        | [_], [], _, hv => exact absurd hv.1 (by simp)
        | [_], _ :: _ :: _, _, hv => exact absurd hv.1 (by simp)
    have one1 : ∀ {k : CK} {x y : AV} {c : Bool}, eqL [k] [x] [y] = some c → eq1 k x y = some c := fun {k x y c} h => by
      simp only [eqL] at h
      split at h <;> simp only [Option.some.injEq, reduceCtorEq] at h
      rename_i e1 e2
      simp only [Option.some.injEq] at e2
      subst e2
      rw [e1, ← h, Bool.and_true]
    split at h <;> try (simp at h; done)
    · rename_i k hk
      split at h <;> simp only [Option.some.injEq, reduceCtorEq] at h
      subst h
      have hagg : agg = false := by simp only [aggB, hk, TypeDesc.isRow, Option.map_some, Option.some.injEq] at ha; exact ha.symm
      subst hagg
      obtain ⟨x, y, u, v, rfl, rfl, rfl, rfl, h1, h2⟩ := one rfl
      replace he := one1 he
      cases x <;> try (simp [eq1] at he; done)
      cases y <;> simp only [eq1, reduceCtorEq] at he
      split at he <;> simp only [Option.some.injEq, reduceCtorEq] at he
      rename_i hkk
      subst hkk
      subst he
      simp only [mkV, Bool.false_eq_true, if_false, List.headD_cons]
      rw [h1.int_inv, h2.int_inv, run_equalIn_int W D t _ k _ _ hk]
      rfl
    · rename_i hk
      split at h <;> simp only [Option.some.injEq, reduceCtorEq] at h
      subst h
      have hagg : agg = false := by simp only [aggB, hk, TypeDesc.isRow, Option.map_some, Option.some.injEq] at ha; exact ha.symm
      subst hagg
      obtain ⟨x, y, u, v, rfl, rfl, rfl, rfl, h1, h2⟩ := one rfl
      replace he := one1 he
      cases x <;> try (simp [eq1] at he; done)
      cases y <;> simp only [eq1, reduceCtorEq, Option.some.injEq] at he
      subst he
      simp only [mkV, Bool.false_eq_true, if_false, List.headD_cons]
      rw [h1.str_inv, h2.str_inv, run_equalIn_string W D t _ _ hk]
    · rename_i hk
      split at h <;> simp only [Option.some.injEq, reduceCtorEq] at h
      subst h
      have hagg : agg = false := by simp only [aggB, hk, TypeDesc.isRow, Option.map_some, Option.some.injEq] at ha; exact ha.symm
      subst hagg
      obtain ⟨x, y, u, v, rfl, rfl, rfl, rfl, h1, h2⟩ := one rfl
      replace he := one1 he
      cases x <;> try (simp [eq1] at he; done)
      cases y <;> simp only [eq1, reduceCtorEq, Option.some.injEq] at he
      subst he
      simp only [mkV, Bool.false_eq_true, if_false, List.headD_cons]
      rw [h1.bool_inv, h2.bool_inv, run_equalIn_bool' W D t _ _ hk]
    · rename_i fs hk
      split at h <;> try (simp at h; done)
      rename_i hst
      split at h <;> try (simp at h; done)
      rename_i ks' hf
      split at h <;> simp only [Option.some.injEq, reduceCtorEq] at h
      rename_i hsz
      subst h
      have hagg : agg = true := by simp only [aggB, hk, TypeDesc.isRow, Option.map_some, Option.some.injEq] at ha; exact ha.symm
      subst hagg
      simp only [mkV, if_true]
      have hfo : P.fieldsOf t = fs := by simp [Program.fieldsOf, hk]
      rw [run_equalIn_struct W D t _ _ (by rw [hfo]; exact hk) hst, hfo]
      -- the fields
      have key : ∀ (l : List Field) (off : Nat) (kl : List CK) (c : Bool), fldK (flatK P d) off l = some kl → off + kl.length ≤ xs.length → eqL kl ((xs.drop off).take kl.length) ((ys.drop off).take kl.length) = some c →
          (Op.eqFields D us.toArray vs.toArray l).run P W = .ok c W := by
        intro l
        induction l with
        | nil =>
          intro off kl c h1 _ h3
          simp only [fldK, Option.some.injEq] at h1
          subst h1
          simp [eqL] at h3
          subst h3
          rfl
        | cons f l ihl =>
          intro off kl c h1 h2 h3
          simp only [fldK] at h1
          split at h1 <;> try (simp at h1; done)
          rename_i hn
          obtain ⟨hn1, rfl⟩ := hn
          split at h1 <;> try (simp at h1; done)
          rename_i kf hkf
          simp only [Option.map_eq_some_iff] at h1
          obtain ⟨kr, hkr, rfl⟩ := h1
          obtain ⟨gs, gagg⟩ := flatK_agg hkf
          simp only [List.length_append] at h2 h3
          have hul := hu.1
          have hvl := hv.1
          have tk : ∀ (q : List AV), (q.drop f.offset).take (kf.length + kr.length) = (q.drop f.offset).take kf.length ++ (q.drop (f.offset + kf.length)).take kr.length := fun q => by
            rw [List.take_add, List.drop_drop]
          rw [tk, tk] at h3
          obtain ⟨b1, b2, e1, e2, rfl⟩ := eqL_append kf kr _ _ _ _ c (by simp; omega) (by simp; omega) h3
          have hfa : ∃ ag, aggB P f.type = some ag ∧ (ag = false → kf.length = 1) := by
            rcases gagg with g | ⟨g, g2⟩
            · exact ⟨true, g, by simp⟩
            · exact ⟨false, g, fun _ => g2⟩
          obtain ⟨ag, ha1, ha2⟩ := hfa
          have r1 := part_run (P := P) (W := W) (us := us) ha1 gs ha2 (off := f.offset) (by omega)
          have r2 := part_run (P := P) (W := W) (us := vs) ha1 gs ha2 (off := f.offset) (by omega)
          have r3 := ih f.type kf hkf D (by omega) ag ha1 _ _ _ _ b1 (by simp; omega) (by simp; omega) (hu.part f.offset kf.length) (hv.part f.offset kf.length) e1
          simp only [Op.eqFields, hn1, ne_eq, not_false_eq_true, if_true, Sem.run_bind, r1, r2, r3, Result.andThen_ok]
          cases b1
          · simp
          · simp only [Bool.not_true, Bool.false_eq_true, if_false, Bool.true_and]
            exact ihl (f.offset + kf.length) kr b2 hkr (by omega) e2
      exact key fs.toList 0 ks' b hf (by omega) (by rw [List.drop_zero, List.drop_zero, List.take_of_length_le (by omega), List.take_of_length_le (by omega)]; exact he)

theorem sim_eqs (h : SK R st a W κ) {o : Oper} {op : BinOp} {t u : TypeId} {x y : Operand} {neg : Bool} {ks : List CK} {x' y' : RA} (ho : o.op = .binOp op t x y u) (hop : op = if neg = true then .neq else .eql) (hf : flatK P 8 t = some ks) (ha : aggB P t = some true)
    (hg : P.eqGuardType P.depth t = false) (hx : okA x x' = true) (hy : okA y y' = true) {z : AV} {st' : St} {d : Nat} (hr : rop R.G st d (.eqs neg ks x' y') = some (z, st')) : Sim P R a W o z st' := by
  have h1 := h.ev hx
  have h2 := h.ev hy
  simp only [rop] at hr
  split at hr <;> simp only [Option.map_eq_some_iff, Prod.mk.injEq, reduceCtorEq] at hr
  rename_i xs ys e1 e2
  obtain ⟨b, hb, rfl, rfl⟩ := hr
  rw [e1] at h1
  rw [e2] at h2
  obtain ⟨us, hu1, hu2⟩ := h1.agg_inv
  obtain ⟨vs, hv1, hv2⟩ := h2.agg_inv
  have len : ∀ {ks : List CK} {xs ys : List AV} {b : Bool}, eqL ks xs ys = some b → xs.length = ks.length ∧ ys.length = ks.length := by
    intro ks
    induction ks with
    | nil => intro xs ys b h; cases xs <;> cases ys <;> simp_all [eqL]
    | cons k ks ih =>
      intro xs ys b h
      cases xs <;> cases ys <;> simp only [eqL, reduceCtorEq] at h
      split at h <;> try (simp at h; done)
      rename_i e1 e2
      obtain ⟨l1, l2⟩ := ih e2
      exact ⟨by simp [l1], by simp [l2]⟩
  obtain ⟨l1, l2⟩ := len hb
  have run := flat_eq (P := P) (W := W) 8 t ks hf 10000 (by omega) true ha xs ys us.toList vs.toList b l1 l2 hu2 hv2 hb
  simp only [mkV, if_true] at run
  refine .val h ?_ (.pv (.bool _))
  subst hop
  cases neg
  · simp only [execOp, ho, hu1, hv1, Sem.run_bind, run_eqGuard_agg W _ t _ _ _ _ hg, Result.andThen_ok, Bool.false_eq_true, if_false, run_eql_struct, run, Sem.run_pure]
  · simp only [execOp, ho, hu1, hv1, Sem.run_bind, run_eqGuard_agg W _ t _ _ _ _ hg, Result.andThen_ok, if_true, run_neq_struct, run, Sem.run_pure]

/-! ### Rows -/
theorem SK.rowNew (h : SK R st a W κ) {d : Nat} (hd : st.get d = none) {sz : Nat} {rows : List (List AV)} {us : Array Value} {c : Nat} (hr : RowOk (st.env R.M κ) W us 0 (.row sz rows)) (hc : rows.length ≤ c) (hm : c ≤ maxLen) (hz : c * sz ≤ us.size) (t : TypeId) :
    SK R (st.set d (.row sz rows)) a (W.alloc (.cells us t)) (fun k => if k = d then some (W.heap.size, 0) else κ k) ∧
      VR ((st.set d (.row sz rows)).env R.M (fun k => if k = d then some (W.heap.size, 0) else κ k)) (W.alloc (.cells us t)) (.osl d rows.length) (.slice (some ⟨W.heap.size, 0, none⟩) rows.length c) := by
  refine ⟨h.new hd hr, .osl d rows.length sz rows.length _ _ _ (by simp [St.env, St.get_set, AObj.dim]) (Nat.le_refl _) fun _ => ⟨W.heap.size, 0, us, t, by simp [St.env], rfl, rfl, hc, hm, World.alloc_heap_new _ _, by omega⟩⟩

theorem aFill_length : ∀ {qs : List (Nat × Nat × AV)} {xs zs : List AV}, aFill xs qs = some zs → zs.length = xs.length
  | [], xs, zs, h => by simp only [aFill, Option.some.injEq] at h; rw [h]
  | (off, n, x) :: qs, xs, zs, h => by
    simp only [aFill] at h
    split at h <;> try (simp at h; done)
    rename_i hc
    rw [aFill_length h, splice_length (by have := hc.2.1; have := hc.2.2; omega)]

theorem chunk_get {sz n i : Nat} {cs r : List AV} (h : (chunk sz n cs)[i]? = some r) : i < n ∧ r = (cs.drop (i * sz)).take sz := by
  unfold chunk at h
  rw [List.getElem?_map] at h
  have hi : i < n := by
    have := (Option.map_eq_some_iff.1 h)
    obtain ⟨j, hj, -⟩ := this
    have := (List.getElem?_eq_some_iff.1 hj).1
    simpa using this
  rw [List.getElem?_range hi] at h
  simp only [Option.map_some, Option.some.injEq] at h
  exact ⟨hi, h.symm⟩
theorem mul_le_of {i n sz : Nat} (h : i < n) : i * sz + sz ≤ n * sz := by
  have := Nat.mul_le_mul_right sz (show i + 1 ≤ n by omega)
  rwa [Nat.add_mul, Nat.one_mul] at this

theorem sim_bsl (h : SK R st a W κ) {o : Oper} {t e : TypeId} {n : Nat} {parts : Array (Nat × Operand)} {ie : TypeInfo} {zv : Value} {own : Bool} {sz : Nat} {zero : List AV} {qs : List (Nat × RA)} (ho : o.op = .buildSlice t n parts)
    (hu : P.underlying t = some (.slice e)) (hn : szB P e = some sz) (hi : P.info? e = some ie) (hz : ie.zero = some zv) (hzero : allB2 cstB (if n * sz = 0 then [] else ((List.range (n * sz)).map fun i => zv.cells[i % zv.cells.size]!)) zero = true)
    (h1 : n * sz ≤ 16777216) (h2 : n ≤ 16777216) (hp : allB2 (fun (p : Nat × Operand) (q : Nat × RA) => p.1 == q.1 && okA p.2 q.2) parts.toList qs = true)
    {z : AV} {st' : St} {d : Nat} (hr : rop R.G st d (.bsl own sz n zero qs) = some (z, st')) : Sim P R a W o z st' := by
  simp only [rop] at hr
  split at hr <;> try (simp at hr; done)
  rename_i cs hf
  obtain ⟨p1, p2⟩ := allB2_spec hp
  have hzl : zero.length = n * sz := by
    have := (allB2_spec hzero).1
    split at this
    · simp at this; omega
    · simp at this; omega
  have hcl : cs.length = n * sz := by rw [aFill_length hf, hzl]
  obtain ⟨us, hus, hc⟩ := built_sim (R := R) (a := a) (W := W) (κ := κ) (place := fun i => some (i * sz, sz)) (parts := parts.toList) (qs := qs.map fun p => (p.1 * sz, sz, p.2)) h hzero (by simpa using p1) (fun i p q hp hq => by
    simp only [List.getElem?_map, Option.map_eq_some_iff] at hq
    obtain ⟨q', hq', rfl⟩ := hq
    have := p2 i p q' hp hq'
    simp only [Bool.and_eq_true, beq_iff_eq] at this
    exact ⟨by rw [this.1], this.2⟩) (by rw [List.map_map]; exact hf)
  have husz : us.size = n * sz := by have := hc.1; simp at this; omega
  have run : (Instr.buildSlice t n (parts.map fun p => (p.1, a.eval p.2))).run P W = .ok (.slice (some ⟨W.heap.size, 0, none⟩) n n) (W.alloc (.cells us e)) := by
    have hz2 : (zeroValue e).run P W = .ok zv W := by simp [zeroValue, typeInfo, hi, hz, Sem.run_bind]
    simp only [Instr.buildSlice, Sem.run_bind, run_underlying hu, Result.andThen_ok, sizeOf_run hn]
    rw [if_neg (by omega)]
    have hfill : ∀ (zc : Array Value), (n * sz ≠ 0 → zc = zv.cells) → Instr.fill (fun i => some (i * sz, sz)) ((Array.range (n * sz)).map (zc[· % zc.size]!)) ((parts.map fun p => (p.1, a.eval p.2)).toList) = some us := by
      intro zc hzc
      rw [← hus]
      congr 1
      · by_cases c : n * sz = 0
        · rw [if_pos c, c]; simp
        · rw [if_neg c, hzc c]
          apply Array.ext'
          simp
      · simp
    by_cases c : n * sz = 0
    · have hf2 := hfill #[] (fun h => absurd c h)
      have e0 : (pure #[] : Sem (Array Value)).run P W = .ok #[] W := rfl
      rw [if_pos c, Sem.run_bind, e0]
      simp only [Result.andThen_ok, hf2, Sem.run_bind]
      rfl
    · rw [if_neg c]
      simp only [Sem.run_bind, hz2, Result.andThen_ok, Sem.run_pure]
      have := hfill zv.cells (fun _ => rfl)
      simp only [this, Sem.run_bind]
      rfl
  have rowOk : RowOk (st.env R.M κ) W us 0 (.row sz (chunk sz n cs)) := by
    refine ⟨fun r hr => ?_, by simp [chunk]; omega, fun i j r x hi hj => ?_⟩
    · obtain ⟨i, hi⟩ := List.getElem?_of_mem hr
      obtain ⟨hin, rfl⟩ := chunk_get hi
      have := mul_le_of (sz := sz) hin
      simp; omega
    · obtain ⟨hin, rfl⟩ := chunk_get hi
      have hj2 : j < sz := by have := (List.getElem?_eq_some_iff.1 hj).1; simp at this; omega
      rw [List.getElem?_take, if_pos hj2, List.getElem?_drop] at hj
      have hlt : i * sz + j < us.size := by have := mul_le_of (sz := sz) hin; omega
      exact ⟨us[i * sz + j], by simp [hlt], hc.2 _ _ _ hj (by simp [hlt])⟩
  have exe : (execOp a.eval o).run P W = .ok (.value (.slice (some ⟨W.heap.size, 0, none⟩) n n)) (W.alloc (.cells us e)) := by
    simp only [execOp, ho, Sem.run_bind]; erw [run]; rfl
  have hcn : (chunk sz n cs).length = n := by simp [chunk]
  split at hr
  · split at hr <;> simp only [Option.some.injEq, Prod.mk.injEq, reduceCtorEq] at hr
    rename_i hd
    obtain ⟨rfl, rfl⟩ := hr
    obtain ⟨g1, g2⟩ := h.rowNew hd rowOk (c := n) (by omega) (by unfold maxLen; omega) (by omega) e
    rw [hcn] at g2
    exact ⟨_, _, _, .inl exe, g1, g2⟩
  · split at hr <;> simp only [Option.some.injEq, Prod.mk.injEq, reduceCtorEq] at hr
    rename_i hp
    obtain ⟨rfl, rfl⟩ := hr
    have hE : Ext W (W.alloc (.cells us e)) := Ext.al (Ext.refl W)
    refine ⟨_, _, κ, .inl exe, h.grow hE, .pv ?_⟩
    have := PV.vsl (M := (st.env R.M κ).M) (W := W.alloc (.cells us e)) (chunk sz n cs) (some ⟨W.heap.size, 0, none⟩) n sz W.heap.size 0 (fun i j => us.getD (i * sz + j) Go.undef) (by omega) (by unfold maxLen; omega)
      (fun _ => ⟨rfl, by simp, fun hM => by have := h.owned_lt hM; omega⟩) (fun e => by cases e) rowOk.1 (fun i j hi hj => by
        have hlt : i * sz + j < us.size := by have := mul_le_of (sz := sz) (show i < n by omega); omega
        have hcell : (W.alloc (.cells us e)).cell? ⟨W.heap.size, i * sz + j, none⟩ = us[i * sz + j]? := by
          unfold World.cell?
          simp only [World.alloc_heap_new]
          rfl
        rw [Nat.zero_add, hcell, Array.getD_eq_getD_getElem?, Array.getElem?_eq_getElem hlt]
        rfl) (fun i j r x hi hj => by
        obtain ⟨u, hu1, hu2⟩ := rowOk.2.2 i j r x hi hj
        simp only [Nat.zero_add] at hu1
        simp only [Array.getD_eq_getD_getElem?, hu1, Option.getD_some]
        obtain ⟨hin, rfl⟩ := chunk_get hi
        have hx : x ∈ cs := by
          rw [List.getElem?_take] at hj
          split at hj <;> try (simp at hj; done)
          rw [List.getElem?_drop] at hj
          exact List.mem_of_getElem? hj
        exact (hu2.toPV (List.all_eq_true.1 hp x hx)).ext hE)
    rwa [hcn] at this

theorem bnd_sim (h : SK R st a W κ) {dflt : Nat} {x : Option Operand} {y : Option RA} (hk : okO x y = true) {n : Nat} (hb : bnd dflt (y.map (evA R.G st)) = some n) :
    (x = none ∧ n = dflt) ∨ ∃ l k, x = some l ∧ a.eval l = .int k (n : Int) := by
  cases x with
  | none =>
    cases y with
    | none => simp only [Option.map_none, bnd, Option.some.injEq] at hb; exact .inl ⟨rfl, hb.symm⟩
    | some l' => simp [okO] at hk
  | some l =>
    cases y with
    | none => simp [okO] at hk
    | some l' =>
      have h1 := h.ev (show okA l l' = true from hk)
      simp only [Option.map_some] at hb
      unfold bnd at hb
      split at hb <;> try (simp at hb; done)
      · rename_i e; simp at e
      · rename_i k m e
        simp only [Option.some.injEq] at e
        split at hb <;> simp only [Option.some.injEq, reduceCtorEq] at hb
        rename_i hpos
        subst hb
        rw [e] at h1
        exact .inr ⟨l, k, rfl, by rw [h1.int_inv, Int.toNat_of_nonneg hpos]⟩

theorem sliceBound_run {k : IntKind} {n y : Nat} {c : BoundsCode} (h : n ≤ y) : (Instr.sliceBound (.int k (n : Int)) y c).run P W = .ok n W := by
  simp only [Instr.sliceBound, asIntOf, Sem.run_bind, Sem.run_pure, Result.andThen_ok]
  rw [if_pos ⟨by omega, by omega⟩]
  simp

theorem sliceBounds_run (h : SK R st a W κ) {isS : Bool} {len cap l hh : Nat} {lo hi : Option Operand} {lo' hi' : Option RA} (hl : okO lo lo' = true)
    (hhk : okO hi hi' = true) (h1 : bnd 0 (lo'.map (evA R.G st)) = some l) (h2 : bnd len (hi'.map (evA R.G st)) = some hh) (hle : l ≤ hh) (hcap : hh ≤ cap) (_hlen : hh ≤ len) :
    (Instr.sliceBounds isS len cap (lo.map a.eval) (hi.map a.eval) none).run P W = .ok (l, hh, cap) W := by
  rcases bnd_sim h hl h1 with ⟨rfl, rfl⟩ | ⟨x, k, rfl, hx⟩ <;> rcases bnd_sim h hhk h2 with ⟨rfl, rfl⟩ | ⟨y, k', rfl, hy⟩
  · simp [Instr.sliceBounds, Sem.run_bind]
  · simp [Instr.sliceBounds, Sem.run_bind, hy, sliceBound_run hcap]
  · simp [Instr.sliceBounds, Sem.run_bind, hx, sliceBound_run hle]
  · simp [Instr.sliceBounds, Sem.run_bind, hx, hy, sliceBound_run hle, sliceBound_run hcap]

theorem sim_sslc (h : SK R st a W κ) {o : Oper} {t : TypeId} {x : Operand} {lo hi : Option Operand} {y : RA} {lo' hi' : Option RA} (ho : o.op = .slice t x lo hi none)
    (hu : P.underlying t = some .string) (hk : okA x y = true) (hl : okO lo lo' = true)
    (hh : okO hi hi' = true)
    {z : AV} {st' : St} {d : Nat} (hr : rop R.G st d (.sslc y lo' hi') = some (z, st')) : Sim P R a W o z st' := by
  have h1 := h.ev hk
  simp only [rop] at hr
  split at hr <;> try (simp at hr; done)
  rename_i s es
  split at hr <;> try (simp at hr; done)
  rename_i l hh' e1 e2
  split at hr <;> simp only [Option.some.injEq, Prod.mk.injEq, reduceCtorEq] at hr
  rename_i hc
  obtain ⟨rfl, rfl⟩ := hr
  rw [es] at h1
  have hb := fun isS => sliceBounds_run (P := P) (W := W) (isS := isS) (cap := s.size) h hl hh e1 e2 hc.1 hc.2 hc.2
  refine .val (v := .string (s.extract l hh')) h ?_ (.pv (.str _))
  simp [execOp, ho, Instr.sliceAt, Sem.run_bind, run_underlying hu, Instr.slice, h1.str_inv, hb]

theorem sim_slc (h : SK R st a W κ) {o : Oper} {t e : TypeId} {sz : Nat} {x : Operand} {lo hi : Option Operand} {y : RA} {lo' hi' : Option RA} (ho : o.op = .slice t x lo hi none)
    (hu : P.underlying t = some (.slice e)) (hn : szB P e = some sz) (hk : okA x y = true) (hl : okO lo lo' = true)
    (hh : okO hi hi' = true)
    {z : AV} {st' : St} {d : Nat} (hr : rop R.G st d (.slc sz y lo' hi') = some (z, st')) : Sim P R a W o z st' := by
  have h1 := h.ev hk
  simp only [rop] at hr
  split at hr <;> try (simp at hr; done)
  rename_i rows es
  split at hr <;> try (simp at hr; done)
  rename_i l hh' e1 e2
  split at hr <;> simp only [Option.some.injEq, Prod.mk.injEq, reduceCtorEq] at hr
  rename_i hc
  obtain ⟨hc1, hc2, hc3⟩ := hc
  obtain ⟨rfl, rfl⟩ := hr
  rw [es] at h1
  obtain ⟨a', cap, sz', b, off, f, hv, g1, g2, g3, g4, g5, g6, g7⟩ := vsl_inv h1.vsl_inv'
  have hb := sliceBounds_run (P := P) (W := W) (isS := true) (cap := cap) h hl hh e1 e2 hc1 (by omega) hc2
  have hlen : ((rows.take hh').drop l).length = hh' - l := by simp; omega
  have hsz : rows ≠ [] → sz' = sz := fun hne => by
    obtain ⟨r, hr⟩ := List.exists_mem_of_ne_nil rows hne
    rw [← g5 r hr]
    simpa using List.all_eq_true.1 hc3 r hr
  refine .val (v := .slice (if cap = l then a' else a'.map (·.add (l * sz))) (hh' - l) (cap - l)) h ?_ (.pv ?_)
  · simp [execOp, ho, Instr.sliceAt, Sem.run_bind, run_underlying hu, Instr.slice, hv, hb, sizeOf_run hn]
  · have key := PV.vsl (M := (st.env R.M κ).M) (W := W) ((rows.take hh').drop l) (if cap = l then a' else a'.map (·.add (l * sz))) (cap - l) sz b (off + l * sz) (fun i j => f (l + i) j) (by omega) (by omega)
      (fun hne => by
        have hne2 : rows ≠ [] := by rintro rfl; simp at hne
        have hlt : l < hh' := by
          rcases Nat.lt_or_ge l hh' with c | c
          · exact c
          · exact absurd (List.length_eq_zero_iff.1 (by rw [hlen]; omega)) hne
        obtain ⟨rfl, k2, k3⟩ := g3 hne2
        rw [if_neg (by omega)]
        exact ⟨by simp [Addr.add_mid], k2, k3⟩)
      (fun hno => by
        have : a' = none := by
          split at hno
          · exact hno
          · simpa using hno
        obtain ⟨rfl, rfl⟩ := g4 this
        exact ⟨by simp, by omega⟩)
      (fun r hr => by simpa using List.all_eq_true.1 hc3 r (List.mem_of_mem_take (List.mem_of_mem_drop hr)))
      (fun i j hi hj => by
        have hne2 : rows ≠ [] := by rintro rfl; simp at hi
        have := g6 (l + i) j (by omega) (by rw [hsz hne2]; exact hj)
        rw [hsz hne2] at this
        rw [← this]
        congr 2
        rw [Nat.add_mul]; omega)
      (fun i j r x hi hj => by
        rw [List.getElem?_drop, List.getElem?_take] at hi
        split at hi <;> try (simp at hi; done)
        exact g7 (l + i) j r x hi hj)
    rwa [hlen] at key

theorem sim_mksl (h : SK R st a W κ) {o : Oper} {t e : TypeId} {n c : Operand} {n' : RA} {ie : TypeInfo} {zv : Value} {sz bytes : Nat} {zero : List AV} (ho : o.op = .makeSlice t n c) (hu : P.underlying t = some (.slice e)) (hi : P.info? e = some ie)
    (hsz : ie.size = sz) (hby : ie.bytes = bytes) (hz : ie.zero = some zv) (hzero : allB2 cstB zv.cells.toList zero = true) (hk : okA n n' = true) (hk2 : okA c n' = true)
    {z : AV} {st' : St} {d : Nat} (hr : rop R.G st d (.mksl sz bytes zero n') = some (z, st')) : Sim P R a W o z st' := by
  have h1 := h.ev hk
  have h2 := h.ev hk2
  simp only [rop] at hr
  split at hr <;> try (simp at hr; done)
  rename_i k m en
  split at hr <;> try (simp at hr; done)
  rename_i hc
  obtain ⟨hpos, hle, hbytes, hzl⟩ := hc
  split at hr <;> simp only [Option.some.injEq, Prod.mk.injEq, reduceCtorEq] at hr
  rename_i hd
  obtain ⟨rfl, rfl⟩ := hr
  rw [en] at h1 h2
  have en1 := h1.int_inv
  have en2 := h2.int_inv
  obtain ⟨q, rfl⟩ := Int.eq_ofNat_of_zero_le hpos
  have hzs : zv.cells.size = sz := by have := (allB2_spec hzero).1; simp at this; omega
  have hmul : (ie.bytes : Int) * (q : Int) ≤ 281474976710656 := by
    have : ie.bytes * q ≤ 65536 * 16777216 := Nat.mul_le_mul (by omega) (by omega)
    have h3 : ie.bytes * q ≤ 281474976710656 := Nat.le_trans this (by omega)
    rw [← Int.natCast_mul]; omega
  have run := run_make W t e ie zv hu hi hz k k (q : Int) (q : Int) (by omega) (Int.le_refl _) hmul (by omega)
  simp only [Int.toNat_natCast, hsz] at run ⊢
  have husz : (madeCells zv.cells (q * sz)).size = q * sz := by simp [madeCells]
  have hcst := cst_cells (E := st.env R.M κ) (W := W) hzero
  obtain ⟨g1, g2⟩ := h.rowNew hd (sz := sz) (rows := List.replicate q zero) (us := madeCells zv.cells (q * sz)) (c := q) ⟨fun r hr => by rw [List.eq_of_mem_replicate hr, hzl], by rw [husz]; simp, fun i j r x hi2 hj => by
    rw [List.getElem?_replicate] at hi2
    split at hi2 <;> simp only [Option.some.injEq, reduceCtorEq] at hi2
    rename_i hiq
    subst hi2
    have hj2 : j < sz := by have := (List.getElem?_eq_some_iff.1 hj).1; omega
    have hlt : i * sz + j < q * sz := by have := mul_le_of (sz := sz) hiq; omega
    have hmod : (i * sz + j) % sz = j := by rw [Nat.mul_comm, Nat.mul_add_mod, Nat.mod_eq_of_lt hj2]
    refine ⟨zv.cells[j]'(by omega), ?_, hcst.2 j x _ hj (by simp)⟩
    simp only [Nat.zero_add, madeCells, Array.getElem?_map, Array.getElem?_range, if_pos hlt, Option.map_some, hzs, hmod, Option.some.injEq]
    rw [getElem!_pos _ _ (by omega)]⟩ (by simp) (by unfold maxLen; omega) (by rw [husz]; omega) e
  rw [List.length_replicate] at g2
  exact ⟨_, _, _, .inl (by simp only [execOp, ho, en1, en2, Sem.run_bind, run, Result.andThen_ok, Sem.run_pure]), g1, g2⟩

/-! ### Append -/
/-- The cells of a slice's rows, one behind the other. -/
theorem rows_sim (h : SK R st a W κ) {x : AV} {v : Value} {sz : Nat} {ys : List (List AV)} (hx : VR (st.env R.M κ) W x v) (hr : rowsOf st sz x = some ys) :
    ∃ p c, v = .slice p ys.length c ∧ (p = none → ys = []) ∧ (∀ r ∈ ys, r.length = sz) ∧ ∃ f : Nat → Value, (ys ≠ [] → ∃ ad, p = some ad ∧ ∀ i j, i < ys.length → j < sz → W.cell? (ad.add (i * sz + j)) = some (f (i * sz + j))) ∧
      ∀ (i j : Nat) (r : List AV) (x : AV), ys[i]? = some r → r[j]? = some x → VR (st.env R.M κ) W x (f (i * sz + j)) := by
  have hrl : ∀ {ys : List (List AV)}, (∀ r ∈ ys, r.length = sz) → ∀ {i j : Nat} {r : List AV} {x : AV}, ys[i]? = some r → r[j]? = some x → i < ys.length ∧ j < sz := fun {ys} h {i j r x} hi hj =>
    ⟨(List.getElem?_eq_some_iff.1 hi).1, by have := (List.getElem?_eq_some_iff.1 hj).1; rw [h r (List.mem_of_getElem? hi)] at this; exact this⟩
  unfold rowsOf at hr
  split at hr <;> try (simp at hr; done)
  · rename_i rows
    split at hr <;> simp only [Option.some.injEq, reduceCtorEq] at hr
    rename_i hall
    subst hr
    have hsz : ∀ r ∈ rows, r.length = sz := fun r hr => by simpa using List.all_eq_true.1 hall r hr
    obtain ⟨a', cap, sz', b, off, f, rfl, g1, g2, g3, g4, g5, g6, g7⟩ := vsl_inv hx.vsl_inv'
    have hsz' : rows ≠ [] → sz' = sz := fun hne => by
      obtain ⟨r, hr⟩ := List.exists_mem_of_ne_nil rows hne
      rw [← g5 r hr, hsz r hr]
    refine ⟨a', cap, rfl, fun e => (g4 e).1, hsz, fun q => (W.cell? ⟨b, off + q, none⟩).getD Go.undef, fun hne => ?_, fun i j r x hi hj => ?_⟩
    · obtain ⟨rfl, -, -⟩ := g3 hne
      refine ⟨_, rfl, fun i j hi hj => ?_⟩
      have := g6 i j hi (by rw [hsz' hne]; exact hj)
      rw [hsz' hne, Nat.add_assoc] at this
      rw [Addr.add_mid]
      show W.cell? _ = some ((W.cell? ⟨b, off + (i * sz + j), none⟩).getD Go.undef)
      rw [this]; rfl
    · obtain ⟨l1, l2⟩ := hrl hsz hi hj
      have hne : rows ≠ [] := by rintro rfl; simp at l1
      have := g6 i j l1 (by rw [hsz' hne]; exact l2)
      rw [hsz' hne, Nat.add_assoc] at this
      simp only [this, Option.getD_some]
      exact .pv (g7 i j r x hi hj)
  · simp only [Option.some.injEq] at hr
    subst hr
    exact ⟨none, 0, hx.nils_inv, fun _ => rfl, by simp, fun _ => Go.undef, fun h => absurd rfl h, by simp⟩
  · rename_i k n
    split at hr <;> try (simp at hr; done)
    rename_i sz' rows hg
    split at hr <;> simp only [Option.some.injEq, reduceCtorEq] at hr
    rename_i hc
    obtain ⟨rfl, hn⟩ := hc
    subst hr
    subst hn
    obtain ⟨b, s, c, cs, t, g1, rfl, g2, g3, g4, g5, g6, g7⟩ := h.osl hx hg rfl
    refine ⟨_, c, rfl, (fun e => by cases e), g6, fun q => cs.getD (s + q) Go.undef, fun _ => ⟨_, rfl, fun i j hi hj => ?_⟩, fun i j r x hi hj => ?_⟩
    · have h1 := mul_le_of (sz := sz') hi
      have h2 := Nat.mul_le_mul_right sz' g2
      have hlt : s + (i * sz' + j) < cs.size := by omega
      rw [Addr.add_mid]
      simp [World.cell?, g4, Array.getD_eq_getD_getElem?, hlt]
    · obtain ⟨u, hu, hq⟩ := g7 i j r x hi hj
      rw [Nat.add_assoc] at hu
      simp only [Array.getD_eq_getD_getElem?, hu, Option.getD_some]
      exact hq

/-- A row has grown: in its place, or in a new one. -/
theorem SK.regrow (h : SK R st a W κ) {k b s sz : Nat} {rows rows' : List (List AV)} {cs : Array Value} {t : TypeId} {nb : Nat × Nat} (hg : st.get k = some (.row sz rows)) (hk : κ k = some (b, s)) (hlen : rows.length < rows'.length)
    (hz : W.heap.size ≤ W'.heap.size) (hot : ∀ i, i < W.heap.size → i ≠ b → W'.heap[i]? = W.heap[i]?) (hos : W'.os = W.os) (hta : W'.tape = W.tape) (hou : W'.output = W.output)
    (hw : W'.heap[nb.1]? = some (.cells cs t (0, 0))) (hnb : nb = (b, s) ∨ (nb = (W.heap.size, 0) ∧ W.heap.size < W'.heap.size ∧ W'.heap[b]? = W.heap[b]?))
    (hr : (∀ r ∈ rows', r.length = sz) ∧ nb.2 + rows'.length * sz ≤ cs.size ∧ ∀ (i j : Nat) (r : List AV) (x : AV), rows'[i]? = some r → r[j]? = some x → ∃ v, cs[nb.2 + i * sz + j]? = some v ∧ VR (st.env R.M κ) W x v) :
    SK R (st.set k (.row sz rows')) a W' (fun j => if j = k then some nb else κ j) ∧ Mono (st.env R.M κ) W ((st.set k (.row sz rows')).env R.M (fun j => if j = k then some nb else κ j)) W' := by
  obtain ⟨b1, s1, g1, g2, g3, g4⟩ := h.obj k _ hg
  rw [hk] at g1
  simp only [Option.some.injEq, Prod.mk.injEq] at g1
  obtain ⟨rfl, rfl⟩ := g1
  have m : Mono (st.env R.M κ) W ((st.set k (.row sz rows')).env R.M (fun j => if j = k then some nb else κ j)) W' := by
    refine ⟨hz, fun i hi hM => ⟨?_, hot i hi (fun e => hM (.inr ⟨k, s, by rw [e]; exact hk⟩))⟩, fun j p hj hrj => ?_, fun j sz' m hj => ?_⟩
    · rintro (h1 | ⟨j, s', h1⟩)
      · exact hM (.inl h1)
      · by_cases e : j = k
        · simp only [e, if_true, Option.some.injEq] at h1
          rcases hnb with hnb | ⟨hnb, -, -⟩
          · rw [hnb] at h1
            simp only [Prod.mk.injEq] at h1
            exact hM (.inr ⟨k, s, by rw [← h1.1]; exact hk⟩)
          · rw [hnb] at h1
            simp only [Prod.mk.injEq] at h1
            omega
        · simp only [e, if_false] at h1; exact hM (.inr ⟨j, s', h1⟩)
    · have e : ¬ j = k := by rintro rfl; simp [St.env, hg, AObj.dim] at hrj
      refine ⟨by simp only [St.env, e, if_false]; exact hj, ?_⟩
      simp only [St.env, St.get_set]
      rw [if_neg (fun e2 => e e2.symm)]
      exact hrj
    · by_cases e : j = k
      · subst e
        simp only [St.env, hg, Option.bind_some, AObj.dim, Option.some.injEq, Prod.mk.injEq] at hj
        obtain ⟨rfl, rfl⟩ := hj
        exact ⟨rows'.length, by simp [St.env, St.get_set, AObj.dim], by omega, fun e => by omega⟩
      · refine ⟨m, ?_, Nat.le_refl _, fun _ b' s' cs' t' hl => ⟨by simp only [St.env, e, if_false]; exact hl, fun hw' => ⟨cs', ?_, rfl⟩⟩⟩
        · simp only [St.env, St.get_set]
          rw [if_neg (fun e2 => e e2.symm)]
          exact hj
        · rw [hot b' (h.loc_lt hl) (fun e2 => e (h.inj j k b s' s (by rw [← e2]; exact hl) hk))]; exact hw'
  refine ⟨⟨h.defers.of (fun c hc => (hot c (Array.getElem?_eq_some_iff.1 hc).1 (by rintro rfl; obtain ⟨-, cs0, t0, q, -⟩ := g4; rw [q] at hc; cases hc)).trans hc), h.size, fun n x hx => (h.tm n x hx).mono m, fun j o hj => ?_, fun j p hj => ?_, fun j j' b2 s2 s2' hj hj' => ?_, h.low, h.apart, ?_, h.gr.mono m.imm m.size, h.mono.trans m, h.ent⟩, m⟩
  · rw [St.get_set] at hj
    by_cases e : k = j
    · subst e
      rw [if_pos rfl] at hj
      simp only [Option.some.injEq] at hj
      subst hj
      refine ⟨nb.1, nb.2, by simp, (Array.getElem?_eq_some_iff.1 hw).1, ?_, hr.1, cs, t, hw, hr.2.1, fun i j r x hi hj => (hr.2.2 i j r x hi hj).imp fun v hv => ⟨hv.1, hv.2.mono m⟩⟩
      rcases hnb with hnb | ⟨hnb, -, -⟩
      · rw [hnb]; exact g3
      · rw [hnb]; exact .inl h.kp.size
    · rw [if_neg e] at hj
      obtain ⟨b2, s2, h1, h2, h3, h4⟩ := h.obj j o hj
      have hne : b2 ≠ b := fun e2 => e (h.inj k j b s s2 hk (by rw [← e2]; exact h1))
      refine ⟨b2, s2, by rw [if_neg (fun e2 => e e2.symm)]; exact h1, by omega, h3, h4.mono m (hot b2 h2 hne)⟩
  · rw [St.get_set]
    by_cases e : k = j
    · exact ⟨_, by rw [if_pos e]⟩
    · rw [if_neg e]
      rw [if_neg (fun e2 => e e2.symm)] at hj
      exact h.dom j p hj
  · by_cases e : j = k <;> by_cases e' : j' = k
    · rw [e, e']
    · simp only [e, e', if_true, if_false, Option.some.injEq] at hj hj'
      exfalso
      rcases hnb with hnb | ⟨hnb, -, -⟩
      · rw [hnb] at hj
        simp only [Prod.mk.injEq] at hj
        exact e' (h.inj j' k b2 s2' s hj' (by rw [← hj.1]; exact hk))
      · rw [hnb] at hj
        simp only [Prod.mk.injEq] at hj
        have := h.loc_lt hj'; omega
    · simp only [e, e', if_true, if_false, Option.some.injEq] at hj hj'
      exfalso
      rcases hnb with hnb | ⟨hnb, -, -⟩
      · rw [hnb] at hj'
        simp only [Prod.mk.injEq] at hj'
        exact e (h.inj j k b2 s2 s hj (by rw [← hj'.1]; exact hk))
      · rw [hnb] at hj'
        simp only [Prod.mk.injEq] at hj'
        have := h.loc_lt hj; omega
    · simp only [e, e', if_false] at hj hj'
      exact h.inj j j' b2 s2 s2' hj hj'
  · refine ⟨hos.trans h.kp.os, hta.trans h.kp.tape, hou.trans h.kp.output, Nat.le_trans h.kp.size hz, fun i hi hx => ?_⟩
    rw [hot i (Nat.lt_of_lt_of_le hi h.kp.size) (by rintro rfl; rcases g3 with g3 | g3
                                                    · omega
                                                    · exact hx g3)]
    exact h.kp.block i hi hx

theorem sim_app (h : SK R st a W κ) {o : Oper} {c : Call} {t e : TypeId} {ie : TypeInfo} {zv : Value} {sz bytes : Nat} {s x : Operand} {s' x' : RA} (ho : o.op = .call c) (hc : c = { callee := .builtin .append, args := ⟨[s, x]⟩, argTypes := ⟨[t, t]⟩ })
    (hu : P.underlying t = some (.slice e)) (hi : P.info? e = some ie) (hsz : ie.size = sz) (hsz0 : 0 < sz) (hby : ie.bytes = bytes) (hby0 : 0 < bytes) (hz : ie.zero = some zv) (hzs : zv.cells.size = sz) (hk : okA s s' = true) (hk2 : okA x x' = true)
    {z : AV} {st' : St} {d : Nat} (hr : rop R.G st d (.app sz bytes s' x') = some (z, st')) : Sim P R a W o z st' := by
  have h1 := h.ev hk
  have h2 := h.ev hk2
  subst hc
  subst hsz
  subst hby
  have exe : ∀ {v : Value} {W' : World}, (Builtin.append_ #[t, t] o.type #[a.eval s, a.eval x]).run P W = .ok v W' → (execOp a.eval o).run P W = .ok (.value v) W' := fun {v W'} hrun => by
    simp only [execOp, ho, resolve, invoke, builtin, Sem.run_bind, Sem.run_pure, Result.andThen_ok, List.map_toArray, List.map_cons, List.map_nil, hrun]
  simp only [rop] at hr
  split at hr <;> try (simp at hr; done)
  rename_i ys hys
  split at hr <;> try (simp at hr; done)
  rename_i hone
  obtain ⟨p, cx, hxv, hpn, hyl, f, hfc, hfv⟩ := rows_sim h h2 hys
  -- the new cells
  have hnews : ys ≠ [] → ∃ ad, p = some ad ∧ (∀ (j : Nat) (u : Value), ((List.range (ys.length * ie.size)).map f)[j]? = some u → W.cell? (ad.add j) = some u) ∧ ∀ u ∈ (List.range (ys.length * ie.size)).map f, u.oneCell' = true := fun hne => by
    obtain ⟨ad, hp, hcell⟩ := hfc hne
    have split : ∀ q, q < ys.length * ie.size → q / ie.size < ys.length ∧ q % ie.size < ie.size ∧ q / ie.size * ie.size + q % ie.size = q := fun q hq =>
      ⟨Nat.div_lt_of_lt_mul (by rwa [Nat.mul_comm]), Nat.mod_lt _ hsz0, by rw [Nat.mul_comm]; exact Nat.div_add_mod q ie.size⟩
    refine ⟨ad, hp, fun j u hj => ?_, fun u hu => ?_⟩
    · have hlt : j < ys.length * ie.size := by have := (List.getElem?_eq_some_iff.1 hj).1; simpa using this
      rw [List.getElem?_map, List.getElem?_range hlt] at hj
      simp only [Option.map_some, Option.some.injEq] at hj
      obtain ⟨q1, q2, q3⟩ := split j hlt
      have := hcell _ _ q1 q2
      rw [q3] at this
      rw [this, hj]
    · obtain ⟨q, hq, rfl⟩ := List.mem_map.1 hu
      have hlt : q < ys.length * ie.size := by simpa using hq
      obtain ⟨q1, q2, q3⟩ := split q hlt
      have hrr := hyl ys[q / ie.size] (List.getElem_mem q1)
      have hq2 : q % ie.size < (ys[q / ie.size]).length := by rw [hrr]; exact q2
      have := hfv (q / ie.size) (q % ie.size) (ys[q / ie.size]) ((ys[q / ie.size])[q % ie.size]) (List.getElem?_eq_getElem q1) (List.getElem?_eq_getElem hq2)
      rw [q3] at this
      exact this.oneCell (List.all_eq_true.1 (List.all_eq_true.1 hone _ (List.getElem_mem q1)) _ (List.getElem_mem _))
  have hnl : ((List.range (ys.length * ie.size)).map f).length = ys.length * ie.size := by simp
  -- what a new row's cells are
  have newCells : ∀ (i j : Nat) (r : List AV) (y : AV), ys[i]? = some r → r[j]? = some y → i * ie.size + j < ys.length * ie.size ∧ VR (st.env R.M κ) W y (f (i * ie.size + j)) := fun i j r y hi hj => by
    have hil : i < ys.length := (List.getElem?_eq_some_iff.1 hi).1
    have hjl : j < ie.size := by have := (List.getElem?_eq_some_iff.1 hj).1; rw [hyl r (List.mem_of_getElem? hi)] at this; exact this
    have := mul_le_of (sz := ie.size) hil
    exact ⟨by omega, hfv i j r y hi hj⟩
  split at hr <;> try (simp at hr; done)
  · rename_i es
    rw [es] at h1
    have hsv := h1.nils_inv
    split at hr
    · rename_i he
      simp only [Option.some.injEq, Prod.mk.injEq] at hr
      obtain ⟨rfl, rfl⟩ := hr
      subst he
      refine ⟨.slice none 0 0, W, κ, .inl (exe ?_), h, .pv .nils⟩
      rw [hsv, hxv]
      cases p with
      | none => simp [Builtin.append_, run_underlying hu, sizeOf, typeInfo, hi, Builtin.lenOf, Builtin.firstCells, Sem.run_bind]
      | some ad => simp [Builtin.append_, run_underlying hu, sizeOf, typeInfo, hi, Builtin.lenOf, Builtin.firstCells, loadCells, loadCellsFrom, Sem.run_bind]
    · rename_i hne
      split at hr <;> try (simp at hr; done)
      rename_i hb
      split at hr <;> simp only [Option.some.injEq, Prod.mk.injEq, reduceCtorEq] at hr
      rename_i hd
      obtain ⟨rfl, rfl⟩ := hr
      obtain ⟨ad, rfl, n1, n2⟩ := hnews hne
      have hpos : 0 < ys.length := by cases ys with | nil => exact absurd rfl hne | cons _ _ => simp
      have hyb : ys.length ≤ 70368744177664 := Nat.le_trans (Nat.le_mul_of_pos_right _ hby0) hb
      have hrun := run_append_nil (P := P) W t o.type e ie zv hu hi hz ad ys.length cx _ hnl n1 hpos (by omega) (by omega)
      have hge := grownCap_ge W ys.length 0 e
      have hcm : grownCap W ys.length 0 e ≤ maxLen := grownCap_le_maxLen W ys.length 0 e (by unfold maxLen; omega)
      have hE : Ext W W.drew := Ext.dr (Ext.refl W)
      obtain ⟨g1, g2⟩ := (h.grow hE).rowNew hd (sz := ie.size) (rows := ys) (us := ((List.range (ys.length * ie.size)).map f).toArray ++ Builtin.zeroCells zv.cells (grownCap W ys.length 0 e - ys.length)) (c := grownCap W ys.length 0 e)
        ⟨hyl, by simp [size_zeroCells], fun i j r y hi hj => by
          obtain ⟨q1, q2⟩ := newCells i j r y hi hj
          refine ⟨f (i * ie.size + j), ?_, q2.mono (.grow hE (fun k b s hk => h.loc_lt hk))⟩
          rw [Nat.zero_add, Array.getElem?_append, if_pos (by simpa using q1)]
          simp [q1]⟩ hge hcm (by simp [size_zeroCells, hzs, ← Nat.add_mul]; rw [show ys.length + (grownCap W ys.length 0 e - ys.length) = grownCap W ys.length 0 e by omega]; exact Nat.le_refl _) e
      exact ⟨_, _, _, .inl (exe (by rw [hsv, hxv]; exact hrun)), g1, g2⟩
  · rename_i k n es
    rw [es] at h1
    split at hr <;> try (simp at hr; done)
    rename_i sz' rows hg
    split at hr <;> try (simp at hr; done)
    rename_i hc
    obtain ⟨rfl, hn, hb⟩ := hc
    obtain ⟨b, s0, cap, cs, t0, g1, hsv, g2, g3, g4, g5, g6, g7⟩ := h.osl h1 hg hn
    split at hr
    · rename_i he
      simp only [Option.some.injEq, Prod.mk.injEq] at hr
      obtain ⟨rfl, rfl⟩ := hr
      subst he
      refine ⟨_, W, κ, .inl (exe (v := a.eval s) ?_), h, h1⟩
      rw [hsv, hxv]
      have hnc : n ≤ cap := g2
      cases p with
      | none => simp [Builtin.append_, run_underlying hu, sizeOf, typeInfo, hi, Builtin.lenOf, Builtin.firstCells, Sem.run_bind, hnc, storeCells]
      | some ad => simp [Builtin.append_, run_underlying hu, sizeOf, typeInfo, hi, Builtin.lenOf, Builtin.firstCells, loadCells, loadCellsFrom, Sem.run_bind, hnc, storeCells]
    · rename_i hne
      simp only [Option.some.injEq, Prod.mk.injEq] at hr
      obtain ⟨rfl, rfl⟩ := hr
      obtain ⟨ad, rfl, n1, n2⟩ := hnews hne
      have hpos : 0 < ys.length := by cases ys with | nil => exact absurd rfl hne | cons _ _ => simp
      have hyb : n + ys.length ≤ 70368744177664 := Nat.le_trans (Nat.le_mul_of_pos_right _ hby0) hb
      have hblt := h.loc_lt g1
      have hrows : ∀ r ∈ rows ++ ys, r.length = ie.size := fun r hr => by
        rcases List.mem_append.1 hr with hr | hr
        · exact g6 r hr
        · exact hyl r hr
      subst hn
      by_cases hroom : rows.length + ys.length ≤ cap
      · -- in its place
        have hcap := Nat.mul_le_mul_right ie.size hroom
        rw [Nat.add_mul] at hcap
        obtain ⟨cs', c1, c2, c3, c4⟩ := heap_setCells b ((List.range (ys.length * ie.size)).map f) (s0 + rows.length * ie.size) W cs t0 g4 (by rw [hnl]; omega)
        have hrun := run_append_room_cells (P := P) W t o.type e ie hu hi b s0 rows.length cap ad ys.length cx _ hnl n1 n2 hroom (fun j hj => by rw [hnl] at hj; simp [World.cell?, g4]; omega) (fun j _ => by simp [World.frozen?, g4])
        obtain ⟨k1, k2⟩ := h.regrow (rows' := rows ++ ys) (nb := (b, s0)) (W' := W.setCells b (s0 + rows.length * ie.size) ((List.range (ys.length * ie.size)).map f)) hg g1 (by simp; exact hpos) (by rw [size_setCells]; exact Nat.le_refl _)
          (fun i hi hne => World.heap_setCells_other W b _ _ hi hne) (World.os_setCells W b _ _) (tape_setCells b _ _ W) (World.output_setCells W b _ _) c1 (.inl rfl)
          ⟨hrows, by rw [c2, List.length_append, Nat.add_mul]; omega, fun i j r y hi hj => by
            rw [List.getElem?_append] at hi
            split at hi
            · rename_i hil
              obtain ⟨u, hu, hv⟩ := g7 i j r y hi hj
              have hjl : j < ie.size := by have := (List.getElem?_eq_some_iff.1 hj).1; rw [g6 r (List.mem_of_getElem? hi)] at this; exact this
              have := mul_le_of (sz := ie.size) hil
              exact ⟨u, (c3 _ (.inl (by simp only; omega))).trans hu, hv⟩
            · rename_i hil
              obtain ⟨q1, q2⟩ := newCells _ j r y hi hj
              refine ⟨f ((i - rows.length) * ie.size + j), ?_, q2⟩
              have := c4 ((i - rows.length) * ie.size + j) (f ((i - rows.length) * ie.size + j)) (by rw [List.getElem?_map, List.getElem?_range q1]; rfl)
              rw [← this]
              congr 1
              have e2 : i * ie.size = rows.length * ie.size + (i - rows.length) * ie.size := by rw [← Nat.add_mul]; congr 1; omega
              simp only; omega⟩
        refine ⟨_, _, _, .inl (exe (by rw [hsv, hxv]; exact hrun)), k1, .osl k _ ie.size (rows ++ ys).length _ _ _ (by simp [St.env, St.get_set, AObj.dim]) (by simp) fun _ => ⟨b, s0, cs', t0, by simp [St.env], rfl, by simp, by simpa using hroom, g3, c1, by omega⟩⟩
      · -- in a new row
        have hlo : ((List.range (rows.length * ie.size)).map fun q => cs.getD (s0 + q) Go.undef).length = rows.length * ie.size := by simp
        have hcap2 := Nat.mul_le_mul_right ie.size g2
        have hrun := run_append_grow (P := P) W t o.type e ie zv hu hi hz ⟨b, s0, none⟩ rows.length cap ((List.range (rows.length * ie.size)).map fun q => cs.getD (s0 + q) Go.undef) hlo (fun j v hj => by
            have hlt : j < rows.length * ie.size := by have := (List.getElem?_eq_some_iff.1 hj).1; simpa using this
            rw [List.getElem?_map, List.getElem?_range hlt] at hj
            simp only [Option.map_some, Option.some.injEq] at hj
            have hlt2 : s0 + j < cs.size := by omega
            rw [Addr.add_mid, ← hj]
            simp [World.cell?, g4, Array.getD_eq_getD_getElem?, hlt2]) ad ys.length cx _ hnl n1 (by omega) (by omega) (growslice_fits (by omega) (by omega))
        have hge := grownCap_ge W (rows.length + ys.length) cap e
        have hcm : grownCap W (rows.length + ys.length) cap e ≤ maxLen := grownCap_le_maxLen W (rows.length + ys.length) cap e (by unfold maxLen; omega)
        generalize hgc : grownCap W (rows.length + ys.length) cap e = gc at *
        have hus : (((List.range (rows.length * ie.size)).map fun q => cs.getD (s0 + q) Go.undef).toArray ++ ((List.range (ys.length * ie.size)).map f).toArray ++ Builtin.zeroCells zv.cells (gc - (rows.length + ys.length))).size = gc * ie.size := by
          simp only [Array.size_append, List.size_toArray, hlo, hnl, size_zeroCells, hzs, ← Nat.add_mul]
          congr 1; omega
        have hgm := Nat.mul_le_mul_right ie.size hge
        obtain ⟨k1, k2⟩ := h.regrow (rows' := rows ++ ys) (nb := (W.heap.size, 0)) (W' := W.drew.alloc (.cells (((List.range (rows.length * ie.size)).map fun q => cs.getD (s0 + q) Go.undef).toArray ++ ((List.range (ys.length * ie.size)).map f).toArray ++ Builtin.zeroCells zv.cells (gc - (rows.length + ys.length))) e)) hg g1 (by simp; exact hpos) (by simp)
          (fun i hi _ => heap_alloc_old W.drew _ i hi) rfl rfl rfl (heap_alloc_new W.drew _) (.inr ⟨rfl, by simp, heap_alloc_old W.drew _ b hblt⟩)
          ⟨hrows, by rw [hus, List.length_append]; simp only; omega, fun i j r y hi hj => by
            rw [List.getElem?_append] at hi
            split at hi
            · rename_i hil
              obtain ⟨u, hu, hv⟩ := g7 i j r y hi hj
              have hjl : j < ie.size := by have := (List.getElem?_eq_some_iff.1 hj).1; rw [g6 r (List.mem_of_getElem? hi)] at this; exact this
              have hm := mul_le_of (sz := ie.size) hil
              refine ⟨u, ?_, hv⟩
              simp only [Nat.zero_add]
              rw [Array.getElem?_append, if_pos (by simp; omega), Array.getElem?_append, if_pos (by simp; omega)]
              rw [← hu]
              simp only [List.getElem?_toArray, List.getElem?_map, List.getElem?_range (show i * ie.size + j < rows.length * ie.size by omega), Option.map_some, Array.getD_eq_getD_getElem?]
              rw [← Nat.add_assoc, hu]; rfl
            · rename_i hil
              obtain ⟨q1, q2⟩ := newCells _ j r y hi hj
              refine ⟨f ((i - rows.length) * ie.size + j), ?_, q2⟩
              have e2 : i * ie.size = rows.length * ie.size + (i - rows.length) * ie.size := by rw [← Nat.add_mul]; congr 1; omega
              simp only [Nat.zero_add]
              rw [Array.getElem?_append, if_pos (by simp; omega), Array.getElem?_append, if_neg (by simp; omega)]
              simp only [List.size_toArray, hlo]
              rw [show i * ie.size + j - rows.length * ie.size = (i - rows.length) * ie.size + j by omega, List.getElem?_toArray, List.getElem?_map, List.getElem?_range q1]
              rfl⟩
        refine ⟨_, _, _, .inl (exe (by rw [hsv, hxv]; exact hrun)), k1, .osl k _ ie.size (rows ++ ys).length _ _ _ (by simp [St.env, St.get_set, AObj.dim]) (by simp) fun _ => ⟨W.heap.size, 0, _, e, by simp [St.env], rfl, by simp, by simpa using hge, hcm, heap_alloc_new W.drew _, by rw [hus]; omega⟩⟩

end
end Go.Proofs.YtdpmioiamcgfkaaDoor
