/-
  The abstract machine: a range over a function. The law in the world: the iterator by its contract, each round by a relation that bears its number.
-/
import Derived.Test.YtdpmioiamcgfkaaDoorAmL
import Derived.RangeFuncNested
import Derived.RangeFuncBound
import Derived.RangeFuncCalls
namespace Go.Proofs.YtdpmioiamcgfkaaDoor
open Go.RowKit

/-- Trees for values, one by one. -/
def CP (M : Nat → Prop) (W : World) (xs : List AV) (us : Array Value) : Prop := us.size = xs.length ∧ ∀ (i : Nat) (x : AV) (u : Value), xs[i]? = some x → us[i]? = some u → PV M W x u

/-- From one world to a later one: what is not owned is as it was. -/
def Since (M : Nat → Prop) (W : World) (M' : Nat → Prop) (W' : World) : Prop := W.heap.size ≤ W'.heap.size ∧ ∀ b, b < W.heap.size → ¬ M b → ¬ M' b ∧ W'.heap[b]? = W.heap[b]?
theorem CP.since {M M' : Nat → Prop} {W W' : World} {xs : List AV} {us : Array Value} (h : CP M W xs us) (s : Since M W M' W') : CP M' W' xs us := ⟨h.1, fun i x u hx hu => (h.2 i x u hx hu).mono s.2 s.1⟩

/-- An iterator: with what it has captured it yields these trees, in order, until it is told to stop; between two rounds nothing old turns. -/
def IterP (P : Program) (gf : Nat) (caps els : List AV) : Prop :=
  entB P gf = true ∧ ∀ (n l : Nat) (lb : Array Value) (J : Nat → (Nat → Prop) → World → Prop) (K : World → Prop) (M : Nat → Prop) (W : World), 2 ≤ n → (∀ k M A B, J k M A → Ext A B → J k M B) → (∀ A B, K A → Ext A B → K B) →
    (∀ k M A, J k M A → ∀ b, M b → b < A.heap.size) → CP M W caps lb →
    (∀ (k : Nat) (x : AV) (u : Value) (M : Nat → Prop) (A : World), J k M A → els[k]? = some x → PV M A x u →
      YieldAt Fence.wide (n - 1) P l #[u] A fun e A' => (e = .returned (.bool true) ∧ ∃ M', J (k + 1) M' A' ∧ Since M A M' A') ∨ (e = .returned (.bool false) ∧ K A')) →
    J 0 M W → CallsIn Fence.wide n P gf (#[.func (.yield l) #[] #[]] ++ lb) W fun e W' => (∃ v, e = .returned v) ∧ ((∃ M, J els.length M W') ∨ K W')

theorem rngf_law {n : Nat} {P : Program} {g : Operand} {p : Nat} {assign body : Code} {Q : Exit → Act → World → Prop} {a : Act} {w : World}
    {gf : Nat} {lb : Array Value} {caps els : List AV} (hg : a.eval g = .func (.func gf) #[] lb) (hit : IterP P gf caps els) (hn : 3 ≤ n)
    (I : Nat → (Nat → Prop) → World → Prop) (K : World → Prop) (M0 : Nat → Prop) (hIe : ∀ k M A B, I k M A → Ext A B → I k M B) (hKe : ∀ A B, K A → Ext A B → K B)
    (hIo : ∀ (k l : Nat) (M : Nat → Prop) (W : World) (r r' : Loop), w.heap.size ≤ l → I k M W → W.heap[l]? = some (.loop r) → I k M (W.putObj l (.loop r')))
    (hKo : ∀ (l : Nat) (W : World) (r r' : Loop), w.heap.size ≤ l → K W → W.heap[l]? = some (.loop r) → K (W.putObj l (.loop r')))
    (hIM : ∀ k M A, I k M A → (∀ b, M b → b < A.heap.size) ∧ ∀ (b : Nat) (o : Obj), w.heap.size ≤ b → A.heap[b]? = some o → Odd o → ¬ M b)
    (hcaps : CP M0 w caps lb) (h0 : I 0 M0 w)
    (hround : ∀ (l k m : Nat) (x : AV) (u : Value) (M : Nat → Prop) (W : World) (lr : Loop), w.heap.size ≤ l → I k M W → W.heap[l]? = some (.loop lr) → els[k]? = some x → PV M W x u →
      assign.wpIn (FW (some l)) m P (Exit.then (fun a1 W1 => (∀ (b : Nat) (o : Obj), W.heap[b]? = some o → Odd o → W1.heap[b]? = some o) ∧
          body.wpIn (FW (some l)) m P (fun e _ W' => ((∀ (b : Nat) (o : Obj), W.heap[b]? = some o → Odd o → b ≠ l → W'.heap[b]? = some o) ∧ W'.heap[l]? = some (.loop { lr with state := .busy })) ∧
            ((e = .normal ∧ ∃ M', I (k + 1) M' W' ∧ W.heap.size ≤ W'.heap.size ∧ ∀ b, b < W.heap.size → ¬ M b → ¬ M' b ∧ (b ≠ l → W'.heap[b]? = W.heap[b]?)) ∨ (e = .ret ∧ K W'))) a1 (W1.putObj l (.loop { lr with state := .busy }))) (fun _ _ _ => False))
        { tmps := a.tmps.setIfInBounds p u, defers := [] } W)
    (hdone : ∀ (D : Nat) (M : Nat → Prop) (W : World), w.heap.size ≤ D → I els.length M W → W.heap[D]? = some (.deferred (some [])) → Q .normal { a with defers := coll D :: a.defers } W)
    (hstop : ∀ (D : Nat) (W : World), w.heap.size ≤ D → K W → W.heap[D]? = some (.deferred (some [])) → Q .ret { a with defers := coll D :: a.defers } W) :
    (Code.rangeFunc g #[p] assign body).wpIn (FW none) n P Q a w := by
  refine wpIn_rangeFunc ?_
  intro fn hfn
  obtain ⟨rec, hrec⟩ : ∃ rec : LoopState → Option Code → Loop, rec = fun st pe => { state := st, pending := pe, fn, tmps := a.tmps, params := #[p], assign, body, defers := w.heap.size } := ⟨_, rfl⟩
  obtain ⟨W1, hW1⟩ : ∃ W1, (w.alloc (.deferred (some []))).alloc (.loop (rec .ready none)) = W1 := ⟨_, rfl⟩
  have hE1 : Ext w W1 := by rw [← hW1]; exact (Ext.refl w).al.al
  have hL1 : W1.heap[w.heap.size + 1]? = some (.loop (rec .ready none)) := by
    rw [← hW1]; have := World.alloc_heap_new (w.alloc (.deferred (some []))) (.loop (rec .ready none)); rwa [World.size_alloc] at this
  have hK1 : W1.heap[w.heap.size]? = some (.deferred (some [])) := by
    rw [← hW1]; exact (Below.heap_alloc _ _ _ (by simp)).trans (World.alloc_heap_new w _)
  have hI1 : I 0 M0 W1 := hIe _ _ _ _ h0 hE1
  have hC1 : CP M0 W1 caps lb := ⟨hcaps.1, fun i x u hx hu => (hcaps.2 i x u hx hu).mono (fun b hb hM => ⟨hM, hE1.block b hb⟩) hE1.size⟩
  refine ⟨w.heap.size + 1, [{ target := .collected w.heap.size, args := #[] }], W1, { target := .fn (.func gf) lb, args := #[.func (.yield (w.heap.size + 1)) #[] #[]] }, W1, gf,
    #[.func (.yield (w.heap.size + 1)) #[] #[]] ++ lb, W1, ?_, ?_, fun _ _ => trivial, ?_, FW_depth, ?_⟩
  · rw [← hW1, hrec]; exact run_enterLoop_outer _ _ _ _ _
  · simp only [resolve, hg]
    simp [go_sem]
  · simp [invoke, go_sem, callFunc_run hit.1]
  · have stay : ∀ {A B : World} {b : Nat} {o : Obj}, Ext A B → A.heap[b]? = some o → B.heap[b]? = some o := fun h hb => (h.block _ (Array.getElem?_eq_some_iff.1 hb).1).trans hb
    refine (hit.2 (n - 1) (w.heap.size + 1) lb
      (fun k M W => I k M W ∧ W.heap[w.heap.size + 1]? = some (.loop (rec .ready none)) ∧ W.heap[w.heap.size]? = some (.deferred (some [])))
      (fun W => K W ∧ W.heap[w.heap.size + 1]? = some (.loop (rec .done (some .ret))) ∧ W.heap[w.heap.size]? = some (.deferred (some [])))
      M0 W1 (by omega) (fun k M A B h e => ⟨hIe k M A B h.1 e, stay e h.2.1, stay e h.2.2⟩) (fun A B h e => ⟨hKe A B h.1 e, stay e h.2.1, stay e h.2.2⟩) (fun k M A h => (hIM k M A h.1).1) hC1 ?_ ⟨hI1, hL1, hK1⟩).mono ?_
    · rintro k x u M W ⟨hi, hl, hk⟩ hr hus
      have hls : w.heap.size + 1 < W.heap.size := (Array.getElem?_eq_some_iff.1 hl).1
      have hy := run_yield (P := P) (args := #[u]) hl (by rw [hrec]; rfl)
      rw [hrec] at hy
      have hfold : (#[p].zip #[u]).foldl (fun t (x : Nat × Value) => match x with | (p, v) => t.setIfInBounds p v) a.tmps = a.tmps.setIfInBounds p u := by
        rw [← Array.foldl_toList, Array.toList_zip]; rfl
      have hy : (Instr.yield (w.heap.size + 1) #[u]).run P W = .ok (.round (w.heap.size + 1) fn (a.tmps.setIfInBounds p u) assign body) W := by rw [← hfold]; exact hy
      refine ⟨fn, _, assign, body, hy, roundIn_of_wpIn hfn (wpIn_mono (hround (w.heap.size + 1) k _ x u M W _ (by omega) hi hl hr hus) ?_)⟩
      rintro e a1 W2 hp
      cases e with
      | normal =>
        obtain ⟨hodd0, hp⟩ := hp
        have hl2 := hodd0 _ _ hl trivial
        have hk2 := hodd0 _ _ hk trivial
        have hls2 : w.heap.size + 1 < W2.heap.size := (Array.getElem?_eq_some_iff.1 hl2).1
        refine ⟨_, run_beginRound hl2 (by rw [hrec]), wpIn_mono hp ?_⟩
        rintro e a3 W3 ⟨⟨hodd, hl3⟩, hp3⟩
        have hd3 := hodd _ _ hk trivial (by omega)
        have hls3 := (Array.getElem?_eq_some_iff.1 hl3).1
        have fin : ∀ jump : Option Code, (W3.putObj (w.heap.size + 1) (.loop (rec (if jump.isNone then .ready else .done) jump))).heap[w.heap.size + 1]? = some (.loop (rec (if jump.isNone then .ready else .done) jump)) ∧
            (W3.putObj (w.heap.size + 1) (.loop (rec (if jump.isNone then .ready else .done) jump))).heap[w.heap.size]? = some (.deferred (some [])) := fun jump =>
          ⟨World.putObj_heap_same hls3, (World.putObj_heap_other (by omega)).trans hd3⟩
        rcases hp3 with ⟨rfl, M', hi3, hsz3, hs3⟩ | ⟨rfl, hk3⟩
        · have hr3 := run_endRound (P := P) none hl3
          have f1 := fin none
          rw [hrec] at hr3 f1
          refine ⟨_, _, hr3, .inl ⟨rfl, M', ⟨hIo _ _ _ _ _ _ (by omega) hi3 hl3, ?_, f1.2⟩, by simpa using hsz3, fun b hb hM => ⟨(hs3 b hb hM).1, ?_⟩⟩⟩
          · rw [hrec]; exact f1.1
          · by_cases e : b = w.heap.size + 1
            · subst e
              rw [hl, hrec]; exact f1.1
            · rw [World.putObj_heap_other e]; exact (hs3 b hb hM).2 e
        · have hr3 := run_endRound (P := P) (some .ret) hl3
          have f1 := fin (some .ret)
          rw [hrec] at hr3 f1
          refine ⟨_, _, hr3, .inr ⟨rfl, hKo _ _ _ _ (by omega) hk3 hl3, ?_, f1.2⟩⟩
          rw [hrec]; exact f1.1
      | _ => exact hp.elim
    · rintro e W2 ⟨⟨v, rfl⟩, ⟨M, hi, hl, hk⟩ | ⟨hi, hl, hk⟩⟩
      · exact ⟨none, _, by have := run_endLoop (P := P) hl (by rw [hrec]; simp); rw [hrec] at this; exact this, hdone _ M _ (Nat.le_refl _) (hIo _ _ _ _ _ _ (by omega) hi hl) ((World.putObj_heap_other (by omega)).trans hk)⟩
      · exact ⟨some .ret, _, by have := run_endLoop (P := P) hl (by rw [hrec]; simp); rw [hrec] at this; exact this, wpIn_ret (hstop _ _ (Nat.le_refl _) (hKo _ _ _ _ (by omega) hi hl) ((World.putObj_heap_other (by omega)).trans hk))⟩

section
variable {P : Program} {R : Run} {st : St} {a : Act} {W : World} {κ : Nat → Option (Nat × Nat)}

/-- The same block, neither cells nor a map, has turned at the run's beginning and now. -/
theorem SK.both {W0 : World} (hR : R.W0 = W0) (h : SK R st a W κ) {l : Nat} {r r0 : Loop} {o' : Obj} (hl : W.heap[l]? = some (.loop r)) (hl0 : W0.heap[l]? = some (.loop r0)) : SK { R with W0 := W0.putObj l o' } st a (W.putObj l o') κ := by
  subst hR
  have hd : Dfr W (W.putObj l o') := .put hl trivial
  have hlt : l < W.heap.size := (Array.getElem?_eq_some_iff.1 hl).1
  have hlt0 : l < R.W0.heap.size := (Array.getElem?_eq_some_iff.1 hl0).1
  have same : ∀ b, (W.heap[b]? = R.W0.heap[b]? ∨ b = l) → (W.putObj l o').heap[b]? = (R.W0.putObj l o').heap[b]? := fun b hb => by
    by_cases e : b = l
    · subst e; rw [World.putObj_heap_same hlt, World.putObj_heap_same hlt0]
    · rw [World.putObj_heap_other e, World.putObj_heap_other e]; exact hb.resolve_right e
  refine ⟨?_, h.size, fun n x hx => (h.tm n x hx).dfr hd, fun k o hk => ?_, h.dom, h.inj, fun b hb => by simpa using h.low b hb, h.apart, ?_, fun g cs hg => (h.gr g cs hg).dfr hd, ?_, h.ent⟩
  · obtain ⟨cs, e, nd, hc, hz⟩ := h.defers
    refine ⟨cs, e, nd, fun c hm => ⟨by simpa using (hc c hm).1, ?_⟩, hz⟩
    rw [World.putObj_heap_other (by rintro rfl; have := (hc _ hm).2; rw [hl] at this; cases this)]
    exact (hc c hm).2
  · obtain ⟨b, s, h1, h2, h3, h4⟩ := h.obj k o hk
    refine ⟨b, s, h1, by simpa using h2, by simpa using h3, ?_⟩
    cases o with
    | box cells =>
      obtain ⟨h0, cs, t, h5, h6, h7⟩ := h4
      exact ⟨h0, cs, t, hd.same h5 (fun e => e), h6, fun j x hj => (h7 j x hj).imp fun v hv => ⟨hv.1, hv.2.dfr hd⟩⟩
    | row sz rows =>
      obtain ⟨h0, cs, t, h5, h6, h7⟩ := h4
      exact ⟨h0, cs, t, hd.same h5 (fun e => e), h6, fun i j r x hi hj => (h7 i j r x hi hj).imp fun v hv => ⟨hv.1, hv.2.dfr hd⟩⟩
    | mp kvs =>
      obtain ⟨h0, es, t, h5, h6, h7, h8⟩ := h4
      exact ⟨h0, es, t, hd.same h5 (fun e => e), h6, h7, fun i x y hi => (h8 i x y hi).imp fun e he => ⟨he.1, he.2.1.dfr hd, he.2.2.dfr hd⟩⟩
  · exact ⟨h.kp.os, h.kp.tape, h.kp.output, by simpa using h.kp.size, fun i hi hx => same i (.inl (h.kp.block i (by simpa using hi) hx))⟩
  · refine ⟨by simpa using h.mono.size, fun b hb hM => ⟨(h.mono.imm b (by simpa using hb) hM).1, same b (.inl (h.mono.imm b (by simpa using hb) hM).2)⟩, h.mono.box, fun k sz m hk => ?_⟩
    obtain ⟨m', g1, g2, g3⟩ := h.mono.row k sz m hk
    refine ⟨m', g1, g2, fun e b s cs t hl => ⟨(g3 e b s cs t hl).1, fun hw => ?_⟩⟩
    have hne : b ≠ l ∨ ∃ cs' t', o' = .cells cs' t' (0, 0) := by
      by_cases e : b = l
      · subst e
        have hw : (R.W0.putObj b o').heap[b]? = _ := hw
        rw [World.putObj_heap_same hlt0] at hw
        exact .inr ⟨_, _, Option.some.inj hw⟩
      · exact .inl e
    by_cases e : b = l
    · subst e
      have hw : (R.W0.putObj b o').heap[b]? = _ := hw
      rw [World.putObj_heap_same hlt0] at hw
      exact ⟨cs, (World.putObj_heap_same hlt).trans hw, rfl⟩
    · have hw : (R.W0.putObj l o').heap[b]? = _ := hw
      rw [World.putObj_heap_other e] at hw
      obtain ⟨cs', g4, g5⟩ := (g3 (by assumption) b s cs t (by assumption)).2 hw
      exact ⟨cs', hd.same g4 (fun e => e), g5⟩

theorem SK.keepOdd (h : SK R st a W κ) (hX : ∀ b, R.X b → ∀ o, R.W0.heap[b]? = some o → ¬ Odd o) {b : Nat} {o : Obj} (hb : R.W0.heap[b]? = some o) (ho : Odd o) : W.heap[b]? = some o :=
  (h.kp.block b (Array.getElem?_eq_some_iff.1 hb).1 fun hx => hX b hx o hb ho).trans hb

theorem SK.notOdd (h : SK R st a W κ) {k b s : Nat} (hk : κ k = some (b, s)) {o : Obj} (hb : W.heap[b]? = some o) : ¬ Odd o := by
  intro hodd
  obtain ⟨ob, h2⟩ := h.dom _ _ hk
  obtain ⟨b', s', h3, h4, h5, h6⟩ := h.obj _ _ h2
  rw [hk] at h3
  simp only [Option.some.injEq, Prod.mk.injEq] at h3
  obtain ⟨rfl, rfl⟩ := h3
  cases ob with
  | box cells => obtain ⟨-, cs, t, q, -⟩ := h6; rw [q] at hb; cases hb; exact hodd
  | row sz rows => obtain ⟨-, cs, t, q, -⟩ := h6; rw [q] at hb; cases hb; exact hodd
  | mp kvs => obtain ⟨-, cs, t, q, -⟩ := h6; rw [q] at hb; cases hb; exact hodd

theorem coll_inj {cs cs' : List Nat} (h : cs.map coll = cs'.map coll) : cs = cs' := by
  induction cs generalizing cs' with
  | nil => cases cs' <;> simp_all
  | cons c cs ih => cases cs' with
    | nil => simp at h
    | cons c' cs' =>
      simp only [List.map_cons, List.cons.injEq] at h
      obtain ⟨h1, h2⟩ := h
      simp only [coll, Deferred.mk.injEq, Target.collected.injEq, and_true] at h1
      rw [h1, ih h2]

/-- What a round leaves of the objects that it was handed. -/
def RndB (ok : List (Nat × AObj) → Prop) (ret : List (Nat × AObj) → Prop) : Exit → St → Prop
  | .normal, s => ok (frzSt newK s).o
  | .ret, s => ret (frzSt newK s).o
  | _, _ => False

theorem AR_rngf {g : RA} {p gf : Nat} {assign body : RCode} {Φ : Exit → St → Prop} {caps els : List AV} (hrd : R.Top) (hit : IterP P gf caps els) (hg : evA R.G st g = .func (.func gf) [] caps) (hp : caps.all AV.pure = true)
    (ρ : Nat → Nat) (t0 : List (Nat × AV)) (objs : Nat → List (Nat × AObj)) (keys : List Nat) (Iv : Nat → Prop) (hI0 : Iv 0) (hkeys : ∀ k, (objs k).map (·.1) = keys) (hK : ∀ k ∈ keys, 1000 ≤ k) (hinj : (keys.map ρ).Nodup)
    (h0 : setsB ρ (objs 0) st = st) (hin : ∀ k, ∀ q ∈ objs k, keptO (objs k) q.2 = true)
    (ht0 : ∀ q ∈ t0, lk st.t q.1 = some (q.2.ren ρ) ∧ q.1 ≠ p ∧ ∀ k ∈ q.2.keys, k ∈ keys)
    (hround : ∀ (k : Nat) (x : AV), els[k]? = some x → Iv k → ∀ R' : Run, R'.G = R.G → R'.N = R.N → AR P R' assign ⟨(p, x) :: t0, objs k⟩ fun e s1 => e = .normal ∧ ∀ R'' : Run, R''.G = R.G → R''.N = R.N →
      AR P R'' body s1 (RndB (fun o => o = objs (k + 1) ∧ Iv (k + 1)) fun o => o.map (·.1) = keys ∧ Φ .ret (setsB ρ o st)))
    (hdone : Iv els.length → Φ .normal (setsB ρ (objs els.length) st)) : AR P R (.rngf g [p] assign body) st Φ := by
  intro c hc m a W hs
  cases c <;> simp only [okCode, Bool.false_eq_true, Bool.and_eq_true, beq_iff_eq] at hc
  rename_i g' ps' ca cb
  obtain ⟨⟨⟨⟨hcg, hps⟩, hpn⟩, hca⟩, hcb⟩ := hc
  have hpn : p < R.N := by simpa using hpn
  obtain rfl : ps' = #[p] := by rw [← Array.toList_inj]; exact hps
  rw [hrd.1]
  refine wpFW.2 ((wpFW (n := 3)).1 ?_)
  obtain ⟨κ0, hs⟩ := hs
  -- the states
  obtain ⟨S, hS⟩ : ∃ S : Nat → St, S = fun k => setsB ρ (objs k) st := ⟨_, rfl⟩
  have hSt : ∀ k, (S k).t = st.t := fun k => by rw [hS]; exact setsB_t ρ _ _
  have nod : ∀ {o : List (Nat × AObj)}, o.map (·.1) = keys → (o.map fun p => ρ p.1).Nodup := fun {o} ho => by
    have : o.map (fun p => ρ p.1) = (o.map (·.1)).map ρ := by simp [List.map_map, Function.comp_def]
    rw [this, ho]; exact hinj
  have isk : ∀ {o : List (Nat × AObj)}, o.map (·.1) = keys → ∀ k, isK o k = true ↔ k ∈ keys := fun {o} ho k => by rw [isK, lk_isSome, ho]
  have hevg : ∀ k, evA R.G (S k) g = .func (.func gf) [] caps := fun k => by
    rw [← hg]
    cases g <;> simp only [evA, St.tmp, hSt]
  have hv0 := hs.ev hcg
  rw [hg] at hv0
  obtain ⟨us0, lb, hav, hus0, hlb0⟩ := hv0.func_inv
  obtain rfl : us0 = #[] := by
    have := hus0.1
    rw [← Array.toList_inj]
    exact List.length_eq_zero_iff.1 (by simpa using this)
  have hcaps : ∀ k W κ, SK R (S k) a W κ → CP ((S k).env R.M κ).M W caps lb := fun k W κ h => by
    have h1 := h.ev hcg
    rw [hevg, hav] at h1
    obtain ⟨us1, lb1, h2, -, h3⟩ := h1.func_inv
    simp only [Value.func.injEq] at h2
    obtain ⟨-, -, rfl⟩ := h2
    exact ⟨by simpa using h3.1, fun i x u hx hu => (h3.2 i x u hx (by simpa using hu)).toPV (List.all_eq_true.1 hp x (List.mem_of_getElem? hx))⟩
  obtain ⟨cs0, e0, nd0, hc0, -⟩ := hs.defers
  have marks : ∀ (D : Nat) (st1 : St) (W1 : World) (κ1 : Nat → Option (Nat × Nat)), W.heap.size ≤ D → SK R st1 a W1 κ1 → W1.heap[D]? = some (.deferred (some [])) → SK R st1 { a with defers := coll D :: a.defers } W1 κ1 := fun D st1 W1 κ1 hD h hd => by
    obtain ⟨cs1, e1, nd1, hc1, -⟩ := h.defers
    obtain rfl : cs1 = cs0 := coll_inj (List.append_cancel_right (e1.symm.trans e0))
    refine h.odd ⟨rfl, fun b => .inl rfl⟩ rfl rfl rfl (fun b _ => rfl) rfl ⟨D :: cs1, by simp [e1], List.nodup_cons.2 ⟨fun hm => ?_, nd1⟩, fun c hm => ?_, fun e => by rw [hrd.2] at e; cases e⟩
    · have := (Array.getElem?_eq_some_iff.1 (hc0 D hm).2).1; omega
    · rcases List.mem_cons.1 hm with rfl | hm
      · exact ⟨Nat.le_trans hs.kp.size hD, hd⟩
      · exact hc1 c hm
  have put : ∀ (l : Nat) (st1 : St) (W1 : World) (κ1 : Nat → Option (Nat × Nat)) (r r' : Loop), W.heap.size ≤ l → SK R st1 a W1 κ1 → W1.heap[l]? = some (.loop r) → SK R st1 a (W1.putObj l (.loop r')) κ1 := fun l st1 W1 κ1 r r' hl h hr => by
    obtain ⟨cs1, e1, nd1, hc1, hz1⟩ := h.defers
    have := hs.kp.size
    refine h.odd (.put hr trivial) rfl rfl rfl (fun b hb => World.putObj_heap_other (by omega)) rfl ⟨cs1, e1, nd1, fun c hm => ⟨(hc1 c hm).1, ?_⟩, hz1⟩
    rw [World.putObj_heap_other (by rintro rfl; have := (hc1 _ hm).2; rw [hr] at this; cases this)]
    exact (hc1 c hm).2
  have hs0 : SK R (S 0) a W κ0 := by rw [hS]; show SK R (setsB ρ (objs 0) st) a W κ0; rw [h0]; exact hs
  refine rngf_law (I := fun k M W' => ∃ κ, (M = ((S k).env R.M κ).M ∧ Iv k) ∧ SK R (S k) a W' κ) (K := fun W' => ∃ s κ, Φ .ret s ∧ SK R s a W' κ) (M0 := ((S 0).env R.M κ0).M) (caps := caps) (els := els) hav hit (by omega) (fun k M A B h e => h.imp fun κ h => ⟨h.1, h.2.grow e⟩) (fun A B ⟨s, κ, h1, h2⟩ e => ⟨s, κ, h1, h2.grow e⟩)
    (fun k l M W' r r' hl ⟨κ, hM, h⟩ hr => ⟨κ, hM, put l _ _ _ r r' hl h hr⟩) (fun l W' r r' hl ⟨s, κ, h1, h⟩ hr => ⟨s, κ, h1, put l _ _ _ r r' hl h hr⟩) (fun k M A ⟨κ, ⟨hM, _⟩, h⟩ => ?_) (hcaps 0 W κ0 hs0) ⟨κ0, ⟨rfl, hI0⟩, hs0⟩ ?_ ?_ ?_
  · subst hM
    refine ⟨fun b hb => h.owned_lt hb, fun b o hb ho hodd hM => ?_⟩
    rcases hM with hM | ⟨q, s, hq⟩
    · have := h.low b hM
      have := hs.kp.size
      omega
    · exact h.notOdd hq ho hodd
  · intro l k m x u M W1 lr hl hI hlr hx hxu
    obtain ⟨κ, ⟨rfl, hIk⟩, h⟩ := hI
    have hkk : ∀ q, isK (objs k) q = true → q ∈ keys := fun q hq => (isk (hkeys k) q).1 hq
    have enterAt : ∀ W', SK R (S k) a W' κ → SK (rC (objs k) ρ R (S k) κ W') (obSt (objs k)) noAct W' (kC (objs k) ρ κ) ∧ ∀ (x : AV) (v : Value), inK (objs k) x → VR ((S k).env R.M κ) W' (x.ren ρ) v → VR ((obSt (objs k)).env (mC (objs k) ρ R (S k) κ) (kC (objs k) ρ κ)) W' x v := fun W' h =>
      enterB h (fun q hq => hK q (hkk q hq)) (fun q q' h1 h2 e => inj_of_nodup hinj (hkk q h1) (hkk q' h2) e) (fun q o hq => by rw [hS]; exact setsB_in ρ _ _ q o (nod (hkeys k)) hq)
        (fun q o hq => by
          have h2 := hin k (q, o) (lk_mem hq)
          have kept : ∀ x, keptA (objs k) x = true → inK (objs k) x := fun x hx k' hk' => List.all_eq_true.1 hx k' hk'
          cases o with
          | box cells => exact fun x hx => kept x (List.all_eq_true.1 h2 x hx)
          | row sz rows => exact fun r hr x hx => kept x (List.all_eq_true.1 (List.all_eq_true.1 h2 r hr) x hx)
          | mp kvs =>
            intro p hp
            have := List.all_eq_true.1 h2 p hp
            simp only [Bool.and_eq_true] at this
            exact ⟨kept _ this.1, kept _ this.2⟩)
    obtain ⟨h1, conv⟩ := enterAt W1 h
    have hXo : ∀ W', SK R (S k) a W' κ → ∀ b, (rC (objs k) ρ R (S k) κ W').X b → ∀ o, W'.heap[b]? = some o → ¬ Odd o := fun W' h b ⟨q, s, hq⟩ o ho hodd => by
      simp only [kC] at hq
      split at hq
      · exact h.notOdd hq ho hodd
      · cases hq
    have hMM : ∀ b, ((obSt (objs k)).env (mC (objs k) ρ R (S k) κ) (kC (objs k) ρ κ)).M b → ((S k).env R.M κ).M b := fun b hb => by
      rcases hb with hb | ⟨q, s, hq⟩
      · exact hb.1
      · simp only [kC] at hq
        split at hq
        · exact .inr ⟨ρ q, s, hq⟩
        · cases hq
    let R1 : Run := { rC (objs k) ρ R (S k) κ W1 with N := R.N, rd := some l }
    have hN : R.N = a.tmps.size := h.size.symm
    have start : SK R1 ⟨(p, x) :: t0, objs k⟩ { tmps := a.tmps.setIfInBounds p u, defers := [] } W1 (kC (objs k) ρ κ) := by
      refine ⟨.nil _ _ _ _, by show (a.tmps.setIfInBounds p u).size = R.N; simp [hN], fun n y hy => ?_, h1.obj, h1.dom, h1.inj, h1.low, h1.apart, h1.kp, h1.gr, h1.mono, h1.ent⟩
      have hy : lk ((p, x) :: t0) n = some y := hy
      show VR ((obSt (objs k)).env (mC (objs k) ρ R (S k) κ) (kC (objs k) ρ κ)) W1 y ((a.tmps.setIfInBounds p u).getD n Go.undef)
      simp only [lk] at hy
      split at hy
      · rename_i e
        subst e
        obtain rfl : x = y := by simpa using hy
        have hlt : p < a.tmps.size := by rw [← hN]; exact hpn
        have e : (a.tmps.setIfInBounds p u).getD p Go.undef = u := by simp [Array.getD, hlt]
        rw [e]
        exact .pv (hxu.mono (fun b _ hb => ⟨fun hb' => hb (hMM b hb'), rfl⟩) (Nat.le_refl _))
      · rename_i e
        have e2 : (a.tmps.setIfInBounds p u).getD n Go.undef = a.tmps.getD n Go.undef := by
          simp only [Array.getD_eq_getD_getElem?, Array.getElem?_setIfInBounds, if_neg e]
        rw [e2]
        obtain ⟨g1, g2, g3⟩ := ht0 (n, y) (lk_mem hy)
        have g4 := h.tm n (y.ren ρ) (by show lk (S k).t n = _; rw [hSt]; exact g1)
        exact conv y _ (fun q hq => (isk (hkeys k) q).2 (g3 q hq)) g4
    refine wpIn_mono (hround k x hx hIk R1 rfl rfl ca hca m _ W1 ⟨_, start⟩) ?_
    rintro e a1 W2 ⟨s1, ⟨rfl, hbody⟩, κ1, h2⟩
    refine ⟨fun b o hb ho => h2.keepOdd (hXo W1 h) hb ho, ?_⟩
    have hl2 : W2.heap[l]? = some (.loop lr) := h2.keepOdd (hXo W1 h) hlr trivial
    have h3 := SK.both rfl h2 (o' := .loop { lr with state := .busy }) hl2 hlr
    have hb := put l _ W1 κ lr { lr with state := .busy } hl h hlr
    refine wpIn_mono (hbody { R1 with W0 := W1.putObj l (.loop { lr with state := .busy }) } rfl rfl cb hcb m _ _ ⟨_, h3⟩) ?_
    rintro e a2 W3 ⟨s2, hrnd, hs2⟩
    have hodd : ∀ κ2, SK { R1 with W0 := W1.putObj l (.loop { lr with state := .busy }) } s2 a2 W3 κ2 → (∀ (b : Nat) (o : Obj), W1.heap[b]? = some o → Odd o → b ≠ l → W3.heap[b]? = some o) ∧ W3.heap[l]? = some (.loop { lr with state := .busy }) := fun κ2 h4 =>
      ⟨fun b o hb1 ho hne => h4.keepOdd (hXo _ hb) ((World.putObj_heap_other hne).trans hb1) ho,
        h4.keepOdd (hXo _ hb) (o := .loop { lr with state := .busy }) (World.putObj_heap_same (Array.getElem?_eq_some_iff.1 hlr).1) trivial⟩
    have leave : ∀ o' : List (Nat × AObj), o'.map (·.1) = keys → (frzSt newK s2).o = o' → ∃ κ3, SK R (setsB ρ o' st) a W3 κ3 ∧ Mono ((S k).env R.M κ) (W1.putObj l (.loop { lr with state := .busy })) ((setsB ρ o' st).env R.M κ3) W3 := fun o' hk' he => by
      obtain ⟨κ2, h4⟩ := Weak.frz newK s2 (fun k hk => by simp [newK]; omega) _ a2 W3 hs2
      have g := h4.sub (t' := []) (fun n x hx => by simp [lk] at hx)
      have e : ({ frzSt newK s2 with t := [] } : St) = obSt o' := by subst he; rfl
      rw [e] at g
      have g2 : SK (rC (objs k) ρ R (S k) κ (W1.putObj l (.loop { lr with state := .busy }))) (obSt o') noAct W3 κ2 :=
        ⟨.nil _ _ _ _, rfl, fun n x hx => by simp [obSt, St.tmp, lk] at hx, g.obj, g.dom, g.inj, g.low, g.apart, g.kp, g.gr, g.mono, g.ent⟩
      obtain ⟨κ3, h5, h6, -⟩ := leaveB hb (st1 := setsB ρ o' st) (fun q q' h1 h2 e => inj_of_nodup hinj (hkk q h1) (hkk q' h2) e) (fun q o hq => by rw [hS]; exact setsB_in ρ _ _ q o (nod (hkeys k)) hq)
        (fun q => by
          have h1 := isk hk' q
          have h2 := isk (hkeys k) q
          cases e1 : isK o' q <;> cases e2 : isK (objs k) q <;> simp_all) g2 ((setsB_t ρ _ _).trans (hSt k).symm) (fun q o hq => setsB_in ρ _ _ q o (nod hk') hq)
        (fun j hj => by
          have out : ∀ {o : List (Nat × AObj)}, o.map (·.1) = keys → (setsB ρ o st).get j = st.get j := fun {o} ho => setsB_out ρ j _ _ fun q hq => hj q.1 ((isk (hkeys k) q.1).2 (by rw [← ho]; exact List.mem_map.2 ⟨q, hq, rfl⟩))
          rw [hS]
          exact (out hk').trans (out (hkeys k)).symm)
      exact ⟨κ3, h5, h6⟩
    obtain ⟨κ2, h4⟩ := id hs2
    refine ⟨hodd κ2 h4, ?_⟩
    cases e with
    | normal =>
      obtain ⟨κ3, h5, h6⟩ := leave (objs (k + 1)) (hkeys _) hrnd.1
      refine .inl ⟨rfl, _, ⟨κ3, ⟨rfl, hrnd.2⟩, by rw [hS]; exact h5⟩, by have := h6.size; simpa using this, fun b hb1 hM => ?_⟩
      obtain ⟨g1, g2⟩ := h6.imm b (by simpa using hb1) hM
      exact ⟨by rw [hS]; exact g1, fun hne => g2.trans (World.putObj_heap_other hne)⟩
    | ret =>
      obtain ⟨hk', hΦ⟩ := hrnd
      obtain ⟨κ3, h5, -⟩ := leave _ hk' rfl
      exact .inr ⟨rfl, _, κ3, hΦ, h5⟩
    | _ => exact hrnd.elim
  · rintro D M W1 hD ⟨κ, ⟨-, hIk⟩, h⟩ hd
    refine ⟨_, ?_, κ, marks D _ _ _ hD h hd⟩
    rw [hS]
    exact hdone hIk
  · rintro D W1 hD ⟨s, κ, h1, h⟩ hd
    exact ⟨s, h1, κ, marks D _ _ _ hD h hd⟩

end

end Go.Proofs.YtdpmioiamcgfkaaDoor
