/-
  The abstract machine: functions that return what they own. By a single list in new memory (PN), and by any objects (PB with more objects at its end).
-/
import Derived.Test.YtdpmioiamcgfkaaDoorAmO
namespace Go.Proofs.YtdpmioiamcgfkaaDoor
open Go.RowKit

/-- The end of a function that keeps objects which 'ok' does not name. -/
def FinO (ok : Nat → Bool) (rs : List RRes) (r : AV) (objs' : List (Nat × AObj)) : Exit → St → Prop
  | .normal, st | .ret, st => ∃ xs, evRess st rs = some xs ∧ r = tupV (xs.map (frzA ok ⟨iniT 0 xs, st.o⟩)) ∧ (frzSt ok ⟨iniT 0 xs, st.o⟩).o = objs'
  | _, _ => False

section
variable {P : Program}
theorem PBo_of (ok : Nat → Bool) (hok : ∀ k, ok k = true → k < 1000) {G : Nat → Option (List AV)} {f : FuncId} {fn : Func} {c : Code} {rc : RCode} {rs : List RRes} {objs objs' : List (Nat × AObj)} {args : List AV} {r : AV} (hf : P.funcs[f]? = some fn) (hb : fn.body = some c) (he : entB P f = true)
    (hc : okCode P fn.ntmps c rc = true) (hrs : allB2 (okRes P) fn.results.toList rs = true) (hn : args.length ≤ fn.ntmps)
    (h : ∀ R : Run, R.N = fn.ntmps → R.G = G → R.Top → AR P R rc ⟨iniT 0 args, objs⟩ (FinO ok rs r objs')) : PB P G f objs args r objs' := by
  refine ⟨he, fun R0 W κ vs hG hN hW hX hE hk hsz hvs => ?_⟩
  refine callsIn_wide.1 (callsIn_of_wp_marks (F := FW none) (n := 1) hf hb trivial ?_)
  let R : Run := { R0 with N := fn.ntmps, rd := none, nm := false }
  have hD0 : R0.D = [] := by
    obtain ⟨cs, e, -⟩ := hk.defers
    exact (List.append_eq_nil_iff.1 e.symm).2
  have h0 : SK R ⟨iniT 0 args, objs⟩ { tmps := vs ++ Array.replicate (fn.ntmps - vs.size) Go.undef, defers := [] } W κ := by
    refine ⟨hk.defers.weak, by show (vs ++ _).size = fn.ntmps; simp; omega, fun n x hx => ?_, hk.obj, hk.dom, hk.inj, hk.low, hk.apart, hk.kp, hk.gr, hk.mono, hk.ent⟩
    simp only [St.tmp, iniT_lk, Nat.zero_le, if_true, Nat.sub_zero] at hx
    show VR _ W x ((vs ++ Array.replicate (fn.ntmps - vs.size) Go.undef).getD n Go.undef)
    rw [Array.getD_eq_getD_getElem?, Array.getElem?_append]
    have c1 : n < args.length := (List.getElem?_eq_some_iff.1 hx).1
    rw [if_pos (by omega)]
    have : vs[n]? = some vs[n] := by simp
    rw [this]
    exact hvs n x _ hx this
  refine wpIn_mono (h R rfl hG ⟨rfl, rfl⟩ c hc 1 _ W ⟨_, h0⟩) ?_
  have key : ∀ (a' : Act) (W' : World) (st' : St), (∃ xs, evRess st' rs = some xs ∧ r = tupV (xs.map (frzA ok ⟨iniT 0 xs, st'.o⟩)) ∧ (frzSt ok ⟨iniT 0 xs, st'.o⟩).o = objs') → SR R st' a' W' →
      ∃ u, (results fn a'.tmps).run P W' = .ok u W' ∧ ∃ v κ', Ending.returned u = .returned v ∧ SK R0 (obSt objs') noAct W' κ' ∧ VR ((obSt objs').env R0.M κ') W' r v := by
    rintro a' W' st' ⟨xs0, h1, rfl, h3⟩ ⟨κ0, hk0⟩
    obtain ⟨us, h4, h50⟩ := ress_run (P := P) hk0 hrs h1
    have hl0 : us.length = xs0.length := by have := h50.1; omega
    have h20 : SK { R with N := us.length } ⟨iniT 0 xs0, st'.o⟩ { tmps := us.toArray, defers := a'.defers } W' κ0 := by
      refine ⟨hk0.defers, by simp, fun n x hx => ?_, hk0.obj, hk0.dom, hk0.inj, hk0.low, hk0.apart, hk0.kp, hk0.gr, hk0.mono, hk0.ent⟩
      simp only [St.tmp, iniT_lk, Nat.zero_le, if_true, Nat.sub_zero] at hx
      have hlt : n < us.length := by have := (List.getElem?_eq_some_iff.1 hx).1; omega
      have : us.toArray.getD n Go.undef = us[n] := by simp [Array.getD, hlt]
      rw [this]
      exact h50.2 n x _ hx (List.getElem?_eq_getElem hlt)
    obtain ⟨κ', hk'⟩ := Weak.frz ok ⟨iniT 0 xs0, st'.o⟩ (fun k hk => by exact Bool.eq_false_iff.2 fun e => by have := hok k e; omega) _ _ W' ⟨κ0, h20⟩
    obtain ⟨xs, hxs⟩ : ∃ xs, xs = xs0.map (frzA ok ⟨iniT 0 xs0, st'.o⟩) := ⟨_, rfl⟩
    rw [← hxs]
    have h5 : CR ((frzSt ok ⟨iniT 0 xs0, st'.o⟩).env R.M κ') W' xs us := by
      refine ⟨by rw [hxs]; simp; omega, fun i x u hx hu => ?_⟩
      have hlt : i < us.length := (List.getElem?_eq_some_iff.1 hu).1
      have := hk'.tm i x (by
        simp only [frzSt, St.tmp, lk_map, iniT_lk, Nat.zero_le, if_true, Nat.sub_zero]
        rw [hxs, List.getElem?_map] at hx
        exact hx)
      have e : us.toArray.getD i Go.undef = u := by
        rw [List.getElem?_eq_getElem hlt] at hu
        simp only [Option.some.injEq] at hu
        simp [Array.getD, hlt, hu]
      have this : VR ((frzSt ok ⟨iniT 0 xs0, st'.o⟩).env R.M κ') W' x (us.toArray.getD i Go.undef) := this
      rwa [e] at this
    have henv : (frzSt ok ⟨iniT 0 xs0, st'.o⟩).env R.M κ' = (obSt objs').env R0.M κ' := by subst h3; rfl
    have hl : us.length = xs.length := by have := h5.1; omega
    refine ⟨(if h : us.toArray.size = 1 then us.toArray[0] else .tuple us.toArray), ?_, _, κ', rfl, ?_, ?_⟩
    · unfold results
      rw [Sem.run_bind]
      have : (fn.results.mapM fun rv => (match rv with
        | .tmp t => pure (a'.tmps.getD t Go.undef)
        | .cell p t => do loadVar t (← asAddr (a'.tmps.getD p Go.undef)) : Sem Value)).run P W' = .ok us.toArray W' := by
        rw [Array.mapM_eq_mapM_toList, Sem.run_map]
        exact congrArg (fun z => Result.andThen z (fun a w' => Result.ok a.toArray w')) h4
      erw [this]
      rfl
    · have g := hk'.sub (t' := []) (fun n x hx => by simp [lk] at hx)
      have e : ({ frzSt ok ⟨iniT 0 xs0, st'.o⟩ with t := [] } : St) = obSt objs' := by subst h3; rfl
      rw [e] at g
      exact ⟨by rw [hD0]; exact .nil _ _ _ _, by show (#[] : Array Value).size = R0.N; rw [hN]; rfl, fun n x hx => by simp [obSt, St.tmp, lk] at hx, g.obj, g.dom, g.inj, g.low, g.apart, g.kp, g.gr, g.mono, g.ent⟩
    · rw [← henv]
      match xs, us, hl, h5 with
      | [], [], _, _ => exact .tup [] _ rfl (by simp)
      | [y], [u], _, h5 => exact h5.2 0 y u rfl rfl
      | y :: y2 :: ys, u :: u2 :: us, hl, h5 =>
        rw [dif_neg (by simp)]
        exact .tup _ _ (by simpa using hl) (fun i x w hx hw => h5.2 i x w hx (by simpa using hw))
  rintro e a' W' ⟨st', h1, κ2, h2⟩
  cases e <;> try (exact h1.elim)
  all_goals
    refine h2.leave (by simp) (show R.D = [] from hD0) fun a2 W2 ht hs2 => ?_
    have := key a2 W2 st' h1 ⟨κ2, hs2⟩
    rw [ht] at this
    exact this

end

theorem AV.pure_keys : ∀ x : AV, x.pure = true → x.keys = []
  | .func fn xs ys, h => by
    simp only [AV.pure, Bool.and_eq_true, List.all_eq_true, List.mem_attach, forall_const, Subtype.forall] at h
    simp only [AV.keys, List.append_eq_nil_iff, List.flatMap_eq_nil_iff, List.mem_attach, forall_const, Subtype.forall]
    exact ⟨fun x hx => AV.pure_keys x (h.1 x hx), fun x hx => AV.pure_keys x (h.2 x hx)⟩
  | .agg xs, h | .tup xs, h => by
    simp only [AV.pure, List.all_eq_true, List.mem_attach, forall_const, Subtype.forall] at h
    simp only [AV.keys, List.flatMap_eq_nil_iff, List.mem_attach, forall_const, Subtype.forall]
    exact fun x hx => AV.pure_keys x (h x hx)
  | .hole, _ | .int .., _ | .bool _, _ | .abool, _ | .str _, _ | .nilp, _ | .nils, _ | .nilm, _ | .nilf, _ | .vptr .., _ | .vsl _, _ | .vmap _, _ => by simp [AV.keys]
  | .undef, h | .ptr .., h | .eptr .., h | .osl .., h | .mp _, h => by simp [AV.pure] at h

/-- Rows of plain values lie the same for whoever owns them. -/
theorem ObjR.anyE {E E' : Env} {W : World} {b s sz : Nat} {rows : List (List AV)} (hf : ∀ r ∈ rows, ∀ x ∈ r, x.flat = true) (hp : ∀ r ∈ rows, ∀ x ∈ r, x.pure = true) (h : ObjR E W b s (.row sz rows)) : ObjR E' W b s (.row sz rows) := by
  obtain ⟨h1, cs, t, h2, h3, h4⟩ := h
  refine ⟨h1, cs, t, h2, h3, fun i j r x hi hj => (h4 i j r x hi hj).imp fun v hv => ⟨hv.1, ?_⟩⟩
  have hr := List.mem_of_getElem? hi
  have hx := List.mem_of_getElem? hj
  exact .pv ((hv.2.toPV (hp r hr x hx)).flat (hf r hr x hx))

/-- The end of a function that returns a list in new memory. -/
def FinN (rs : List RRes) (sz : Nat) (rows : List (List AV)) : Exit → St → Prop
  | .normal, st | .ret, st => ∃ k, evRess st rs = some [.osl k rows.length] ∧ st.get k = some (.row sz rows)
  | _, _ => False

theorem PN_of {P : Program} {G : Nat → Option (List AV)} {f : FuncId} {fn : Func} {c : Code} {rc : RCode} {rs : List RRes} {args : List AV} {sz : Nat} {rows : List (List AV)} (hfl : ∀ r ∈ rows, ∀ x ∈ r, x.flat = true) (hpu : ∀ r ∈ rows, ∀ x ∈ r, x.pure = true)
    (hf : P.funcs[f]? = some fn) (hb : fn.body = some c) (he : entB P f = true)
    (hc : okCode P fn.ntmps c rc = true) (hrs : allB2 (okRes P) fn.results.toList rs = true) (hn : args.length ≤ fn.ntmps)
    (h : ∀ R : Run, R.N = fn.ntmps → R.G = G → R.Top → AR P R rc (initSt args) (FinN rs sz rows)) : PN P G f args sz rows := by
  refine ⟨he, fun M W vs hM hG hsz hvs => ?_⟩
  refine callsIn_wide.1 (callsIn_of_wp_marks (F := FW none) (n := 1) hf hb trivial ?_)
  let R : Run := { G := G, M := M, X := fun _ => False, W0 := W, N := fn.ntmps, E0 := { M := M, loc := fun _ => none, row := fun _ => none } }
  have h0 : SK R (initSt args) { tmps := vs ++ Array.replicate (fn.ntmps - vs.size) Go.undef, defers := [] } W (fun _ => none) := by
    have hGM : ∀ b, b < W.heap.size → ¬ M b → ¬ ((initSt args).env M (fun _ => none)).M b ∧ W.heap[b]? = W.heap[b]? := fun b _ h1 => ⟨(by rintro (h2 | ⟨k, s, h2⟩) <;> first | exact h1 h2 | cases h2), rfl⟩
    refine ⟨.nil _ _ _ _, by show (vs ++ _).size = fn.ntmps; simp; omega, fun n x hx => ?_, (fun k o ho => by simp [initSt, St.get, lk] at ho), (fun k p hk => by cases hk), (fun k k' b s s' hk => by cases hk), hM, fun _ _ h => h, Kp.refl _ _, hG.mono hGM (Nat.le_refl _), ⟨Nat.le_refl _, hGM, fun k p hk => (by cases hk), fun k sz m hk => (by cases hk)⟩, fun _ _ => ⟨rfl, rfl⟩⟩
    simp only [initSt, St.tmp, iniT_lk, Nat.zero_le, if_true, Nat.sub_zero] at hx
    show VR _ W x ((vs ++ Array.replicate (fn.ntmps - vs.size) Go.undef).getD n Go.undef)
    rw [Array.getD_eq_getD_getElem?, Array.getElem?_append]
    have c1 : n < args.length := (List.getElem?_eq_some_iff.1 hx).1
    rw [if_pos (by omega)]
    have : vs[n]? = some vs[n] := by simp
    rw [this]
    exact .pv ((hvs n x _ hx this).mono hGM (Nat.le_refl _))
  refine wpIn_mono (h R rfl rfl ⟨rfl, rfl⟩ c hc 1 _ W ⟨_, h0⟩) ?_
  have key : ∀ (a' : Act) (W' : World) (st' : St), (∃ k, evRess st' rs = some [.osl k rows.length] ∧ st'.get k = some (.row sz rows)) → SR R st' a' W' →
      ∃ u, (results fn a'.tmps).run P W' = .ok u W' ∧ ∃ b s cs t c, Ending.returned u = .returned (.slice (some ⟨b, s, none⟩) rows.length c) ∧ Ext W W' ∧ W.heap.size ≤ b ∧ b < W'.heap.size ∧
      rows.length ≤ c ∧ c ≤ maxLen ∧ W'.heap[b]? = some (.cells cs t (0, 0)) ∧ s + c * sz ≤ cs.size ∧ ∀ E : Env, ObjR E W' b s (.row sz rows) := by
    rintro a' W' st' ⟨k, h1, h2⟩ ⟨κ, hk⟩
    obtain ⟨us, h3, h4⟩ := ress_run (P := P) hk hrs h1
    have hE : Ext W W' := ⟨hk.kp.os, hk.kp.tape, hk.kp.output, hk.kp.size, fun i hi => hk.kp.block i hi (fun h => h)⟩
    obtain ⟨u, rfl⟩ : ∃ u, us = [u] := by
      have := h4.1
      match us, this with
      | [u], _ => exact ⟨u, rfl⟩
    have hu := h4.2 0 _ u rfl rfl
    obtain ⟨b, s, g1, g2, g3, g4⟩ := hk.obj k _ h2
    have g3 : W.heap.size ≤ b := g3.resolve_right (fun h => h)
    obtain ⟨b', s', c, cs, t, q1, q2, q3, q4, q5, q6⟩ : ∃ b' s' c cs t, u = .slice (some ⟨b', s', none⟩) rows.length c ∧ κ k = some (b', s') ∧ rows.length ≤ c ∧ c ≤ maxLen ∧ W'.heap[b']? = some (.cells cs t (0, 0)) ∧ s' + c * sz ≤ cs.size := by
      generalize hx : AV.osl k rows.length = x at hu
      cases hu with
      | pv hp => subst hx; cases hp
      | osl k2 n sz2 m a l c hr hn' he' =>
        cases hx
        have hr : (st'.get k).bind AObj.dim = some (sz2, m) := hr
        rw [h2] at hr
        have hr : some (sz, rows.length) = some (sz2, m) := hr
        simp only [Option.some.injEq, Prod.mk.injEq] at hr
        obtain ⟨rfl, rfl⟩ := hr
        obtain ⟨b', s', cs, t, e1, e2, e3, e4, e5, e6, e7⟩ := he' rfl
        subst e2; subst e3
        exact ⟨b', s', c, cs, t, rfl, e1, e4, e5, e6, e7⟩
      | _ => cases hx
    rw [g1] at q2
    cases q2
    subst q1
    refine ⟨.slice (some ⟨b, s, none⟩) rows.length c, ?_, b, s, cs, t, c, rfl, hE, g3, g2, q3, q4, q5, q6, fun E => g4.anyE hfl hpu⟩
    unfold results
    rw [Sem.run_bind]
    have : (fn.results.mapM fun rv => (match rv with
      | .tmp t => pure (a'.tmps.getD t Go.undef)
      | .cell p t => do loadVar t (← asAddr (a'.tmps.getD p Go.undef)) : Sem Value)).run P W' = .ok #[.slice (some ⟨b, s, none⟩) rows.length c] W' := by
      rw [Array.mapM_eq_mapM_toList, Sem.run_map]
      exact congrArg (fun z => Result.andThen z (fun a w' => Result.ok a.toArray w')) h3
    erw [this]
    rfl
  rintro e a' W' ⟨st', h1, κ, h2⟩
  cases e <;> try (exact h1.elim)
  all_goals
    refine h2.leave (by simp) rfl fun a2 W2 ht hs2 => ?_
    have := key a2 W2 st' h1 ⟨κ, hs2⟩
    rw [ht] at this
    exact this

section
variable {P : Program} {R : Run} {st : St} {a : Act} {W : World} {κ : Nat → Option (Nat × Nat)}

theorem leaveN (h : SK R st a W κ) {objs objs' : List (Nat × AObj)} {ρ : Nat → Nat} (hinj : ∀ k k', isK objs' k = true → isK objs' k' = true → ρ k = ρ k' → k = k')
    (ho : ∀ k o, lk objs k = some o → st.get (ρ k) = some (o.ren ρ)) (hd : ∀ k, isK objs k = true → isK objs' k = true) (hnw : ∀ k, isK objs' k = true → isK objs k = false → st.get (ρ k) = none) {κ' : Nat → Option (Nat × Nat)} {W' : World} (hc : SK (rC objs ρ R st κ W) (obSt objs') noAct W' κ')
    {st1 : St} (ht : st1.t = st.t) (hs1 : ∀ k o, lk objs' k = some o → st1.get (ρ k) = some (o.ren ρ)) (hs2 : ∀ j, (∀ k, isK objs' k = true → ρ k ≠ j) → st1.get j = st.get j) :
    ∃ κ1, SK R st1 a W' κ1 ∧ Mono (st.env R.M κ) W (st1.env R.M κ1) W' ∧ ∀ (x : AV) (v : Value), VR ((obSt objs').env (mC objs ρ R st κ) κ') W' x v → VR (st1.env R.M κ1) W' (x.ren ρ) v := by
  classical
  let κ1 : Nat → Option (Nat × Nat) := fun j => if e : ∃ k, isK objs' k = true ∧ ρ k = j then κ' (Classical.choose e) else κ j
  have hκ1 : ∀ k, isK objs' k = true → κ1 (ρ k) = κ' k := fun k hk => by
    have e : ∃ k', isK objs' k' = true ∧ ρ k' = ρ k := ⟨k, hk, rfl⟩
    simp only [κ1, dif_pos e]
    rw [hinj _ _ (Classical.choose_spec e).1 hk (Classical.choose_spec e).2]
  have hκ2 : ∀ j, (∀ k, isK objs' k = true → ρ k ≠ j) → κ1 j = κ j := fun j hj => by
    have e : ¬ ∃ k, isK objs' k = true ∧ ρ k = j := fun ⟨k, h1, h2⟩ => hj k h1 h2
    simp only [κ1, dif_neg e]
  have split : ∀ j, (∃ k, isK objs' k = true ∧ ρ k = j) ∨ (∀ k, isK objs' k = true → ρ k ≠ j) := fun j => by
    by_cases e : ∃ k, isK objs' k = true ∧ ρ k = j
    · exact .inl e
    · exact .inr fun k h1 h2 => e ⟨k, h1, h2⟩
  have kc : ∀ k, isK objs k = true → kC objs ρ κ k = κ (ρ k) := fun k hk => by simp only [kC, hk, if_true]
  have kcK : ∀ k p, kC objs ρ κ k = some p → isK objs k = true ∧ κ (ρ k) = some p := fun k p hk => by
    simp only [kC] at hk
    split at hk
    · rename_i e; exact ⟨e, hk⟩
    · cases hk
  have domK : ∀ k p, κ' k = some p → isK objs' k = true := fun k p hk => by
    exact Option.isSome_iff_exists.2 (hc.dom k p hk)
  have xE : ∀ b, (∃ k s, kC objs ρ κ k = some (b, s)) → (st.env R.M κ).M b := fun b ⟨k, s, hk⟩ => .inr ⟨ρ k, s, (kcK k _ hk).2⟩
  have range : ∀ b, (∃ k s, kC objs ρ κ k = some (b, s)) → R.W0.heap.size ≤ b ∨ R.X b := fun b ⟨k, s, hk⟩ => by
    obtain ⟨-, h2⟩ := kcK k _ hk
    obtain ⟨o, h3⟩ := h.dom _ _ h2
    obtain ⟨b', s', g1, g2, g3, -⟩ := h.obj _ _ h3
    rw [h2] at g1
    simp only [Option.some.injEq, Prod.mk.injEq] at g1
    obtain ⟨rfl, rfl⟩ := g1
    exact g3
  have F1 : ∀ b, (st1.env R.M κ1).M b → ((obSt objs').env (mC objs ρ R st κ) κ').M b := fun b hb => by
    rcases hb with hb | ⟨j, s, hj⟩
    · refine .inl ⟨.inl hb, fun hx => ?_⟩
      rcases range b hx with h1 | h1
      · have := h.low b hb; omega
      · exact h.apart b hb h1
    · rcases split j with ⟨k, hk, rfl⟩ | hj2
      · rw [hκ1 k hk] at hj; exact .inr ⟨k, s, hj⟩
      · rw [hκ2 j hj2] at hj
        refine .inl ⟨.inr ⟨j, s, hj⟩, fun ⟨k, s2, hk⟩ => ?_⟩
        obtain ⟨h1, h2⟩ := kcK k _ hk
        exact hj2 k (hd k h1) (h.inj _ _ b s2 s h2 hj)
  have row1 : ∀ k, isK objs' k = true → (st1.env R.M κ1).row (ρ k) = ((obSt objs').env (mC objs ρ R st κ) κ').row k := fun k hk => by
    obtain ⟨o, h1⟩ := Option.isSome_iff_exists.1 hk
    show (st1.get (ρ k)).bind AObj.dim = (lk objs' k).bind AObj.dim
    rw [h1, hs1 k o h1]
    exact AObj.ren_dim o
  have row0 : ∀ k, isK objs k = true → (st.env R.M κ).row (ρ k) = ((obSt objs).env (mC objs ρ R st κ) (kC objs ρ κ)).row k := fun k hk => by
    obtain ⟨o, h1⟩ := Option.isSome_iff_exists.1 hk
    show (st.get (ρ k)).bind AObj.dim = (lk objs k).bind AObj.dim
    rw [h1, ho k o h1]
    exact AObj.ren_dim o
  have rowK : ∀ k q, ((obSt objs').env (mC objs ρ R st κ) κ').row k = some q → isK objs' k = true := fun k q hk => by
    have hk : (lk objs' k).bind AObj.dim = some q := hk
    cases e : lk objs' k with
    | none => rw [e] at hk; cases hk
    | some o => simp [isK, e]
  have conv : ∀ (x : AV) (v : Value), VR ((obSt objs').env (mC objs ρ R st κ) κ') W' x v → VR (st1.env R.M κ1) W' (x.ren ρ) v := fun x v hv =>
    VR.toCaller (fun b hb hb' => hb (F1 b hb')) (fun k p hk => (hκ1 k (domK k p hk)).trans hk) (fun k q hk => ⟨(row1 k (rowK k q hk)).trans hk, hκ1 k (rowK k q hk)⟩) (fun k p hk hr => (row1 k (domK k p hk)).trans hr) hv
  have same : ∀ b, b < W.heap.size → ¬ (∃ k s, kC objs ρ κ k = some (b, s)) → W'.heap[b]? = W.heap[b]? := fun b hb hx => hc.kp.block b hb hx
  have apartK : ∀ j b s, (∀ k, isK objs' k = true → ρ k ≠ j) → κ j = some (b, s) → ¬ (∃ k s, kC objs ρ κ k = some (b, s)) := fun j b s hj hb ⟨k, s2, hk⟩ => by
    obtain ⟨h1, h2⟩ := kcK k _ hk
    exact hj k (hd k h1) (h.inj _ _ b s2 s h2 hb)
  have m : Mono (st.env R.M κ) W (st1.env R.M κ1) W' := by
    refine ⟨hc.kp.size, fun b hb hM => ⟨fun hM1 => ?_, same b hb fun hx => hM (xE b hx)⟩, fun j p hj hr => ?_, fun j sz m hj => ?_⟩
    · rcases F1 b hM1 with h1 | ⟨k, s, h1⟩
      · exact hM h1.1
      · obtain ⟨o, h2⟩ := hc.dom k _ h1
        obtain ⟨b', s', g1, g2, g3, -⟩ := hc.obj k o h2
        rw [h1] at g1
        simp only [Option.some.injEq, Prod.mk.injEq] at g1
        obtain ⟨rfl, rfl⟩ := g1
        rcases g3 with g3 | g3
        · have g3 : W.heap.size ≤ b := g3; omega
        · exact hM (xE b g3)
    · rcases split j with ⟨k, hk, rfl⟩ | hj2
      · have hk0 : isK objs k = true := by
          cases e : isK objs k
          · obtain ⟨o, ho'⟩ := h.dom _ _ hj; rw [hnw k hk e] at ho'; cases ho'
          · rfl
        obtain ⟨g1, g2⟩ := hc.mono.box k p ((kc k hk0).trans hj) ((row0 k hk0).symm.trans hr)
        exact ⟨(hκ1 k hk).trans g1, (row1 k hk).trans g2⟩
      · exact ⟨(hκ2 j hj2).trans hj, by show (st1.get j).bind AObj.dim = none; rw [hs2 j hj2]; exact hr⟩
    · rcases split j with ⟨k, hk, rfl⟩ | hj2
      · have hk0 : isK objs k = true := by
          cases e : isK objs k
          · have hj : (st.get (ρ k)).bind AObj.dim = _ := hj
            rw [hnw k hk e] at hj; cases hj
          · rfl
        obtain ⟨m', g1, g2, g3⟩ := hc.mono.row k sz m ((row0 k hk0).symm.trans hj)
        refine ⟨m', (row1 k hk).trans g1, g2, fun e b s cs t hl => ?_⟩
        obtain ⟨g4, g5⟩ := g3 e b s cs t ((kc k hk0).trans hl)
        exact ⟨(hκ1 k hk).trans g4, g5⟩
      · refine ⟨m, by show (st1.get j).bind AObj.dim = some (sz, m); rw [hs2 j hj2]; exact hj, Nat.le_refl _, fun _ b s cs t hl => ⟨(hκ2 j hj2).trans hl, fun hw => ⟨cs, (same b (h.loc_lt hl) (apartK j b s hj2 hl)).trans hw, rfl⟩⟩⟩
  refine ⟨κ1, ⟨h.defers.of fun c hc' => (same c (Array.getElem?_eq_some_iff.1 hc').1 fun ⟨k, s, hk⟩ => h.notdf (kcK k _ hk).2 hc').trans hc', h.size, fun n x hx => (h.tm n x (by simp only [St.tmp, ← ht]; exact hx)).mono m, fun j o hj => ?_, fun j p hj => ?_, fun j j' b s s' hj hj' => ?_, h.low, h.apart, ?_, h.gr.mono m.imm m.size, h.mono.trans m, h.ent⟩, m, conv⟩
  · rcases split j with ⟨k, hk, rfl⟩ | hj2
    · obtain ⟨o0, e0⟩ := Option.isSome_iff_exists.1 hk
      rw [hs1 k o0 e0] at hj
      simp only [Option.some.injEq] at hj
      subst hj
      obtain ⟨b, s, g1, g2, g3, g4⟩ := hc.obj k o0 e0
      refine ⟨b, s, (hκ1 k hk).trans g1, g2, ?_, ?_⟩
      · rcases g3 with g3 | g3
        · exact .inl (Nat.le_trans h.kp.size g3)
        · exact range b g3
      · cases o0 with
        | box cells =>
          obtain ⟨g0, cs, t, g5, g6, g7⟩ := g4
          refine ⟨g0, cs, t, g5, by simpa [AObj.ren] using g6, fun j x hj => ?_⟩
          rw [List.getElem?_map, Option.map_eq_some_iff] at hj
          obtain ⟨x0, g8, rfl⟩ := hj
          obtain ⟨v, g9, g10⟩ := g7 j x0 g8
          exact ⟨v, g9, conv _ _ g10⟩
        | row sz rows =>
          obtain ⟨g0, cs, t, g5, g6, g7⟩ := g4
          refine ⟨fun r hr => ?_, cs, t, g5, by simpa [AObj.ren] using g6, fun i j r x hi hj => ?_⟩
          · obtain ⟨r0, g8, rfl⟩ := List.mem_map.1 hr
            simpa using g0 r0 g8
          · rw [List.getElem?_map, Option.map_eq_some_iff] at hi
            obtain ⟨r0, g8, rfl⟩ := hi
            rw [List.getElem?_map, Option.map_eq_some_iff] at hj
            obtain ⟨x0, g9, rfl⟩ := hj
            obtain ⟨v, g10, g11⟩ := g7 i j r0 x0 g8 g9
            exact ⟨v, g10, conv _ _ g11⟩
        | mp kvs =>
          obtain ⟨g0, es, t, g5, g6, g7, g8⟩ := g4
          refine ⟨g0, es, t, g5, g6, by simpa [AObj.ren] using g7, fun i x y hi => ?_⟩
          rw [List.getElem?_map, Option.map_eq_some_iff] at hi
          obtain ⟨p, g9, g10⟩ := hi
          cases g10
          obtain ⟨e, g11, g12, g13⟩ := g8 i p.1 p.2 g9
          exact ⟨e, g11, conv _ _ g12, conv _ _ g13⟩
    · rw [hs2 j hj2] at hj
      obtain ⟨b, s, g1, g2, g3, g4⟩ := h.obj j o hj
      exact ⟨b, s, (hκ2 j hj2).trans g1, Nat.lt_of_lt_of_le g2 m.size, g3, g4.mono m (same b g2 (apartK j b s hj2 g1))⟩
  · rcases split j with ⟨k, hk, rfl⟩ | hj2
    · rw [hκ1 k hk] at hj
      obtain ⟨o, g1⟩ := hc.dom k p hj
      exact ⟨_, hs1 k o g1⟩
    · rw [hκ2 j hj2] at hj
      rw [hs2 j hj2]
      exact h.dom j p hj
  · have cross : ∀ k j' s s', isK objs' k = true → (∀ k, isK objs' k = true → ρ k ≠ j') → κ' k = some (b, s) → κ j' = some (b, s') → False := fun k j' s s' hk hj2 g1 g2 => by
      obtain ⟨o, g3⟩ := hc.dom k _ g1
      obtain ⟨b', s2, g4, g5, g6, -⟩ := hc.obj k o g3
      rw [g1] at g4
      simp only [Option.some.injEq, Prod.mk.injEq] at g4
      obtain ⟨rfl, rfl⟩ := g4
      rcases g6 with g6 | g6
      · have g6 : W.heap.size ≤ b := g6
        have := h.loc_lt g2; omega
      · exact apartK j' b s' hj2 g2 g6
    rcases split j with ⟨k, hk, rfl⟩ | hj2 <;> rcases split j' with ⟨k', hk', rfl⟩ | hj2'
    · rw [hκ1 k hk] at hj
      rw [hκ1 k' hk'] at hj'
      rw [hc.inj k k' b s s' hj hj']
    · rw [hκ1 k hk] at hj
      rw [hκ2 j' hj2'] at hj'
      exact (cross k j' s s' hk hj2' hj hj').elim
    · rw [hκ2 j hj2] at hj
      rw [hκ1 k' hk'] at hj'
      exact (cross k' j s' s hk' hj2 hj' hj).elim
    · rw [hκ2 j hj2] at hj
      rw [hκ2 j' hj2'] at hj'
      exact h.inj j j' b s s' hj hj'
  · refine ⟨hc.kp.os.trans h.kp.os, hc.kp.tape.trans h.kp.tape, hc.kp.output.trans h.kp.output, Nat.le_trans h.kp.size hc.kp.size, fun i hi hx => ?_⟩
    refine (same i (Nat.lt_of_lt_of_le hi h.kp.size) fun hx2 => ?_).trans (h.kp.block i hi hx)
    rcases range i hx2 with g | g
    · omega
    · exact hx g


/-- A call by reference that may hand over new objects, in the caller's state. -/
theorem callN_sim (h : SK R st a W κ) {f : FuncId} {objs objs' : List (Nat × AObj)} {ρ : Nat → Nat} {args : List AV} {r : AV} (hp : PB P R.G f objs args r objs')
    (hK : ∀ k, isK objs k = true → 1000 ≤ k) (hinj : ∀ k k', isK objs' k = true → isK objs' k' = true → ρ k = ρ k' → k = k')
    (ho : ∀ k o, lk objs k = some o → st.get (ρ k) = some (o.ren ρ)) (hin : ∀ k o, lk objs k = some o → inKO objs o) (hargs : ∀ x ∈ args, inK objs x) (hd : ∀ k, isK objs k = true → isK objs' k = true) (hnw : ∀ k, isK objs' k = true → isK objs k = false → st.get (ρ k) = none)
    {st1 : St} (ht : st1.t = st.t) (hs1 : ∀ k o, lk objs' k = some o → st1.get (ρ k) = some (o.ren ρ)) (hs2 : ∀ j, (∀ k, isK objs' k = true → ρ k ≠ j) → st1.get j = st.get j)
    {vs : Array Value} (ha : CR (st.env R.M κ) W (args.map (AV.ren ρ)) vs.toList) :
    entB P f = true ∧ Calls P f vs W fun e W' => ∃ u κ1, e = .returned u ∧ SK R st1 a W' κ1 ∧ VR (st1.env R.M κ1) W' (r.ren ρ) u := by
  obtain ⟨he, hc⟩ := hp
  obtain ⟨h0, conv⟩ := enterB h hK (fun k k' h1 h2 e => hinj k k' (hd k h1) (hd k' h2) e) ho hin
  have hsz : vs.size = args.length := by have := ha.1; simp at this; omega
  refine ⟨he, (hc (rC objs ρ R st κ W) W (kC objs ρ κ) vs rfl rfl rfl rfl rfl h0 hsz (fun i x u hx hu => conv x u (hargs x (List.mem_of_getElem? hx)) (ha.2 i (x.ren ρ) u (by rw [List.getElem?_map, hx]; rfl) (by simpa using hu)))).mono ?_⟩
  rintro e W' ⟨v, κ', rfl, h1, h2⟩
  obtain ⟨κ1, h3, -, h4⟩ := leaveN h hinj ho hd hnw h1 ht hs1 hs2
  exact ⟨v, κ1, rfl, h3, h4 r v h2⟩
end

section
variable {P : Program} {G : Nat → Option (List AV)} {st : St}

/-- A call of pure trees that hands over new objects. -/
theorem CallSem.objs {f : FuncId} {objs' : List (Nat × AObj)} {args : List AV} {r : AV} (h : PB P G f [] args r objs') (ρ : Nat → Nat) (hinj : (objs'.map fun p => ρ p.1).Nodup) (hnw : ∀ p ∈ objs', st.get (ρ p.1) = none) (hargs : args.all AV.pure = true)
    {r' : AV} {st1 : St} (hr : r' = r.ren ρ) (hs : st1 = setsB ρ objs' st) : CallSem P G st f args r' st1 := by
  subst hr; subst hs
  intro R a W κ vs hG hk ha
  subst hG
  have mem : ∀ k o, lk objs' k = some o → (k, o) ∈ objs' := fun k o h => lk_mem h
  have pure : ∀ x ∈ args, x.pure = true := List.all_eq_true.1 hargs
  have hren : args.map (AV.ren ρ) = args := by
    conv => rhs; rw [← List.map_id args]
    exact List.map_congr_left fun x hx => AV.ren_pure x (pure x hx)
  refine callN_sim hk h (fun k hk => by simp [isK, lk] at hk) (fun k k' h1 h2 e => ?_) (fun k o ho' => by simp [lk] at ho') (fun k o ho' => by simp [lk] at ho') (fun x hx k hk' => by rw [AV.pure_keys x (pure x hx)] at hk'; cases hk') (fun k hk => by simp [isK, lk] at hk) (fun k h1 _ => ?_) (setsB_t ρ _ _)
    (fun k o ho' => setsB_in ρ _ _ k o hinj ho') (fun j hj => setsB_out ρ j _ _ fun p hp => ?_) (by rw [hren]; exact ha)
  · have m1 := lk_isSome.1 h1
    have m2 := lk_isSome.1 h2
    have : (objs'.map (·.1)).map ρ = objs'.map (fun p => ρ p.1) := by simp [List.map_map, Function.comp_def]
    rw [← this] at hinj
    exact inj_of_nodup hinj m1 m2 e
  · obtain ⟨o, h1⟩ := Option.isSome_iff_exists.1 h1
    exact hnw (k, o) (mem k o h1)
  · exact hj p.1 (lk_isSome.2 (List.mem_map.2 ⟨p, hp, rfl⟩))
end
end Go.Proofs.YtdpmioiamcgfkaaDoor
