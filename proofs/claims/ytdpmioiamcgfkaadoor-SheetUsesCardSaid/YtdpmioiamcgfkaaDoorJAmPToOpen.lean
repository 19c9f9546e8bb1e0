/-
  The abstract machine: functions that return what they own. By a single list in new memory (PN), and by any objects (PB with more objects at its end).
-/
import Derived.Test.YtdpmioiamcgfkaaDoorJAmIToAmO
import Derived.RowKit
import Derived.Deep.Slices
import Derived.Lib.SmallJoins
import Derived.OpenShut
set_option linter.unusedSimpArgs false
set_option linter.unusedVariables false
namespace Go.Proofs.YtdpmioiamcgfkaaDoor
open Go.RowKit

/-- The end of a function that keeps objects which 'ok' does not name. -/
def FinO (ok : Nat → Bool) (rs : List RRes) (r : AV) (objs' : List (Nat × AObj)) : Exit → St → Prop
  | .normal, st | .ret, st => ∃ xs, evRess st rs = some xs ∧ r = tupV (xs.map (frzA ok ⟨iniT 0 xs, st.o⟩)) ∧ (frzSt ok ⟨iniT 0 xs, st.o⟩).o = objs'
  | _, _ => False

section
variable {P : Program}
theorem PBo_of (ok : Nat → Bool) (hok : ∀ k, ok k = true → k < 1000) {G : Nat → Option (List AV)} {f : FuncId} {fn : Func} {c : Code} {rc : RCode} {rs : List RRes} {objs objs' : List (Nat × AObj)} {args : List AV} {r : AV} (hf : P.funcs[f]? = some fn) (hb : fn.body = some c) (he : entB P f = true)
    (hc : okCode P fn.ntmps c rc = true) (hrs : allB2 (okRes P) fn.results.toList rs = true) (hn : args.length ≤ fn.ntmps)
    (h : ∀ R : Run, R.N = fn.ntmps → R.G = G → R.Top → AR P R rc ⟨iniT 0 args, objs⟩ (FinO ok rs r objs')) : PB P G f objs args r objs' := by
  refine ⟨he, fun R0 W κ vs hG hN hW hX hE hk hsz hvs => ?_⟩
  refine callsIn_wide.1 (callsIn_of_wp_marks (F := FW none) (n := 1) hf hb trivial ?_)
  let R : Run := { R0 with N := fn.ntmps, rd := none, nm := false }
  have hD0 : R0.D = [] := by
    obtain ⟨cs, e, -⟩ := hk.defers
    exact (List.append_eq_nil_iff.1 e.symm).2
  have h0 : SK R ⟨iniT 0 args, objs⟩ { tmps := vs ++ Array.replicate (fn.ntmps - vs.size) Go.undef, defers := [] } W κ := by
    refine ⟨hk.defers.weak, by show (vs ++ _).size = fn.ntmps; simp; omega, fun n x hx => ?_, hk.obj, hk.dom, hk.inj, hk.low, hk.apart, hk.kp, hk.gr, hk.mono, hk.ent⟩
    simp only [St.tmp, iniT_lk, Nat.zero_le, if_true, Nat.sub_zero] at hx
    show VR _ W x ((vs ++ Array.replicate (fn.ntmps - vs.size) Go.undef).getD n Go.undef)
    rw [Array.getD_eq_getD_getElem?, Array.getElem?_append]
    have c1 : n < args.length := (List.getElem?_eq_some_iff.1 hx).1
    rw [if_pos (by omega)]
    have : vs[n]? = some vs[n] := by simp
    rw [this]
    exact hvs n x _ hx this
  refine wpIn_mono (h R rfl hG ⟨rfl, rfl⟩ c hc 1 _ W ⟨_, h0⟩) ?_
  have key : ∀ (a' : Act) (W' : World) (st' : St), (∃ xs, evRess st' rs = some xs ∧ r = tupV (xs.map (frzA ok ⟨iniT 0 xs, st'.o⟩)) ∧ (frzSt ok ⟨iniT 0 xs, st'.o⟩).o = objs') → SR R st' a' W' →
      ∃ u, (results fn a'.tmps).run P W' = .ok u W' ∧ ∃ v κ', Ending.returned u = .returned v ∧ SK R0 (obSt objs') noAct W' κ' ∧ VR ((obSt objs').env R0.M κ') W' r v := by
    rintro a' W' st' ⟨xs0, h1, rfl, h3⟩ ⟨κ0, hk0⟩
    obtain ⟨us, h4, h50⟩ := ress_run (P := P) hk0 hrs h1
    have hl0 : us.length = xs0.length := by have := h50.1; omega
    have h20 : SK { R with N := us.length } ⟨iniT 0 xs0, st'.o⟩ { tmps := us.toArray, defers := a'.defers } W' κ0 := by
      refine ⟨hk0.defers, by simp, fun n x hx => ?_, hk0.obj, hk0.dom, hk0.inj, hk0.low, hk0.apart, hk0.kp, hk0.gr, hk0.mono, hk0.ent⟩
      simp only [St.tmp, iniT_lk, Nat.zero_le, if_true, Nat.sub_zero] at hx
      have hlt : n < us.length := by have := (List.getElem?_eq_some_iff.1 hx).1; omega
      have : us.toArray.getD n Go.undef = us[n] := by simp [Array.getD, hlt]
      rw [this]
      exact h50.2 n x _ hx (List.getElem?_eq_getElem hlt)
    obtain ⟨κ', hk'⟩ := Weak.frz ok ⟨iniT 0 xs0, st'.o⟩ (fun k hk => by exact Bool.eq_false_iff.2 fun e => by have := hok k e; omega) _ _ W' ⟨κ0, h20⟩
    obtain ⟨xs, hxs⟩ : ∃ xs, xs = xs0.map (frzA ok ⟨iniT 0 xs0, st'.o⟩) := ⟨_, rfl⟩
    rw [← hxs]
    have h5 : CR ((frzSt ok ⟨iniT 0 xs0, st'.o⟩).env R.M κ') W' xs us := by
      refine ⟨by rw [hxs]; simp; omega, fun i x u hx hu => ?_⟩
      have hlt : i < us.length := (List.getElem?_eq_some_iff.1 hu).1
      have := hk'.tm i x (by
        simp only [frzSt, St.tmp, lk_map, iniT_lk, Nat.zero_le, if_true, Nat.sub_zero]
        rw [hxs, List.getElem?_map] at hx
        exact hx)
      have e : us.toArray.getD i Go.undef = u := by
        rw [List.getElem?_eq_getElem hlt] at hu
        simp only [Option.some.injEq] at hu
        simp [Array.getD, hlt, hu]
      have this : VR ((frzSt ok ⟨iniT 0 xs0, st'.o⟩).env R.M κ') W' x (us.toArray.getD i Go.undef) := this
      rwa [e] at this
    have henv : (frzSt ok ⟨iniT 0 xs0, st'.o⟩).env R.M κ' = (obSt objs').env R0.M κ' := by subst h3; rfl
    have hl : us.length = xs.length := by have := h5.1; omega
    refine ⟨(if h : us.toArray.size = 1 then us.toArray[0] else .tuple us.toArray), ?_, _, κ', rfl, ?_, ?_⟩
    · unfold results
      rw [Sem.run_bind]
      have : (fn.results.mapM fun rv => (match rv with
        | .tmp t => pure (a'.tmps.getD t Go.undef)
        | .cell p t => do loadVar t (← asAddr (a'.tmps.getD p Go.undef)) : Sem Value)).run P W' = .ok us.toArray W' := by
        rw [Array.mapM_eq_mapM_toList, Sem.run_map]
        exact congrArg (fun z => Result.andThen z (fun a w' => Result.ok a.toArray w')) h4
      erw [this]
      rfl
    · have g := hk'.sub (t' := []) (fun n x hx => by simp [lk] at hx)
      have e : ({ frzSt ok ⟨iniT 0 xs0, st'.o⟩ with t := [] } : St) = obSt objs' := by subst h3; rfl
      rw [e] at g
      exact ⟨by rw [hD0]; exact .nil _ _ _ _, by show (#[] : Array Value).size = R0.N; rw [hN]; rfl, fun n x hx => by simp [obSt, St.tmp, lk] at hx, g.obj, g.dom, g.inj, g.low, g.apart, g.kp, g.gr, g.mono, g.ent⟩
    · rw [← henv]
      match xs, us, hl, h5 with
      | [], [], _, _ => exact .tup [] _ rfl (by simp)
      | [y], [u], _, h5 => exact h5.2 0 y u rfl rfl
      | y :: y2 :: ys, u :: u2 :: us, hl, h5 =>
        rw [dif_neg (by simp)]
        exact .tup _ _ (by simpa using hl) (fun i x w hx hw => h5.2 i x w hx (by simpa using hw))
  rintro e a' W' ⟨st', h1, κ2, h2⟩
  cases e <;> try (exact h1.elim)
  all_goals
    refine h2.leave (by simp) (show R.D = [] from hD0) fun a2 W2 ht hs2 => ?_
    have := key a2 W2 st' h1 ⟨κ2, hs2⟩
    rw [ht] at this
    exact this

end

theorem AV.pure_keys : ∀ x : AV, x.pure = true → x.keys = []
  | .func fn xs ys, h => by
    simp only [AV.pure, Bool.and_eq_true, List.all_eq_true, List.mem_attach, forall_const, Subtype.forall] at h
    simp only [AV.keys, List.append_eq_nil_iff, List.flatMap_eq_nil_iff, List.mem_attach, forall_const, Subtype.forall]
    exact ⟨fun x hx => AV.pure_keys x (h.1 x hx), fun x hx => AV.pure_keys x (h.2 x hx)⟩
  | .agg xs, h | .tup xs, h => by
    simp only [AV.pure, List.all_eq_true, List.mem_attach, forall_const, Subtype.forall] at h
    simp only [AV.keys, List.flatMap_eq_nil_iff, List.mem_attach, forall_const, Subtype.forall]
    exact fun x hx => AV.pure_keys x (h x hx)
  | .hole, _ | .int .., _ | .bool _, _ | .abool, _ | .str _, _ | .nilp, _ | .nils, _ | .nilm, _ | .nilf, _ | .vptr .., _ | .vsl _, _ | .vmap _, _ => by simp [AV.keys]
  | .undef, h | .ptr .., h | .eptr .., h | .osl .., h | .mp _, h => by simp [AV.pure] at h

/-- Rows of plain values lie the same for whoever owns them. -/
theorem ObjR.anyE {E E' : Env} {W : World} {b s sz : Nat} {rows : List (List AV)} (hf : ∀ r ∈ rows, ∀ x ∈ r, x.flat = true) (hp : ∀ r ∈ rows, ∀ x ∈ r, x.pure = true) (h : ObjR E W b s (.row sz rows)) : ObjR E' W b s (.row sz rows) := by
  obtain ⟨h1, cs, t, h2, h3, h4⟩ := h
  refine ⟨h1, cs, t, h2, h3, fun i j r x hi hj => (h4 i j r x hi hj).imp fun v hv => ⟨hv.1, ?_⟩⟩
  have hr := List.mem_of_getElem? hi
  have hx := List.mem_of_getElem? hj
  exact .pv ((hv.2.toPV (hp r hr x hx)).flat (hf r hr x hx))

/-- The end of a function that returns a list in new memory. -/
def FinN (rs : List RRes) (sz : Nat) (rows : List (List AV)) : Exit → St → Prop
  | .normal, st | .ret, st => ∃ k, evRess st rs = some [.osl k rows.length] ∧ st.get k = some (.row sz rows)
  | _, _ => False

theorem PN_of {P : Program} {G : Nat → Option (List AV)} {f : FuncId} {fn : Func} {c : Code} {rc : RCode} {rs : List RRes} {args : List AV} {sz : Nat} {rows : List (List AV)} (hfl : ∀ r ∈ rows, ∀ x ∈ r, x.flat = true) (hpu : ∀ r ∈ rows, ∀ x ∈ r, x.pure = true)
    (hf : P.funcs[f]? = some fn) (hb : fn.body = some c) (he : entB P f = true)
    (hc : okCode P fn.ntmps c rc = true) (hrs : allB2 (okRes P) fn.results.toList rs = true) (hn : args.length ≤ fn.ntmps)
    (h : ∀ R : Run, R.N = fn.ntmps → R.G = G → R.Top → AR P R rc (initSt args) (FinN rs sz rows)) : PN P G f args sz rows := by
  refine ⟨he, fun M W vs hM hG hsz hvs => ?_⟩
  refine callsIn_wide.1 (callsIn_of_wp_marks (F := FW none) (n := 1) hf hb trivial ?_)
  let R : Run := { G := G, M := M, X := fun _ => False, W0 := W, N := fn.ntmps, E0 := { M := M, loc := fun _ => none, row := fun _ => none } }
  have h0 : SK R (initSt args) { tmps := vs ++ Array.replicate (fn.ntmps - vs.size) Go.undef, defers := [] } W (fun _ => none) := by
    have hGM : ∀ b, b < W.heap.size → ¬ M b → ¬ ((initSt args).env M (fun _ => none)).M b ∧ W.heap[b]? = W.heap[b]? := fun b _ h1 => ⟨(by rintro (h2 | ⟨k, s, h2⟩) <;> first | exact h1 h2 | cases h2), rfl⟩
    refine ⟨.nil _ _ _ _, by show (vs ++ _).size = fn.ntmps; simp; omega, fun n x hx => ?_, (fun k o ho => by simp [initSt, St.get, lk] at ho), (fun k p hk => by cases hk), (fun k k' b s s' hk => by cases hk), hM, fun _ _ h => h, Kp.refl _ _, hG.mono hGM (Nat.le_refl _), ⟨Nat.le_refl _, hGM, fun k p hk => (by cases hk), fun k sz m hk => (by cases hk)⟩, fun _ _ => ⟨rfl, rfl⟩⟩
    simp only [initSt, St.tmp, iniT_lk, Nat.zero_le, if_true, Nat.sub_zero] at hx
    show VR _ W x ((vs ++ Array.replicate (fn.ntmps - vs.size) Go.undef).getD n Go.undef)
    rw [Array.getD_eq_getD_getElem?, Array.getElem?_append]
    have c1 : n < args.length := (List.getElem?_eq_some_iff.1 hx).1
    rw [if_pos (by omega)]
    have : vs[n]? = some vs[n] := by simp
    rw [this]
    exact .pv ((hvs n x _ hx this).mono hGM (Nat.le_refl _))
  refine wpIn_mono (h R rfl rfl ⟨rfl, rfl⟩ c hc 1 _ W ⟨_, h0⟩) ?_
  have key : ∀ (a' : Act) (W' : World) (st' : St), (∃ k, evRess st' rs = some [.osl k rows.length] ∧ st'.get k = some (.row sz rows)) → SR R st' a' W' →
      ∃ u, (results fn a'.tmps).run P W' = .ok u W' ∧ ∃ b s cs t c, Ending.returned u = .returned (.slice (some ⟨b, s, none⟩) rows.length c) ∧ Ext W W' ∧ W.heap.size ≤ b ∧ b < W'.heap.size ∧
      rows.length ≤ c ∧ c ≤ maxLen ∧ W'.heap[b]? = some (.cells cs t (0, 0)) ∧ s + c * sz ≤ cs.size ∧ ∀ E : Env, ObjR E W' b s (.row sz rows) := by
    rintro a' W' st' ⟨k, h1, h2⟩ ⟨κ, hk⟩
    obtain ⟨us, h3, h4⟩ := ress_run (P := P) hk hrs h1
    have hE : Ext W W' := ⟨hk.kp.os, hk.kp.tape, hk.kp.output, hk.kp.size, fun i hi => hk.kp.block i hi (fun h => h)⟩
    obtain ⟨u, rfl⟩ : ∃ u, us = [u] := by
      have := h4.1
      match us, this with
      | [u], _ => exact ⟨u, rfl⟩
    have hu := h4.2 0 _ u rfl rfl
    obtain ⟨b, s, g1, g2, g3, g4⟩ := hk.obj k _ h2
    have g3 : W.heap.size ≤ b := g3.resolve_right (fun h => h)
    obtain ⟨b', s', c, cs, t, q1, q2, q3, q4, q5, q6⟩ : ∃ b' s' c cs t, u = .slice (some ⟨b', s', none⟩) rows.length c ∧ κ k = some (b', s') ∧ rows.length ≤ c ∧ c ≤ maxLen ∧ W'.heap[b']? = some (.cells cs t (0, 0)) ∧ s' + c * sz ≤ cs.size := by
      generalize hx : AV.osl k rows.length = x at hu
      cases hu with
      | pv hp => subst hx; cases hp
      | osl k2 n sz2 m a l c hr hn' he' =>
        cases hx
        have hr : (st'.get k).bind AObj.dim = some (sz2, m) := hr
        rw [h2] at hr
        have hr : some (sz, rows.length) = some (sz2, m) := hr
        simp only [Option.some.injEq, Prod.mk.injEq] at hr
        obtain ⟨rfl, rfl⟩ := hr
        obtain ⟨b', s', cs, t, e1, e2, e3, e4, e5, e6, e7⟩ := he' rfl
        subst e2; subst e3
        exact ⟨b', s', c, cs, t, rfl, e1, e4, e5, e6, e7⟩
      | _ => cases hx
    rw [g1] at q2
    cases q2
    subst q1
    refine ⟨.slice (some ⟨b, s, none⟩) rows.length c, ?_, b, s, cs, t, c, rfl, hE, g3, g2, q3, q4, q5, q6, fun E => g4.anyE hfl hpu⟩
    unfold results
    rw [Sem.run_bind]
    have : (fn.results.mapM fun rv => (match rv with
      | .tmp t => pure (a'.tmps.getD t Go.undef)
      | .cell p t => do loadVar t (← asAddr (a'.tmps.getD p Go.undef)) : Sem Value)).run P W' = .ok #[.slice (some ⟨b, s, none⟩) rows.length c] W' := by
      rw [Array.mapM_eq_mapM_toList, Sem.run_map]
      exact congrArg (fun z => Result.andThen z (fun a w' => Result.ok a.toArray w')) h3
    erw [this]
    rfl
  rintro e a' W' ⟨st', h1, κ, h2⟩
  cases e <;> try (exact h1.elim)
  all_goals
    refine h2.leave (by simp) rfl fun a2 W2 ht hs2 => ?_
    have := key a2 W2 st' h1 ⟨κ, hs2⟩
    rw [ht] at this
    exact this

section
variable {P : Program} {R : Run} {st : St} {a : Act} {W : World} {κ : Nat → Option (Nat × Nat)}

theorem leaveN (h : SK R st a W κ) {objs objs' : List (Nat × AObj)} {ρ : Nat → Nat} (hinj : ∀ k k', isK objs' k = true → isK objs' k' = true → ρ k = ρ k' → k = k')
    (ho : ∀ k o, lk objs k = some o → st.get (ρ k) = some (o.ren ρ)) (hd : ∀ k, isK objs k = true → isK objs' k = true) (hnw : ∀ k, isK objs' k = true → isK objs k = false → st.get (ρ k) = none) {κ' : Nat → Option (Nat × Nat)} {W' : World} (hc : SK (rC objs ρ R st κ W) (obSt objs') noAct W' κ')
    {st1 : St} (ht : st1.t = st.t) (hs1 : ∀ k o, lk objs' k = some o → st1.get (ρ k) = some (o.ren ρ)) (hs2 : ∀ j, (∀ k, isK objs' k = true → ρ k ≠ j) → st1.get j = st.get j) :
    ∃ κ1, SK R st1 a W' κ1 ∧ Mono (st.env R.M κ) W (st1.env R.M κ1) W' ∧ ∀ (x : AV) (v : Value), VR ((obSt objs').env (mC objs ρ R st κ) κ') W' x v → VR (st1.env R.M κ1) W' (x.ren ρ) v := by
  classical
  let κ1 : Nat → Option (Nat × Nat) := fun j => if e : ∃ k, isK objs' k = true ∧ ρ k = j then κ' (Classical.choose e) else κ j
  have hκ1 : ∀ k, isK objs' k = true → κ1 (ρ k) = κ' k := fun k hk => by
    have e : ∃ k', isK objs' k' = true ∧ ρ k' = ρ k := ⟨k, hk, rfl⟩
    simp only [κ1, dif_pos e]
    rw [hinj _ _ (Classical.choose_spec e).1 hk (Classical.choose_spec e).2]
  have hκ2 : ∀ j, (∀ k, isK objs' k = true → ρ k ≠ j) → κ1 j = κ j := fun j hj => by
    have e : ¬ ∃ k, isK objs' k = true ∧ ρ k = j := fun ⟨k, h1, h2⟩ => hj k h1 h2
    simp only [κ1, dif_neg e]
  have split : ∀ j, (∃ k, isK objs' k = true ∧ ρ k = j) ∨ (∀ k, isK objs' k = true → ρ k ≠ j) := fun j => by
    by_cases e : ∃ k, isK objs' k = true ∧ ρ k = j
    · exact .inl e
    · exact .inr fun k h1 h2 => e ⟨k, h1, h2⟩
  have kc : ∀ k, isK objs k = true → kC objs ρ κ k = κ (ρ k) := fun k hk => by simp only [kC, hk, if_true]
  have kcK : ∀ k p, kC objs ρ κ k = some p → isK objs k = true ∧ κ (ρ k) = some p := fun k p hk => by
    simp only [kC] at hk
    split at hk
    · rename_i e; exact ⟨e, hk⟩
    · cases hk
  have domK : ∀ k p, κ' k = some p → isK objs' k = true := fun k p hk => by
    exact Option.isSome_iff_exists.2 (hc.dom k p hk)
  have xE : ∀ b, (∃ k s, kC objs ρ κ k = some (b, s)) → (st.env R.M κ).M b := fun b ⟨k, s, hk⟩ => .inr ⟨ρ k, s, (kcK k _ hk).2⟩
  have range : ∀ b, (∃ k s, kC objs ρ κ k = some (b, s)) → R.W0.heap.size ≤ b ∨ R.X b := fun b ⟨k, s, hk⟩ => by
    obtain ⟨-, h2⟩ := kcK k _ hk
    obtain ⟨o, h3⟩ := h.dom _ _ h2
    obtain ⟨b', s', g1, g2, g3, -⟩ := h.obj _ _ h3
    rw [h2] at g1
    simp only [Option.some.injEq, Prod.mk.injEq] at g1
    obtain ⟨rfl, rfl⟩ := g1
    exact g3
  have F1 : ∀ b, (st1.env R.M κ1).M b → ((obSt objs').env (mC objs ρ R st κ) κ').M b := fun b hb => by
    rcases hb with hb | ⟨j, s, hj⟩
    · refine .inl ⟨.inl hb, fun hx => ?_⟩
      rcases range b hx with h1 | h1
      · have := h.low b hb; omega
      · exact h.apart b hb h1
    · rcases split j with ⟨k, hk, rfl⟩ | hj2
      · rw [hκ1 k hk] at hj; exact .inr ⟨k, s, hj⟩
      · rw [hκ2 j hj2] at hj
        refine .inl ⟨.inr ⟨j, s, hj⟩, fun ⟨k, s2, hk⟩ => ?_⟩
        obtain ⟨h1, h2⟩ := kcK k _ hk
        exact hj2 k (hd k h1) (h.inj _ _ b s2 s h2 hj)
  have row1 : ∀ k, isK objs' k = true → (st1.env R.M κ1).row (ρ k) = ((obSt objs').env (mC objs ρ R st κ) κ').row k := fun k hk => by
    obtain ⟨o, h1⟩ := Option.isSome_iff_exists.1 hk
    show (st1.get (ρ k)).bind AObj.dim = (lk objs' k).bind AObj.dim
    rw [h1, hs1 k o h1]
    exact AObj.ren_dim o
  have row0 : ∀ k, isK objs k = true → (st.env R.M κ).row (ρ k) = ((obSt objs).env (mC objs ρ R st κ) (kC objs ρ κ)).row k := fun k hk => by
    obtain ⟨o, h1⟩ := Option.isSome_iff_exists.1 hk
    show (st.get (ρ k)).bind AObj.dim = (lk objs k).bind AObj.dim
    rw [h1, ho k o h1]
    exact AObj.ren_dim o
  have rowK : ∀ k q, ((obSt objs').env (mC objs ρ R st κ) κ').row k = some q → isK objs' k = true := fun k q hk => by
    have hk : (lk objs' k).bind AObj.dim = some q := hk
    cases e : lk objs' k with
    | none => rw [e] at hk; cases hk
    | some o => simp [isK, e]
  have conv : ∀ (x : AV) (v : Value), VR ((obSt objs').env (mC objs ρ R st κ) κ') W' x v → VR (st1.env R.M κ1) W' (x.ren ρ) v := fun x v hv =>
    VR.toCaller (fun b hb hb' => hb (F1 b hb')) (fun k p hk => (hκ1 k (domK k p hk)).trans hk) (fun k q hk => ⟨(row1 k (rowK k q hk)).trans hk, hκ1 k (rowK k q hk)⟩) (fun k p hk hr => (row1 k (domK k p hk)).trans hr) hv
  have same : ∀ b, b < W.heap.size → ¬ (∃ k s, kC objs ρ κ k = some (b, s)) → W'.heap[b]? = W.heap[b]? := fun b hb hx => hc.kp.block b hb hx
  have apartK : ∀ j b s, (∀ k, isK objs' k = true → ρ k ≠ j) → κ j = some (b, s) → ¬ (∃ k s, kC objs ρ κ k = some (b, s)) := fun j b s hj hb ⟨k, s2, hk⟩ => by
    obtain ⟨h1, h2⟩ := kcK k _ hk
    exact hj k (hd k h1) (h.inj _ _ b s2 s h2 hb)
  have m : Mono (st.env R.M κ) W (st1.env R.M κ1) W' := by
    refine ⟨hc.kp.size, fun b hb hM => ⟨fun hM1 => ?_, same b hb fun hx => hM (xE b hx)⟩, fun j p hj hr => ?_, fun j sz m hj => ?_⟩
    · rcases F1 b hM1 with h1 | ⟨k, s, h1⟩
      · exact hM h1.1
      · obtain ⟨o, h2⟩ := hc.dom k _ h1
        obtain ⟨b', s', g1, g2, g3, -⟩ := hc.obj k o h2
        rw [h1] at g1
        simp only [Option.some.injEq, Prod.mk.injEq] at g1
        obtain ⟨rfl, rfl⟩ := g1
        rcases g3 with g3 | g3
        · have g3 : W.heap.size ≤ b := g3; omega
        · exact hM (xE b g3)
    · rcases split j with ⟨k, hk, rfl⟩ | hj2
      · have hk0 : isK objs k = true := by
          cases e : isK objs k
          · obtain ⟨o, ho'⟩ := h.dom _ _ hj; rw [hnw k hk e] at ho'; cases ho'
          · rfl
        obtain ⟨g1, g2⟩ := hc.mono.box k p ((kc k hk0).trans hj) ((row0 k hk0).symm.trans hr)
        exact ⟨(hκ1 k hk).trans g1, (row1 k hk).trans g2⟩
      · exact ⟨(hκ2 j hj2).trans hj, by show (st1.get j).bind AObj.dim = none; rw [hs2 j hj2]; exact hr⟩
    · rcases split j with ⟨k, hk, rfl⟩ | hj2
      · have hk0 : isK objs k = true := by
          cases e : isK objs k
          · have hj : (st.get (ρ k)).bind AObj.dim = _ := hj
            rw [hnw k hk e] at hj; cases hj
          · rfl
        obtain ⟨m', g1, g2, g3⟩ := hc.mono.row k sz m ((row0 k hk0).symm.trans hj)
        refine ⟨m', (row1 k hk).trans g1, g2, fun e b s cs t hl => ?_⟩
        obtain ⟨g4, g5⟩ := g3 e b s cs t ((kc k hk0).trans hl)
        exact ⟨(hκ1 k hk).trans g4, g5⟩
      · refine ⟨m, by show (st1.get j).bind AObj.dim = some (sz, m); rw [hs2 j hj2]; exact hj, Nat.le_refl _, fun _ b s cs t hl => ⟨(hκ2 j hj2).trans hl, fun hw => ⟨cs, (same b (h.loc_lt hl) (apartK j b s hj2 hl)).trans hw, rfl⟩⟩⟩
  refine ⟨κ1, ⟨h.defers.of fun c hc' => (same c (Array.getElem?_eq_some_iff.1 hc').1 fun ⟨k, s, hk⟩ => h.notdf (kcK k _ hk).2 hc').trans hc', h.size, fun n x hx => (h.tm n x (by simp only [St.tmp, ← ht]; exact hx)).mono m, fun j o hj => ?_, fun j p hj => ?_, fun j j' b s s' hj hj' => ?_, h.low, h.apart, ?_, h.gr.mono m.imm m.size, h.mono.trans m, h.ent⟩, m, conv⟩
  · rcases split j with ⟨k, hk, rfl⟩ | hj2
    · obtain ⟨o0, e0⟩ := Option.isSome_iff_exists.1 hk
      rw [hs1 k o0 e0] at hj
      simp only [Option.some.injEq] at hj
      subst hj
      obtain ⟨b, s, g1, g2, g3, g4⟩ := hc.obj k o0 e0
      refine ⟨b, s, (hκ1 k hk).trans g1, g2, ?_, ?_⟩
      · rcases g3 with g3 | g3
        · exact .inl (Nat.le_trans h.kp.size g3)
        · exact range b g3
      · cases o0 with
        | box cells =>
          obtain ⟨g0, cs, t, g5, g6, g7⟩ := g4
          refine ⟨g0, cs, t, g5, by simpa [AObj.ren] using g6, fun j x hj => ?_⟩
          rw [List.getElem?_map, Option.map_eq_some_iff] at hj
          obtain ⟨x0, g8, rfl⟩ := hj
          obtain ⟨v, g9, g10⟩ := g7 j x0 g8
          exact ⟨v, g9, conv _ _ g10⟩
        | row sz rows =>
          obtain ⟨g0, cs, t, g5, g6, g7⟩ := g4
          refine ⟨fun r hr => ?_, cs, t, g5, by simpa [AObj.ren] using g6, fun i j r x hi hj => ?_⟩
          · obtain ⟨r0, g8, rfl⟩ := List.mem_map.1 hr
            simpa using g0 r0 g8
          · rw [List.getElem?_map, Option.map_eq_some_iff] at hi
            obtain ⟨r0, g8, rfl⟩ := hi
            rw [List.getElem?_map, Option.map_eq_some_iff] at hj
            obtain ⟨x0, g9, rfl⟩ := hj
            obtain ⟨v, g10, g11⟩ := g7 i j r0 x0 g8 g9
            exact ⟨v, g10, conv _ _ g11⟩
        | mp kvs =>
          obtain ⟨g0, es, t, g5, g6, g7, g8⟩ := g4
          refine ⟨g0, es, t, g5, g6, by simpa [AObj.ren] using g7, fun i x y hi => ?_⟩
          rw [List.getElem?_map, Option.map_eq_some_iff] at hi
          obtain ⟨p, g9, g10⟩ := hi
          cases g10
          obtain ⟨e, g11, g12, g13⟩ := g8 i p.1 p.2 g9
          exact ⟨e, g11, conv _ _ g12, conv _ _ g13⟩
    · rw [hs2 j hj2] at hj
      obtain ⟨b, s, g1, g2, g3, g4⟩ := h.obj j o hj
      exact ⟨b, s, (hκ2 j hj2).trans g1, Nat.lt_of_lt_of_le g2 m.size, g3, g4.mono m (same b g2 (apartK j b s hj2 g1))⟩
  · rcases split j with ⟨k, hk, rfl⟩ | hj2
    · rw [hκ1 k hk] at hj
      obtain ⟨o, g1⟩ := hc.dom k p hj
      exact ⟨_, hs1 k o g1⟩
    · rw [hκ2 j hj2] at hj
      rw [hs2 j hj2]
      exact h.dom j p hj
  · have cross : ∀ k j' s s', isK objs' k = true → (∀ k, isK objs' k = true → ρ k ≠ j') → κ' k = some (b, s) → κ j' = some (b, s') → False := fun k j' s s' hk hj2 g1 g2 => by
      obtain ⟨o, g3⟩ := hc.dom k _ g1
      obtain ⟨b', s2, g4, g5, g6, -⟩ := hc.obj k o g3
      rw [g1] at g4
      simp only [Option.some.injEq, Prod.mk.injEq] at g4
      obtain ⟨rfl, rfl⟩ := g4
      rcases g6 with g6 | g6
      · have g6 : W.heap.size ≤ b := g6
        have := h.loc_lt g2; omega
      · exact apartK j' b s' hj2 g2 g6
    rcases split j with ⟨k, hk, rfl⟩ | hj2 <;> rcases split j' with ⟨k', hk', rfl⟩ | hj2'
    · rw [hκ1 k hk] at hj
      rw [hκ1 k' hk'] at hj'
      rw [hc.inj k k' b s s' hj hj']
    · rw [hκ1 k hk] at hj
      rw [hκ2 j' hj2'] at hj'
      exact (cross k j' s s' hk hj2' hj hj').elim
    · rw [hκ2 j hj2] at hj
      rw [hκ1 k' hk'] at hj'
      exact (cross k' j s' s hk' hj2 hj' hj).elim
    · rw [hκ2 j hj2] at hj
      rw [hκ2 j' hj2'] at hj'
      exact h.inj j j' b s s' hj hj'
  · refine ⟨hc.kp.os.trans h.kp.os, hc.kp.tape.trans h.kp.tape, hc.kp.output.trans h.kp.output, Nat.le_trans h.kp.size hc.kp.size, fun i hi hx => ?_⟩
    refine (same i (Nat.lt_of_lt_of_le hi h.kp.size) fun hx2 => ?_).trans (h.kp.block i hi hx)
    rcases range i hx2 with g | g
    · omega
    · exact hx g


/-- A call by reference that may hand over new objects, in the caller's state. -/
theorem callN_sim (h : SK R st a W κ) {f : FuncId} {objs objs' : List (Nat × AObj)} {ρ : Nat → Nat} {args : List AV} {r : AV} (hp : PB P R.G f objs args r objs')
    (hK : ∀ k, isK objs k = true → 1000 ≤ k) (hinj : ∀ k k', isK objs' k = true → isK objs' k' = true → ρ k = ρ k' → k = k')
    (ho : ∀ k o, lk objs k = some o → st.get (ρ k) = some (o.ren ρ)) (hin : ∀ k o, lk objs k = some o → inKO objs o) (hargs : ∀ x ∈ args, inK objs x) (hd : ∀ k, isK objs k = true → isK objs' k = true) (hnw : ∀ k, isK objs' k = true → isK objs k = false → st.get (ρ k) = none)
    {st1 : St} (ht : st1.t = st.t) (hs1 : ∀ k o, lk objs' k = some o → st1.get (ρ k) = some (o.ren ρ)) (hs2 : ∀ j, (∀ k, isK objs' k = true → ρ k ≠ j) → st1.get j = st.get j)
    {vs : Array Value} (ha : CR (st.env R.M κ) W (args.map (AV.ren ρ)) vs.toList) :
    entB P f = true ∧ Calls P f vs W fun e W' => ∃ u κ1, e = .returned u ∧ SK R st1 a W' κ1 ∧ VR (st1.env R.M κ1) W' (r.ren ρ) u := by
  obtain ⟨he, hc⟩ := hp
  obtain ⟨h0, conv⟩ := enterB h hK (fun k k' h1 h2 e => hinj k k' (hd k h1) (hd k' h2) e) ho hin
  have hsz : vs.size = args.length := by have := ha.1; simp at this; omega
  refine ⟨he, (hc (rC objs ρ R st κ W) W (kC objs ρ κ) vs rfl rfl rfl rfl rfl h0 hsz (fun i x u hx hu => conv x u (hargs x (List.mem_of_getElem? hx)) (ha.2 i (x.ren ρ) u (by rw [List.getElem?_map, hx]; rfl) (by simpa using hu)))).mono ?_⟩
  rintro e W' ⟨v, κ', rfl, h1, h2⟩
  obtain ⟨κ1, h3, -, h4⟩ := leaveN h hinj ho hd hnw h1 ht hs1 hs2
  exact ⟨v, κ1, rfl, h3, h4 r v h2⟩
end

section
variable {P : Program} {G : Nat → Option (List AV)} {st : St}

/-- A call of pure trees that hands over new objects. -/
theorem CallSem.objs {f : FuncId} {objs' : List (Nat × AObj)} {args : List AV} {r : AV} (h : PB P G f [] args r objs') (ρ : Nat → Nat) (hinj : (objs'.map fun p => ρ p.1).Nodup) (hnw : ∀ p ∈ objs', st.get (ρ p.1) = none) (hargs : args.all AV.pure = true)
    {r' : AV} {st1 : St} (hr : r' = r.ren ρ) (hs : st1 = setsB ρ objs' st) : CallSem P G st f args r' st1 := by
  subst hr; subst hs
  intro R a W κ vs hG hk ha
  subst hG
  have mem : ∀ k o, lk objs' k = some o → (k, o) ∈ objs' := fun k o h => lk_mem h
  have pure : ∀ x ∈ args, x.pure = true := List.all_eq_true.1 hargs
  have hren : args.map (AV.ren ρ) = args := by
    conv => rhs; rw [← List.map_id args]
    exact List.map_congr_left fun x hx => AV.ren_pure x (pure x hx)
  refine callN_sim hk h (fun k hk => by simp [isK, lk] at hk) (fun k k' h1 h2 e => ?_) (fun k o ho' => by simp [lk] at ho') (fun k o ho' => by simp [lk] at ho') (fun x hx k hk' => by rw [AV.pure_keys x (pure x hx)] at hk'; cases hk') (fun k hk => by simp [isK, lk] at hk) (fun k h1 _ => ?_) (setsB_t ρ _ _)
    (fun k o ho' => setsB_in ρ _ _ k o hinj ho') (fun j hj => setsB_out ρ j _ _ fun p hp => ?_) (by rw [hren]; exact ha)
  · have m1 := lk_isSome.1 h1
    have m2 := lk_isSome.1 h2
    have : (objs'.map (·.1)).map ρ = objs'.map (fun p => ρ p.1) := by simp [List.map_map, Function.comp_def]
    rw [← this] at hinj
    exact inj_of_nodup hinj m1 m2 e
  · obtain ⟨o, h1⟩ := Option.isSome_iff_exists.1 h1
    exact hnw (k, o) (mem k o h1)
  · exact hj p.1 (lk_isSome.2 (List.mem_map.2 ⟨p, hp, rfl⟩))
end
end Go.Proofs.YtdpmioiamcgfkaaDoor

/-! The abstract machine: a region whose order is drawn but for its last operations. -/
namespace Go.Proofs.YtdpmioiamcgfkaaDoor
open Go.RowKit

section
variable {P : Program} {R : Run} {rs : List ROper} {S : Nat → St}

theorem any_head {rd : Option Nat} {mm : Nat} {ops : Array Oper} {Q : Exit → Act → World → Prop} (hS : ∀ (i : Nat) (r : ROper), rs[i]? = some r → Stp P R.G r (S i) (S (i + 1))) (hl : rs.length ≤ ops.size)
    (hok : ∀ (i : Nat) (r : ROper), rs[i]? = some r → ∃ o, ops[i]? = some o ∧ okOper P R.N ops o r = true ∧ (o.after.toList.filter (Region.binds .any ·)).map (·.on) = r.aft)
    (hi : indepB ((List.range rs.length).map fun i => recOf R.G (rs.getD i default) (S i)) = true) (hF : ∀ (j : Nat) (o : Oper) (listed : Array Bool), rs.length ≤ j → ops[j]? = some o → listed.size = ops.size → (∀ (j : Nat) (r : ROper), rs[j]? = some r → listed.getD j false = true → ∀ e ∈ r.aft, listed.getD e false = true) → (∀ i, rs.length ≤ i → listed.getD i false = false) → (∀ e ∈ o.after, Region.binds .any e = true → listed.getD e.on false = true) → ∀ i, i < rs.length → listed.getD i false = true)
    (hQ : ∀ (fuel : Nat) (listed : Array Bool) a w, listed.size = ops.size → (∀ i, i < rs.length → listed.getD i false = true) → (∀ i, rs.length ≤ i → listed.getD i false = false) → ops.size - rs.length ≤ fuel → SR R (S rs.length) a w → wpAnyIn (FW rd) mm P .any ops Q fuel listed a w) :
    ∀ (fuel : Nat) (listed : Array Bool) (st2 : St) (a : Act) (w : World), listed.size = ops.size → (∀ i, rs.length ≤ i → listed.getD i false = false) →
      (∀ (j : Nat) (r : ROper), rs[j]? = some r → listed.getD j false = true → ∀ e ∈ r.aft, listed.getD e false = true) →
      ((List.range rs.length).filter (fun i => !listed.getD i false)).length + (ops.size - rs.length) ≤ fuel →
      (∀ m, st2.tmp m = TT (fun i => listed.getD i false) (fun i => (rs.getD i default).d == some m && decide (i < rs.length)) (fun i => (S i).tmp m) rs.length) →
      (∀ k, st2.get k = TT (fun i => listed.getD i false) (fun i => (wtk R.G (S i) ((rs.getD i default).d.getD 0) (rs.getD i default).op).contains k && decide (i < rs.length)) (fun i => (S i).get k) rs.length) →
      SR R st2 a w → wpAnyIn (FW rd) mm P .any ops Q fuel listed a w := by
  have hgd : ∀ {i : Nat} {r : ROper}, rs[i]? = some r → rs.getD i default = r := fun {i r} h => by simp [List.getD, h]
  have hrec : ∀ {i : Nat} {r : ROper}, rs[i]? = some r → ((List.range rs.length).map fun i => recOf R.G (rs.getD i default) (S i))[i]? = some (recOf R.G r (S i)) := fun {i r} h => by
    have hlt : i < rs.length := (List.getElem?_eq_some_iff.1 h).1
    rw [List.getElem?_map, List.getElem?_range hlt, Option.map_some, hgd h]
  have hlen : ((List.range rs.length).map fun i => recOf R.G (rs.getD i default) (S i)).length = rs.length := by simp
  have hind : ∀ (j : Nat) (r : ROper), rs[j]? = some r → (∀ e ∈ r.aft, e < j) ∧ ∀ (i : Nat) (q : ROper), i < j → rs[i]? = some q → conf (recOf R.G q (S i)) (recOf R.G r (S j)) = true → reach ((List.range rs.length).map fun i => recOf R.G (rs.getD i default) (S i)) rs.length j i = true := by
    intro j r hj
    have hlt : j < rs.length := (List.getElem?_eq_some_iff.1 hj).1
    have h1 := List.all_eq_true.1 hi j (by simp [hlt])
    rw [hrec hj] at h1
    simp only [Bool.and_eq_true, List.all_eq_true, decide_eq_true_eq] at h1
    refine ⟨h1.1, fun i q hij hq hc => ?_⟩
    have h2 := List.all_eq_true.1 h1.2 i (by simp [hij])
    rw [hrec hq] at h2
    simp only [hc, Bool.not_true, Bool.false_or, hlen] at h2
    exact h2
  -- frames
  have fr : ∀ (i : Nat) (r : ROper), rs[i]? = some r → (∀ n, r.d ≠ some n → (S (i + 1)).tmp n = (S i).tmp n) ∧ (∀ k, k ∉ wtk R.G (S i) (r.d.getD 0) r.op → (S (i + 1)).get k = (S i).get k) := fun i r h => by
    obtain ⟨st3, -, -, h2, -, h4⟩ := stp_local (hS i r h) (fun _ _ => rfl) (fun _ _ => rfl)
    exact ⟨fun n hn => (h2 n hn).2, fun k hk => (h4 k hk).2⟩
  intro fuel
  -- what the state shows where an operation may come up
  have view : ∀ {listed : Array Bool} {st2 : St} {j : Nat} {r : ROper}, rs[j]? = some r → listed.getD j false = false →
      (∀ (j : Nat) (r : ROper), rs[j]? = some r → listed.getD j false = true → ∀ e ∈ r.aft, listed.getD e false = true) → (∀ e ∈ r.aft, listed.getD e false = true) →
      (∀ (i : Nat) (q : ROper), rs[i]? = some q → conf (recOf R.G q (S i)) (recOf R.G r (S j)) = true → i < j → listed.getD i false = true) ∧
      (∀ (i : Nat) (q : ROper), rs[i]? = some q → conf (recOf R.G r (S j)) (recOf R.G q (S i)) = true → j < i → listed.getD i false = false) := by
    intro listed st2 j r hj hun hdc haf
    have hdc' : ∀ (j : Nat) (r : Rec), ((List.range rs.length).map fun i => recOf R.G (rs.getD i default) (S i))[j]? = some r → listed.getD j false = true → ∀ e ∈ r.aft, listed.getD e false = true := by
      intro j r hr hL e he
      have hlt : j < rs.length := by have := (List.getElem?_eq_some_iff.1 hr).1; simpa using this
      have hq : rs[j]? = some rs[j] := by simp [hlt]
      rw [hrec hq] at hr
      simp only [Option.some.injEq] at hr
      subst hr
      exact hdc j _ hq hL e he
    refine ⟨fun i q hq hc hij => ?_, fun i q hq hc hji => ?_⟩
    · refine reach_listed hdc' _ j i ((hind j r hj).2 i q hij hq hc) (fun r' hr' e he => ?_)
      rw [hrec hj] at hr'
      simp only [Option.some.injEq] at hr'
      subst hr'
      exact haf e he
    · cases hL : listed.getD i false with
      | false => rfl
      | true =>
        have := reach_listed hdc' _ i j ((hind i q hq).2 j r hji hj hc) (fun r' hr' e he => hdc' i r' hr' hL e he)
        rw [hun] at this; cases this
  have frT : ∀ m i, i < rs.length → ((rs.getD i default).d == some m && decide (i < rs.length)) = false → (S (i + 1)).tmp m = (S i).tmp m := fun m i hlt h => by
    have hq : rs[i]? = some rs[i] := by simp [hlt]
    refine (fr i _ hq).1 m (fun e => ?_)
    rw [hgd hq] at h
    simp [e, hlt] at h
  have frK : ∀ k i, i < rs.length → ((wtk R.G (S i) ((rs.getD i default).d.getD 0) (rs.getD i default).op).contains k && decide (i < rs.length)) = false → (S (i + 1)).get k = (S i).get k := fun k i hlt h => by
    have hq : rs[i]? = some rs[i] := by simp [hlt]
    refine (fr i _ hq).2 k (fun e => ?_)
    rw [hgd hq] at h
    rw [List.contains_iff_mem.2 e, decide_eq_true hlt] at h
    cases h
  have cT : ∀ {i j : Nat} {q r : ROper} {t : Nat}, q.d = some t → (t ∈ r.rt ∨ r.d = some t) → conf (recOf R.G q (S i)) (recOf R.G r (S j)) = true := fun {i j q r t} h1 h2 => by
    simp only [conf, recOf, h1, Bool.or_eq_true, List.contains_iff_mem, beq_iff_eq]
    exact .inl (.inl (.inl (.inl h2)))
  have cT' : ∀ {i j : Nat} {q r : ROper} {t : Nat}, q.d = some t → (t ∈ r.rt ∨ r.d = some t) → conf (recOf R.G r (S j)) (recOf R.G q (S i)) = true := fun {i j q r t} h1 h2 => by
    simp only [conf, recOf, h1, Bool.or_eq_true, List.contains_iff_mem, beq_iff_eq]
    rcases h2 with h2 | h2
    · exact .inl (.inl (.inl (.inr h2)))
    · exact .inl (.inl (.inl (.inl (by simp [h2]))))
  have cutI : ∀ {xs ys : List Nat} {k : Nat}, k ∈ xs → k ∈ ys → cuts xs ys = true := fun {xs ys k} h1 h2 => List.any_eq_true.2 ⟨k, h1, by simpa using h2⟩
  have cK : ∀ {i j : Nat} {q r : ROper} {k : Nat}, k ∈ wtk R.G (S i) (q.d.getD 0) q.op → (k ∈ ftk R.G (S j) (r.d.getD 0) r.op ∨ k ∈ wtk R.G (S j) (r.d.getD 0) r.op) → conf (recOf R.G q (S i)) (recOf R.G r (S j)) = true ∧ conf (recOf R.G r (S j)) (recOf R.G q (S i)) = true := fun {i j q r k} h1 h2 => by
    simp only [conf, recOf, Bool.or_eq_true]
    rcases h2 with h2 | h2
    · exact ⟨.inl (.inl (.inr (cutI h1 h2))), .inl (.inr (cutI h1 h2))⟩
    · exact ⟨.inr (cutI h1 h2), .inr (cutI h2 h1)⟩
  have done : ∀ {fuel : Nat} {listed : Array Bool} {st2 : St} {a : Act} {w : World}, listed.size = ops.size → (∀ i, i < rs.length → listed.getD i false = true) → (∀ i, rs.length ≤ i → listed.getD i false = false) → ops.size - rs.length ≤ fuel →
      (∀ m, st2.tmp m = TT (fun i => listed.getD i false) (fun i => (rs.getD i default).d == some m && decide (i < rs.length)) (fun i => (S i).tmp m) rs.length) →
      (∀ k, st2.get k = TT (fun i => listed.getD i false) (fun i => (wtk R.G (S i) ((rs.getD i default).d.getD 0) (rs.getD i default).op).contains k && decide (i < rs.length)) (fun i => (S i).get k) rs.length) →
      SR R st2 a w → wpAnyIn (FW rd) mm P .any ops Q fuel listed a w := by
    intro fuel listed st2 a w hsz hall hno hfu hT hK hs
    refine hQ fuel listed a w hsz hall hno hfu (SR.congr (fun m => ?_) (fun k => ?_) hs)
    · rw [hT m, TT_same (L' := fun i => decide (i < rs.length)) (fun i hi _ => by simp [hall i hi, hi]), TT_upto (frT m) (Nat.le_refl _)]
    · rw [hK k, TT_same (L' := fun i => decide (i < rs.length)) (fun i hi _ => by simp [hall i hi, hi]), TT_upto (frK k) (Nat.le_refl _)]
  have aftL : ∀ {listed : Array Bool} {j : Nat} {o : Oper} {r : ROper}, (o.after.toList.filter (Region.binds .any ·)).map (·.on) = r.aft → ((∀ e ∈ o.after, Region.binds .any e = true → listed.getD e.on false = true) ↔ ∀ e ∈ r.aft, listed.getD e false = true) := by
    intro listed j o r h
    rw [← h]
    constructor
    · intro h1 e he
      obtain ⟨x, hx, rfl⟩ := List.mem_map.1 he
      obtain ⟨h2, h3⟩ := List.mem_filter.1 hx
      exact h1 x (by simpa using h2) h3
    · intro h1 e he hb
      exact h1 _ (List.mem_map.2 ⟨e, List.mem_filter.2 ⟨by simpa using he, hb⟩, rfl⟩)
  have noall : ∀ {listed : Array Bool}, ¬ (∀ i, i < rs.length → listed.getD i false = true) → 0 < ((List.range rs.length).filter (fun i => !listed.getD i false)).length := fun {listed} h => by
    rcases Nat.eq_zero_or_pos ((List.range rs.length).filter (fun i => !listed.getD i false)).length with h0 | h0
    · exfalso
      refine h fun i hi => ?_
      cases hL : listed.getD i false with
      | true => rfl
      | false =>
        have hm : i ∈ (List.range rs.length).filter (fun i => !listed.getD i false) := List.mem_filter.2 ⟨by simpa using hi, by rw [hL]; rfl⟩
        rw [List.length_eq_zero_iff.1 h0] at hm
        cases hm
    · exact h0
  induction fuel with
  | zero =>
    intro listed st2 a w hsz hno hdc hcnt hT hK hs
    by_cases hall : ∀ i, i < rs.length → listed.getD i false = true
    · exact done hsz hall hno (by omega) hT hK hs
    · have := noall hall; omega
  | succ fuel ih =>
    intro listed st2 a w hsz hno hdc hcnt hT hK hs
    by_cases hall : ∀ i, i < rs.length → listed.getD i false = true
    · exact done hsz hall hno (by omega) hT hK hs
    refine ⟨fun hnil => (hall ?_).elim, fun j hj => ?_⟩
    · intro i hi
      induction i using Nat.strongRecOn with
      | _ i ihi =>
        cases hL : listed.getD i false with
        | true => rfl
        | false =>
          have hr : rs[i]? = some rs[i] := by simp [hi]
          obtain ⟨o, ho, -, hae⟩ := hok i _ hr
          have : i ∈ Region.ready .any ops listed := mem_ready.2 ⟨by
            simp only [Array.getD_eq_getD_getElem?] at hL ⊢
            rw [Array.getElem?_eq_getElem (by omega)] at hL ⊢
            simpa using hL, o, ho, (aftL (j := i) hae).2 (fun e he => ihi e ((hind i _ hr).1 e he) (Nat.lt_trans ((hind i _ hr).1 e he) hi))⟩
          rw [hnil] at this; cases this
    · obtain ⟨h1, oj, h2, h3⟩ := mem_ready.1 hj
      have hjl : j < rs.length := by
        rcases Nat.lt_or_ge j rs.length with c | c
        · exact c
        · exact (hall (hF j oj listed c h2 hsz hdc hno h3)).elim
      have hr : rs[j]? = some rs[j] := by simp [hjl]
      generalize rs[j] = r at hr
      obtain ⟨o, ho, hko, hae⟩ := hok j _ hr
      rw [h2] at ho
      simp only [Option.some.injEq] at ho
      subst ho
      have hun : listed.getD j false = false := by
        simp only [Array.getD_eq_getD_getElem?] at h1 ⊢
        rw [Array.getElem?_eq_getElem (by omega)] at h1 ⊢
        simpa using h1
      have haf := (aftL (j := j) hae).1 h3
      obtain ⟨v1, v2⟩ := view (st2 := st2) hr hun hdc haf
      -- what this operation reads
      have eqT : ∀ t, (t ∈ r.rt ∨ r.d = some t) → st2.tmp t = (S j).tmp t := fun t ht => by
        rw [hT t, TT_same (L' := fun i => decide (i < j)) (fun i hi hw => ?_), TT_upto (frT t) (by omega)]
        have hq : rs[i]? = some rs[i] := by simp [hi]
        rw [hgd hq] at hw
        simp only [Bool.and_eq_true, beq_iff_eq] at hw
        rcases Nat.lt_trichotomy i j with c | c | c
        · simp only [v1 i _ hq (cT hw.1 ht) c, c, decide_true]
        · subst c; simp [hun]
        · rw [v2 i _ hq (cT' hw.1 ht) c]; symm; simp; omega
      have eqK : ∀ k, (k ∈ ftk R.G (S j) (r.d.getD 0) r.op ∨ k ∈ wtk R.G (S j) (r.d.getD 0) r.op) → st2.get k = (S j).get k := fun k hk => by
        rw [hK k, TT_same (L' := fun i => decide (i < j)) (fun i hi hw => ?_), TT_upto (frK k) (by omega)]
        have hq : rs[i]? = some rs[i] := by simp [hi]
        rw [hgd hq] at hw
        simp only [Bool.and_eq_true, List.contains_iff_mem] at hw
        rcases Nat.lt_trichotomy i j with c | c | c
        · simp only [v1 i _ hq (cK hw.1 hk).1 c, c, decide_true]
        · subst c; simp [hun]
        · rw [v2 i _ hq (cK hw.1 hk).2 c]; symm; simp; omega
      obtain ⟨st3, hst, u1, u2, u3, u4⟩ := stp_local (hS j r hr) (fun t ht => eqT t (.inl ht)) (fun k hk => eqK k (.inl hk))
      have gset : ∀ i, (listed.setIfInBounds j true).getD i false = if i = j then true else listed.getD i false := fun i => by
        simp only [Array.getD_eq_getD_getElem?, Array.getElem?_setIfInBounds]
        by_cases c : j = i
        · subst c; rw [if_pos rfl, if_pos (by omega), if_pos rfl]; rfl
        · rw [if_neg c, if_neg (fun e => c e.symm)]
      refine stp_sim hst h2 hko hs fun a' w' hs' => ih (listed.setIfInBounds j true) st3 a' w' (by simpa using hsz) (fun i hi => by rw [gset, if_neg (by omega)]; exact hno i hi) (fun i q hq hL e he => ?_) ?_ (fun m => ?_) (fun k => ?_) hs'
      · rw [gset] at hL ⊢
        split
        · rfl
        · split at hL
          · rename_i e2
            subst e2
            rw [hr] at hq
            simp only [Option.some.injEq] at hq
            subst hq
            exact haf e he
          · exact hdc i q hq hL e he
      · have hsub : ((List.range rs.length).filter (fun i => !(listed.setIfInBounds j true).getD i false)).length < ((List.range rs.length).filter (fun i => !listed.getD i false)).length := by
          rw [← List.countP_eq_length_filter, ← List.countP_eq_length_filter]
          have e1 : (List.range rs.length).countP (fun i => !listed.getD i false) = (List.range rs.length).countP (fun i => !(listed.setIfInBounds j true).getD i false) + (List.range rs.length).countP (fun i => i == j) := by
            generalize List.range rs.length = l
            induction l with
            | nil => rfl
            | cons x l ihl =>
              simp only [List.countP_cons, ihl, gset]
              by_cases c : x = j
              · subst c; simp [hun]; omega
              · simp [c]; omega
          have e2 : 0 < (List.range rs.length).countP (fun i => i == j) := List.countP_pos_iff.2 ⟨j, by simp [hjl], by simp⟩
          omega
        omega
      · by_cases c : r.d = some m
        · rw [u1 m c, TT_same (L' := fun i => decide (i < j + 1)) (fun i hi hw => ?_), TT_upto (frT m) (by omega)]
          have hq : rs[i]? = some rs[i] := by simp [hi]
          rw [hgd hq] at hw
          simp only [Bool.and_eq_true, beq_iff_eq] at hw
          rw [gset]
          rcases Nat.lt_trichotomy i j with c2 | c2 | c2
          · rw [if_neg (by omega), v1 i _ hq (cT hw.1 (.inr c)) c2]; symm; simp; omega
          · subst c2; simp
          · rw [if_neg (by omega), v2 i _ hq (cT' hw.1 (.inr c)) c2]; symm; simp; omega
        · rw [(u2 m c).1, hT m]
          refine TT_same fun i hi hw => ?_
          have hq : rs[i]? = some rs[i] := by simp [hi]
          rw [hgd hq] at hw
          simp only [Bool.and_eq_true, beq_iff_eq] at hw
          rw [gset, if_neg]
          rintro rfl
          rw [hr] at hq
          simp only [Option.some.injEq] at hq
          rw [← hq] at hw
          exact c hw.1
      · by_cases c : k ∈ wtk R.G (S j) (r.d.getD 0) r.op
        · rw [u3 k c, TT_same (L' := fun i => decide (i < j + 1)) (fun i hi hw => ?_), TT_upto (frK k) (by omega)]
          have hq : rs[i]? = some rs[i] := by simp [hi]
          rw [hgd hq] at hw
          simp only [Bool.and_eq_true, List.contains_iff_mem] at hw
          rw [gset]
          rcases Nat.lt_trichotomy i j with c2 | c2 | c2
          · rw [if_neg (by omega), v1 i _ hq (cK hw.1 (.inr c)).1 c2]; symm; simp; omega
          · subst c2; simp
          · rw [if_neg (by omega), v2 i _ hq (cK hw.1 (.inr c)).2 c2]; symm; simp; omega
        · rw [(u4 k c).1, hK k]
          refine TT_same fun i hi hw => ?_
          have hq : rs[i]? = some rs[i] := by simp [hi]
          rw [hgd hq] at hw
          simp only [Bool.and_eq_true, List.contains_iff_mem] at hw
          rw [gset, if_neg]
          rintro rfl
          rw [hr] at hq
          simp only [Option.some.injEq] at hq
          rw [← hq] at hw
          exact c hw.1

/-- The operations at the end stand in a fixed order. -/
theorem tail_any {rd : Option Nat} {m : Nat} {ops : Array Oper} : ∀ (rs2 : List ROper) (n : Nat) (st : St) (K : Exit → St → Prop) (Q : Exit → Act → World → Prop) (a : Act) (W : World) (fuel : Nat) (listed : Array Bool),
    n + rs2.length = ops.size → listed.size = ops.size → (∀ i, i < n → listed.getD i false = true) → (∀ i, n ≤ i → listed.getD i false = false) →
    (∀ (i : Nat) (r : ROper), rs2[i]? = some r → ∃ o, ops[n + i]? = some o ∧ okOper P R.N ops o r = true ∧ (∀ e ∈ o.after, Region.binds .any e = true → e.on < n + i) ∧ (0 < i → ∃ e ∈ o.after, Region.binds .any e = true ∧ e.on + 1 = n + i)) →
    rs2.length ≤ fuel → (∀ e st' a' W', K e st' → SR R st' a' W' → Q e a' W') → RW P R.G rs2 st K → SR R st a W → wpAnyIn (FW rd) m P .any ops Q fuel listed a W := by
  intro rs2
  induction rs2 with
  | nil =>
    intro n st K Q a W fuel listed hn hsz h1 h2 hok hfu hK hr hs
    have hnil : Region.ready .any ops listed = [] := by
      apply List.eq_nil_iff_forall_not_mem.2
      intro j hj
      obtain ⟨g1, oj, g2, -⟩ := mem_ready.1 hj
      have hjl := (Array.getElem?_eq_some_iff.1 g2).1
      have := h1 j (by simp at hn; omega)
      simp only [Array.getD_eq_getD_getElem?] at g1 this
      rw [Array.getElem?_eq_getElem (by omega)] at g1 this
      simp at g1 this
      rw [g1] at this; cases this
    have hq := hK .normal st a W hr hs
    cases fuel with
    | zero => exact ⟨hnil, hq⟩
    | succ fuel => exact ⟨fun _ => hq, fun j hj => by rw [hnil] at hj; cases hj⟩
  | cons r rs2 ih =>
    intro n st K Q a W fuel listed hn hsz h1 h2 hok hfu hK hr hs
    obtain ⟨o, ho, hk, hbef, -⟩ := hok 0 r rfl
    simp only [Nat.add_zero] at ho hbef
    cases fuel with
    | zero => simp at hfu
    | succ fuel =>
      simp only [List.length_cons] at hn hfu
      have unl : ∀ j, n ≤ j → j < ops.size → listed.getD j true = false := fun j hj hjl => by
        have := h2 j hj
        simp only [Array.getD_eq_getD_getElem?] at this ⊢
        rw [Array.getElem?_eq_getElem (by omega)] at this ⊢
        simpa using this
      have hmem : n ∈ Region.ready .any ops listed := mem_ready.2 ⟨unl n (Nat.le_refl _) (by omega), o, ho, fun e he hb => h1 _ (hbef e he hb)⟩
      refine ⟨fun hnil => (by rw [hnil] at hmem; cases hmem), fun j hj => ?_⟩
      obtain rfl : j = n := by
        obtain ⟨g1, oj, g2, g3⟩ := mem_ready.1 hj
        have hjl := (Array.getElem?_eq_some_iff.1 g2).1
        rcases Nat.lt_trichotomy j n with c | c | c
        · have := h1 j c
          simp only [Array.getD_eq_getD_getElem?] at g1 this
          rw [Array.getElem?_eq_getElem (by omega)] at g1 this
          simp at g1 this
          rw [g1] at this; cases this
        · exact c
        · obtain ⟨i, rfl⟩ : ∃ i, j = n + (i + 1) := ⟨j - n - 1, by omega⟩
          have hlt : i < rs2.length := by omega
          obtain ⟨o2, ho2, -, -, hch⟩ := hok (i + 1) rs2[i] (by simp [hlt])
          rw [g2] at ho2
          simp only [Option.some.injEq] at ho2
          subst ho2
          obtain ⟨e, he, hb, heq⟩ := hch (by omega)
          have := g3 e he hb
          rw [h2 e.on (by omega)] at this
          cases this
      have go : ∀ (st' : St) (a' : Act) (W' : World), RW P R.G rs2 st' K → SR R st' a' W' → wpAnyIn (FW rd) m P .any ops Q fuel (listed.setIfInBounds j true) a' W' := fun st' a' W' g1 g2 => by
        have gset : ∀ i, (listed.setIfInBounds j true).getD i false = if i = j then true else listed.getD i false := fun i => by
          simp only [Array.getD_eq_getD_getElem?, Array.getElem?_setIfInBounds]
          by_cases c : j = i
          · subst c; rw [if_pos rfl, if_pos (by omega), if_pos rfl]; rfl
          · rw [if_neg c, if_neg (fun e => c e.symm)]
        refine ih (j + 1) st' K Q a' W' fuel _ (by omega) (by simpa using hsz) (fun i hi => ?_) (fun i hi => ?_) (fun i r' hi => ?_) (by omega) hK g1 g2
        · rw [gset]
          split
          · rfl
          · exact h1 i (by omega)
        · rw [gset, if_neg (by omega)]; exact h2 i (by omega)
        · obtain ⟨o', q1, q2, q3, q4⟩ := hok (i + 1) r' (by simpa using hi)
          refine ⟨o', by rw [← q1]; congr 1; omega, q2, fun e he hb => by have := q3 e he hb; omega, fun _ => ?_⟩
          obtain ⟨e, he, hb, heq⟩ := q4 (by omega)
          exact ⟨e, he, hb, by omega⟩
      rcases RW_cons hr with ⟨st', g1, g2⟩ | ⟨hw, g, args, hi, hc⟩
      · exact stp_sim g1 ho hk hs fun a' W' hs' => go st' a' W' g2 hs'
      · obtain ⟨κ, hκ⟩ := hs
        have hk0 := hk
        simp only [okOper, Bool.and_eq_true, decide_eq_true_eq] at hk
        obtain ⟨⟨⟨hd, hdn⟩, -⟩, -⟩ := hk
        have hdn' : ∀ n, r.d = some n → n < R.N := fun n e => by rw [e] at hdn; simpa using hdn
        refine iscall_sim hi hw ho hk0 hκ fun vs ha => ?_
        rcases hc with ⟨v, st1, hc, hn2⟩ | ⟨ch, hc, hn2⟩
        · obtain ⟨q1, q2⟩ := hc R a W κ vs rfl hκ ha
          refine ⟨q1, q2.mono ?_⟩
          rintro e W' ⟨u, κ1, rfl, q3, q4⟩
          refine go _ _ _ hn2 ⟨κ1, ?_⟩
          rw [hd]
          exact q3.putd hdn' q4
        · obtain ⟨q1, q2⟩ := callP_sim hκ hc ha
          refine ⟨q1, q2.mono ?_⟩
          rintro e W' ⟨rfl, q3⟩
          exact hK _ _ _ _ hn2 ⟨κ, q3⟩
end

/-- Each operation of the tail stands behind all that are ahead of it. -/
def tailB (rs1 rs2 : List ROper) : Bool :=
  let recs : List Rec := rs1.map fun r => ⟨none, [], [], [], r.aft⟩
  (List.range rs2.length).all fun t => match rs2[t]? with
    | some r => r.aft.all (fun e => decide (e < rs1.length + t)) && (t == 0 || r.aft.contains (rs1.length + t - 1)) && (t != 0 || (List.range rs1.length).all fun i => r.aft.any fun e => e == i || reach recs rs1.length e i)
    | none => false

theorem AR_regt {P : Program} {R : Run} {st : St} {Φ : Exit → St → Prop} {id : Nat} {rs : List ROper} (hm : P.follows .mixedOrders = true) (n : Nat) (ht : tailB (rs.take n) (rs.drop n) = true)
    (h : RD P R.G (rs.take n) st [] fun st' => RW P R.G (rs.drop n) st' Φ) : AR P R (.reg id true rs) st Φ := by
  intro c hc mm a W hs
  cases c <;> simp only [okCode, Bool.false_eq_true, Bool.and_eq_true, beq_iff_eq] at hc
  rename_i id' ops draw
  obtain ⟨⟨⟨rfl, rfl⟩, hc⟩, hae⟩ := hc
  simp only [Bool.not_true, Bool.false_or] at hae
  obtain ⟨h1, h2⟩ := allB2_spec hc
  obtain ⟨-, h3⟩ := allB2_spec hae
  obtain ⟨rs1, e1⟩ : ∃ rs1, rs1 = rs.take n := ⟨_, rfl⟩
  obtain ⟨rs2, e2⟩ : ∃ rs2, rs2 = rs.drop n := ⟨_, rfl⟩
  have e3 : rs = rs1 ++ rs2 := by rw [e1, e2, List.take_append_drop]
  rw [← e1, ← e2] at h ht
  subst e3
  obtain ⟨S, rfl, hS, hK, hi⟩ := RD_states rs1 st [] _ h
  have hl : ops.size = rs1.length + rs2.length := by simpa using h1
  have hop : ∀ (i : Nat) (r : ROper), (rs1 ++ rs2)[i]? = some r → ∃ o, ops[i]? = some o ∧ okOper P R.N ops o r = true ∧ (o.after.toList.filter (Region.binds .any ·)).map (·.on) = r.aft := fun i r hr => by
    have hlt : i < ops.size := by have := (List.getElem?_eq_some_iff.1 hr).1; simp at this; omega
    exact ⟨ops[i], by simp [hlt], h2 i _ r (by simp [hlt]) hr, by simpa using h3 i ops[i] r (by simp [hlt]) hr⟩
  have aftM : ∀ {o : Oper} {r : ROper}, (o.after.toList.filter (Region.binds .any ·)).map (·.on) = r.aft → ∀ x, x ∈ r.aft ↔ ∃ e ∈ o.after, Region.binds .any e = true ∧ e.on = x := fun {o r} hae x => by
    rw [← hae]
    constructor
    · intro hx
      obtain ⟨e, he, rfl⟩ := List.mem_map.1 hx
      obtain ⟨g1, g2⟩ := List.mem_filter.1 he
      exact ⟨e, by simpa using g1, g2, rfl⟩
    · rintro ⟨e, he, hb, rfl⟩
      exact List.mem_map.2 ⟨e, List.mem_filter.2 ⟨by simpa using he, hb⟩, rfl⟩
  have tl : ∀ (t : Nat) (r : ROper), rs2[t]? = some r → (∀ e ∈ r.aft, e < rs1.length + t) ∧ (0 < t → rs1.length + t - 1 ∈ r.aft) ∧ (t = 0 → ∀ i, i < rs1.length → ∃ e ∈ r.aft, e = i ∨ reach (rs1.map fun r => (⟨none, [], [], [], r.aft⟩ : Rec)) rs1.length e i = true) := fun t r hr => by
    have hlt := (List.getElem?_eq_some_iff.1 hr).1
    have := List.all_eq_true.1 ht t (by simpa using hlt)
    rw [hr] at this
    simp only [Bool.and_eq_true, List.all_eq_true, decide_eq_true_eq, Bool.or_eq_true, beq_iff_eq, List.contains_iff_mem, bne_iff_ne, List.mem_range, List.any_eq_true] at this
    refine ⟨this.1.1, fun h0 => this.1.2.resolve_left (by omega), fun h0 i hi => ?_⟩
    have := (this.2.resolve_left (fun h => h h0)) i hi
    exact this
  refine wpIn_region_any hm (any_head hS (by omega) (fun i r hr => ?_) (by simpa using hi) (fun j o listed hj ho hsz hdc hno haf => ?_) (fun fuel listed a' w' hsz hall hno hfu hs' => ?_) ops.size _ (S 0) a _ (by simp) (fun i hi => ?_) (fun j r _ hL => ?_) ?_ (fun m => ?_) (fun k => ?_) ?_)
  · exact hop i r (by rw [List.getElem?_append_left (List.getElem?_eq_some_iff.1 hr).1]; exact hr)
  · -- no operation of the tail comes up before
    have hlt := (Array.getElem?_eq_some_iff.1 ho).1
    obtain ⟨t, rfl⟩ : ∃ t, j = rs1.length + t := ⟨j - rs1.length, by omega⟩
    have ht2 : t < rs2.length := by omega
    obtain ⟨o', ho', -, hae⟩ := hop (rs1.length + t) rs2[t] (by rw [List.getElem?_append_right (by omega)]; simp [ht2])
    rw [ho] at ho'
    simp only [Option.some.injEq] at ho'
    subst ho'
    obtain ⟨q1, q2, q3⟩ := tl t rs2[t] (by simp [ht2])
    have lst : ∀ e ∈ rs2[t].aft, listed.getD e false = true := fun e he => by
      obtain ⟨x, hx, hb, rfl⟩ := (aftM hae e).1 he
      exact haf x hx hb
    rcases Nat.eq_zero_or_pos t with c | c
    · intro i hi
      obtain ⟨e, he, h | h⟩ := q3 c i hi
      · rw [← h]; exact lst e he
      · refine reach_listed (L := fun i => listed.getD i false) (fun k rc hk hL x hx => ?_) _ e i h (fun rc hk x hx => ?_)
        · rw [List.getElem?_map, Option.map_eq_some_iff] at hk
          obtain ⟨r', hr', rfl⟩ := hk
          exact hdc k r' hr' hL x hx
        · rw [List.getElem?_map, Option.map_eq_some_iff] at hk
          obtain ⟨r', hr', rfl⟩ := hk
          exact hdc e r' hr' (lst e he) x hx
    · have := lst _ (q2 c)
      rw [hno _ (by omega)] at this
      cases this
  · refine tail_any rs2 rs1.length (S rs1.length) Φ _ a' w' fuel listed (by omega) hsz hall hno (fun t r hr => ?_) (by omega) (fun e st' a2 w2 hk hs2 => ⟨st', hk, hs2⟩) hK hs'
    obtain ⟨o, ho, hk, hae⟩ := hop (rs1.length + t) r (by rw [List.getElem?_append_right (by omega)]; simpa using hr)
    obtain ⟨q1, q2, -⟩ := tl t r hr
    refine ⟨o, ho, hk, fun e he hb => q1 _ ((aftM hae _).2 ⟨e, he, hb, rfl⟩), fun h0 => ?_⟩
    obtain ⟨e, he, hb, heq⟩ := (aftM hae _).1 (q2 h0)
    exact ⟨e, he, hb, by omega⟩
  · simp [Array.getD]
  · simp [Array.getD] at hL
  · have := List.length_filter_le (fun i => !(Array.replicate ops.size false).getD i false) (List.range rs1.length)
    simp only [List.length_range] at this
    omega
  · exact (TT_none (v := fun i => (S i).tmp m) (L := fun i => (Array.replicate ops.size false).getD i false) (fun i => by simp [Array.getD]) _).symm
  · exact (TT_none (v := fun i => (S i).get k) (L := fun i => (Array.replicate ops.size false).getD i false) (fun i => by simp [Array.getD]) _).symm
  · obtain ⟨κ, hκ⟩ := hs
    exact ⟨κ, hκ.grow (Ext.dr (Ext.refl W))⟩

end Go.Proofs.YtdpmioiamcgfkaaDoor

/-! Plain functions that say what the functions of packages bluelineref01 and size compute. No program in sight. -/
namespace Go.Proofs.YtdpmioiamcgfkaaDoor

/-- A size: its nominal number, its lower and its upper end. -/
structure Dm where
  n : Int
  l : Int
  u : Int
  deriving DecidableEq, Inhabited

def Dm.zero : Dm := ⟨0, 0, 0⟩

def Dm.beq (a b : Dm) : Bool := a.n == b.n && (a.l == b.l && a.u == b.u)
theorem Dm.beq_iff (a b : Dm) : a.beq b = true ↔ a = b := by
  obtain ⟨x, y, z⟩ := a; obtain ⟨x', y', z'⟩ := b; simp [Dm.beq]

/-- Lists of sizes are the same. -/
def Dm.beqs : List Dm → List Dm → Bool
  | [], [] => true
  | a :: as, b :: bs => a.beq b && Dm.beqs as bs
  | _, _ => false
theorem Dm.beqs_iff (a b : List Dm) : Dm.beqs a b = true ↔ a = b := by
  induction a generalizing b with
  | nil => cases b <;> simp [Dm.beqs]
  | cons x xs ih => cases b with
    | nil => simp [Dm.beqs]
    | cons y ys => simp [Dm.beqs, ih, Dm.beq_iff]
theorem Dm.beqs_true {a b : List Dm} (h : a = b) : Dm.beqs a b = true := (Dm.beqs_iff a b).2 h
theorem Dm.beqs_false {a b : List Dm} (h : a ≠ b) : Dm.beqs a b = false := by
  cases h' : Dm.beqs a b
  · rfl
  · exact absurd ((Dm.beqs_iff a b).1 h') h

/-- A size is valid. -/
def vd (d : Dm) : Bool := decide (0 ≤ d.n ∧ d.n ≤ 1000000000 ∧ 0 ≤ d.l ∧ d.l ≤ d.u ∧ d.u ≤ 1000000000)

/-- The error of a size. -/
def chk (d : Dm) : Int := if vd d = true then 0 else 10

/-- The step of a unit. -/
def stp (k : Int) : Int := if k = 1 then 100 else if k = 2 then 254 else 0

/-- All numbers are multiples of a step. -/
def exa (d : Dm) (s : Int) : Bool := decide (d.n % s = 0 ∧ d.l % s = 0 ∧ d.u % s = 0)

/-- The units in which a size is exact, and the error. -/
def exactV (d : Dm) : Int := if vd d = true then (if exa d 100 = true then 1 else 0) + (if exa d 254 = true then 2 else 0) else 0

/-- The nominal number of a size that is drawn again. -/
def nom (n s : Int) : Int := if n / s * s + s ≤ 1000000000 ∧ n / s * s + s - n < n - n / s * s then n / s * s + s else n / s * s

/-- A size drawn again by a step. -/
def agn (d : Dm) (s : Int) : Dm := ⟨nom d.n s, (d.l + s - 1) / s * s, d.u / s * s⟩

def agnOk (d : Dm) (s : Int) : Bool := decide ((agn d s).l ≤ (agn d s).u)

/-- A size drawn again in a unit, and the error. -/
def conv (d : Dm) (k : Int) : Dm × Int :=
  if vd d = true then if stp k = 0 then (Dm.zero, 11) else if agnOk d (stp k) = true then (agn d (stp k), 0) else (Dm.zero, 6)
  else (Dm.zero, 10)

/-- A valid size drawn again in units, one after the other. -/
def redr (d : Dm) : List Int → Option Dm
  | [] => some d
  | k :: r => if agnOk d (stp k) = true then redr (agn d (stp k)) r else none

/-- A size drawn again in units, and the error. -/
def redraw (d : Dm) (l : List Int) : Dm × Int :=
  if vd d = true then
    if 20 < l.length then (Dm.zero, 4)
    else if l.any (fun k => decide (stp k = 0)) = true then (Dm.zero, 11)
    else match redr d l with
      | some x => (x, 0)
      | none => (Dm.zero, 6)
  else (Dm.zero, 10)

theorem dm_bd (a s : Int) (h : 1 ≤ s) : a / s * s ≤ a ∧ a - s < a / s * s :=
  ⟨Int.ediv_mul_le a (by omega), by have := Int.lt_ediv_add_one_mul_self a (show (0 : Int) < s by omega); rw [Int.add_mul] at this; omega⟩

theorem stp_bd (k : Int) : 0 ≤ stp k ∧ stp k ≤ 254 := by unfold stp; (repeat split) <;> omega

/-- A clearance may be wanted. -/
def wantedB (lo hi : Int) : Bool := decide (-1000000000 ≤ lo ∧ lo ≤ 1000000000 ∧ -1000000000 ≤ hi ∧ hi ≤ 1000000000 ∧ lo ≤ hi)

def insideV (a b : Dm) : Bool × Int := if vd a = true ∧ vd b = true then (decide (b.l ≤ a.l ∧ a.u ≤ b.u), 0) else (false, 10)

/-- How a hole and a shaft fit: the clearance, its kind, the error. -/
def fitV (a b : Dm) : Int × Int × Int × Int :=
  if vd a = true ∧ vd b = true then (a.l - b.u, a.u - b.l, if 0 ≤ a.l - b.u then 1 else if a.u - b.l ≤ 0 then 2 else 3, 0) else (0, 0, 0, 10)

/-- The widest shaft. -/
def roomD (h : Dm) (lo hi : Int) : Dm := ⟨h.n, max 0 (h.u - hi), min 1000000000 (h.l - lo)⟩
def roomV (h : Dm) (lo hi : Int) : Dm × Int :=
  if vd h = true then if wantedB lo hi = true then if (roomD h lo hi).l ≤ (roomD h lo hi).u then (roomD h lo hi, 0) else (Dm.zero, 6) else (Dm.zero, 2) else (Dm.zero, 10)

/-- What is lost, and the error. -/
def lostV (d : Dm) (k : Int) : Int × Int × Int := if (conv d k).2 = 0 then ((conv d k).1.l - d.l, d.u - (conv d k).1.u, 0) else (0, 0, (conv d k).2)

theorem nom_bd (n s : Int) (h0 : 0 ≤ n) (h1 : n ≤ 1000000000) (s0 : 1 ≤ s) : 0 ≤ nom n s ∧ nom n s ≤ 1000000000 := by
  have h := dm_bd n s s0
  have h2 : 0 ≤ n / s * s := Int.mul_nonneg (Int.ediv_nonneg h0 (by omega)) (by omega)
  unfold nom
  split <;> omega

theorem agn_bd (d : Dm) (s : Int) (hv : vd d = true) (s0 : 1 ≤ s) (s1 : s ≤ 254) :
    0 ≤ (agn d s).n ∧ (agn d s).n ≤ 1000000000 ∧ 0 ≤ (agn d s).l ∧ (agn d s).l ≤ 1000000253 ∧ 0 ≤ (agn d s).u ∧ (agn d s).u ≤ 1000000000 ∧ d.l ≤ (agn d s).l ∧ (agn d s).u ≤ d.u := by
  obtain ⟨x0, x1, x2, x3, x4⟩ := of_decide_eq_true hv
  obtain ⟨n0, n1⟩ := nom_bd d.n s x0 x1 s0
  obtain ⟨a0, a1⟩ := dm_bd (d.l + s - 1) s s0
  obtain ⟨b0, b1⟩ := dm_bd d.u s s0
  have h2 : 0 ≤ (d.l + s - 1) / s * s := Int.mul_nonneg (Int.ediv_nonneg (by omega) (by omega)) (by omega)
  have h3 : 0 ≤ d.u / s * s := Int.mul_nonneg (Int.ediv_nonneg (by omega) (by omega)) (by omega)
  simp only [agn]
  omega

/-- A size drawn again is valid again. -/
theorem agn_vd (d : Dm) (s : Int) (hv : vd d = true) (s0 : 1 ≤ s) (s1 : s ≤ 254) (ho : agnOk d s = true) : vd (agn d s) = true := by
  obtain ⟨h1, h2, h3, h4, h5, h6, h7, h8⟩ := agn_bd d s hv s0 s1
  have := of_decide_eq_true ho
  exact decide_eq_true ⟨by omega, by omega, by omega, by omega, by omega⟩

theorem conv_bd (d : Dm) (k : Int) (h : (conv d k).2 = 0) : 0 ≤ d.l ∧ d.l ≤ (conv d k).1.l ∧ (conv d k).1.l ≤ (conv d k).1.u ∧ (conv d k).1.u ≤ d.u ∧ d.u ≤ 1000000000 ∧ vd (conv d k).1 = true := by
  unfold conv at *
  by_cases hv : vd d = true
  · by_cases hs : stp k = 0
    · simp [hv, hs] at h
    · by_cases ho : agnOk d (stp k) = true
      · have hb := stp_bd k
        obtain ⟨x0, x1, x2, x3, x4⟩ := of_decide_eq_true hv
        obtain ⟨h1, h2, h3, h4, h5, h6, h7, h8⟩ := agn_bd d (stp k) hv (by omega) (by omega)
        have := of_decide_eq_true ho
        rw [if_pos hv, if_neg hs, if_pos ho]
        exact ⟨x2, h7, this, h8, x4, agn_vd d _ hv (by omega) (by omega) ho⟩
      · simp [hv, hs, ho] at h
  · simp [hv] at h

end Go.Proofs.YtdpmioiamcgfkaaDoor

/-! The abstract machine: a call by reference that may also hand over new objects. -/
namespace Go.Proofs.YtdpmioiamcgfkaaDoor
open Go.RowKit

section
variable {P : Program} {G : Nat → Option (List AV)} {st : St}

theorem CallSem.refn {f : FuncId} {objs objs' : List (Nat × AObj)} {args : List AV} {r : AV} (h : PB P G f objs args r objs') (ρ : Nat → Nat) (hK : ∀ p ∈ objs, 1000 ≤ p.1)
    (hinj : (objs'.map fun p => ρ p.1).Nodup) (ho : ∀ p ∈ objs, st.get (ρ p.1) = some (p.2.ren ρ)) (hin : ∀ p ∈ objs, keptO objs p.2 = true) (hargs : args.all (keptA objs) = true)
    (hd : objs.all (fun p => isK objs' p.1) = true) (hnw : ∀ p ∈ objs', isK objs p.1 = true ∨ st.get (ρ p.1) = none)
    {args' : List AV} {r' : AV} {st1 : St} (ha : args' = args.map (AV.ren ρ)) (hr : r' = r.ren ρ) (hs : st1 = setsB ρ objs' st) : CallSem P G st f args' r' st1 := by
  subst ha; subst hr; subst hs
  intro R a W κ vs hG hk ha
  subst hG
  have mem : ∀ {l : List (Nat × AObj)} (k : Nat) (o : AObj), lk l k = some o → (k, o) ∈ l := fun k o h => lk_mem h
  have kept : ∀ x, keptA objs x = true → inK objs x := fun x hx k hk => List.all_eq_true.1 hx k hk
  have key : ∀ {l : List (Nat × AObj)} {k : Nat}, isK l k = true → ∃ o, (k, o) ∈ l ∧ lk l k = some o := fun {l k} h => by
    obtain ⟨o, h1⟩ := Option.isSome_iff_exists.1 h
    exact ⟨o, mem k o h1, h1⟩
  refine callN_sim hk h (fun k hk => ?_) (fun k k' h1 h2 e => ?_) (fun k o ho' => ho (k, o) (mem k o ho')) (fun k o ho' => ?_) (fun x hx => kept x (List.all_eq_true.1 hargs x hx)) (fun k hk => ?_) (fun k h1 h2 => ?_) (setsB_t ρ _ _)
    (fun k o ho' => setsB_in ρ _ _ k o hinj ho') (fun j hj => setsB_out ρ j _ _ fun p hp => ?_) ha
  · obtain ⟨o, h1, -⟩ := key hk
    exact hK (k, o) h1
  · have m1 := lk_isSome.1 h1
    have m2 := lk_isSome.1 h2
    have : (objs'.map (·.1)).map ρ = objs'.map (fun p => ρ p.1) := by simp [List.map_map, Function.comp_def]
    rw [← this] at hinj
    exact inj_of_nodup hinj m1 m2 e
  · have h2 := hin (k, o) (mem k o ho')
    cases o with
    | box cells => exact fun x hx => kept x (List.all_eq_true.1 h2 x hx)
    | row sz rows => exact fun r hr x hx => kept x (List.all_eq_true.1 (List.all_eq_true.1 h2 r hr) x hx)
    | mp kvs =>
      intro p hp
      have := List.all_eq_true.1 h2 p hp
      simp only [Bool.and_eq_true] at this
      exact ⟨kept _ this.1, kept _ this.2⟩
  · obtain ⟨o, h1, -⟩ := key hk
    exact List.all_eq_true.1 hd (k, o) h1
  · obtain ⟨o, h3, -⟩ := key h1
    rcases hnw (k, o) h3 with h4 | h4
    · rw [h4] at h2; cases h2
    · exact h4
  · exact hj p.1 (lk_isSome.2 (List.mem_map.2 ⟨p, hp, rfl⟩))
end
end Go.Proofs.YtdpmioiamcgfkaaDoor

/-! What came in, as trees: integers, strings, truth values, structs of them, slices of them. -/
namespace Go.Proofs.YtdpmioiamcgfkaaDoor
open Go.ChangeShapes Go.WideShapes Go.ChangeAt Go.WideMaps Go.WideElems Go.RowKit Go.Deep

/-- Kinds of cells. -/
inductive TY where
  | int (k : IntKind)
  | str
  | bool
  | sl (ks : List TY)

inductive TV : TY → AV → Prop
  | int (k : IntKind) (n : Int) (h : (Lit.int k n).wf = true) : TV (.int k) (.int k n)
  | str (s : ByteArray) (h : s.size ≤ maxLen) : TV .str (.str s)
  | bool (b : Bool) : TV .bool (.bool b)
  | sl (ks : List TY) (rows : List (List AV)) (hl : rows.length ≤ maxLen) (hr : ∀ r ∈ rows, r.length = ks.length)
      (h : ∀ r ∈ rows, ∀ (i : Nat) (k : TY) (x : AV), ks[i]? = some k → r[i]? = some x → TV k x) : TV (.sl ks) (.vsl rows)

def fldsK (P : Program) (kt : TypeId → Option (List TY)) : Nat → List Field → Option (List TY)
  | _, [] => some []
  | off, f :: fs => if f.offset = off then match kt f.type with
    | some ks => if P.cellsOf f.type = ks.length then (fldsK P kt (off + ks.length) fs).map (ks ++ ·) else none
    | none => none
    else none
def tyK (P : Program) : Nat → TypeId → Option (List TY)
  | 0, _ => none
  | d + 1, t => match P.underlying t with
    | some (.int k) => some [.int k]
    | some .string => some [.str]
    | some .bool => some [.bool]
    | some (.struct fs) => match fldsK P (tyK P d) 0 fs.toList with
      | some ks => if P.cellsOf t = ks.length then some ks else none
      | none => none
    | some (.slice e) => match tyK P d e with
      | some (k :: ks) => if P.cellsOf e = (k :: ks).length then some [.sl (k :: ks)] else none
      | _ => none
    | _ => none

def noM : Nat → Prop := fun _ => False

/-- Cells, opened. -/
structure Opd (W : World) (ks : List TY) (cs : List Value) (xs : List AV) : Prop where
  lx : xs.length = ks.length
  lc : cs.length = ks.length
  at' : ∀ (i : Nat) (k : TY) (x : AV) (u : Value), ks[i]? = some k → xs[i]? = some x → cs[i]? = some u → TV k x ∧ PV noM W x u

theorem Opd.one {W : World} {k : TY} {u : Value} {x : AV} (h1 : TV k x) (h2 : PV noM W x u) : Opd W [k] [u] [x] :=
  ⟨rfl, rfl, fun i k' x' u' hk hx hu => by
    match i, hk, hx, hu with
    | 0, hk, hx, hu => cases hk; cases hx; cases hu; exact ⟨h1, h2⟩⟩
theorem Opd.append {W : World} {k1 k2 : List TY} {c1 c2 : List Value} {x1 x2 : List AV} (h1 : Opd W k1 c1 x1) (h2 : Opd W k2 c2 x2) : Opd W (k1 ++ k2) (c1 ++ c2) (x1 ++ x2) := by
  refine ⟨by simp [h1.lx, h2.lx], by simp [h1.lc, h2.lc], fun i k x u hk hx hu => ?_⟩
  by_cases h : i < k1.length
  · rw [List.getElem?_append_left h] at hk
    rw [List.getElem?_append_left (by rw [h1.lx]; exact h)] at hx
    rw [List.getElem?_append_left (by rw [h1.lc]; exact h)] at hu
    exact h1.at' i k x u hk hx hu
  · rw [List.getElem?_append_right (by omega)] at hk
    rw [List.getElem?_append_right (by rw [h1.lx]; omega), h1.lx] at hx
    rw [List.getElem?_append_right (by rw [h1.lc]; omega), h1.lc] at hu
    exact h2.at' _ k x u hk hx hu

theorem cellLt {w : World} {a : Addr} {v : Value} (h : w.cell? a = some v) : a.block < w.heap.size := by
  rcases Nat.lt_or_ge a.block w.heap.size with h' | h'
  · exact h'
  · simp [World.cell?, Array.getElem?_eq_none h'] at h

section
variable {H : Type} {enc : TypeId × Value → H} {P : Program} {W : World} {base : Nat} {spare : Nat → Bool} {held : Bool}

theorem flds_open (kt : TypeId → Option (List TY)) (ih : ∀ (t : TypeId) (ks : List TY), kt t = some ks → ∀ (fuel : Nat) (cs : List Value) (y : DataW H × List MemPlace), DataW.trod enc P W base spare held fuel t cs = some y → ∃ xs, Opd W ks cs xs) (cs : List Value) :
    ∀ (fs : List Field) (off : Nat) (ks : List TY), fldsK P kt off fs = some ks → (∀ f ∈ fs, ∃ n y, DataW.trod enc P W base spare held n f.type ((cs.drop f.offset).take (P.cellsOf f.type)) = some y) → off + ks.length ≤ cs.length → ∃ xs, Opd W ks ((cs.drop off).take ks.length) xs
  | [], off, ks, hk, _, _ => by
    simp only [fldsK, Option.some.injEq] at hk
    subst hk
    exact ⟨[], rfl, by simp, fun i k x u hk => by simp at hk⟩
  | f :: fs, off, ks, hk, hf, hl => by
    simp only [fldsK] at hk
    split at hk <;> try (simp at hk; done)
    rename_i ho
    split at hk <;> try (simp at hk; done)
    rename_i k1 hk1
    split at hk <;> try (simp at hk; done)
    rename_i hc
    simp only [Option.map_eq_some_iff] at hk
    obtain ⟨k2, hk2, rfl⟩ := hk
    obtain ⟨n, y, hy⟩ := hf f (List.mem_cons_self ..)
    rw [ho, hc] at hy
    obtain ⟨x1, h1⟩ := ih _ _ hk1 _ _ _ hy
    simp only [List.length_append] at hl
    obtain ⟨x2, h2⟩ := flds_open kt ih cs fs (off + k1.length) k2 hk2 (fun f hf' => hf f (List.mem_cons_of_mem _ hf')) (by omega)
    refine ⟨x1 ++ x2, ?_⟩
    have := h1.append h2
    rw [List.length_append, List.take_add, List.drop_drop]
    exact this

theorem open_ks : ∀ (d : Nat) (t : TypeId) (ks : List TY), tyK P d t = some ks → ∀ (fuel : Nat) (cs : List Value) (y : DataW H × List MemPlace), DataW.trod enc P W base spare held fuel t cs = some y → ∃ xs, Opd W ks cs xs := by
  intro d
  induction d with
  | zero => intro t ks hk; simp [tyK] at hk
  | succ d ih =>
    intro t ks hk fuel cs y h
    simp only [tyK] at hk
    split at hk
    · rename_i k ht
      obtain ⟨n, rfl, -, hw⟩ := DataW.trod_int ht h
      simp only [Option.some.injEq] at hk
      subst hk
      exact ⟨_, .one (.int k n hw) (.int k n)⟩
    · rename_i ht
      obtain ⟨s, rfl, -, hw⟩ := DataW.trod_string ht h
      simp only [Option.some.injEq] at hk
      subst hk
      exact ⟨_, .one (.str s hw) (.str s)⟩
    · rename_i ht
      obtain ⟨b, rfl, -⟩ := DataW.trod_bool ht h
      simp only [Option.some.injEq] at hk
      subst hk
      exact ⟨_, .one (.bool b) (.bool b)⟩
    · rename_i fs ht
      split at hk <;> try (simp at hk; done)
      rename_i ks' hks
      split at hk <;> simp only [Option.some.injEq, reduceCtorEq] at hk
      rename_i hc
      subst hk
      obtain ⟨ys, n, -, -, hlen, hyl, hf⟩ := DataW.trod_struct ht h
      obtain ⟨xs, hx⟩ := flds_open (tyK P d) ih cs fs.toList 0 ks' hks (fun f hf' => by
        obtain ⟨i, hi, e⟩ := List.getElem_of_mem hf'
        have hi' : i < fs.size := by simpa using hi
        have e2 : fs[i]? = some f := by rw [Array.getElem?_eq_getElem hi', ← e]; simp
        have hi2 : i < ys.length := by omega
        exact ⟨n, ys[i], by rw [hf i f e2, List.getElem?_eq_getElem hi2]⟩) (by omega)
      rw [List.drop_zero, List.take_of_length_le (by omega)] at hx
      exact ⟨xs, hx⟩
    · rename_i e ht
      split at hk <;> try (simp at hk; done)
      rename_i k ks' hke
      split at hk <;> simp only [Option.some.injEq, reduceCtorEq] at hk
      rename_i hc
      subst hk
      rcases open_slice ht h with ⟨rfl, -⟩ | ⟨a, len, cap, m, n, D, Pl, rfl, hb, hl, hm, hmm, -, hx⟩
      · exact ⟨[.vsl []], .one (.sl _ [] (by simp) (by simp) (by simp)) (.vsl [] none 0 0 0 0 (fun _ _ => undef) (by simp) (by simp) (fun h => absurd rfl h) (fun _ => ⟨rfl, rfl⟩) (by simp) (by simp) (by simp))⟩
      · have hlm : len ≤ m := by rw [hmm]; split <;> omega
        have each : ∀ i, i < len → ∃ q : List Value × List AV, q.1.length = (k :: ks').length ∧ (∀ j, j < (k :: ks').length → W.cell? ((a.add (i * (k :: ks').length)).add j) = q.1[j]?) ∧ Opd W (k :: ks') q.1 q.2 := by
          intro i hi
          obtain ⟨cs', h1, h2⟩ := hx i (by omega)
          rw [hc] at h1
          obtain ⟨-, hlen, hcell⟩ := World.cells?_some h1
          obtain ⟨xs, hxs⟩ := ih _ _ hke _ _ _ h2
          exact ⟨(cs', xs), hlen, hcell, hxs⟩
        obtain ⟨q, hq⟩ := choose_lt each
        obtain ⟨b, o, spot⟩ := a
        have hspot : 0 < len → spot = none ∧ b < W.heap.size := fun hp => by
          obtain ⟨g1, g2, -⟩ := hq 0 hp
          have h0 := g2 0 (by simp)
          rw [List.getElem?_eq_getElem (by rw [g1]; simp)] at h0
          have h1 : spot = none := by simpa [Addr.add] using World.cell?_spot h0
          subst h1
          rw [add_plain, add_plain] at h0
          exact ⟨rfl, cellLt h0⟩
        have hrl : ((List.range len).map fun i => (q i).2).length = len := by simp
        have hrow : ∀ (i : Nat) (r : List AV), ((List.range len).map fun i => (q i).2)[i]? = some r → i < len ∧ r = (q i).2 := fun i r hi => by
          have hlt : i < len := by have := (List.getElem?_eq_some_iff.1 hi).1; simpa using this
          simp [hlt] at hi
          exact ⟨hlt, hi.symm⟩
        refine ⟨[.vsl ((List.range len).map fun i => (q i).2)], .one (.sl _ _ (by rw [hrl]; omega) ?_ ?_) ?_⟩
        · intro r hr
          obtain ⟨i, hi, rfl⟩ := List.mem_map.1 hr
          exact (hq i (List.mem_range.1 hi)).2.2.lx
        · intro r hr i' k' x hk' hx'
          obtain ⟨i, hi, rfl⟩ := List.mem_map.1 hr
          obtain ⟨g1, g2, g3⟩ := hq i (List.mem_range.1 hi)
          have hlt : i' < (q i).1.length := by rw [g1]; exact (List.getElem?_eq_some_iff.1 hk').1
          exact (g3.at' i' k' x _ hk' hx' (List.getElem?_eq_getElem hlt)).1
        · have hp : PV noM W (.vsl ((List.range len).map fun i => (q i).2)) (.slice (some ⟨b, o, spot⟩) ((List.range len).map fun i => (q i).2).length cap) := by
            refine .vsl _ _ cap (k :: ks').length b o (fun i j => ((q i).1[j]?).getD undef) (by rw [hrl]; exact hl) hm ?_ ?_ ?_ ?_ ?_
            · intro hne
              have hp : 0 < len := by
                rcases Nat.eq_zero_or_pos len with h0 | h0
                · exact absurd (List.length_eq_zero_iff.1 (hrl.trans h0)) hne
                · exact h0
              obtain ⟨rfl, h2⟩ := hspot hp
              exact ⟨rfl, h2, id⟩
            · intro h; cases h
            · intro r hr
              obtain ⟨i, hi, rfl⟩ := List.mem_map.1 hr
              exact (hq i (List.mem_range.1 hi)).2.2.lx
            · intro i j hi hj
              rw [hrl] at hi
              obtain ⟨rfl, -⟩ := hspot (by omega)
              obtain ⟨g1, g2, g3⟩ := hq i hi
              have h2 := g2 j hj
              rw [List.getElem?_eq_getElem (by rw [g1]; exact hj)] at h2
              have h3 : (q i).1[j]? = some ((q i).1[j]'(by rw [g1]; exact hj)) := List.getElem?_eq_getElem _
              rw [h3]
              rw [add_plain, add_plain] at h2
              exact h2
            · intro i j r x hi hj
              obtain ⟨hlt, rfl⟩ := hrow i r hi
              obtain ⟨g1, g2, g3⟩ := hq i hlt
              have hjl : j < (k :: ks').length := by rw [← g3.lx]; exact (List.getElem?_eq_some_iff.1 hj).1
              have h3 : (q i).1[j]? = some ((q i).1[j]'(by rw [g1]; exact hjl)) := List.getElem?_eq_getElem _
              rw [h3]
              exact (g3.at' j _ x _ (List.getElem?_eq_getElem hjl) hj h3).2
          rw [hrl] at hp
          exact hp
    · simp at hk
end

/-- Trees of given kinds. -/
def TVs (ks : List TY) (xs : List AV) : Prop := xs.length = ks.length ∧ ∀ (i : Nat) (k : TY) (x : AV), ks[i]? = some k → xs[i]? = some x → TV k x

section
variable {H : Type} {enc : TypeId × Value → H} {P : Program} {W : World} {base b0 : Nat} {spare : Nat → Bool} {held : Bool} {r : Reach} {t : TypeId} {v : Value} {dd : DataW H} {p : List MemPlace}

theorem open_row {fs : Array Field} {ks : List TY} (hs : P.underlying t = some (.struct fs)) (hk : tyK P 8 t = some ks) (hv : Value.okWide P W r b0 t v) (h : DataW.Trod enc P W base spare held t v dd p) :
    ∃ xs, TVs ks xs ∧ PV noM W (.agg xs) v := by
  obtain ⟨cs, rfl, -⟩ := okWide_struct hs hv
  obtain ⟨fuel, hf⟩ := h
  obtain ⟨xs, hx⟩ := open_ks 8 t ks hk fuel _ _ hf
  have h1 : cs.size = ks.length := by simpa [Value.cells] using hx.lc
  refine ⟨xs, ⟨hx.lx, fun i k x h2 h3 => ?_⟩, .agg xs cs (by rw [h1, hx.lx]) fun i x u h2 h3 => ?_⟩
  · have hlt : i < cs.size := by rw [h1]; exact (List.getElem?_eq_some_iff.1 h2).1
    exact (hx.at' i k x cs[i] h2 h3 (by simp [Value.cells, hlt])).1
  · have hlt : i < ks.length := by rw [← hx.lx]; exact (List.getElem?_eq_some_iff.1 h2).1
    exact (hx.at' i ks[i] x u (List.getElem?_eq_getElem hlt) h2 (by simpa [Value.cells] using h3)).2

theorem open_cell {k : TY} (hk : tyK P 8 t = some [k]) (hs : (match P.underlying t with | some (.int _) | some .string | some .bool | some (.slice _) => true | _ => false) = true) (hv : Value.okWide P W r b0 t v) (h : DataW.Trod enc P W base spare held t v dd p) :
    ∃ x, TV k x ∧ PV noM W x v := by
  have hc : v.cells.toList = [v] := by
    split at hs <;> try (simp at hs; done)
    · obtain ⟨n, rfl⟩ := okWide_int ‹_› hv; rfl
    · obtain ⟨n, rfl⟩ := okWide_string ‹_› hv; rfl
    · obtain ⟨n, rfl⟩ := okWide_bool ‹_› hv; rfl
    · obtain ⟨a, l, c, rfl⟩ := okWide_slice ‹_› hv; rfl
  obtain ⟨fuel, hf⟩ := h
  rw [hc] at hf
  obtain ⟨xs, hx⟩ := open_ks 8 t _ hk fuel _ _ hf
  match xs, hx.lx, hx with
  | [x], _, hx => exact ⟨x, hx.at' 0 k x v rfl rfl rfl⟩
end

theorem TV.int_inv {k : IntKind} {x : AV} (h : TV (.int k) x) : ∃ n, x = .int k n ∧ (Lit.int k n).wf = true := by cases h with | int k n h => exact ⟨n, rfl, h⟩
theorem TV.str_inv {x : AV} (h : TV .str x) : ∃ s, x = .str s ∧ s.size ≤ maxLen := by cases h with | str s h => exact ⟨s, rfl, h⟩
theorem TV.bool_inv {x : AV} (h : TV .bool x) : ∃ b, x = .bool b := by cases h with | bool b => exact ⟨b, rfl⟩
theorem TV.sl_inv {ks : List TY} {x : AV} (h : TV (.sl ks) x) : ∃ rows, x = .vsl rows ∧ rows.length ≤ maxLen ∧ ∀ r ∈ rows, TVs ks r := by
  cases h with | sl ks rows hl hr h => exact ⟨rows, rfl, hl, fun r h1 => ⟨hr r h1, h r h1⟩⟩
theorem TVs.nil_inv {xs : List AV} (h : TVs [] xs) : xs = [] := List.length_eq_zero_iff.1 h.1
theorem TVs.cons_inv {k : TY} {ks : List TY} {xs : List AV} (h : TVs (k :: ks) xs) : ∃ x xs', xs = x :: xs' ∧ TV k x ∧ TVs ks xs' := by
  obtain ⟨h1, h2⟩ := h
  match xs, h1, h2 with
  | x :: xs', h1, h2 => exact ⟨x, xs', rfl, h2 0 k x rfl rfl, by simpa using h1, fun i k' x' hk hx => h2 (i + 1) k' x' (by simpa using hk) (by simpa using hx)⟩

/-- Rows of one form are a list. -/
theorem rows_map {α β : Type} {f : α → β} {rows : List β} (h : ∀ r ∈ rows, ∃ d, r = f d) : ∃ l : List α, rows = l.map f := by
  induction rows with
  | nil => exact ⟨[], rfl⟩
  | cons r rows ih =>
    obtain ⟨d, rfl⟩ := h r (List.mem_cons_self ..)
    obtain ⟨l, rfl⟩ := ih fun r hr => h r (List.mem_cons_of_mem _ hr)
    exact ⟨d :: l, rfl⟩
end Go.Proofs.YtdpmioiamcgfkaaDoor
