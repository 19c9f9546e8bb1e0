/-
  The abstract machine: every operation; regions in order; functions.
-/
import Derived.Test.YtdpmioiamcgfkaaDoorAmF
import Derived.RangeFuncLeaves
namespace Go.Proofs.YtdpmioiamcgfkaaDoor
open Go.RowKit

section
variable {P : Program} {R : Run} {st : St} {a : Act} {W : World} {κ : Nat → Option (Nat × Nat)}

theorem sim_bin (h : SK R st a W κ) {o : Oper} {op : BinOp} {t u : TypeId} {x y : Operand} {x' y' : RA} (ho : o.op = .binOp op t x y u) (hs : scalarT P t = true) (hx : okA x x' = true) (hy : okA y y' = true)
    {z : AV} {st' : St} {d : Nat} (hr : rop R.G st d (.bin op x' y') = some (z, st')) : Sim P R a W o z st' := by
  simp only [rop, Option.map_eq_some_iff, Prod.mk.injEq] at hr
  obtain ⟨n, hn, rfl, rfl⟩ := hr
  obtain ⟨r, h1, h2⟩ := aBin_sim (P := P) (x' := x) (y' := y) hs (h.ev hx) (h.ev hy) hn
  refine .val h ?_ h2
  simp only [execOp, ho, Sem.run_bind]
  rw [Sem.run_bind] at h1
  rw [h1]
  rfl

theorem sim_op (h : SK R st a W κ) {o : Oper} {r : ROp} (hk : okOp P o.op r = true) {z : AV} {st' : St} {d : Nat} (hr : rop R.G st d r = some (z, st')) : Sim P R a W o z st' := by
  generalize ho : o.op = op at hk
  cases r with
  | mov y =>
    simp only [rop, Option.some.injEq, Prod.mk.injEq] at hr
    obtain ⟨rfl, rfl⟩ := hr
    cases op <;> simp only [okOp, Bool.false_eq_true] at hk
    · exact sim_mov h (.inl ho) hk
    · exact sim_mov h (.inr ho) hk
  | pick c' x' y' =>
    cases op <;> simp only [okOp, Bool.false_eq_true, Bool.and_eq_true] at hk
    exact sim_pick h ho hk.1.1 hk.1.2 hk.2 hr
  | nilck y =>
    cases op <;> simp only [okOp, Bool.false_eq_true] at hk
    exact sim_nilck h ho hk hr
  | bin op' x' y' =>
    cases op <;> simp only [okOp, Bool.false_eq_true, Bool.and_eq_true, decide_eq_true_eq] at hk
    obtain ⟨⟨⟨⟨h1, rfl⟩, h2⟩, h3⟩, -⟩ := hk
    exact sim_bin h ho h1 h2 h3 hr
  | eqs neg ks x' y' =>
    cases op <;> try (simp [okOp] at hk; done)
    rename_i bop t x y u
    simp only [okOp, Bool.and_eq_true, decide_eq_true_eq, Bool.not_eq_true'] at hk
    obtain ⟨⟨⟨⟨⟨h1, h2⟩, h3⟩, h4⟩, h5⟩, h6⟩ := hk
    refine sim_eqs h ho ?_ h2 h3 h4 h5 h6 hr
    cases neg <;> cases bop <;> simp_all
  | un op' x' =>
    cases op <;> simp only [okOp, Bool.false_eq_true, Bool.and_eq_true, decide_eq_true_eq] at hk
    obtain ⟨rfl, h1⟩ := hk
    exact sim_un h ho h1 hr
  | conv k y =>
    cases op <;> simp only [okOp, Bool.false_eq_true, Bool.and_eq_true] at hk
    obtain ⟨h1, h2⟩ := hk
    split at h1 <;> simp only [Bool.false_eq_true, decide_eq_true_eq] at h1
    subst h1
    exact sim_conv h ho ‹_› ⟨_, ‹_›⟩ h2 hr
  | ext j y =>
    cases op <;> simp only [okOp, Bool.false_eq_true, Bool.and_eq_true, beq_iff_eq] at hk
    obtain ⟨h1, rfl⟩ := hk
    exact sim_ext h ho h1 hr
  | mkf fn xs ys =>
    cases op <;> simp only [okOp, Bool.false_eq_true, Bool.and_eq_true, decide_eq_true_eq] at hk
    obtain ⟨⟨rfl, h1⟩, h2⟩ := hk
    simp only [rop, Option.some.injEq, Prod.mk.injEq] at hr
    obtain ⟨rfl, rfl⟩ := hr
    exact sim_mkf h ho h1 h2
  | field agg off n y =>
    cases op <;> simp only [okOp, Bool.false_eq_true, Bool.and_eq_true] at hk
    obtain ⟨h1, h2⟩ := hk
    split at h1 <;> try (simp at h1; done)
    split at h1 <;> simp only [Bool.false_eq_true, Bool.and_eq_true, beq_iff_eq, decide_eq_true_eq] at h1
    obtain ⟨⟨rfl, h3⟩, h4⟩ := h1
    exact sim_field h ho ‹_› ‹_› h3 h4 h2 hr
  | vop v xs =>
    cases op <;> try (simp [okOp, okV] at hk; done)
    all_goals exact sim_vop h ho (by unfold okOp at hk; exact hk) hr
  | faddr off y =>
    cases op <;> simp only [okOp, Bool.false_eq_true, Bool.and_eq_true] at hk
    obtain ⟨h1, h2⟩ := hk
    split at h1 <;> try (simp at h1; done)
    split at h1 <;> simp only [Bool.false_eq_true, Bool.and_eq_true, beq_iff_eq] at h1
    obtain ⟨rfl, h3⟩ := h1
    split at h3 <;> simp only [Bool.false_eq_true] at h3
    exact sim_faddr h ho ‹_› ‹_› ‹_› h2 hr
  | iaddr sz y j =>
    cases op <;> simp only [okOp, Bool.false_eq_true, Bool.and_eq_true] at hk
    obtain ⟨⟨h1, h2⟩, h3⟩ := hk
    split at h1 <;> simp only [Bool.false_eq_true, decide_eq_true_eq] at h1
    exact sim_iaddr h ho ‹_› h1 h2 h3 hr
  | build zero qs =>
    cases op <;> try (simp [okOp] at hk; done)
    exact sim_build h ho hk hr
  | len y =>
    cases op <;> try (simp [okOp] at hk; done)
    rename_i c
    obtain ⟨callee, args, argTypes⟩ := c
    unfold okOp at hk
    split at hk <;> try (simp at hk; done)
    all_goals simp_all only [reduceCtorEq, ROp.len.injEq, Op.call.injEq, Call.mk.injEq]
    rename_i x t ts y' e1 e2
    obtain ⟨rfl, rfl, rfl⟩ := e1
    subst e2
    simp only [Bool.and_eq_true] at hk
    obtain ⟨h1, h2⟩ := hk
    split at h1 <;> simp only [Bool.false_eq_true] at h1
    exact sim_len h ho rfl ‹_› h2 hr
  | slen y =>
    cases op <;> try (simp [okOp] at hk; done)
    rename_i c
    obtain ⟨callee, args, argTypes⟩ := c
    unfold okOp at hk
    split at hk <;> try (simp at hk; done)
    all_goals simp_all only [reduceCtorEq, ROp.slen.injEq, Op.call.injEq, Call.mk.injEq]
    rename_i x t ts y' e1 e2
    obtain ⟨rfl, rfl, rfl⟩ := e1
    subst e2
    simp only [Bool.and_eq_true] at hk
    obtain ⟨h1, h2⟩ := hk
    split at h1 <;> simp only [Bool.false_eq_true] at h1
    exact sim_slen h ho rfl ‹_› h2 hr
  | mx great y ys =>
    cases op <;> try (simp [okOp] at hk; done)
    rename_i c
    obtain ⟨callee, args, argTypes⟩ := c
    unfold okOp at hk
    split at hk <;> try (simp at hk; done)
    all_goals simp_all only [reduceCtorEq, ROp.mx.injEq, Op.call.injEq, Call.mk.injEq]
    all_goals
      simp only [Bool.and_eq_true] at hk
      exact sim_mx h ho rfl hk.1 hk.2 hr
  | load agg n y =>
    cases op <;> simp only [okOp, Bool.false_eq_true, Bool.and_eq_true, decide_eq_true_eq] at hk
    obtain ⟨⟨h1, h2⟩, h3⟩ := hk
    exact sim_load h ho h1 h2 h3 hr
  | store n y u =>
    cases op <;> simp only [okOp, Bool.false_eq_true, Bool.and_eq_true, decide_eq_true_eq] at hk
    obtain ⟨⟨h1, h2⟩, h3⟩ := hk
    exact sim_store h ho h1 h2 h3 hr
  | alloc cells =>
    cases op <;> simp only [okOp, Bool.false_eq_true] at hk
    split at hk <;> try (simp at hk; done)
    split at hk <;> try (simp at hk; done)
    exact sim_alloc h ho ‹_› ‹_› hk hr
  | box y =>
    cases op <;> simp only [okOp, Bool.false_eq_true] at hk
    exact sim_box h ho hk hr
  | bsl own sz n zero qs =>
    cases op <;> simp only [okOp, Bool.false_eq_true, Bool.and_eq_true, decide_eq_true_eq, beq_iff_eq] at hk
    obtain ⟨⟨⟨⟨h1, rfl⟩, h2⟩, h3⟩, h4⟩ := hk
    split at h1 <;> simp only [Bool.false_eq_true, Bool.and_eq_true, decide_eq_true_eq] at h1
    obtain ⟨h5, h6⟩ := h1
    split at h6 <;> try (simp at h6; done)
    split at h6 <;> try (simp at h6; done)
    exact sim_bsl h ho ‹_› h5 ‹_› ‹_› h6 h2 h3 h4 hr
  | slc sz y lo' hi' =>
    cases op <;> try (simp [okOp] at hk; done)
    rename_i t x lo hi mx
    cases mx <;> simp only [okOp, Bool.false_eq_true, Bool.and_eq_true] at hk
    obtain ⟨⟨⟨h1, h2⟩, h3⟩, h4⟩ := hk
    split at h1 <;> simp only [Bool.false_eq_true, decide_eq_true_eq] at h1
    exact sim_slc h ho ‹_› h1 h2 h3 h4 hr
  | sslc y lo' hi' =>
    cases op <;> try (simp [okOp] at hk; done)
    rename_i t x lo hi mx
    cases mx <;> simp only [okOp, Bool.false_eq_true, Bool.and_eq_true] at hk
    obtain ⟨⟨⟨h1, h2⟩, h3⟩, h4⟩ := hk
    split at h1 <;> simp only [Bool.false_eq_true] at h1
    exact sim_sslc h ho ‹_› h2 h3 h4 hr
  | mksl sz bytes zero n =>
    cases op <;> simp only [okOp, Bool.false_eq_true, Bool.and_eq_true] at hk
    obtain ⟨⟨h1, h2⟩, h3⟩ := hk
    split at h1 <;> try (simp at h1; done)
    split at h1 <;> simp only [Bool.false_eq_true, Bool.and_eq_true, decide_eq_true_eq] at h1
    obtain ⟨⟨h4, h5⟩, h6⟩ := h1
    split at h6 <;> try (simp at h6; done)
    exact sim_mksl h ho ‹_› ‹_› h4 h5 ‹_› h6 h2 h3 hr
  | app sz bytes s' x' =>
    cases op <;> try (simp [okOp] at hk; done)
    rename_i c
    obtain ⟨callee, args, argTypes⟩ := c
    unfold okOp at hk
    split at hk <;> try (simp at hk; done)
    all_goals simp_all only [reduceCtorEq, ROp.app.injEq, Op.call.injEq, Call.mk.injEq]
    simp only [Bool.and_eq_true, beq_iff_eq] at hk
    obtain ⟨⟨⟨rfl, h1⟩, h2⟩, h3⟩ := hk
    split at h1 <;> try (simp at h1; done)
    split at h1 <;> simp only [Bool.false_eq_true, Bool.and_eq_true, decide_eq_true_eq] at h1
    obtain ⟨⟨h4, h5⟩, h6⟩ := h1
    split at h6 <;> simp only [Bool.false_eq_true, beq_iff_eq] at h6
    exact sim_app h ho rfl ‹_› ‹_› h4.1 h4.2 h5.1 h5.2 ‹_› h6 h2 h3 hr
  | call f args => simp [rop] at hr
  | calln f args => simp [rop] at hr
  | callv f args => simp [rop] at hr
  | mkmap =>
    cases op <;> try (simp [okOp] at hk; done)
    exact sim_mkmap h ho (by unfold okOp at hk; exact hk) hr
  | look kk zero ok m k =>
    cases op <;> simp only [okOp, Bool.false_eq_true, Bool.and_eq_true, beq_iff_eq] at hk
    obtain ⟨⟨⟨h1, rfl⟩, h2⟩, h3⟩ := hk
    split at h1 <;> simp only [Bool.false_eq_true, Bool.and_eq_true] at h1
    obtain ⟨h4, h5⟩ := h1
    split at h5 <;> try (simp at h5; done)
    split at h5 <;> try (simp at h5; done)
    exact sim_look h ho ‹_› h4 ‹_› ‹_› h5 h2 h3 hr
  | mupd kk m k v =>
    cases op <;> simp only [okOp, Bool.false_eq_true, Bool.and_eq_true] at hk
    all_goals
      obtain ⟨⟨⟨h1, h2⟩, h3⟩, h4⟩ := hk
      split at h1 <;> try (simp at h1; done)
      first
        | exact sim_mupd h (.inl ho) ‹_› h1 h2 h3 h4 hr
        | exact sim_mupd h (.inr ho) ‹_› h1 h2 h3 h4 hr
  | mdel kk m k =>
    cases op <;> try (simp [okOp] at hk; done)
    rename_i c
    obtain ⟨callee, args, argTypes⟩ := c
    unfold okOp at hk
    split at hk <;> try (simp at hk; done)
    all_goals simp_all only [reduceCtorEq, ROp.mdel.injEq, Op.call.injEq, Call.mk.injEq]
    simp only [Bool.and_eq_true] at hk
    obtain ⟨⟨h1, h2⟩, h3⟩ := hk
    split at h1 <;> try (simp at h1; done)
    exact sim_mdel h ho rfl ‹_› h1 h2 h3 hr
  | mlen m =>
    cases op <;> try (simp [okOp] at hk; done)
    rename_i c
    obtain ⟨callee, args, argTypes⟩ := c
    unfold okOp at hk
    split at hk <;> try (simp at hk; done)
    all_goals simp_all only [reduceCtorEq, ROp.mlen.injEq, Op.call.injEq, Call.mk.injEq]
    rename_i x t ts y' e1 e2
    obtain ⟨rfl, rfl, rfl⟩ := e1
    subst e2
    simp only [Bool.and_eq_true] at hk
    obtain ⟨h1, h2⟩ := hk
    split at h1 <;> simp only [Bool.false_eq_true] at h1
    exact sim_mlen h ho rfl ‹_› h2 hr

theorem yielded_tmp {ops : Array Oper} {j t : Nat} (h : (ops[j]?).bind (·.dst) = some t) (ht : t < a.tmps.size) : yielded ops a.tmps j = match a.tmps.getD t Go.undef with | .bool b => some b | _ => none := by
  unfold yielded
  rw [h]
  simp only [Option.bind_some, Array.getD, ht, dif_pos, Array.getElem?_eq_getElem]
  split <;> simp_all

/-- The guard. -/
theorem wants_sim (h : SK R st a W κ) {ops : Array Oper} {o : Oper} {g : Option (Nat × Bool)} (hg : (match o.guard, g with
    | none, none => true
    | some (j, b), some (t, b') => decide ((ops[j]?).bind (·.dst) = some t) && decide (t < R.N) && b == b'
    | _, _ => false) = true) {c : Bool} (hw : wants st g = some c) : Region.wanted o (yielded ops a.tmps) = c := by
  unfold wants at hw
  unfold Region.wanted
  split at hg <;> try (simp at hg; done)
  · rename_i e1
    simp only [Option.some.injEq] at hw
    simp [e1, hw]
  · rename_i j b t b' e1
    simp only [Bool.and_eq_true, decide_eq_true_eq, beq_iff_eq] at hg
    obtain ⟨⟨h1, h2⟩, rfl⟩ := hg
    simp only [e1]
    rw [yielded_tmp h1 (by rw [h.size]; exact h2)]
    simp only at hw
    split at hw <;> simp only [Option.some.injEq, reduceCtorEq] at hw
    · rename_i x hx
      rw [(h.tm t _ hx).bool_inv]
      subst hw
      simp
    · rename_i hx
      rw [(h.tm t _ hx).hole_inv]
      subst hw
      rfl

/-- One operation of a region, in a state. -/
inductive Stp (P : Program) (G : Nat → Option (List AV)) (r : ROper) (st : St) : St → Prop
  | skip (h : wants st r.guard = some false) : Stp P G r st (st.putd r.d .hole)
  | call (h : wants st r.guard = some true) (f : FuncId) (args : List RA) (v : AV) (ho : r.op = .call f args) (hc : CallR P G st f (args.map (evA G st)) v) : Stp P G r st (st.putd r.d v)
  | callv (h : wants st r.guard = some true) (f : RA) (g : FuncId) (first caps : List AV) (args : List RA) (v : AV) (ho : r.op = .callv f args) (hf : evA G st f = .func (.func g) first caps)
      (hc : CallR P G st g (first ++ args.map (evA G st) ++ caps) v) : Stp P G r st (st.putd r.d v)
  | callp (h : wants st r.guard = some true) (f : FuncId) (args : List RA) (v : AV) (ho : r.op = .calln f args) (hc : CallR P G st f (args.map (evA G st)) v) : Stp P G r st (st.putd r.d v)
  | calln (h : wants st r.guard = some true) (f : FuncId) (args : List RA) (sz : Nat) (rows : List (List AV)) (ho : r.op = .calln f args) (hc : NewR P G st (r.d.getD 0) f (args.map (evA G st)) sz rows) : Stp P G r st ((st.set (r.d.getD 0) (.row sz rows)).putd r.d (.osl (r.d.getD 0) rows.length))
  | op (h : wants st r.guard = some true) (x : AV) (st' : St) (hn : isCall r.op = false) (hr : rop G st (r.d.getD 0) r.op = some (x, st')) : Stp P G r st (st'.putd r.d x)

/-- An operation that is a call: of which function, on what. -/
def IsCall (G : Nat → Option (List AV)) (st : St) (r : ROper) (g : FuncId) (args : List AV) : Prop :=
  (∃ as, (r.op = .call g as ∨ r.op = .calln g as) ∧ args = as.map (evA G st)) ∨ ∃ f as first caps, r.op = .callv f as ∧ evA G st f = .func (.func g) first caps ∧ args = first ++ as.map (evA G st) ++ caps

theorem RW_cons {G : Nat → Option (List AV)} {r : ROper} {rs : List ROper} {K : Exit → St → Prop} (h : RW P G (r :: rs) st K) :
    (∃ st', Stp P G r st st' ∧ RW P G rs st' K) ∨ (wants st r.guard = some true ∧ ∃ g args, IsCall G st r g args ∧ ((∃ v st1, CallSem P G st g args v st1 ∧ RW P G rs (st1.putd r.d v) K) ∨ ∃ ch, CallPan P G st g args ch ∧ K (.panic ch) st)) := by
  simp only [RW] at h
  split at h
  · exact h.elim
  · rename_i w hw
    cases w
    · exact .inl ⟨_, .skip hw, h.1 rfl⟩
    · have h := h.2 rfl
      split at h
      · rcases h with ⟨v, hc, hv⟩ | h
        · exact .inl ⟨_, .call hw _ _ v ‹_› hc, hv⟩
        · exact .inr ⟨hw, _, _, .inl ⟨_, .inl ‹_›, rfl⟩, h⟩
      · rcases h with ⟨v, hc, hv⟩ | ⟨sz, rows, hc, hv⟩
        · exact .inl ⟨_, .callp hw _ _ v ‹_› hc, hv⟩
        · exact .inl ⟨_, .calln hw _ _ sz rows ‹_› hc, hv⟩
      · split at h <;> try (exact h.elim)
        rcases h with ⟨v, hc, hv⟩ | h
        · exact .inl ⟨_, .callv hw _ _ _ _ _ v ‹_› ‹_› hc, hv⟩
        · exact .inr ⟨hw, _, _, .inr ⟨_, _, _, _, ‹_›, ‹_›, rfl⟩, h⟩
      · rename_i hn1 hn2
        split at h <;> try (exact h.elim)
        refine .inl ⟨_, .op hw _ _ ?_ ‹_›, h⟩
        cases e : r.op <;> simp_all [isCall]

theorem okOp_nodefer {o : Op} {r : ROp} (h : okOp P o r = true) : ∀ c, o ≠ .defer c := by
  rintro c rfl
  cases r <;> simp [okOp, okV] at h
theorem FW_depth {rd : Option Nat} {n : Nat} : (FW rd).depth.isSome = true → 1 ≤ n := fun h => by simp [FW, Fence.wide] at h

theorem iscall_sim {rd : Option Nat} {m : Nat} {ops : Array Oper} {r : ROper} {j : Nat} {o : Oper} {g : FuncId} {args : List AV} {K : Act → World → Prop} {Q : Exit → Act → World → Prop} (hi : IsCall R.G st r g args) (hw : wants st r.guard = some true)
    (ho : ops[j]? = some o) (hk : okOper P R.N ops o r = true) (hκ : SK R st a W κ)
    (hc : ∀ vs : Array Value, CR (st.env R.M κ) W args vs.toList → entB P g = true ∧ Calls P g vs W fun
      | .returned v, W' => K (a.put o.dst v) W'
      | .panicked ch, W' => Q (.panic ch) a W'
      | .outgrown, _ => LetsOut Q) : wpOpIn (FW rd) m P ops Q j K a W := by
  simp only [okOper, Bool.and_eq_true, decide_eq_true_eq] at hk
  obtain ⟨⟨⟨hd, hdn⟩, hop⟩, hg⟩ := hk
  unfold wpOpIn
  simp only [ho]
  rw [if_pos (wants_sim hκ hg hw)]
  have fin : ∀ vs : Array Value, (∀ c, o.op ≠ .defer c) → CR (st.env R.M κ) W args vs.toList → (execOp a.eval o).run P W = (callFunc g vs).run P W → o.wpIn (FW rd) m P a W K Q := fun vs hnd ha he => by
    obtain ⟨h1, h2⟩ := hc vs ha
    refine ⟨fun _ _ => trivial, ?_⟩
    rw [Oper.semAt_eq _ _ _ hnd, he, callFunc_run h1]
    exact ⟨FW_depth, callsFW.2 h2⟩
  rcases hi with ⟨as, hcall | hcall, rfl⟩ | ⟨f, as, first, caps, hcall, hfun, rfl⟩
  · rw [hcall] at hop
    simp only [isCall, if_true, okCall] at hop
    split at hop <;> try (simp at hop; done)
    · rename_i r0 g xs ats f' ys e1 e2
      simp only [Bool.and_eq_true, beq_iff_eq] at hop
      obtain ⟨rfl, hxs⟩ := hop
      simp only [ROp.call.injEq] at e2
      obtain ⟨rfl, rfl⟩ := e2
      refine fin (xs.map a.eval).toArray (fun c e => by rw [e1] at e; cases e) (by simpa using hκ.evs hxs) ?_
      simp [execOp, e1, resolve, Deferred.ofValue, Act.eval, invoke, Sem.run_bind]
    all_goals simp_all
  · rw [hcall] at hop
    simp only [isCall, if_true, okCall] at hop
    split at hop <;> try (simp at hop; done)
    · simp_all
    · rename_i r0 g xs ats f' ys e1 e2
      simp only [Bool.and_eq_true, beq_iff_eq] at hop
      obtain ⟨rfl, hxs⟩ := hop
      simp only [ROp.calln.injEq] at e2
      obtain ⟨rfl, rfl⟩ := e2
      refine fin (xs.map a.eval).toArray (fun c e => by rw [e1] at e; cases e) (by simpa using hκ.evs hxs) ?_
      simp [execOp, e1, resolve, Deferred.ofValue, Act.eval, invoke, Sem.run_bind]
    · simp_all
  · rw [hcall] at hop
    simp only [isCall, if_true, okCall] at hop
    split at hop <;> try (simp at hop; done)
    · simp_all
    · simp_all
    · rename_i r0 x xs ats y ys e1 e2
      simp only [Bool.and_eq_true] at hop
      simp only [ROp.callv.injEq] at e2
      obtain ⟨rfl, rfl⟩ := e2
      have hx := hκ.ev hop.1
      rw [hfun] at hx
      obtain ⟨us, vs, hv1, hv2, hv3⟩ := hx.func_inv
      have hxs := hκ.evs hop.2
      refine fin (us ++ (xs.map a.eval).toArray ++ vs) (fun c e => by rw [e1] at e; cases e) ?_ ?_
      · refine ⟨by have := hv2.1; have := hv3.1; have := hxs.1; simp at *; omega, fun i q u hq hu => ?_⟩
        simp only [Array.toList_append] at hu
        have l1 : us.toList.length = first.length := hv2.1
        have l2 : (xs.map a.eval).length = (as.map (evA R.G st)).length := hxs.1
        rcases Nat.lt_or_ge i first.length with c1 | c1
        · rw [List.append_assoc, List.getElem?_append_left (by simpa using c1)] at hq
          rw [List.append_assoc, List.getElem?_append_left (by omega)] at hu
          exact hv2.2 i q u hq hu
        · rw [List.append_assoc, List.getElem?_append_right (by simpa using c1)] at hq
          rw [List.append_assoc, List.getElem?_append_right (by omega), l1] at hu
          rcases Nat.lt_or_ge (i - first.length) (as.map (evA R.G st)).length with c2 | c2
          · rw [List.getElem?_append_left c2] at hq
            rw [List.getElem?_append_left (by simp at *; omega)] at hu
            exact hxs.2 _ q u hq (by simpa using hu)
          · rw [List.getElem?_append_right c2] at hq
            rw [List.getElem?_append_right (by simp at *; omega)] at hu
            refine hv3.2 _ q u hq ?_
            rw [← hu]; congr 1; simp at *; omega
      · simp [execOp, e1, resolve, hv1, Deferred.ofValue, invoke, Sem.run_bind]

theorem stp_sim {rd : Option Nat} {m : Nat} {ops : Array Oper} {r : ROper} {st' : St} {j : Nat} {o : Oper} {K : Act → World → Prop} {Q : Exit → Act → World → Prop} (hst : Stp P R.G r st st') (ho : ops[j]? = some o) (hk : okOper P R.N ops o r = true)
    (hs : SR R st a W) (hK : ∀ a' W', SR R st' a' W' → K a' W') : wpOpIn (FW rd) m P ops Q j K a W := by
  obtain ⟨κ, hκ⟩ := hs
  have hk0 := hk
  simp only [okOper, Bool.and_eq_true, decide_eq_true_eq] at hk
  obtain ⟨⟨⟨hd, hdn⟩, hop⟩, hg⟩ := hk
  have hdn' : ∀ n, r.d = some n → n < R.N := fun n e => by rw [e] at hdn; simpa using hdn
  have doCall : ∀ {g : FuncId} {args : List AV} {v : AV}, IsCall R.G st r g args → wants st r.guard = some true → CallR P R.G st g args v → st' = st.putd r.d v → wpOpIn (FW rd) m P ops Q j K a W := by
    intro g args v hi hw hc hv
    refine iscall_sim hi hw ho hk0 hκ fun vs ha => ?_
    obtain ⟨h1, h2⟩ := call_sim hκ hc ha
    refine ⟨h1, h2.mono ?_⟩
    rintro e W' ⟨u, rfl, h3, h4, h5⟩
    refine hK _ _ ⟨κ, ?_⟩
    rw [hd, hv]
    exact h4.putd hdn' h5
  cases hst with
  | skip hw =>
    unfold wpOpIn
    simp only [ho]
    rw [if_neg (by rw [wants_sim hκ hg hw]; simp)]
    refine ⟨fun _ _ => trivial, ?_⟩
    refine hK _ _ ⟨κ, ?_⟩
    rw [hd]
    exact hκ.putd hdn' (.pv .hole)
  | call hw f args v hcall hc => exact doCall (.inl ⟨_, .inl hcall, rfl⟩) hw hc rfl
  | callp hw f args v hcall hc => exact doCall (.inl ⟨_, .inr hcall, rfl⟩) hw hc rfl
  | calln hw f args sz rows hcall hc =>
    refine iscall_sim (.inl ⟨_, .inr hcall, rfl⟩) hw ho hk0 hκ fun vs ha => ?_
    obtain ⟨hd0, hp, he, hcl⟩ := hc
    refine ⟨he, (hcl (st.env R.M κ).M W vs (fun b hb => hκ.owned_lt hb) hκ.gr (by have := ha.1; simpa using this) (fun i x u hx hu => (ha.2 i x u hx (by simpa using hu)).toPV (List.all_eq_true.1 hp x (List.mem_of_getElem? hx)))).mono ?_⟩
    rintro e W' ⟨b, s, cs, t, c, rfl, hE, hb0, hb1, hc1, hc2, hbk, hfit, hob⟩
    refine hK _ _ ⟨fun k => if k = r.d.getD 0 then some (b, s) else κ k, ?_⟩
    rw [hd]
    refine (hκ.newX hE hb0 hb1 hd0 hob).putd hdn' ?_
    refine .osl _ _ sz rows.length _ _ c ?_ (Nat.le_refl _) (fun _ => ⟨b, s, cs, t, by simp [St.env], rfl, rfl, hc1, hc2, hbk, hfit⟩)
    show ((st.set (r.d.getD 0) (.row sz rows)).get (r.d.getD 0)).bind AObj.dim = _
    rw [St.get_set, if_pos rfl]; rfl
  | callv hw f g first caps args v hcall hfun hc => exact doCall (.inr ⟨_, _, _, _, hcall, hfun, rfl⟩) hw hc rfl
  | op hw x st2 hnc hrop =>
    unfold wpOpIn
    simp only [ho]
    rw [hnc] at hop
    simp only [Bool.false_eq_true, if_false] at hop
    obtain ⟨v, W', κ', h1, h2, h3⟩ := sim_op hκ hop hrop
    rw [if_pos (wants_sim hκ hg hw)]
    refine ⟨fun _ _ => trivial, ?_⟩
    rw [Oper.semAt_eq _ _ _ (okOp_nodefer hop)]
    have fin : K (a.put o.dst v) W' := by
      refine hK _ _ ⟨κ', ?_⟩
      rw [hd]
      exact h2.putd hdn' h3
    rcases h1 with h1 | ⟨h1, rfl⟩ <;> rw [h1] <;> exact fin

theorem reg_sim {rd : Option Nat} {m : Nat} {ops : Array Oper} : ∀ (l : List Nat) (rs' : List ROper) (st : St) (K : Exit → St → Prop) (Q : Exit → Act → World → Prop) (a : Act) (W : World),
    (∀ (i : Nat) (r : ROper), rs'[i]? = some r → ∃ (j : Nat) (o : Oper), l[i]? = some j ∧ ops[j]? = some o ∧ okOper P R.N ops o r = true) → l.length = rs'.length → (∀ e st' a' W', K e st' → SR R st' a' W' → Q e a' W') →
    RW P R.G rs' st K → SR R st a W → wpOpsIn (FW rd) m P ops Q l a W := by
  intro l
  induction l with
  | nil =>
    intro rs' st K Q a W hok hl hK hr hs
    cases rs' with
    | nil => exact hK .normal st a W hr hs
    | cons r rs' => simp at hl
  | cons j l ih =>
    intro rs' st K Q a W hok hl hK hr hs
    cases rs' with
    | nil => simp at hl
    | cons r rs' =>
      obtain ⟨j', o, hj, ho, hk⟩ := hok 0 r rfl
      simp at hj
      subst hj
      have go : ∀ (st' : St) (a' : Act) (W' : World), RW P R.G rs' st' K → SR R st' a' W' → wpOpsIn (FW rd) m P ops Q l a' W' := fun st' a' W' h2 hs' =>
        ih rs' st' K Q a' W' (fun i r hi => by simpa using hok (i + 1) r (by simpa using hi)) (by simpa using hl) hK h2 hs'
      rw [wpOpsIn_cons]
      rcases RW_cons hr with ⟨st', h1, h2⟩ | ⟨hw, g, args, hi, hc⟩
      · exact stp_sim h1 ho hk hs fun a' W' hs' => go st' a' W' h2 hs'
      · obtain ⟨κ, hκ⟩ := hs
        have hk0 := hk
        simp only [okOper, Bool.and_eq_true, decide_eq_true_eq] at hk
        obtain ⟨⟨⟨hd, hdn⟩, -⟩, -⟩ := hk
        have hdn' : ∀ n, r.d = some n → n < R.N := fun n e => by rw [e] at hdn; simpa using hdn
        refine iscall_sim hi hw ho hk0 hκ fun vs ha => ?_
        rcases hc with ⟨v, st1, hc, hn⟩ | ⟨ch, hc, hn⟩
        · obtain ⟨h1, h2⟩ := hc R a W κ vs rfl hκ ha
          refine ⟨h1, h2.mono ?_⟩
          rintro e W' ⟨u, κ1, rfl, h3, h4⟩
          refine go _ _ _ hn ⟨κ1, ?_⟩
          rw [hd]
          exact h3.putd hdn' h4
        · obtain ⟨h1, h2⟩ := callP_sim hκ hc ha
          refine ⟨h1, h2.mono ?_⟩
          rintro e W' ⟨rfl, h3⟩
          exact hK _ _ _ _ hn ⟨κ, h3⟩

end

theorem AR_reg {P : Program} {R : Run} {st : St} {Φ : Exit → St → Prop} {id : Nat} {rs : List ROper} (h : RW P R.G rs st Φ) : AR P R (.reg id false rs) st Φ := by
  intro c hc m a W hs
  cases c <;> simp only [okCode, Bool.false_eq_true, Bool.and_eq_true, beq_iff_eq] at hc
  rename_i id' ops draw
  obtain ⟨⟨⟨rfl, rfl⟩, hc⟩, -⟩ := hc
  obtain ⟨h1, h2⟩ := allB2_spec hc
  refine wpIn_region (reg_sim (R := R) _ rs st Φ _ a W (fun i r hi => ?_) (by simpa using h1) (fun e st' a' W' hK hs' => ⟨st', hK, hs'⟩) h hs)
  have hlt : i < ops.size := by have := (List.getElem?_eq_some_iff.1 hi).1; simp at h1; omega
  exact ⟨i, ops[i], by simp [hlt], by simp [hlt], h2 i _ r (by simp [hlt]) hi⟩

/-! ### Functions -/
inductive RRes where
  | t (n : Nat)
  | c (n : Nat) (agg : Bool) (sz : Nat)

def okRes (P : Program) : ResultVar → RRes → Bool
  | .tmp n, .t m => n == m
  | .cell n t, .c m agg sz => n == m && decide (aggB P t = some agg) && decide (szB P t = some sz)
  | _, _ => false

def evRes (st : St) : RRes → Option AV
  | .t n => st.tmp n
  | .c n agg sz => match st.tmp n with
    | some p => match cellsAt st p with
      | some (cs, off) => cut agg sz cs off
      | none => none
    | none => none

def evRess (st : St) : List RRes → Option (List AV)
  | [] => some []
  | r :: rs => match evRes st r, evRess st rs with
    | some x, some xs => some (x :: xs)
    | _, _ => none

def tupV : List AV → AV
  | [x] => x
  | xs => .tup xs

def iniT : Nat → List AV → List (Nat × AV)
  | _, [] => []
  | n, x :: xs => (n, x) :: iniT (n + 1) xs
def initSt (args : List AV) : St := ⟨iniT 0 args, []⟩

/-- What a function has to leave. -/
def Fin (rs : List RRes) (v : AV) : Exit → St → Prop
  | .normal, st | .ret, st => ∃ xs ys, evRess st rs = some xs ∧ snapL (snap st) xs = some ys ∧ v = tupV ys
  | _, _ => False

section
variable {P : Program}

theorem iniT_lk : ∀ (xs : List AV) (n m : Nat), lk (iniT n xs) m = if n ≤ m then xs[m - n]? else none
  | [], n, m => by simp [iniT, lk]
  | x :: xs, n, m => by
    simp only [iniT, lk]
    by_cases e : n = m
    · subst e; simp
    · rw [if_neg e, iniT_lk xs (n + 1) m]
      by_cases h : n ≤ m
      · rw [if_pos (by omega), if_pos h, show m - n = (m - (n + 1)) + 1 by omega, List.getElem?_cons_succ]
      · rw [if_neg (by omega), if_neg h]

theorem res_run {R : Run} {st : St} {a : Act} {W : World} {κ : Nat → Option (Nat × Nat)} (h : SK R st a W κ) {rv : ResultVar} {r : RRes} (hk : okRes P rv r = true) {x : AV} (hx : evRes st r = some x) :
    ∃ v, (match rv with
      | .tmp t => pure (a.tmps.getD t Go.undef)
      | .cell p t => do loadVar t (← asAddr (a.tmps.getD p Go.undef)) : Sem Value).run P W = .ok v W ∧ VR (st.env R.M κ) W x v := by
  cases rv with
  | tmp n =>
    cases r <;> simp only [okRes, Bool.false_eq_true, beq_iff_eq] at hk
    subst hk
    exact ⟨_, rfl, h.tm n x hx⟩
  | cell n t =>
    cases r <;> simp only [okRes, Bool.false_eq_true, Bool.and_eq_true, beq_iff_eq, decide_eq_true_eq] at hk
    obtain ⟨⟨rfl, ha⟩, hn⟩ := hk
    simp only [evRes] at hx
    split at hx <;> try (simp at hx; done)
    rename_i p hp
    split at hx <;> try (simp at hx; done)
    rename_i cs off hc
    obtain ⟨b, o, hv, hcc⟩ := h.cellsAt (h.tm n p hp) hc
    obtain ⟨v, h1, h2⟩ := load_run (P := P) ha hn hcc hx
    refine ⟨v, ?_, h2⟩
    simp only [Instr.loadAt, Instr.sureAddr, Sem.run_bind, Sem.run_pure, Result.andThen_ok] at h1
    simp only [hv, asAddr, Sem.run_bind, Sem.run_pure, Result.andThen_ok]
    exact h1

theorem ress_run {R : Run} {st : St} {a : Act} {W : World} {κ : Nat → Option (Nat × Nat)} (h : SK R st a W κ) : ∀ {rvs : List ResultVar} {rs : List RRes} {xs : List AV}, allB2 (okRes P) rvs rs = true → evRess st rs = some xs →
    ∃ vs : List Value, (rvs.mapM fun rv => (match rv with
      | .tmp t => pure (a.tmps.getD t Go.undef)
      | .cell p t => do loadVar t (← asAddr (a.tmps.getD p Go.undef)) : Sem Value)).run P W = .ok vs W ∧ CR (st.env R.M κ) W xs vs
  | [], [], xs, _, hx => by simp only [evRess, Option.some.injEq] at hx; subst hx; exact ⟨[], rfl, rfl, by simp⟩
  | [], _ :: _, _, hk, _ => by simp [allB2] at hk
  | _ :: _, [], _, hk, _ => by simp [allB2] at hk
  | rv :: rvs, r :: rs, xs, hk, hx => by
    simp only [allB2, Bool.and_eq_true] at hk
    simp only [evRess] at hx
    split at hx <;> simp only [Option.some.injEq, reduceCtorEq] at hx
    rename_i x xs' e1 e2
    subst hx
    obtain ⟨v, h1, h2⟩ := res_run h hk.1 e1
    obtain ⟨vs, h3, h4⟩ := ress_run h hk.2 e2
    refine ⟨v :: vs, ?_, by simp [h4.1], fun i y u hy hu => ?_⟩
    · rw [List.mapM_cons, Sem.run_bind, h1]
      simp only [Result.andThen_ok, Sem.run_bind, h3, Sem.run_pure]
    · cases i with
      | zero => simp at hy hu; subst hy; subst hu; exact h2
      | succ i => exact h4.2 i y u (by simpa using hy) (by simpa using hu)

/-- The end of a function: what rounds have deferred is taken. -/
theorem SK.leave {R : Run} {st : St} {κ : Nat → Option (Nat × Nat)} {fn : Func} {Q : Ending → World → Prop} {u : FrameMode} (hu : u ≠ .run) (hD : R.D = []) {a : Act} {W : World} (h : SK R st a W κ)
    (hfin : ∀ (a' : Act) (W' : World), a'.tmps = a.tmps → SK R st a' W' κ → LeavesInM (FW none) 1 P fn a.tmps Q [] u W') : LeavesInM (FW none) 1 P fn a.tmps Q a.defers u W := by
  obtain ⟨cs, e, nd, hc, hz⟩ := h.defers
  rw [hD, List.append_nil] at e
  rw [e]
  have key : ∀ (cs : List Nat) (a' : Act) (W : World), a'.tmps = a.tmps → SK R st a' W κ → cs.Nodup → (∀ c ∈ cs, R.W0.heap.size ≤ c ∧ W.heap[c]? = some (.deferred (some []))) → (R.nm = true → cs = []) → LeavesInM (FW none) 1 P fn a.tmps Q (cs.map coll) u W := by
    intro cs
    induction cs with
    | nil => intro a' W ht h _ _ _; exact hfin a' W ht h
    | cons c cs ih =>
      intro a' W ht h nd hc hz
      obtain ⟨n1, n2⟩ := List.nodup_cons.1 nd
      obtain ⟨c1, c2⟩ := hc c (List.mem_cons_self ..)
      refine ⟨hu, .inl ⟨c, _, rfl, run_takeDeferred c2, ?_⟩⟩
      have h2 := h.take c2 c1 (cs := cs) (fun x hx => ⟨by rintro rfl; exact n1 hx, hc x (List.mem_cons_of_mem _ hx)⟩) n2 (fun e => by cases hz e)
      refine ih { a' with defers := cs.map coll ++ R.D } _ ht h2 n2 (fun x hx => ⟨(hc x (List.mem_cons_of_mem _ hx)).1, ?_⟩) (fun e => by cases hz e)
      rw [World.putObj_heap_other (by rintro rfl; exact n1 hx)]
      exact (hc x (List.mem_cons_of_mem _ hx)).2
  exact key cs a W rfl h nd hc hz

theorem PC_of {G : Nat → Option (List AV)} {f : FuncId} {fn : Func} {c : Code} {rc : RCode} {rs : List RRes} {args : List AV} {v : AV} (hf : P.funcs[f]? = some fn) (hb : fn.body = some c) (he : entB P f = true)
    (hc : okCode P fn.ntmps c rc = true) (hrs : allB2 (okRes P) fn.results.toList rs = true) (hn : args.length ≤ fn.ntmps)
    (h : ∀ R : Run, R.N = fn.ntmps → R.G = G → R.Top → AR P R rc (initSt args) (Fin rs v)) : PC P G f args v := by
  refine ⟨he, fun M W vs hM hG hsz hvs => ?_⟩
  refine callsIn_wide.1 (callsIn_of_wp_marks (F := FW none) (n := 1) hf hb trivial ?_)
  let R : Run := { G := G, M := M, X := fun _ => False, W0 := W, N := fn.ntmps, E0 := { M := M, loc := fun _ => none, row := fun _ => none } }
  have h0 : SK R (initSt args) { tmps := vs ++ Array.replicate (fn.ntmps - vs.size) Go.undef, defers := [] } W (fun _ => none) := by
    have hGM : ∀ b, b < W.heap.size → ¬ M b → ¬ ((initSt args).env M (fun _ => none)).M b ∧ W.heap[b]? = W.heap[b]? := fun b _ h1 => ⟨(by rintro (h2 | ⟨k, s, h2⟩) <;> first | exact h1 h2 | cases h2), rfl⟩
    refine ⟨.nil _ _ _ _, by show (vs ++ _).size = fn.ntmps; simp; omega, fun n x hx => ?_, (fun k o ho => by simp [initSt, St.get, lk] at ho), (fun k p hk => by cases hk), (fun k k' b s s' hk => by cases hk), hM, fun _ _ h => h, Kp.refl _ _, hG.mono hGM (Nat.le_refl _), ⟨Nat.le_refl _, hGM, fun k p hk => (by cases hk), fun k sz m hk => (by cases hk)⟩, fun _ _ => ⟨rfl, rfl⟩⟩
    simp only [initSt, St.tmp, iniT_lk, Nat.zero_le, if_true, Nat.sub_zero] at hx
    show VR _ W x ((vs ++ Array.replicate (fn.ntmps - vs.size) Go.undef).getD n Go.undef)
    rw [Array.getD_eq_getD_getElem?, Array.getElem?_append]
    have c1 : n < args.length := (List.getElem?_eq_some_iff.1 hx).1
    rw [if_pos (by omega)]
    have : vs[n]? = some vs[n] := by simp
    rw [this]
    exact .pv ((hvs n x _ hx this).mono hGM (Nat.le_refl _))
  refine wpIn_mono (h R rfl rfl ⟨rfl, rfl⟩ c hc 1 _ W ⟨_, h0⟩) ?_
  have key : ∀ (a' : Act) (W' : World) (st' : St), (∃ xs ys, evRess st' rs = some xs ∧ snapL (snap st') xs = some ys ∧ v = tupV ys) → SR R st' a' W' →
      ∃ u, (results fn a'.tmps).run P W' = .ok u W' ∧ ∃ u', Ending.returned u = .returned u' ∧ PV M W' v u' ∧ Ext W W' := by
    rintro a' W' st' ⟨xs, ys, h1, h2, rfl⟩ ⟨κ, hk⟩
    obtain ⟨us, h3, h4⟩ := ress_run (P := P) hk hrs h1
    obtain ⟨h5, h6⟩ := snapL_spec h2
    have hE : Ext W W' := ⟨hk.kp.os, hk.kp.tape, hk.kp.output, hk.kp.size, fun i hi => hk.kp.block i hi (fun h => h)⟩
    have hp : ∀ (i : Nat) (y : AV) (u : Value), ys[i]? = some y → us[i]? = some u → PV M W' y u := fun i y u hy hu => by
      obtain ⟨x, h7, h8⟩ := h6 i y hy
      exact snap_sim hk (h4.2 i x u h7 hu) h8
    have hl : us.length = ys.length := by have := h4.1; omega
    refine ⟨(if h : us.toArray.size = 1 then us.toArray[0] else .tuple us.toArray), ?_, _, rfl, ?_, hE⟩
    · unfold results
      rw [Sem.run_bind]
      have : (fn.results.mapM fun rv => (match rv with
        | .tmp t => pure (a'.tmps.getD t Go.undef)
        | .cell p t => do loadVar t (← asAddr (a'.tmps.getD p Go.undef)) : Sem Value)).run P W' = .ok us.toArray W' := by
        rw [Array.mapM_eq_mapM_toList, Sem.run_map, h3]; rfl
      erw [this]
      rfl
    · match ys, us, hl, hp with
      | [], [], _, _ => exact .tup [] _ rfl (by simp)
      | [y], [u], _, hp => exact hp 0 y u rfl rfl
      | y :: y2 :: ys, u :: u2 :: us, hl, hp =>
        rw [dif_neg (by simp)]
        exact .tup _ _ (by simpa using hl) (fun i x w hx hw => hp i x w hx (by simpa using hw))
  rintro e a' W' ⟨st', h1, κ, h2⟩
  cases e <;> try (exact h1.elim)
  all_goals
    refine h2.leave (by simp) rfl fun a2 W2 ht hs2 => ?_
    have := key a2 W2 st' h1 ⟨κ, hs2⟩
    rw [ht] at this
    exact this

end

end Go.Proofs.YtdpmioiamcgfkaaDoor
