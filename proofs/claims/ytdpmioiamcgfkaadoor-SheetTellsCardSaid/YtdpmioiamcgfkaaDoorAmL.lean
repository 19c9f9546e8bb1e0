/-
  The abstract machine: functions that change what they are handed (contracts by reference).
-/
import Derived.Test.YtdpmioiamcgfkaaDoorAmK
import Derived.Defers
import Derived.Recover
/-! The abstract machine: functions that change what they are handed (contracts by reference). -/
namespace Go.Proofs.YtdpmioiamcgfkaaDoor
open Go.RowKit

section
variable {P : Program}

/-- Objects alone. -/
def obSt (objs : List (Nat × AObj)) : St := ⟨[], objs⟩
def noAct : Act := { tmps := #[], defers := [] }

/-- The function turns the objects (named from 1000 on; its arguments may name them) into others, and returns r. -/
def PB (P : Program) (G : Nat → Option (List AV)) (f : FuncId) (objs : List (Nat × AObj)) (args : List AV) (r : AV) (objs' : List (Nat × AObj)) : Prop :=
  entB P f = true ∧ ∀ (R : Run) (W : World) (κ : Nat → Option (Nat × Nat)) (vs : Array Value), R.G = G → R.N = 0 → R.W0 = W → R.X = (fun b => ∃ k s, κ k = some (b, s)) → R.E0 = (obSt objs).env R.M κ →
    SK R (obSt objs) noAct W κ → vs.size = args.length → (∀ (i : Nat) (x : AV) (u : Value), args[i]? = some x → vs[i]? = some u → VR ((obSt objs).env R.M κ) W x u) →
    Calls P f vs W fun e W' => ∃ v κ', e = .returned v ∧ SK R (obSt objs') noAct W' κ' ∧ VR ((obSt objs').env R.M κ') W' r v

def newK : Nat → Bool := fun k => decide (k < 1000)

/-- The end of such a function. -/
def FinB (rs : List RRes) (r : AV) (objs' : List (Nat × AObj)) : Exit → St → Prop
  | .normal, st | .ret, st => ∃ xs, evRess (frzSt newK st) rs = some xs ∧ r = tupV xs ∧ (frzSt newK st).o = objs'
  | _, _ => False

theorem PB_of {G : Nat → Option (List AV)} {f : FuncId} {fn : Func} {c : Code} {rc : RCode} {rs : List RRes} {objs objs' : List (Nat × AObj)} {args : List AV} {r : AV} (hf : P.funcs[f]? = some fn) (hb : fn.body = some c) (he : entB P f = true)
    (hc : okCode P fn.ntmps c rc = true) (hrs : allB2 (okRes P) fn.results.toList rs = true) (hn : args.length ≤ fn.ntmps)
    (h : ∀ R : Run, R.N = fn.ntmps → R.G = G → R.Top → AR P R rc ⟨iniT 0 args, objs⟩ (FinB rs r objs')) : PB P G f objs args r objs' := by
  refine ⟨he, fun R0 W κ vs hG hN hW hX hE hk hsz hvs => ?_⟩
  refine callsIn_wide.1 (callsIn_of_wp_marks (F := FW none) (n := 1) hf hb trivial ?_)
  let R : Run := { R0 with N := fn.ntmps, rd := none, nm := false }
  have hD0 : R0.D = [] := by
    obtain ⟨cs, e, -⟩ := hk.defers
    exact (List.append_eq_nil_iff.1 e.symm).2
  have h0 : SK R ⟨iniT 0 args, objs⟩ { tmps := vs ++ Array.replicate (fn.ntmps - vs.size) Go.undef, defers := [] } W κ := by
    refine ⟨hk.defers.weak, by show (vs ++ _).size = fn.ntmps; simp; omega, fun n x hx => ?_, hk.obj, hk.dom, hk.inj, hk.low, hk.apart, hk.kp, hk.gr, hk.mono, hk.ent⟩
    simp only [St.tmp, iniT_lk, Nat.zero_le, if_true, Nat.sub_zero] at hx
    show VR _ W x ((vs ++ Array.replicate (fn.ntmps - vs.size) Go.undef).getD n Go.undef)
    rw [Array.getD_eq_getD_getElem?, Array.getElem?_append]
    have c1 : n < args.length := (List.getElem?_eq_some_iff.1 hx).1
    rw [if_pos (by omega)]
    have : vs[n]? = some vs[n] := by simp
    rw [this]
    exact hvs n x _ hx this
  refine wpIn_mono (h R rfl hG ⟨rfl, rfl⟩ c hc 1 _ W ⟨_, h0⟩) ?_
  have key : ∀ (a' : Act) (W' : World) (st' : St), (∃ xs, evRess (frzSt newK st') rs = some xs ∧ r = tupV xs ∧ (frzSt newK st').o = objs') → SR R st' a' W' →
      ∃ u, (results fn a'.tmps).run P W' = .ok u W' ∧ ∃ v κ', Ending.returned u = .returned v ∧ SK R0 (obSt objs') noAct W' κ' ∧ VR ((obSt objs').env R0.M κ') W' r v := by
    rintro a' W' st' ⟨xs, h1, rfl, h3⟩ hs
    obtain ⟨κ', hk'⟩ := Weak.frz newK st' (fun k hk => by simp [newK]; omega) R a' W' hs
    obtain ⟨us, h4, h5⟩ := ress_run (P := P) hk' hrs h1
    have henv : (frzSt newK st').env R.M κ' = (obSt objs').env R0.M κ' := by subst h3; rfl
    have hl : us.length = xs.length := by have := h5.1; omega
    refine ⟨(if h : us.toArray.size = 1 then us.toArray[0] else .tuple us.toArray), ?_, _, κ', rfl, ?_, ?_⟩
    · unfold results
      rw [Sem.run_bind]
      have : (fn.results.mapM fun rv => (match rv with
        | .tmp t => pure (a'.tmps.getD t Go.undef)
        | .cell p t => do loadVar t (← asAddr (a'.tmps.getD p Go.undef)) : Sem Value)).run P W' = .ok us.toArray W' := by
        rw [Array.mapM_eq_mapM_toList, Sem.run_map]
        exact congrArg (fun z => Result.andThen z (fun a w' => Result.ok a.toArray w')) h4
      erw [this]
      rfl
    · have g := hk'.sub (t' := []) (fun n x hx => by simp [lk] at hx)
      have e : ({ frzSt newK st' with t := [] } : St) = obSt objs' := by subst h3; rfl
      rw [e] at g
      exact ⟨by rw [hD0]; exact .nil _ _ _ _, by show (#[] : Array Value).size = R0.N; rw [hN]; rfl, fun n x hx => by simp [obSt, St.tmp, lk] at hx, g.obj, g.dom, g.inj, g.low, g.apart, g.kp, g.gr, g.mono, g.ent⟩
    · rw [← henv]
      match xs, us, hl, h5 with
      | [], [], _, _ => exact .tup [] _ rfl (by simp)
      | [y], [u], _, h5 => exact h5.2 0 y u rfl rfl
      | y :: y2 :: ys, u :: u2 :: us, hl, h5 =>
        rw [dif_neg (by simp)]
        exact .tup _ _ (by simpa using hl) (fun i x w hx hw => h5.2 i x w hx (by simpa using hw))
  rintro e a' W' ⟨st', h1, κ2, h2⟩
  cases e <;> try (exact h1.elim)
  all_goals
    refine h2.leave (by simp) (show R.D = [] from hD0) fun a2 W2 ht hs2 => ?_
    have := key a2 W2 st' h1 ⟨κ2, hs2⟩
    rw [ht] at this
    exact this

end
end Go.Proofs.YtdpmioiamcgfkaaDoor

/-! The abstract machine: a call that changes what it is handed, seen from the caller. -/
namespace Go.Proofs.YtdpmioiamcgfkaaDoor
open Go.RowKit

/-- Other names. -/
def AV.ren (ρ : Nat → Nat) : AV → AV
  | .ptr k off => .ptr (ρ k) off
  | .eptr k n i off => .eptr (ρ k) n i off
  | .osl k n => .osl (ρ k) n
  | .mp k => .mp (ρ k)
  | .func fn xs ys => .func fn (xs.attach.map fun ⟨x, _⟩ => x.ren ρ) (ys.attach.map fun ⟨x, _⟩ => x.ren ρ)
  | .agg xs => .agg (xs.attach.map fun ⟨x, _⟩ => x.ren ρ)
  | .tup xs => .tup (xs.attach.map fun ⟨x, _⟩ => x.ren ρ)
  | x => x
def AObj.ren (ρ : Nat → Nat) : AObj → AObj
  | .box cells => .box (cells.map (AV.ren ρ))
  | .row sz rows => .row sz (rows.map fun r => r.map (AV.ren ρ))
  | .mp kvs => .mp (kvs.map fun p => (p.1.ren ρ, p.2.ren ρ))

theorem ren_at {ρ : Nat → Nat} (xs : List AV) : (xs.attach.map fun ⟨x, _⟩ => x.ren ρ) = xs.map (AV.ren ρ) := by
  have h : (xs.attach.map fun ⟨x, _⟩ => x.ren ρ) = (xs.attach.map Subtype.val).map (AV.ren ρ) := by rw [List.map_map]; rfl
  rw [h, List.attach_map_subtype_val]
theorem PV.ren_eq {M : Nat → Prop} {W : World} {ρ : Nat → Nat} {x : AV} {v : Value} (h : PV M W x v) : x.ren ρ = x := by
  have all : ∀ (xs : List AV) (us : Array Value), us.size = xs.length → (∀ (i : Nat) (x : AV) (u : Value), xs[i]? = some x → us[i]? = some u → x.ren ρ = x) → xs.map (AV.ren ρ) = xs := fun xs us h1 h2 => by
    conv => rhs; rw [← List.map_id xs]
    refine List.map_congr_left fun x hx => ?_
    obtain ⟨i, hi⟩ := List.getElem?_of_mem hx
    have hlt : i < us.size := by rw [h1]; exact (List.getElem?_eq_some_iff.1 hi).1
    exact h2 i x us[i] hi (by simp [hlt])
  induction h with
  | func fn xs ys us vs h1 h2 hx hy ihx ihy => rw [AV.ren, ren_at, ren_at, all xs us h1 ihx, all ys vs h2 ihy]
  | agg xs us h1 hx ih => rw [AV.ren, ren_at, all xs us h1 ih]
  | tup xs us h1 hx ih => rw [AV.ren, ren_at, all xs us h1 ih]
  | _ => simp [AV.ren]
theorem AObj.ren_dim {ρ : Nat → Nat} (o : AObj) : (o.ren ρ).dim = o.dim := by cases o <;> simp [AObj.ren, AObj.dim]

/-- From the callee's names to the caller's. -/
theorem VR.toCaller {E E' : Env} {W : World} {ρ : Nat → Nat} (hM : ∀ b, ¬ E.M b → ¬ E'.M b) (hl : ∀ k p, E.loc k = some p → E'.loc (ρ k) = some p) (hr : ∀ k q, E.row k = some q → E'.row (ρ k) = some q ∧ E'.loc (ρ k) = E.loc k)
    (hn : ∀ k p, E.loc k = some p → E.row k = none → E'.row (ρ k) = none) {x : AV} {v : Value} (h : VR E W x v) : VR E' W (x.ren ρ) v := by
  induction h with
  | pv h => rw [h.ren_eq]; exact .pv (h.mono (fun b _ hb => ⟨hM b hb, rfl⟩) (Nat.le_refl _))
  | undef v =>
    have e : AV.undef.ren ρ = .undef := by simp [AV.ren]
    rw [e]; exact .undef v
  | ptr k off b s h hr' => rw [AV.ren]; exact .ptr _ off b s (hl k _ h) (hn k _ h hr')
  | eptr k n i off sz m p h hn' he => rw [AV.ren]; exact .eptr _ n i off sz m p (hr k _ h).1 hn' (fun e => by rw [(hr k _ h).2]; exact he e)
  | osl k n sz m a l c h hn' he => rw [AV.ren]; exact .osl _ n sz m a l c (hr k _ h).1 hn' (fun e => by rw [(hr k _ h).2]; exact he e)
  | func fn xs ys us vs h1 h2 hx hy ihx ihy =>
    rw [AV.ren, ren_at, ren_at]
    refine .func fn _ _ us vs (by simpa using h1) (by simpa using h2) (fun i x u hi hu => ?_) (fun i x u hi hu => ?_)
    · rw [List.getElem?_map, Option.map_eq_some_iff] at hi
      obtain ⟨x0, h3, rfl⟩ := hi
      exact ihx i x0 u h3 hu
    · rw [List.getElem?_map, Option.map_eq_some_iff] at hi
      obtain ⟨x0, h3, rfl⟩ := hi
      exact ihy i x0 u h3 hu
  | agg xs us h1 hx ih =>
    rw [AV.ren, ren_at]
    refine .agg _ us (by simpa using h1) (fun i x u hi hu => ?_)
    rw [List.getElem?_map, Option.map_eq_some_iff] at hi
    obtain ⟨x0, h3, rfl⟩ := hi
    exact ih i x0 u h3 hu
  | tup xs us h1 hx ih =>
    rw [AV.ren, ren_at]
    refine .tup _ us (by simpa using h1) (fun i x u hi hu => ?_)
    rw [List.getElem?_map, Option.map_eq_some_iff] at hi
    obtain ⟨x0, h3, rfl⟩ := hi
    exact ih i x0 u h3 hu
  | mp k b h hr' => rw [AV.ren]; exact .mp _ b (hl k _ h) (hn k _ h hr')

/-- What a renamed tree was. -/
theorem ren_mp {ρ : Nat → Nat} {x : AV} {k : Nat} (e : x.ren ρ = .mp k) : ∃ k0, x = .mp k0 ∧ ρ k0 = k := by
  cases x <;> simp [AV.ren] at e
  exact ⟨_, rfl, e⟩
theorem ren_ptr {ρ : Nat → Nat} {x : AV} {k off : Nat} (e : x.ren ρ = .ptr k off) : ∃ k0, x = .ptr k0 off ∧ ρ k0 = k := by
  cases x <;> simp [AV.ren] at e
  exact ⟨_, by rw [e.2], e.1⟩
theorem ren_eptr {ρ : Nat → Nat} {x : AV} {k n i off : Nat} (e : x.ren ρ = .eptr k n i off) : ∃ k0, x = .eptr k0 n i off ∧ ρ k0 = k := by
  cases x <;> simp [AV.ren] at e
  exact ⟨_, by rw [e.2.1, e.2.2.1, e.2.2.2], e.1⟩
theorem ren_osl {ρ : Nat → Nat} {x : AV} {k n : Nat} (e : x.ren ρ = .osl k n) : ∃ k0, x = .osl k0 n ∧ ρ k0 = k := by
  cases x <;> simp [AV.ren] at e
  exact ⟨_, by rw [e.2], e.1⟩
theorem ren_undef {ρ : Nat → Nat} {x : AV} (e : x.ren ρ = .undef) : x = .undef := by
  cases x <;> simp [AV.ren] at e <;> rfl
theorem ren_agg {ρ : Nat → Nat} {x : AV} {ys : List AV} (e : x.ren ρ = .agg ys) : ∃ xs, x = .agg xs ∧ xs.map (AV.ren ρ) = ys := by
  cases x <;> try (simp [AV.ren] at e; done)
  rename_i xs
  rw [AV.ren, ren_at, AV.agg.injEq] at e
  exact ⟨xs, rfl, e⟩
theorem ren_tup {ρ : Nat → Nat} {x : AV} {ys : List AV} (e : x.ren ρ = .tup ys) : ∃ xs, x = .tup xs ∧ xs.map (AV.ren ρ) = ys := by
  cases x <;> try (simp [AV.ren] at e; done)
  rename_i xs
  rw [AV.ren, ren_at, AV.tup.injEq] at e
  exact ⟨xs, rfl, e⟩
theorem ren_func {ρ : Nat → Nat} {x : AV} {fn : Fn} {as bs : List AV} (e : x.ren ρ = .func fn as bs) : ∃ xs ys, x = .func fn xs ys ∧ xs.map (AV.ren ρ) = as ∧ ys.map (AV.ren ρ) = bs := by
  cases x <;> try (simp [AV.ren] at e; done)
  rename_i f xs ys
  rw [AV.ren, ren_at, ren_at, AV.func.injEq] at e
  exact ⟨xs, ys, by rw [e.1], e.2.1, e.2.2⟩
theorem ren_leaf {ρ : Nat → Nat} {x y : AV} (e : x.ren ρ = y) (hy : match y with | .ptr .. | .eptr .. | .osl .. | .mp _ | .func .. | .agg _ | .tup _ => False | _ => True) : x = y := by
  cases x <;> simp [AV.ren] at e <;> subst e <;> first | rfl | exact hy.elim

theorem PV.ren_back {M : Nat → Prop} {W : World} {ρ : Nat → Nat} {y : AV} {v : Value} (h : PV M W y v) : ∀ x : AV, x.ren ρ = y → x = y := by
  have all : ∀ (xs ys : List AV) (us : Array Value), xs.map (AV.ren ρ) = ys → us.size = ys.length → (∀ (i : Nat) (y : AV) (u : Value), ys[i]? = some y → us[i]? = some u → ∀ x : AV, x.ren ρ = y → x = y) → xs = ys := fun xs ys us h0 h1 h2 => by
    subst h0
    conv => lhs; rw [← List.map_id xs]
    refine List.map_congr_left fun x hx => ?_
    obtain ⟨i, hi⟩ := List.getElem?_of_mem hx
    have hlt : i < us.size := by rw [h1, List.length_map]; exact (List.getElem?_eq_some_iff.1 hi).1
    exact h2 i (x.ren ρ) us[i] (by rw [List.getElem?_map, hi]; rfl) (by simp [hlt]) x rfl
  induction h with
  | func fn xs ys us vs h1 h2 hx hy ihx ihy =>
    intro x e
    obtain ⟨as, bs, rfl, e1, e2⟩ := ren_func e
    rw [all as xs us e1 h1 ihx, all bs ys vs e2 h2 ihy]
  | agg xs us h1 hx ih =>
    intro x e
    obtain ⟨as, rfl, e1⟩ := ren_agg e
    rw [all as xs us e1 h1 ih]
  | tup xs us h1 hx ih =>
    intro x e
    obtain ⟨as, rfl, e1⟩ := ren_tup e
    rw [all as xs us e1 h1 ih]
  | _ => exact fun x e => ren_leaf e trivial

/-- From the caller's names to the callee's. -/
theorem VR.toCallee {E E' : Env} {W : World} {ρ : Nat → Nat} (hM : ∀ b, ¬ E.M b → ¬ E'.M b) {y : AV} {v : Value} (h : VR E W y v) :
    ∀ x : AV, x.ren ρ = y → (∀ k ∈ x.keys, E'.loc k = E.loc (ρ k) ∧ E'.row k = E.row (ρ k)) → VR E' W x v := by
  induction h with
  | pv h => intro x e _; rw [h.ren_back x e]; exact .pv (h.mono (fun b _ hb => ⟨hM b hb, rfl⟩) (Nat.le_refl _))
  | undef v => intro x e _; rw [ren_undef e]; exact .undef v
  | ptr k off b s h hr =>
    intro x e hk
    obtain ⟨k0, rfl, rfl⟩ := ren_ptr e
    obtain ⟨h1, h2⟩ := hk k0 (by simp [AV.keys])
    exact .ptr k0 off b s (h1.trans h) (h2.trans hr)
  | eptr k n i off sz m p h hn he =>
    intro x e hk
    obtain ⟨k0, rfl, rfl⟩ := ren_eptr e
    obtain ⟨h1, h2⟩ := hk k0 (by simp [AV.keys])
    exact .eptr k0 n i off sz m p (h2.trans h) hn (fun e => by rw [h1]; exact he e)
  | osl k n sz m a l c h hn he =>
    intro x e hk
    obtain ⟨k0, rfl, rfl⟩ := ren_osl e
    obtain ⟨h1, h2⟩ := hk k0 (by simp [AV.keys])
    exact .osl k0 n sz m a l c (h2.trans h) hn (fun e => by rw [h1]; exact he e)
  | func fn xs ys us vs h1 h2 hx hy ihx ihy =>
    intro x e hk
    obtain ⟨as, bs, rfl, rfl, rfl⟩ := ren_func e
    refine .func fn as bs us vs (by simpa using h1) (by simpa using h2) (fun i x u hi hu => ihx i (x.ren ρ) u (by rw [List.getElem?_map, hi]; rfl) hu x rfl fun k h => hk k ?_) (fun i x u hi hu => ihy i (x.ren ρ) u (by rw [List.getElem?_map, hi]; rfl) hu x rfl fun k h => hk k ?_)
    · simp only [AV.keys, List.mem_append]; exact .inl (mem_keys (List.mem_of_getElem? hi) h)
    · simp only [AV.keys, List.mem_append]; exact .inr (mem_keys (List.mem_of_getElem? hi) h)
  | agg xs us h1 hx ih =>
    intro x e hk
    obtain ⟨as, rfl, rfl⟩ := ren_agg e
    refine .agg as us (by simpa using h1) (fun i x u hi hu => ih i (x.ren ρ) u (by rw [List.getElem?_map, hi]; rfl) hu x rfl fun k h => hk k ?_)
    simp only [AV.keys]; exact mem_keys (List.mem_of_getElem? hi) h
  | tup xs us h1 hx ih =>
    intro x e hk
    obtain ⟨as, rfl, rfl⟩ := ren_tup e
    refine .tup as us (by simpa using h1) (fun i x u hi hu => ih i (x.ren ρ) u (by rw [List.getElem?_map, hi]; rfl) hu x rfl fun k h => hk k ?_)
    simp only [AV.keys]; exact mem_keys (List.mem_of_getElem? hi) h
  | mp k b h hr =>
    intro x e hk
    obtain ⟨k0, rfl, rfl⟩ := ren_mp e
    obtain ⟨h1, h2⟩ := hk k0 (by simp [AV.keys])
    exact .mp k0 b (h1.trans h) (h2.trans hr)
end Go.Proofs.YtdpmioiamcgfkaaDoor

/-! The abstract machine: a call that changes what it is handed, in the caller's state. -/
namespace Go.Proofs.YtdpmioiamcgfkaaDoor
open Go.RowKit

/-- The names of objects. -/
def isK (objs : List (Nat × AObj)) (k : Nat) : Bool := (lk objs k).isSome
/-- All names in a tree are among them. -/
def inK (objs : List (Nat × AObj)) (x : AV) : Prop := ∀ k ∈ x.keys, isK objs k = true
def inKO (objs : List (Nat × AObj)) : AObj → Prop
  | .box cells => ∀ x ∈ cells, inK objs x
  | .row _ rows => ∀ r ∈ rows, ∀ x ∈ r, inK objs x
  | .mp kvs => ∀ p ∈ kvs, inK objs p.1 ∧ inK objs p.2

section
variable {P : Program} {R : Run} {st : St} {a : Act} {W : World} {κ : Nat → Option (Nat × Nat)}

def kC (objs : List (Nat × AObj)) (ρ : Nat → Nat) (κ : Nat → Option (Nat × Nat)) : Nat → Option (Nat × Nat) := fun k => if isK objs k = true then κ (ρ k) else none
def mC (objs : List (Nat × AObj)) (ρ : Nat → Nat) (R : Run) (st : St) (κ : Nat → Option (Nat × Nat)) : Nat → Prop := fun b => (st.env R.M κ).M b ∧ ¬ ∃ k s, kC objs ρ κ k = some (b, s)
def rC (objs : List (Nat × AObj)) (ρ : Nat → Nat) (R : Run) (st : St) (κ : Nat → Option (Nat × Nat)) (W : World) : Run :=
  { G := R.G, M := mC objs ρ R st κ, X := fun b => ∃ k s, kC objs ρ κ k = some (b, s), W0 := W, N := 0, E0 := (obSt objs).env (mC objs ρ R st κ) (kC objs ρ κ) }

theorem enterB (h : SK R st a W κ) {objs : List (Nat × AObj)} {ρ : Nat → Nat} (hK : ∀ k, isK objs k = true → 1000 ≤ k) (hinj : ∀ k k', isK objs k = true → isK objs k' = true → ρ k = ρ k' → k = k')
    (ho : ∀ k o, lk objs k = some o → st.get (ρ k) = some (o.ren ρ)) (hin : ∀ k o, lk objs k = some o → inKO objs o) :
    SK (rC objs ρ R st κ W) (obSt objs) noAct W (kC objs ρ κ) ∧ ∀ (x : AV) (v : Value), inK objs x → VR (st.env R.M κ) W (x.ren ρ) v → VR ((obSt objs).env (mC objs ρ R st κ) (kC objs ρ κ)) W x v := by
  have hM : ∀ b, ((obSt objs).env (mC objs ρ R st κ) (kC objs ρ κ)).M b → (st.env R.M κ).M b := fun b hb => by
    rcases hb with hb | ⟨k, s, hk⟩
    · exact hb.1
    · simp only [kC] at hk
      split at hk
      · exact .inr ⟨ρ k, s, hk⟩
      · cases hk
  have hrow : ∀ k, isK objs k = true → ((obSt objs).env (mC objs ρ R st κ) (kC objs ρ κ)).row k = (st.env R.M κ).row (ρ k) := fun k hk => by
    obtain ⟨o, h1⟩ := Option.isSome_iff_exists.1 hk
    show (lk objs k).bind AObj.dim = (st.get (ρ k)).bind AObj.dim
    rw [h1, ho k o h1]
    exact (AObj.ren_dim o).symm
  have conv : ∀ (x : AV) (v : Value), inK objs x → VR (st.env R.M κ) W (x.ren ρ) v → VR ((obSt objs).env (mC objs ρ R st κ) (kC objs ρ κ)) W x v := fun x v hx hv =>
    VR.toCallee (fun b hb hb' => hb (hM b hb')) hv x rfl fun k hk => ⟨by show kC objs ρ κ k = κ (ρ k); simp only [kC, hx k hk, if_true], hrow k (hx k hk)⟩
  refine ⟨⟨.nil _ _ _ _, rfl, fun n x hx => by simp [obSt, St.tmp, lk] at hx, fun k o hk => ?_, fun k p hk => ?_, fun k k' b s s' h1 h2 => ?_, fun b hb => h.owned_lt hb.1, fun b hb hx => hb.2 hx, Kp.refl _ _, ?_, ?_, fun k hk => ?_⟩, conv⟩
  · have hk' : lk objs k = some o := hk
    have hi : isK objs k = true := by simp [isK, hk']
    obtain ⟨b, s, h1, h2, -, h4⟩ := h.obj (ρ k) _ (ho k o hk')
    refine ⟨b, s, by simp only [kC, hi, if_true]; exact h1, h2, .inr ⟨k, s, by simp only [kC, hi, if_true]; exact h1⟩, ?_⟩
    cases o with
    | box cells =>
      obtain ⟨g0, cs, t, g1, g2, g3⟩ := h4
      refine ⟨g0, cs, t, g1, by simpa using g2, fun j x hj => ?_⟩
      obtain ⟨v, g4, g5⟩ := g3 j (x.ren ρ) (by rw [List.getElem?_map, hj]; rfl)
      exact ⟨v, g4, conv x v (hin k _ hk' x (List.mem_of_getElem? hj)) g5⟩
    | row sz rows =>
      obtain ⟨g0, cs, t, g1, g2, g3⟩ := h4
      refine ⟨fun r hr => ?_, cs, t, g1, by simpa using g2, fun i j r x hi' hj => ?_⟩
      · have := g0 (r.map (AV.ren ρ)) (List.mem_map.2 ⟨r, hr, rfl⟩)
        simpa using this
      · obtain ⟨v, g4, g5⟩ := g3 i j (r.map (AV.ren ρ)) (x.ren ρ) (by rw [List.getElem?_map, hi']; rfl) (by rw [List.getElem?_map, hj]; rfl)
        exact ⟨v, g4, conv x v (hin k _ hk' r (List.mem_of_getElem? hi') x (List.mem_of_getElem? hj)) g5⟩
    | mp kvs =>
      obtain ⟨g0, es, t, g1, g2, g3, g4⟩ := h4
      refine ⟨g0, es, t, g1, g2, by simpa using g3, fun i x y hi' => ?_⟩
      obtain ⟨e, g5, g6, g7⟩ := g4 i (x.ren ρ) (y.ren ρ) (by rw [List.getElem?_map, hi']; rfl)
      have h5 := hin k _ hk' (x, y) (List.mem_of_getElem? hi')
      exact ⟨e, g5, conv x _ h5.1 g6, conv y _ h5.2 g7⟩
  · simp only [kC] at hk
    split at hk
    · rename_i e; exact Option.isSome_iff_exists.1 e
    · cases hk
  · simp only [kC] at h1 h2
    split at h1
    · rename_i e1
      split at h2
      · rename_i e2; exact hinj k k' e1 e2 (h.inj _ _ b s s' h1 h2)
      · cases h2
    · cases h1
  · exact h.gr.mono (fun b _ hb => ⟨fun hb' => hb (hM b hb'), rfl⟩) (Nat.le_refl _)
  · exact ⟨Nat.le_refl _, fun b _ hb => ⟨hb, rfl⟩, fun k p h1 h2 => ⟨h1, h2⟩, fun k sz m h1 => ⟨m, h1, Nat.le_refl _, fun _ b s cs t hl => ⟨hl, fun hw => ⟨cs, hw, rfl⟩⟩⟩⟩
  · have e : isK objs k = false := by
      cases e : isK objs k
      · rfl
      · have := hK k e; omega
    refine ⟨by show kC objs ρ κ k = none; simp [kC, e], ?_⟩
    show (lk objs k).bind AObj.dim = none
    have : lk objs k = none := by simpa [isK] using e
    rw [this]; rfl

theorem leaveB (h : SK R st a W κ) {objs objs' : List (Nat × AObj)} {ρ : Nat → Nat} (hinj : ∀ k k', isK objs k = true → isK objs k' = true → ρ k = ρ k' → k = k')
    (ho : ∀ k o, lk objs k = some o → st.get (ρ k) = some (o.ren ρ)) (hd : ∀ k, isK objs' k = isK objs k) {κ' : Nat → Option (Nat × Nat)} {W' : World} (hc : SK (rC objs ρ R st κ W) (obSt objs') noAct W' κ')
    {st1 : St} (ht : st1.t = st.t) (hs1 : ∀ k o, lk objs' k = some o → st1.get (ρ k) = some (o.ren ρ)) (hs2 : ∀ j, (∀ k, isK objs k = true → ρ k ≠ j) → st1.get j = st.get j) :
    ∃ κ1, SK R st1 a W' κ1 ∧ Mono (st.env R.M κ) W (st1.env R.M κ1) W' ∧ ∀ (x : AV) (v : Value), VR ((obSt objs').env (mC objs ρ R st κ) κ') W' x v → VR (st1.env R.M κ1) W' (x.ren ρ) v := by
  classical
  let κ1 : Nat → Option (Nat × Nat) := fun j => if e : ∃ k, isK objs k = true ∧ ρ k = j then κ' (Classical.choose e) else κ j
  have hκ1 : ∀ k, isK objs k = true → κ1 (ρ k) = κ' k := fun k hk => by
    have e : ∃ k', isK objs k' = true ∧ ρ k' = ρ k := ⟨k, hk, rfl⟩
    simp only [κ1, dif_pos e]
    rw [hinj _ _ (Classical.choose_spec e).1 hk (Classical.choose_spec e).2]
  have hκ2 : ∀ j, (∀ k, isK objs k = true → ρ k ≠ j) → κ1 j = κ j := fun j hj => by
    have e : ¬ ∃ k, isK objs k = true ∧ ρ k = j := fun ⟨k, h1, h2⟩ => hj k h1 h2
    simp only [κ1, dif_neg e]
  have split : ∀ j, (∃ k, isK objs k = true ∧ ρ k = j) ∨ (∀ k, isK objs k = true → ρ k ≠ j) := fun j => by
    by_cases e : ∃ k, isK objs k = true ∧ ρ k = j
    · exact .inl e
    · exact .inr fun k h1 h2 => e ⟨k, h1, h2⟩
  have kc : ∀ k, isK objs k = true → kC objs ρ κ k = κ (ρ k) := fun k hk => by simp only [kC, hk, if_true]
  have kcK : ∀ k p, kC objs ρ κ k = some p → isK objs k = true ∧ κ (ρ k) = some p := fun k p hk => by
    simp only [kC] at hk
    split at hk
    · rename_i e; exact ⟨e, hk⟩
    · cases hk
  have domK : ∀ k p, κ' k = some p → isK objs k = true := fun k p hk => by
    rw [← hd]; exact Option.isSome_iff_exists.2 (hc.dom k p hk)
  have xE : ∀ b, (∃ k s, kC objs ρ κ k = some (b, s)) → (st.env R.M κ).M b := fun b ⟨k, s, hk⟩ => .inr ⟨ρ k, s, (kcK k _ hk).2⟩
  have range : ∀ b, (∃ k s, kC objs ρ κ k = some (b, s)) → R.W0.heap.size ≤ b ∨ R.X b := fun b ⟨k, s, hk⟩ => by
    obtain ⟨-, h2⟩ := kcK k _ hk
    obtain ⟨o, h3⟩ := h.dom _ _ h2
    obtain ⟨b', s', g1, g2, g3, -⟩ := h.obj _ _ h3
    rw [h2] at g1
    simp only [Option.some.injEq, Prod.mk.injEq] at g1
    obtain ⟨rfl, rfl⟩ := g1
    exact g3
  have F1 : ∀ b, (st1.env R.M κ1).M b → ((obSt objs').env (mC objs ρ R st κ) κ').M b := fun b hb => by
    rcases hb with hb | ⟨j, s, hj⟩
    · refine .inl ⟨.inl hb, fun hx => ?_⟩
      rcases range b hx with h1 | h1
      · have := h.low b hb; omega
      · exact h.apart b hb h1
    · rcases split j with ⟨k, hk, rfl⟩ | hj2
      · rw [hκ1 k hk] at hj; exact .inr ⟨k, s, hj⟩
      · rw [hκ2 j hj2] at hj
        refine .inl ⟨.inr ⟨j, s, hj⟩, fun ⟨k, s2, hk⟩ => ?_⟩
        obtain ⟨h1, h2⟩ := kcK k _ hk
        exact hj2 k h1 (h.inj _ _ b s2 s h2 hj)
  have row1 : ∀ k, isK objs k = true → (st1.env R.M κ1).row (ρ k) = ((obSt objs').env (mC objs ρ R st κ) κ').row k := fun k hk => by
    rw [← hd] at hk
    obtain ⟨o, h1⟩ := Option.isSome_iff_exists.1 hk
    show (st1.get (ρ k)).bind AObj.dim = (lk objs' k).bind AObj.dim
    rw [h1, hs1 k o h1]
    exact AObj.ren_dim o
  have row0 : ∀ k, isK objs k = true → (st.env R.M κ).row (ρ k) = ((obSt objs).env (mC objs ρ R st κ) (kC objs ρ κ)).row k := fun k hk => by
    obtain ⟨o, h1⟩ := Option.isSome_iff_exists.1 hk
    show (st.get (ρ k)).bind AObj.dim = (lk objs k).bind AObj.dim
    rw [h1, ho k o h1]
    exact AObj.ren_dim o
  have rowK : ∀ k q, ((obSt objs').env (mC objs ρ R st κ) κ').row k = some q → isK objs k = true := fun k q hk => by
    rw [← hd]
    have hk : (lk objs' k).bind AObj.dim = some q := hk
    cases e : lk objs' k with
    | none => rw [e] at hk; cases hk
    | some o => simp [isK, e]
  have conv : ∀ (x : AV) (v : Value), VR ((obSt objs').env (mC objs ρ R st κ) κ') W' x v → VR (st1.env R.M κ1) W' (x.ren ρ) v := fun x v hv =>
    VR.toCaller (fun b hb hb' => hb (F1 b hb')) (fun k p hk => (hκ1 k (domK k p hk)).trans hk) (fun k q hk => ⟨(row1 k (rowK k q hk)).trans hk, hκ1 k (rowK k q hk)⟩) (fun k p hk hr => (row1 k (domK k p hk)).trans hr) hv
  have same : ∀ b, b < W.heap.size → ¬ (∃ k s, kC objs ρ κ k = some (b, s)) → W'.heap[b]? = W.heap[b]? := fun b hb hx => hc.kp.block b hb hx
  have apartK : ∀ j b s, (∀ k, isK objs k = true → ρ k ≠ j) → κ j = some (b, s) → ¬ (∃ k s, kC objs ρ κ k = some (b, s)) := fun j b s hj hb ⟨k, s2, hk⟩ => by
    obtain ⟨h1, h2⟩ := kcK k _ hk
    exact hj k h1 (h.inj _ _ b s2 s h2 hb)
  have m : Mono (st.env R.M κ) W (st1.env R.M κ1) W' := by
    refine ⟨hc.kp.size, fun b hb hM => ⟨fun hM1 => ?_, same b hb fun hx => hM (xE b hx)⟩, fun j p hj hr => ?_, fun j sz m hj => ?_⟩
    · rcases F1 b hM1 with h1 | ⟨k, s, h1⟩
      · exact hM h1.1
      · obtain ⟨o, h2⟩ := hc.dom k _ h1
        obtain ⟨b', s', g1, g2, g3, -⟩ := hc.obj k o h2
        rw [h1] at g1
        simp only [Option.some.injEq, Prod.mk.injEq] at g1
        obtain ⟨rfl, rfl⟩ := g1
        rcases g3 with g3 | g3
        · have g3 : W.heap.size ≤ b := g3; omega
        · exact hM (xE b g3)
    · rcases split j with ⟨k, hk, rfl⟩ | hj2
      · obtain ⟨g1, g2⟩ := hc.mono.box k p ((kc k hk).trans hj) ((row0 k hk).symm.trans hr)
        exact ⟨(hκ1 k hk).trans g1, (row1 k hk).trans g2⟩
      · exact ⟨(hκ2 j hj2).trans hj, by show (st1.get j).bind AObj.dim = none; rw [hs2 j hj2]; exact hr⟩
    · rcases split j with ⟨k, hk, rfl⟩ | hj2
      · obtain ⟨m', g1, g2, g3⟩ := hc.mono.row k sz m ((row0 k hk).symm.trans hj)
        refine ⟨m', (row1 k hk).trans g1, g2, fun e b s cs t hl => ?_⟩
        obtain ⟨g4, g5⟩ := g3 e b s cs t ((kc k hk).trans hl)
        exact ⟨(hκ1 k hk).trans g4, g5⟩
      · refine ⟨m, by show (st1.get j).bind AObj.dim = some (sz, m); rw [hs2 j hj2]; exact hj, Nat.le_refl _, fun _ b s cs t hl => ⟨(hκ2 j hj2).trans hl, fun hw => ⟨cs, (same b (h.loc_lt hl) (apartK j b s hj2 hl)).trans hw, rfl⟩⟩⟩
  refine ⟨κ1, ⟨h.defers.of fun c hc' => (same c (Array.getElem?_eq_some_iff.1 hc').1 fun ⟨k, s, hk⟩ => h.notdf (kcK k _ hk).2 hc').trans hc', h.size, fun n x hx => (h.tm n x (by simp only [St.tmp, ← ht]; exact hx)).mono m, fun j o hj => ?_, fun j p hj => ?_, fun j j' b s s' hj hj' => ?_, h.low, h.apart, ?_, h.gr.mono m.imm m.size, h.mono.trans m, h.ent⟩, m, conv⟩
  · rcases split j with ⟨k, hk, rfl⟩ | hj2
    · rw [← hd] at hk
      obtain ⟨o0, e0⟩ := Option.isSome_iff_exists.1 hk
      rw [hd] at hk
      rw [hs1 k o0 e0] at hj
      simp only [Option.some.injEq] at hj
      subst hj
      obtain ⟨b, s, g1, g2, g3, g4⟩ := hc.obj k o0 e0
      refine ⟨b, s, (hκ1 k hk).trans g1, g2, ?_, ?_⟩
      · rcases g3 with g3 | g3
        · exact .inl (Nat.le_trans h.kp.size g3)
        · exact range b g3
      · cases o0 with
        | box cells =>
          obtain ⟨g0, cs, t, g5, g6, g7⟩ := g4
          refine ⟨g0, cs, t, g5, by simpa [AObj.ren] using g6, fun j x hj => ?_⟩
          rw [List.getElem?_map, Option.map_eq_some_iff] at hj
          obtain ⟨x0, g8, rfl⟩ := hj
          obtain ⟨v, g9, g10⟩ := g7 j x0 g8
          exact ⟨v, g9, conv _ _ g10⟩
        | row sz rows =>
          obtain ⟨g0, cs, t, g5, g6, g7⟩ := g4
          refine ⟨fun r hr => ?_, cs, t, g5, by simpa [AObj.ren] using g6, fun i j r x hi hj => ?_⟩
          · obtain ⟨r0, g8, rfl⟩ := List.mem_map.1 hr
            simpa using g0 r0 g8
          · rw [List.getElem?_map, Option.map_eq_some_iff] at hi
            obtain ⟨r0, g8, rfl⟩ := hi
            rw [List.getElem?_map, Option.map_eq_some_iff] at hj
            obtain ⟨x0, g9, rfl⟩ := hj
            obtain ⟨v, g10, g11⟩ := g7 i j r0 x0 g8 g9
            exact ⟨v, g10, conv _ _ g11⟩
        | mp kvs =>
          obtain ⟨g0, es, t, g5, g6, g7, g8⟩ := g4
          refine ⟨g0, es, t, g5, g6, by simpa [AObj.ren] using g7, fun i x y hi => ?_⟩
          rw [List.getElem?_map, Option.map_eq_some_iff] at hi
          obtain ⟨p, g9, g10⟩ := hi
          cases g10
          obtain ⟨e, g11, g12, g13⟩ := g8 i p.1 p.2 g9
          exact ⟨e, g11, conv _ _ g12, conv _ _ g13⟩
    · rw [hs2 j hj2] at hj
      obtain ⟨b, s, g1, g2, g3, g4⟩ := h.obj j o hj
      exact ⟨b, s, (hκ2 j hj2).trans g1, Nat.lt_of_lt_of_le g2 m.size, g3, g4.mono m (same b g2 (apartK j b s hj2 g1))⟩
  · rcases split j with ⟨k, hk, rfl⟩ | hj2
    · rw [hκ1 k hk] at hj
      obtain ⟨o, g1⟩ := hc.dom k p hj
      exact ⟨_, hs1 k o g1⟩
    · rw [hκ2 j hj2] at hj
      rw [hs2 j hj2]
      exact h.dom j p hj
  · have cross : ∀ k j' s s', isK objs k = true → (∀ k, isK objs k = true → ρ k ≠ j') → κ' k = some (b, s) → κ j' = some (b, s') → False := fun k j' s s' hk hj2 g1 g2 => by
      obtain ⟨o, g3⟩ := hc.dom k _ g1
      obtain ⟨b', s2, g4, g5, g6, -⟩ := hc.obj k o g3
      rw [g1] at g4
      simp only [Option.some.injEq, Prod.mk.injEq] at g4
      obtain ⟨rfl, rfl⟩ := g4
      rcases g6 with g6 | g6
      · have g6 : W.heap.size ≤ b := g6
        have := h.loc_lt g2; omega
      · exact apartK j' b s' hj2 g2 g6
    rcases split j with ⟨k, hk, rfl⟩ | hj2 <;> rcases split j' with ⟨k', hk', rfl⟩ | hj2'
    · rw [hκ1 k hk] at hj
      rw [hκ1 k' hk'] at hj'
      rw [hc.inj k k' b s s' hj hj']
    · rw [hκ1 k hk] at hj
      rw [hκ2 j' hj2'] at hj'
      exact (cross k j' s s' hk hj2' hj hj').elim
    · rw [hκ2 j hj2] at hj
      rw [hκ1 k' hk'] at hj'
      exact (cross k' j s' s hk' hj2 hj' hj).elim
    · rw [hκ2 j hj2] at hj
      rw [hκ2 j' hj2'] at hj'
      exact h.inj j j' b s s' hj hj'
  · refine ⟨hc.kp.os.trans h.kp.os, hc.kp.tape.trans h.kp.tape, hc.kp.output.trans h.kp.output, Nat.le_trans h.kp.size hc.kp.size, fun i hi hx => ?_⟩
    refine (same i (Nat.lt_of_lt_of_le hi h.kp.size) fun hx2 => ?_).trans (h.kp.block i hi hx)
    rcases range i hx2 with g | g
    · omega
    · exact hx g

/-- A call by reference, in the caller's state. -/
theorem callB_sim (h : SK R st a W κ) {f : FuncId} {objs objs' : List (Nat × AObj)} {ρ : Nat → Nat} {args : List AV} {r : AV} (hp : PB P R.G f objs args r objs')
    (hK : ∀ k, isK objs k = true → 1000 ≤ k) (hinj : ∀ k k', isK objs k = true → isK objs k' = true → ρ k = ρ k' → k = k')
    (ho : ∀ k o, lk objs k = some o → st.get (ρ k) = some (o.ren ρ)) (hin : ∀ k o, lk objs k = some o → inKO objs o) (hargs : ∀ x ∈ args, inK objs x) (hd : ∀ k, isK objs' k = isK objs k)
    {st1 : St} (ht : st1.t = st.t) (hs1 : ∀ k o, lk objs' k = some o → st1.get (ρ k) = some (o.ren ρ)) (hs2 : ∀ j, (∀ k, isK objs k = true → ρ k ≠ j) → st1.get j = st.get j)
    {vs : Array Value} (ha : CR (st.env R.M κ) W (args.map (AV.ren ρ)) vs.toList) :
    entB P f = true ∧ Calls P f vs W fun e W' => ∃ u κ1, e = .returned u ∧ SK R st1 a W' κ1 ∧ VR (st1.env R.M κ1) W' (r.ren ρ) u := by
  obtain ⟨he, hc⟩ := hp
  obtain ⟨h0, conv⟩ := enterB h hK hinj ho hin
  have hsz : vs.size = args.length := by have := ha.1; simp at this; omega
  refine ⟨he, (hc (rC objs ρ R st κ W) W (kC objs ρ κ) vs rfl rfl rfl rfl rfl h0 hsz (fun i x u hx hu => conv x u (hargs x (List.mem_of_getElem? hx)) (ha.2 i (x.ren ρ) u (by rw [List.getElem?_map, hx]; rfl) (by simpa using hu)))).mono ?_⟩
  rintro e W' ⟨v, κ', rfl, h1, h2⟩
  obtain ⟨κ1, h3, -, h4⟩ := leaveB h hinj ho hd h1 ht hs1 hs2
  exact ⟨v, κ1, rfl, h3, h4 r v h2⟩
end
end Go.Proofs.YtdpmioiamcgfkaaDoor

/-! The abstract machine: calls by reference in a region of fixed order; functions that panic. -/
namespace Go.Proofs.YtdpmioiamcgfkaaDoor
open Go.RowKit

theorem AV.ren_pure {ρ : Nat → Nat} : ∀ x : AV, x.pure = true → x.ren ρ = x
  | .func fn xs ys, h => by
    simp only [AV.pure, Bool.and_eq_true, List.all_eq_true, List.mem_attach, forall_const, Subtype.forall] at h
    rw [AV.ren, ren_at, ren_at]
    congr 1
    · exact (List.map_congr_left fun x hx => by rw [id]; exact AV.ren_pure x (h.1 x hx)).trans (List.map_id xs)
    · exact (List.map_congr_left fun x hx => by rw [id]; exact AV.ren_pure x (h.2 x hx)).trans (List.map_id ys)
  | .agg xs, h => by
    simp only [AV.pure, List.all_eq_true, List.mem_attach, forall_const, Subtype.forall] at h
    rw [AV.ren, ren_at]
    congr 1
    exact (List.map_congr_left fun x hx => by rw [id]; exact AV.ren_pure x (h x hx)).trans (List.map_id xs)
  | .tup xs, h => by
    simp only [AV.pure, List.all_eq_true, List.mem_attach, forall_const, Subtype.forall] at h
    rw [AV.ren, ren_at]
    congr 1
    exact (List.map_congr_left fun x hx => by rw [id]; exact AV.ren_pure x (h x hx)).trans (List.map_id xs)
  | .hole, _ | .int .., _ | .bool _, _ | .str _, _ | .nilp, _ | .nils, _ | .nilm, _ | .nilf, _ | .vptr .., _ | .vsl _, _ | .vmap _, _ | .abool, _ => by simp [AV.ren]
  | .undef, h | .ptr .., h | .eptr .., h | .osl .., h | .mp _, h => by simp [AV.pure] at h
theorem AObj.ren_pure {ρ : Nat → Nat} {sz : Nat} {rows : List (List AV)} (h : rows.all (fun r => r.all AV.pure) = true) : AObj.ren ρ (.row sz rows) = .row sz rows := by
  rw [AObj.ren]
  congr 1
  refine (List.map_congr_left fun r hr => ?_).trans (List.map_id rows)
  rw [id]
  exact (List.map_congr_left fun x hx => by rw [id]; exact AV.ren_pure x (List.all_eq_true.1 (List.all_eq_true.1 h r hr) x hx)).trans (List.map_id r)

/-- The objects as the call has left them. -/
def setsB (ρ : Nat → Nat) : List (Nat × AObj) → St → St
  | [], st => st
  | (k, o) :: r, st => setsB ρ r (st.set (ρ k) (o.ren ρ))

theorem setsB_t (ρ : Nat → Nat) : ∀ (l : List (Nat × AObj)) (st : St), (setsB ρ l st).t = st.t
  | [], _ => rfl
  | (k, o) :: r, st => by rw [setsB, setsB_t ρ r]; rfl
theorem setsB_out (ρ : Nat → Nat) (j : Nat) : ∀ (l : List (Nat × AObj)) (st : St), (∀ p ∈ l, ρ p.1 ≠ j) → (setsB ρ l st).get j = st.get j
  | [], _, _ => rfl
  | (k, o) :: r, st, h => by
    rw [setsB, setsB_out ρ j r _ (fun p hp => h p (List.mem_cons_of_mem _ hp)), St.get_set, if_neg (h (k, o) (List.mem_cons_self ..))]
theorem setsB_in (ρ : Nat → Nat) : ∀ (l : List (Nat × AObj)) (st : St) (k : Nat) (o : AObj), (l.map fun p => ρ p.1).Nodup → lk l k = some o → (setsB ρ l st).get (ρ k) = some (o.ren ρ)
  | [], _, _, _, _, h => by simp [lk] at h
  | (k', o') :: r, st, k, o, hn, h => by
    simp only [List.map_cons, List.nodup_cons] at hn
    simp only [lk] at h
    rw [setsB]
    split at h
    · rename_i e
      simp only [Option.some.injEq] at h
      subst e; subst h
      rw [setsB_out ρ (ρ k') r _ (fun p hp e => hn.1 (by rw [← e]; exact List.mem_map.2 ⟨p, hp, rfl⟩)), St.get_set, if_pos rfl]
    · exact setsB_in ρ r _ k o hn.2 h

theorem lk_isSome {α : Type} {l : List (Nat × α)} {k : Nat} : (lk l k).isSome = true ↔ k ∈ l.map (·.1) := by
  induction l with
  | nil => simp [lk]
  | cons p r ih =>
    obtain ⟨m, y⟩ := p
    simp only [lk, List.map_cons, List.mem_cons]
    split
    · rename_i e; simp [e]
    · rename_i e
      rw [ih]
      constructor
      · exact fun h => .inr h
      · rintro (h | h)
        · exact absurd h.symm e
        · exact h

theorem inj_of_nodup {α β : Type} {f : α → β} {l : List α} (h : (l.map f).Nodup) {a b : α} (ha : a ∈ l) (hb : b ∈ l) (e : f a = f b) : a = b := by
  induction l with
  | nil => cases ha
  | cons x r ih =>
    simp only [List.map_cons, List.nodup_cons] at h
    obtain ⟨h1, h2⟩ := h
    rcases List.mem_cons.1 ha with e1 | ha1
    · rcases List.mem_cons.1 hb with e2 | hb1
      · rw [e1, e2]
      · exact (h1 (List.mem_map.2 ⟨b, hb1, by rw [← e, e1]⟩)).elim
    · rcases List.mem_cons.1 hb with e2 | hb1
      · exact (h1 (List.mem_map.2 ⟨a, ha1, by rw [e, e2]⟩)).elim
      · exact ih h2 ha1 hb1

section
variable {P : Program} {G : Nat → Option (List AV)} {st : St}

theorem CallSem.byref {f : FuncId} {objs objs' : List (Nat × AObj)} {args : List AV} {r : AV} (h : PB P G f objs args r objs') (ρ : Nat → Nat) (hK : ∀ p ∈ objs, 1000 ≤ p.1)
    (hinj : (objs.map fun p => ρ p.1).Nodup) (ho : ∀ p ∈ objs, st.get (ρ p.1) = some (p.2.ren ρ)) (hin : ∀ p ∈ objs, keptO objs p.2 = true) (hargs : args.all (keptA objs) = true) (hd : objs'.map (·.1) = objs.map (·.1))
    {args' : List AV} {r' : AV} {st1 : St} (ha : args' = args.map (AV.ren ρ)) (hr : r' = r.ren ρ) (hs : st1 = setsB ρ objs' st) : CallSem P G st f args' r' st1 := by
  subst ha; subst hr; subst hs
  intro R a W κ vs hG hk ha
  subst hG
  have mem : ∀ k o, lk objs k = some o → (k, o) ∈ objs := fun k o h => lk_mem h
  have dK : ∀ k, isK objs' k = isK objs k := fun k => by
    have h1 : isK objs' k = true ↔ isK objs k = true := by unfold isK; rw [lk_isSome, lk_isSome, hd]
    cases e1 : isK objs' k <;> cases e2 : isK objs k <;> simp_all
  have kept : ∀ x, keptA objs x = true → inK objs x := fun x hx k hk => List.all_eq_true.1 hx k hk
  have dm : objs'.map (fun p => ρ p.1) = objs.map (fun p => ρ p.1) := by
    have := congrArg (List.map ρ) hd
    simpa [List.map_map, Function.comp_def] using this
  refine callB_sim hk h (fun k hk => ?_) (fun k k' h1 h2 e => ?_) (fun k o ho' => ho (k, o) (mem k o ho')) (fun k o ho' => ?_) (fun x hx => kept x (List.all_eq_true.1 hargs x hx)) dK (setsB_t ρ _ _)
    (fun k o ho' => setsB_in ρ _ _ k o (by rw [dm]; exact hinj) ho') (fun j hj => setsB_out ρ j _ _ fun p hp => ?_) ha
  · obtain ⟨o, h1⟩ := Option.isSome_iff_exists.1 hk
    exact hK (k, o) (mem k o h1)
  · have m1 := lk_isSome.1 h1
    have m2 := lk_isSome.1 h2
    have : (objs.map (·.1)).map ρ = objs.map (fun p => ρ p.1) := by simp [List.map_map, Function.comp_def]
    rw [← this] at hinj
    exact inj_of_nodup hinj m1 m2 e
  · have h2 := hin (k, o) (mem k o ho')
    cases o with
    | box cells => exact fun x hx => kept x (List.all_eq_true.1 h2 x hx)
    | row sz rows => exact fun r hr x hx => kept x (List.all_eq_true.1 (List.all_eq_true.1 h2 r hr) x hx)
    | mp kvs =>
      intro p hp
      have := List.all_eq_true.1 h2 p hp
      simp only [Bool.and_eq_true] at this
      exact ⟨kept _ this.1, kept _ this.2⟩
  · refine hj p.1 ?_
    have : p.1 ∈ objs'.map (·.1) := List.mem_map.2 ⟨p, hp, rfl⟩
    rw [hd] at this
    exact lk_isSome.2 this

/-- What a function leaves that panics. -/
def FinP (ch : List PanicEntry) : Exit → St → Prop
  | .panic c, _ => c = ch
  | _, _ => False

theorem PPC_of {f : FuncId} {fn : Func} {c : Code} {rc : RCode} {args : List AV} {ch : List PanicEntry} (hf : P.funcs[f]? = some fn) (hb : fn.body = some c) (he : entB P f = true)
    (hc : okCode P fn.ntmps c rc = true) (hn : args.length ≤ fn.ntmps)
    (h : ∀ R : Run, R.N = fn.ntmps → R.G = G → R.Top → AR P R rc (initSt args) (FinP ch)) : PPC P G f args ch := by
  refine ⟨he, fun M W vs hM hG hsz hvs => ?_⟩
  refine callsIn_wide.1 (callsIn_of_wp_marks (F := FW none) (n := 1) hf hb trivial ?_)
  let R : Run := { G := G, M := M, X := fun _ => False, W0 := W, N := fn.ntmps, E0 := { M := M, loc := fun _ => none, row := fun _ => none } }
  have h0 : SK R (initSt args) { tmps := vs ++ Array.replicate (fn.ntmps - vs.size) Go.undef, defers := [] } W (fun _ => none) := by
    have hGM : ∀ b, b < W.heap.size → ¬ M b → ¬ ((initSt args).env M (fun _ => none)).M b ∧ W.heap[b]? = W.heap[b]? := fun b _ h1 => ⟨(by rintro (h2 | ⟨k, s, h2⟩) <;> first | exact h1 h2 | cases h2), rfl⟩
    refine ⟨.nil _ _ _ _, by show (vs ++ _).size = fn.ntmps; simp; omega, fun n x hx => ?_, (fun k o ho => by simp [initSt, St.get, lk] at ho), (fun k p hk => by cases hk), (fun k k' b s s' hk => by cases hk), hM, fun _ _ h => h, Kp.refl _ _, hG.mono hGM (Nat.le_refl _), ⟨Nat.le_refl _, hGM, fun k p hk => (by cases hk), fun k sz m hk => (by cases hk)⟩, fun _ _ => ⟨rfl, rfl⟩⟩
    simp only [initSt, St.tmp, iniT_lk, Nat.zero_le, if_true, Nat.sub_zero] at hx
    show VR _ W x ((vs ++ Array.replicate (fn.ntmps - vs.size) Go.undef).getD n Go.undef)
    rw [Array.getD_eq_getD_getElem?, Array.getElem?_append]
    have c1 : n < args.length := (List.getElem?_eq_some_iff.1 hx).1
    rw [if_pos (by omega)]
    have : vs[n]? = some vs[n] := by simp
    rw [this]
    exact .pv ((hvs n x _ hx this).mono hGM (Nat.le_refl _))
  refine wpIn_mono (h R rfl rfl ⟨rfl, rfl⟩ c hc 1 _ W ⟨_, h0⟩) ?_
  rintro e a' W' ⟨st', h1, κ, hk⟩
  cases e <;> try (exact h1.elim)
  have h1 : _ = ch := h1
  subst h1
  refine hk.leave (by simp) rfl fun a2 W2 ht hs2 => ?_
  exact ⟨rfl, hs2.kp.os, hs2.kp.tape, hs2.kp.output, hs2.kp.size, fun i hi => hs2.kp.block i hi (fun h => h)⟩

end
end Go.Proofs.YtdpmioiamcgfkaaDoor

/-! The abstract machine: a function's beginning and end, for functions that defer. -/
namespace Go.Proofs.YtdpmioiamcgfkaaDoor
open Go.RowKit

section
variable {P : Program}

/-- The run of a function that starts with these arguments. -/
def runOf (G : Nat → Option (List AV)) (M : Nat → Prop) (W : World) (N : Nat) : Run := { G := G, M := M, X := fun _ => False, W0 := W, N := N, E0 := { M := M, loc := fun _ => none, row := fun _ => none } }

theorem SK_start {G : Nat → Option (List AV)} {M : Nat → Prop} {W : World} {N : Nat} {args : List AV} {vs : Array Value} (hM : ∀ b, M b → b < W.heap.size) (hG : GR G M W) (hsz : vs.size = args.length)
    (hvs : ∀ (i : Nat) (x : AV) (u : Value), args[i]? = some x → vs[i]? = some u → PV M W x u) (hn : args.length ≤ N) :
    SK (runOf G M W N) (initSt args) { tmps := vs ++ Array.replicate (N - vs.size) Go.undef, defers := [] } W (fun _ => none) := by
  have hGM : ∀ b, b < W.heap.size → ¬ M b → ¬ ((initSt args).env M (fun _ => none)).M b ∧ W.heap[b]? = W.heap[b]? := fun b _ h1 => ⟨(by rintro (h2 | ⟨k, s, h2⟩) <;> first | exact h1 h2 | cases h2), rfl⟩
  refine ⟨.nil _ _ _ _, by show (vs ++ _).size = N; simp; omega, fun n x hx => ?_, (fun k o ho => by simp [initSt, St.get, lk] at ho), (fun k p hk => by cases hk), (fun k k' b s s' hk => by cases hk), hM, fun _ _ h => h, Kp.refl _ _, hG.mono hGM (Nat.le_refl _), ⟨Nat.le_refl _, hGM, fun k p hk => (by cases hk), fun k sz m hk => (by cases hk)⟩, fun _ _ => ⟨rfl, rfl⟩⟩
  simp only [initSt, St.tmp, iniT_lk, Nat.zero_le, if_true, Nat.sub_zero] at hx
  show VR _ W x ((vs ++ Array.replicate (N - vs.size) Go.undef).getD n Go.undef)
  rw [Array.getD_eq_getD_getElem?, Array.getElem?_append]
  have c1 : n < args.length := (List.getElem?_eq_some_iff.1 hx).1
  rw [if_pos (by omega)]
  have : vs[n]? = some vs[n] := by simp
  rw [this]
  exact .pv ((hvs n x _ hx this).mono hGM (Nat.le_refl _))

/-- What a function's result variables hold. -/
theorem results_of {R : Run} {st : St} {a : Act} {W : World} {κ : Nat → Option (Nat × Nat)} (h : SK R st a W κ) {fn : Func} {rs : List RRes} (hrs : allB2 (okRes P) fn.results.toList rs = true) {xs : List AV} (hx : evRess st rs = some xs) :
    ∃ u, (results fn a.tmps).run P W = .ok u W ∧ VR (st.env R.M κ) W (tupV xs) u := by
  obtain ⟨us, h4, h5⟩ := ress_run (P := P) h hrs hx
  have hl : us.length = xs.length := h5.1
  refine ⟨(if h : us.toArray.size = 1 then us.toArray[0] else .tuple us.toArray), ?_, ?_⟩
  · unfold results
    rw [Sem.run_bind]
    have : (fn.results.mapM fun rv => (match rv with
      | .tmp t => pure (a.tmps.getD t Go.undef)
      | .cell p t => do loadVar t (← asAddr (a.tmps.getD p Go.undef)) : Sem Value)).run P W = .ok us.toArray W := by
      rw [Array.mapM_eq_mapM_toList, Sem.run_map]
      exact congrArg (fun z => Result.andThen z (fun a w' => Result.ok a.toArray w')) h4
    erw [this]
    rfl
  · match xs, us, hl, h5 with
    | [], [], _, _ => exact .tup [] _ rfl (by simp)
    | [y], [u], _, h5 => exact h5.2 0 y u rfl rfl
    | y :: y2 :: ys, u :: u2 :: us, hl, h5 =>
      rw [dif_neg (by simp)]
      exact .tup _ _ (by simpa using hl) (fun i x w hx hw => h5.2 i x w hx (by simpa using hw))
end
end Go.Proofs.YtdpmioiamcgfkaaDoor
