/-
  The abstract machine: regions, code, calls.
-/
import Derived.Test.YtdpmioiamcgfkaaDoorAmM
import Derived.Deep.LoopGhost
import Derived.Scope
import Derived.LoopN
import Derived.LoopNIn
import Derived.Sort.LoopGhostIn
import Derived.OrdersIn
import Derived.CallsIn
namespace Go.Proofs.YtdpmioiamcgfkaaDoor
open Go.RowKit

structure ROper where
  d : Option Nat
  op : ROp
  guard : Option (Nat × Bool) := none
  aft : List Nat := []
  deriving Inhabited

inductive RCode where
  | skip
  | reg (id : Nat) (draw : Bool) (ops : List ROper)
  | seq (a b : RCode)
  | cond (c : RA) (a b : RCode)
  | block (id : Nat) (c : RCode)
  | loop (c : RCode)
  | exit (id : Nat)
  | ret
  | scope (c : RCode)
  | label (id : Nat)
  | rngf (g : RA) (ps : List Nat) (assign body : RCode)
  | raw (p : Nat → Code → Bool)
  deriving Inhabited

def entB (P : Program) (f : FuncId) : Bool := match P.funcs[f]? with
  | some fn => fn.body.isSome && !(fn.name == "runtime.NumGoroutine")
  | none => false

def okCall (o : Op) (r : ROp) : Bool := match o, r with
  | .call { callee := .value (.func g), args := ⟨xs⟩, .. }, .call f ys => f == g && allB2 okA xs ys
  | .call { callee := .value (.func g), args := ⟨xs⟩, .. }, .calln f ys => f == g && allB2 okA xs ys
  | .call { callee := .value x, args := ⟨xs⟩, .. }, .callv y ys => okA x y && allB2 okA xs ys
  | _, _ => false
def isCall : ROp → Bool
  | .call .. | .callv .. | .calln .. => true
  | _ => false

def okOper (P : Program) (N : Nat) (ops : Array Oper) (o : Oper) (r : ROper) : Bool :=
  decide (o.dst = r.d) && (match r.d with | some d => decide (d < N) | none => true) && (if isCall r.op = true then okCall o.op r.op else okOp P o.op r.op) &&
    (match o.guard, r.guard with
    | none, none => true
    | some (j, b), some (t, b') => decide ((ops[j]?).bind (·.dst) = some t) && decide (t < N) && b == b'
    | _, _ => false)

def okCode (P : Program) (N : Nat) : Code → RCode → Bool
  | .skip, .skip => true
  | .region id ops draw, .reg id' draw' rs => id == id' && draw == draw' && allB2 (okOper P N ops) ops.toList rs && (!draw || allB2 (fun (o : Oper) (r : ROper) => decide ((o.after.toList.filter (Region.binds .any ·)).map (·.on) = r.aft)) ops.toList rs)
  | .seq a b, .seq a' b' => okCode P N a a' && okCode P N b b'
  | .cond c a b, .cond c' a' b' => okA c c' && okCode P N a a' && okCode P N b b'
  | .block id c, .block id' c' => id == id' && okCode P N c c'
  | .loop c, .loop c' => okCode P N c c'
  | .exit id, .exit id' => id == id'
  | .ret, .ret => true
  | .scope c, .scope c' => okCode P N c c'
  | .label id, .label id' => id == id'
  | c, .raw p => p N c
  | .rangeFunc g ps c b, .rngf g' ps' c' b' => okA g g' && ps.toList == ps' && ps'.all (fun p => decide (p < N)) && okCode P N c c' && okCode P N b b'
  | _, _ => false

/-- A function, of trees a tree: it returns, and no old memory has turned. -/
def PC (P : Program) (G : Nat → Option (List AV)) (f : FuncId) (args : List AV) (r : AV) : Prop :=
  entB P f = true ∧ ∀ (M : Nat → Prop) (W : World) (vs : Array Value), (∀ b, M b → b < W.heap.size) → GR G M W → vs.size = args.length →
    (∀ (i : Nat) (x : AV) (u : Value), args[i]? = some x → vs[i]? = some u → PV M W x u) → Calls P f vs W fun e W' => ∃ v, e = .returned v ∧ PV M W' r v ∧ Ext W W'

def AV.flat : AV → Bool
  | .hole | .int .. | .bool _ | .abool | .str _ | .nilp | .nils | .nilm | .nilf => true
  | .agg xs | .tup xs => xs.attach.all (fun ⟨x, _⟩ => x.flat)
  | _ => false

theorem PV.flat {M M' : Nat → Prop} {W : World} {x : AV} {v : Value} (h : PV M W x v) : x.flat = true → PV M' W x v := by
  induction h with
  | hole => exact fun _ => .hole
  | int k n => exact fun _ => .int k n
  | bool b => exact fun _ => .bool b
  | abool b => exact fun _ => .abool b
  | str s => exact fun _ => .str s
  | nilp => exact fun _ => .nilp
  | nils => exact fun _ => .nils
  | nilm => exact fun _ => .nilm
  | nilf => exact fun _ => .nilf
  | agg xs us h1 hx ih =>
    intro h
    simp only [AV.flat, List.all_eq_true, List.mem_attach, forall_const, Subtype.forall] at h
    exact .agg xs us h1 (fun i x u hi hu => ih i x u hi hu (h x (List.mem_of_getElem? hi)))
  | tup xs us h1 hx ih =>
    intro h
    simp only [AV.flat, List.all_eq_true, List.mem_attach, forall_const, Subtype.forall] at h
    exact .tup xs us h1 (fun i x u hi hu => ih i x u hi hu (h x (List.mem_of_getElem? hi)))
  | _ => intro h; simp [AV.flat] at h

def snapL {α β : Type} (f : α → Option β) : List α → Option (List β)
  | [] => some []
  | x :: xs => match f x, snapL f xs with
    | some y, some ys => some (y :: ys)
    | _, _ => none
/-- What is owned, as a tree, as it is now (only objects that 'ok' names are looked into). -/
def snapF (ok : Nat → Bool) (st : St) : Nat → AV → Option AV
  | n + 1, .func fn xs ys => match snapL (snapF ok st n) xs, snapL (snapF ok st n) ys with
    | some a, some b => some (.func fn a b)
    | _, _ => none
  | n + 1, .agg xs => (snapL (snapF ok st n) xs).map .agg
  | n + 1, .tup xs => (snapL (snapF ok st n) xs).map .tup
  | n + 1, .osl k m => match st.get k with
    | some (.row _ rows) => if ok k = true ∧ rows.length = m then if rows.all (fun r => r.all AV.pure) = true then some (.vsl rows) else (snapL (snapL (snapF ok st n)) rows).map .vsl else none
    | _ => none
  | n + 1, .ptr k off => match st.get k with
    | some (.box cells) => if ok k = true then (snapL (snapF ok st n) cells).map fun cs => .vptr cs off else none
    | _ => none
  | n + 1, .mp k => match st.get k with
    | some (.mp kvs) => if ok k = true then if kvs.all (fun p => p.1.pure && p.2.pure) = true then some (.vmap kvs) else match snapL (snapF ok st n) (kvs.map (·.1)), snapL (snapF ok st n) (kvs.map (·.2)) with
      | some ks, some vs => some (.vmap (ks.zip vs))
      | _, _ => none
      else none
    | _ => none
  | _, x => if x.pure = true then some x else none
def okAll : Nat → Bool := fun _ => true
def snap (st : St) : AV → Option AV := snapF okAll st 6

/-- A call in a state. -/
def CallR (P : Program) (G : Nat → Option (List AV)) (st : St) (f : FuncId) (args : List AV) (v : AV) : Prop :=
  (args.all AV.pure = true ∧ PC P G f args v) ∨ (v.flat = true ∧ ∃ ys, snapL (snap st) args = some ys ∧ PC P G f ys v)

def St.putd (st : St) (d : Option Nat) (x : AV) : St := match d with
  | some n => st.put n x
  | none => st

def wants (st : St) : Option (Nat × Bool) → Option Bool
  | none => some true
  | some (t, b) => match st.tmp t with
    | some (.bool c) => some (c == b)
    | some .hole => some false
    | _ => none

/-- What a call does in a state: what it returns, and what becomes of the state. -/
def CallSem (P : Program) (G : Nat → Option (List AV)) (st : St) (f : FuncId) (args : List AV) (v : AV) (st1 : St) : Prop :=
  ∀ (R : Run) (a : Act) (W : World) (κ : Nat → Option (Nat × Nat)) (vs : Array Value), R.G = G → SK R st a W κ → CR (st.env R.M κ) W args vs.toList →
    entB P f = true ∧ Calls P f vs W fun e W' => ∃ u κ1, e = .returned u ∧ SK R st1 a W' κ1 ∧ VR (st1.env R.M κ1) W' v u

/-- A function that panics. -/
def PPC (P : Program) (G : Nat → Option (List AV)) (f : FuncId) (args : List AV) (ch : List PanicEntry) : Prop :=
  entB P f = true ∧ ∀ (M : Nat → Prop) (W : World) (vs : Array Value), (∀ b, M b → b < W.heap.size) → GR G M W → vs.size = args.length →
    (∀ (i : Nat) (x : AV) (u : Value), args[i]? = some x → vs[i]? = some u → PV M W x u) → Calls P f vs W fun e W' => e = .panicked ch ∧ Ext W W'
def CallPan (P : Program) (G : Nat → Option (List AV)) (st : St) (f : FuncId) (args : List AV) (ch : List PanicEntry) : Prop :=
  ∃ ys, snapL (snap st) args = some ys ∧ PPC P G f ys ch

/-- A call in a region of fixed order. -/
def CallW (P : Program) (G : Nat → Option (List AV)) (st : St) (f : FuncId) (args : List AV) (next : AV → St → Prop) (pan : List PanicEntry → Prop) : Prop :=
  (∃ v, CallR P G st f args v ∧ next v st) ∨ (∃ v st1, CallSem P G st f args v st1 ∧ next v st1) ∨ ∃ ch, CallPan P G st f args ch ∧ pan ch

/-- A function that returns a list in new memory. -/
def PN (P : Program) (G : Nat → Option (List AV)) (f : FuncId) (args : List AV) (sz : Nat) (rows : List (List AV)) : Prop :=
  entB P f = true ∧ ∀ (M : Nat → Prop) (W : World) (vs : Array Value), (∀ b, M b → b < W.heap.size) → GR G M W → vs.size = args.length →
    (∀ (i : Nat) (x : AV) (u : Value), args[i]? = some x → vs[i]? = some u → PV M W x u) → Calls P f vs W fun e W' => ∃ b s cs t c, e = .returned (.slice (some ⟨b, s, none⟩) rows.length c) ∧ Ext W W' ∧ W.heap.size ≤ b ∧ b < W'.heap.size ∧
      rows.length ≤ c ∧ c ≤ maxLen ∧ W'.heap[b]? = some (.cells cs t (0, 0)) ∧ s + c * sz ≤ cs.size ∧ ∀ E : Env, ObjR E W' b s (.row sz rows)
/-- A call of such a function in a state. -/
def NewR (P : Program) (G : Nat → Option (List AV)) (st : St) (d : Nat) (f : FuncId) (args : List AV) (sz : Nat) (rows : List (List AV)) : Prop := st.get d = none ∧ args.all AV.pure = true ∧ PN P G f args sz rows

/-- Operations, one behind the other. -/
def RW (P : Program) (G : Nat → Option (List AV)) : List ROper → St → (Exit → St → Prop) → Prop
  | [], st, K => K .normal st
  | r :: rs, st, K => match wants st r.guard with
    | none => False
    | some w => (w = false → RW P G rs (st.putd r.d .hole) K) ∧ (w = true → match r.op with
      | .call f args => CallW P G st f (args.map (evA G st)) (fun v st1 => RW P G rs (st1.putd r.d v) K) (fun ch => K (.panic ch) st)
      | .calln f args => (∃ v, CallR P G st f (args.map (evA G st)) v ∧ RW P G rs (st.putd r.d v) K) ∨ ∃ sz rows, NewR P G st (r.d.getD 0) f (args.map (evA G st)) sz rows ∧ RW P G rs ((st.set (r.d.getD 0) (.row sz rows)).putd r.d (.osl (r.d.getD 0) rows.length)) K
      | .callv f args => match evA G st f with
        | .func (.func g) first caps => CallW P G st g (first ++ args.map (evA G st) ++ caps) (fun v st1 => RW P G rs (st1.putd r.d v) K) (fun ch => K (.panic ch) st)
        | _ => False
      | op => match rop G st (r.d.getD 0) op with
        | some (x, st') => RW P G rs (st'.putd r.d x) K
        | none => False)

/-- The wide fence, in a round or in none. -/
def FW (rd : Option Nat) : Fence := { Fence.wide with round := rd }
theorem callsFW {rd : Option Nat} {n : Nat} {f : FuncId} {args : Array Value} {W : World} {Q : Ending → World → Prop} {P : Program} : CallsIn (FW rd) n P f args W Q ↔ Calls P f args W Q := callsIn_wide (n := n)
theorem wpFW {n : Nat} {P : Program} {c : Code} {Q : Exit → Act → World → Prop} {a : Act} {w : World} : c.wpIn (FW none) n P Q a w ↔ c.wp P Q a w := wpIn_wide

section
variable {F : Fence} {n : Nat} {P : Program} {b : Frame} {a : Act} {k : List Item} {cs : List Frame} {w : World} {Q : Exit → Act → World → Prop}
theorem stepR_scope {c : Code} : step P (lone (b.atR a (.code (.scope c) :: k)) cs w) = .next (lone (b.atR a (.code c :: .inScope c :: k)) cs w) :=
  step_lone_go (by simp [stepG, stepG.exec, Frame.atR])
theorem stepR_inScope {c : Code} : step P (lone (b.atR a (.inScope c :: k)) cs w) = .next (lone (b.atR a k) cs w) :=
  step_lone_go (by simp [stepG, stepG.exec, Frame.atR])
theorem wpIn_scope_straight {c : Code} (h : c.wpIn F n P (Exit.noGoto Q) a w) : (Code.scope c).wpIn F n P Q a w := by
  intro b k cs hro hb hr
  have h0 : (lone (b.atR a (.code (.scope c) :: k)) cs w).fenced P F := fenced_calm hb hr rfl
  obtain ⟨e, a₁, w₁, hq, harr⟩ := h b (.inScope c :: k) cs hro hb hr
  cases e with
  | normal => exact ⟨.normal, a₁, w₁, hq, .head h0 stepR_scope (StepsIn.trans harr (.one (fenced_calm hb hr rfl) stepR_inScope))⟩
  | exit id =>
    have hx : exitTo id (.inScope c :: k) = exitTo id k := by simp [exitTo]
    exact ⟨.exit id, a₁, w₁, hq, fun k' hk => .head h0 stepR_scope (harr.1 k' (by rw [hx]; exact hk)),
      fun hr' hk => let ⟨k₁, h1, h2⟩ := harr.2 hr' (by rw [hx]; exact hk); ⟨k₁, h1, .head h0 stepR_scope h2⟩⟩
  | goto l => exact hq.elim
  | ret => exact ⟨_, a₁, w₁, hq, .of_steps (.one h0 stepR_scope) harr⟩
  | panic ch => exact ⟨_, a₁, w₁, hq, .of_steps (.one h0 stepR_scope) harr⟩
  | outgrown => exact ⟨_, a₁, w₁, hq, .of_steps (.one h0 stepR_scope) harr⟩
end

def AW (P : Program) (R : Run) (c : Code) (st : St) (Φ : Exit → St → Prop) : Prop :=
  ∀ (n : Nat) a W, SR R st a W → c.wpIn (FW R.rd) n P (fun e a' W' => ∃ st', Φ e st' ∧ SR R st' a' W') a W

def AR (P : Program) (R : Run) (rc : RCode) (st : St) (Φ : Exit → St → Prop) : Prop := ∀ c, okCode P R.N c rc = true → AW P R c st Φ

def Weak (st st' : St) : Prop := ∀ R a W, SR R st a W → SR R st' a W

section
variable {P : Program} {R : Run} {st : St} {Φ : Exit → St → Prop}

theorem SK.putd {a : Act} {W : World} {κ : Nat → Option (Nat × Nat)} (h : SK R st a W κ) {d : Option Nat} (hd : ∀ n, d = some n → n < R.N) {x : AV} {v : Value} (hv : VR (st.env R.M κ) W x v) : SK R (st.putd d x) (a.put d v) W κ := by
  cases d with
  | none => exact h
  | some n => exact h.put (hd n rfl) hv

theorem AR_skip (h : Φ .normal st) : AR P R .skip st Φ := by
  intro c hc m a W hs
  cases c <;> simp [okCode] at hc
  exact wpIn_skip ⟨st, h, hs⟩

theorem AR_ret (h : Φ .ret st) : AR P R .ret st Φ := by
  intro c hc m a W hs
  cases c <;> simp [okCode] at hc
  exact wpIn_ret ⟨st, h, hs⟩

theorem AR_label {id : Nat} (h : Φ .normal st) : AR P R (.label id) st Φ := by
  intro c hc m a W hs
  cases c <;> simp [okCode] at hc
  exact wpIn_label ⟨st, h, hs⟩

def Scp (Φ : Exit → St → Prop) : Exit → St → Prop
  | .goto _, _ => False
  | e, st => Φ e st
theorem AR_scope {a : RCode} (h : AR P R a st (Scp Φ)) : AR P R (.scope a) st Φ := by
  intro c hc m x W hs
  cases c <;> simp only [okCode, Bool.false_eq_true] at hc
  rename_i c1
  refine wpIn_scope_straight (wpIn_mono (h c1 hc m x W hs) ?_)
  rintro e a' W' ⟨st', h1, h2⟩
  cases e
  case goto => exact h1.elim
  all_goals exact ⟨st', h1, h2⟩

theorem AR_exit {id : Nat} (h : Φ (.exit id) st) : AR P R (.exit id) st Φ := by
  intro c hc m a W hs
  cases c <;> simp [okCode] at hc
  subst hc
  exact wpIn_exit ⟨st, h, hs⟩

/-- What stands behind. -/
def Thn (P : Program) (R : Run) (b : RCode) (Φ : Exit → St → Prop) : Exit → St → Prop
  | .normal, st => AR P R b st Φ
  | e, st => Φ e st

theorem AR_seq {a b : RCode} (h : AR P R a st (Thn P R b Φ)) : AR P R (.seq a b) st Φ := by
  intro c hc m x W hs
  cases c <;> simp only [okCode, Bool.false_eq_true, Bool.and_eq_true] at hc
  rename_i c1 c2
  refine wpIn_seq (wpIn_mono (h c1 hc.1 m x W hs) ?_)
  rintro e a' W' ⟨st', h1, h2⟩
  cases e
  case normal => exact h1 c2 hc.2 m a' W' h2
  all_goals exact ⟨st', h1, h2⟩

theorem AR_cond {c : RA} {a b : RCode} (t : Bool) (hc : evA R.G st c = .bool t) (h1 : t = true → AR P R a st Φ) (h2 : t = false → AR P R b st Φ) : AR P R (.cond c a b) st Φ := by
  intro k hk m x W hs
  cases k <;> simp only [okCode, Bool.false_eq_true, Bool.and_eq_true] at hk
  rename_i c0 k1 k2
  obtain ⟨κ, hκ⟩ := id hs
  have he := hκ.ev hk.1.1
  rw [hc] at he
  refine wpIn_cond_split he.bool_inv (fun ht => h1 ht k1 hk.1.2 m x W hs) (fun ht => h2 ht k2 hk.2 m x W hs)

theorem AR_condA {c : RA} {a b : RCode} (hc : evA R.G st c = .abool) (h1 : AR P R a st Φ) (h2 : AR P R b st Φ) : AR P R (.cond c a b) st Φ := by
  intro k hk m x W hs
  cases k <;> simp only [okCode, Bool.false_eq_true, Bool.and_eq_true] at hk
  rename_i c0 k1 k2
  obtain ⟨κ, hκ⟩ := id hs
  have he := hκ.ev hk.1.1
  rw [hc] at he
  obtain ⟨t, he⟩ : ∃ t, x.eval c0 = .bool t := by
    cases he with
    | pv he => generalize hv : x.eval c0 = v at he; cases he; exact ⟨_, rfl⟩
  exact wpIn_cond_split he (fun _ => h1 k1 hk.1.2 m x W hs) (fun _ => h2 k2 hk.2 m x W hs)

def Blk' (id : Nat) (Φ : Exit → St → Prop) : Exit → St → Prop
  | .exit id', st => if id' = id then Φ .normal st else Φ (.exit id') st
  | e, st => Φ e st

theorem AR_block {id : Nat} {a : RCode} (h : AR P R a st (Blk' id Φ)) : AR P R (.block id a) st Φ := by
  intro c hc m x W hs
  cases c <;> simp only [okCode, Bool.false_eq_true, Bool.and_eq_true, beq_iff_eq] at hc
  rename_i id' c1
  obtain ⟨rfl, hc⟩ := hc
  refine wpIn_block (wpIn_mono (h c1 hc m x W hs) ?_)
  rintro e a' W' ⟨st', h1, h2⟩
  cases e
  case exit j =>
    simp only [Blk', Exit.inBlock] at *
    split at h1
    · rename_i e; rw [if_pos e]; exact ⟨st', h1, h2⟩
    · rename_i e; rw [if_neg e]; exact ⟨st', h1, h2⟩
  all_goals exact ⟨st', h1, h2⟩

/-- A loop, by a family of states and a measure. -/
def Rnd {α : Type} (S : α → St) (I : α → Prop) (μ : α → Nat) (x : α) (Φ : Exit → St → Prop) : Exit → St → Prop
  | .normal, st => ∃ y, Weak st (S y) ∧ I y ∧ μ y < μ x
  | e, st => Φ e st

theorem AR_loop {α : Type} {c : RCode} (S : α → St) (I : α → Prop) (μ : α → Nat) (x0 : α) (h0 : Weak st (S x0)) (hi : I x0) (hr : ∀ x, I x → AR P R c (S x) (Rnd S I μ x Φ)) : AR P R (.loop c) st Φ := by
  intro k hk m a W hs
  cases k <;> simp only [okCode, Bool.false_eq_true] at hk
  rename_i c0
  refine wpIn_loop_ghost (fun n a w => ∃ x, I x ∧ μ x = n ∧ SR R (S x) a w) (μ x0) ⟨x0, hi, rfl, h0 R a W hs⟩ ?_
  rintro n a W ⟨x, hx, rfl, hs⟩
  refine wpIn_mono (hr x hx c0 hk m a W hs) ?_
  rintro e a' W' ⟨st', h1, h2⟩
  cases e
  case normal =>
    obtain ⟨y, h3, h4, h5⟩ := h1
    exact ⟨μ y, h5, y, h4, rfl, h3 R a' W' h2⟩
  all_goals exact ⟨st', h1, h2⟩

/-- A loop, round by round. -/
def ARn (P : Program) (R : Run) (c : RCode) (Φ : Exit → St → Prop) : Nat → St → Prop
  | 0, _ => False
  | n + 1, st => AR P R c st fun e s => match e with
    | .normal => ARn P R c Φ n s
    | e => Φ e s
theorem AR_rounds {c : RCode} (n : Nat) (h : ARn P R c Φ n st) : AR P R (.loop c) st Φ := by
  intro k hk m a W hs
  cases k <;> simp only [okCode, Bool.false_eq_true] at hk
  rename_i c0
  refine wpIn_loop_rounds n ?_
  induction n generalizing st a W with
  | zero => exact h.elim
  | succ n ih =>
    rw [roundsIn_succ]
    refine wpIn_mono (h c0 hk m a W hs) ?_
    rintro e a' W' ⟨st', h1, h2⟩
    cases e
    case normal => exact ih h1 a' W' h2
    all_goals exact ⟨st', h1, h2⟩

theorem Weak.refl (st : St) : Weak st st := fun _ _ _ h => h
theorem Weak.tmps {t' : List (Nat × AV)} (h : ∀ n x, lk t' n = some x → lk st.t n = some x) : Weak st { st with t := t' } := fun _ _ _ ⟨κ, hk⟩ => ⟨κ, hk.sub h⟩

/-! ### Calls -/
theorem snapL_spec {α β : Type} {f : α → Option β} {xs : List α} {ys : List β} (h : snapL f xs = some ys) : ys.length = xs.length ∧ ∀ (i : Nat) (y : β), ys[i]? = some y → ∃ x, xs[i]? = some x ∧ f x = some y := by
  induction xs generalizing ys with
  | nil => simp only [snapL, Option.some.injEq] at h; subst h; exact ⟨rfl, by simp⟩
  | cons x xs ih =>
    simp only [snapL] at h
    split at h <;> simp only [Option.some.injEq, reduceCtorEq] at h
    rename_i y' ys' e1 e2
    subst h
    obtain ⟨h1, h2⟩ := ih e2
    refine ⟨by simp [h1], fun i y hy => ?_⟩
    cases i with
    | zero => simp at hy; subst hy; exact ⟨x, rfl, e1⟩
    | succ i => simpa using h2 i y (by simpa using hy)

theorem snapF_sim {ok : Nat → Bool} {M' : Nat → Prop} {a : Act} {W : World} {κ : Nat → Option (Nat × Nat)} (h : SK R st a W κ) (hM : ∀ b, M' b → (st.env R.M κ).M b) (hN : ∀ k b s, κ k = some (b, s) → ok k = true → ¬ M' b) :
    ∀ (n : Nat) {x y : AV} {v : Value}, VR (st.env R.M κ) W x v → snapF ok st n x = some y → PV M' W y v := by
  have low : ∀ {x : AV} {v : Value}, VR (st.env R.M κ) W x v → x.pure = true → PV M' W x v := fun hx hp => (hx.toPV hp).mono (fun b _ hb => ⟨fun e => hb (hM b e), rfl⟩) (Nat.le_refl _)
  have leaf : ∀ {x y : AV} {v : Value}, VR (st.env R.M κ) W x v → (if x.pure = true then some x else none) = some y → PV M' W y v := fun hx hs => by
    split at hs <;> simp only [Option.some.injEq, reduceCtorEq] at hs
    rename_i hp
    subst hs
    exact low hx hp
  intro n
  induction n with
  | zero => intro x y v hx hs; cases x <;> exact leaf hx (by simpa only [snapF] using hs)
  | succ n ih =>
    intro x y v hx hs
    cases x
    case func fn xs ys =>
      simp only [snapF] at hs
      split at hs <;> simp only [Option.some.injEq, reduceCtorEq] at hs
      rename_i a1 b1 e1 e2
      subst hs
      obtain ⟨us, vs, rfl, h1, h2⟩ := hx.func_inv
      obtain ⟨g1, g2⟩ := snapL_spec e1
      obtain ⟨g3, g4⟩ := snapL_spec e2
      refine .func _ a1 b1 us vs (by have := h1.1; simp at this; omega) (by have := h2.1; simp at this; omega) (fun i x u hi hu => ?_) (fun i x u hi hu => ?_)
      · obtain ⟨x', h3, h4⟩ := g2 i x hi
        exact ih (h1.2 i x' u h3 (by simpa using hu)) h4
      · obtain ⟨x', h3, h4⟩ := g4 i x hi
        exact ih (h2.2 i x' u h3 (by simpa using hu)) h4
    case agg xs =>
      simp only [snapF, Option.map_eq_some_iff] at hs
      obtain ⟨a1, e1, rfl⟩ := hs
      obtain ⟨us, rfl, h1⟩ := hx.agg_inv
      obtain ⟨g1, g2⟩ := snapL_spec e1
      refine .agg a1 us (by have := h1.1; simp at this; omega) (fun i x u hi hu => ?_)
      obtain ⟨x', h3, h4⟩ := g2 i x hi
      exact ih (h1.2 i x' u h3 (by simpa using hu)) h4
    case tup xs =>
      simp only [snapF, Option.map_eq_some_iff] at hs
      obtain ⟨a1, e1, rfl⟩ := hs
      obtain ⟨us, rfl, h1⟩ := hx.tup_inv
      obtain ⟨g1, g2⟩ := snapL_spec e1
      refine .tup a1 us (by have := h1.1; simp at this; omega) (fun i x u hi hu => ?_)
      obtain ⟨x', h3, h4⟩ := g2 i x hi
      exact ih (h1.2 i x' u h3 (by simpa using hu)) h4
    case osl k m =>
      simp only [snapF] at hs
      split at hs <;> try (simp at hs; done)
      rename_i sz rows hg
      split at hs <;> try (simp at hs; done)
      rename_i hc
      obtain ⟨hok, hn⟩ := hc
      obtain ⟨b, s, c, cs, t, h1, rfl, h2, h3, h4, h5, h6, h7⟩ := h.osl hx hg hn
      have hmul : ∀ i j, i < rows.length → j < sz → s + i * sz + j < cs.size := fun i j hi hj => by
        have := Nat.mul_le_mul_right sz (show i + 1 ≤ c by omega)
        rw [Nat.add_mul] at this; omega
      have hnM : ¬ M' b := hN k b s h1 hok
      have build : ∀ rows' : List (List AV), rows'.length = rows.length → (∀ (i : Nat) (r' : List AV), rows'[i]? = some r' → ∃ r, rows[i]? = some r ∧ r'.length = r.length ∧ ∀ (j : Nat) (x' : AV) (x : AV) (u : Value), r'[j]? = some x' → r[j]? = some x → VR (st.env R.M κ) W x u → PV M' W x' u) → PV M' W (.vsl rows') (.slice (some ⟨b, s, none⟩) m c) := by
        intro rows' hl hr'
        subst hn
        rw [← hl]
        refine .vsl rows' _ c sz b s (fun i j => cs.getD (s + i * sz + j) Go.undef) (by omega) h3 (fun _ => ⟨rfl, h.loc_lt h1, hnM⟩) (fun e => by cases e) (fun r' hr => ?_) (fun i j hi hj => ?_) (fun i j r x hi hj => ?_)
        · obtain ⟨i, hi⟩ := List.getElem?_of_mem hr
          obtain ⟨r, g1, g2, -⟩ := hr' i r' hi
          rw [g2]; exact h6 r (List.mem_of_getElem? g1)
        · have := hmul i j (by omega) hj
          simp [World.cell?, h4, Array.getD, this]
        · obtain ⟨r0, g1, g2, g3⟩ := hr' i r hi
          have hj2 : j < r0.length := by rw [← g2]; exact (List.getElem?_eq_some_iff.1 hj).1
          obtain ⟨u, hu, hr⟩ := h7 i j r0 r0[j] g1 (List.getElem?_eq_getElem hj2)
          simp only [Array.getD_eq_getD_getElem?, hu, Option.getD_some]
          exact g3 j x r0[j] u hj (List.getElem?_eq_getElem hj2) hr
      split at hs
      · rename_i hp
        simp only [Option.some.injEq] at hs
        subst hs
        refine build rows rfl fun i r hi => ⟨r, hi, rfl, fun j x' x u hx1 hx2 hv => ?_⟩
        rw [hx1] at hx2
        simp only [Option.some.injEq] at hx2
        subst hx2
        exact low hv (List.all_eq_true.1 (List.all_eq_true.1 hp r (List.mem_of_getElem? hi)) x' (List.mem_of_getElem? hx1))
      · simp only [Option.map_eq_some_iff] at hs
        obtain ⟨rows', e1, rfl⟩ := hs
        obtain ⟨g1, g2⟩ := snapL_spec e1
        refine build rows' g1 fun i r' hi => ?_
        obtain ⟨r, g3, g4⟩ := g2 i r' hi
        obtain ⟨g5, g6⟩ := snapL_spec g4
        refine ⟨r, g3, g5, fun j x' x u hx1 hx2 hv => ?_⟩
        obtain ⟨x2, g7, g8⟩ := g6 j x' hx1
        rw [hx2] at g7
        simp only [Option.some.injEq] at g7
        subst g7
        exact ih hv g8
    case ptr k off =>
      simp only [snapF] at hs
      split at hs <;> try (simp at hs; done)
      rename_i cells hg
      split at hs <;> simp only [Option.map_eq_some_iff, reduceCtorEq] at hs
      rename_i hok
      obtain ⟨cs', e1, rfl⟩ := hs
      obtain ⟨b, s, h1, -, rfl⟩ := hx.ptr_inv
      obtain ⟨b', s', h2, h3, h4, h5, cs, t, h6, h7, h8⟩ := h.obj k _ hg
      rw [show (st.env R.M κ).loc k = κ k from rfl, h2] at h1
      simp only [Option.some.injEq, Prod.mk.injEq] at h1
      obtain ⟨rfl, rfl⟩ := h1
      subst h5
      obtain ⟨g1, g2⟩ := snapL_spec e1
      refine .vptr cs' off b' 0 (fun j => cs.getD j Go.undef) h3 (hN k b' 0 h2 hok) (fun j hj => by simp [World.cell?, h6, Array.getD, h7, show j < cells.length by omega]) (fun j x hj => ?_)
      obtain ⟨x0, g3, g4⟩ := g2 j x hj
      obtain ⟨u, hu, hr⟩ := h8 j x0 g3
      simp only [Array.getD_eq_getD_getElem?, hu, Option.getD_some]
      exact ih hr g4
    case mp k =>
      simp only [snapF] at hs
      split at hs <;> try (simp at hs; done)
      rename_i kvs hg
      split at hs <;> try (simp at hs; done)
      rename_i hok
      obtain ⟨b, h1, -, rfl⟩ := hx.mp_inv
      obtain ⟨b', s', h2, h3, h4, h5, es, t, h6, h7, h8, h9⟩ := h.obj k _ hg
      rw [show (st.env R.M κ).loc k = κ k from rfl, h2] at h1
      simp only [Option.some.injEq, Prod.mk.injEq] at h1
      obtain ⟨rfl, rfl⟩ := h1
      have build : ∀ kvs' : List (AV × AV), kvs'.length = kvs.length → (∀ (i : Nat) (x' y' : AV), kvs'[i]? = some (x', y') → ∃ x y, kvs[i]? = some (x, y) ∧ (∀ u, VR (st.env R.M κ) W x u → PV M' W x' u) ∧ ∀ u, VR (st.env R.M κ) W y u → PV M' W y' u) → PV M' W (.vmap kvs') (.map (some b')) := by
        intro kvs' hl hr'
        refine .vmap kvs' b' es t h3 (hN k b' 0 h2 hok) h6 h7 (by omega) (fun i x y e hi he => ?_) (fun i x y e hi he => ?_)
        · obtain ⟨x0, y0, g1, g2, -⟩ := hr' i x y hi
          obtain ⟨e0, g4, g5, -⟩ := h9 i x0 y0 g1
          rw [he] at g4; cases g4
          exact g2 _ g5
        · obtain ⟨x0, y0, g1, -, g3⟩ := hr' i x y hi
          obtain ⟨e0, g4, -, g6⟩ := h9 i x0 y0 g1
          rw [he] at g4; cases g4
          exact g3 _ g6
      split at hs
      · rename_i hp
        simp only [Option.some.injEq] at hs
        subst hs
        refine build kvs rfl fun i x y hi => ⟨x, y, hi, ?_⟩
        have := List.all_eq_true.1 hp (x, y) (List.mem_of_getElem? hi)
        simp only [Bool.and_eq_true] at this
        exact ⟨fun u hu => low hu this.1, fun u hu => low hu this.2⟩
      · split at hs <;> simp only [Option.some.injEq, reduceCtorEq] at hs
        rename_i ks vs e1 e2
        subst hs
        obtain ⟨g1, g2⟩ := snapL_spec e1
        obtain ⟨g3, g4⟩ := snapL_spec e2
        simp only [List.length_map] at g1 g3
        refine build _ (by simp; omega) fun i x y hi => ?_
        rw [List.getElem?_zip_eq_some] at hi
        obtain ⟨x0, g5, g6⟩ := g2 i x hi.1
        obtain ⟨y0, g7, g8⟩ := g4 i y hi.2
        rw [List.getElem?_map, Option.map_eq_some_iff] at g5 g7
        obtain ⟨p, q1, rfl⟩ := g5
        obtain ⟨p', q2, rfl⟩ := g7
        rw [q1] at q2; cases q2
        exact ⟨p.1, p.2, q1, fun u hu => ih hu g6, fun u hu => ih hu g8⟩
    all_goals exact leaf hx (by simpa only [snapF] using hs)
theorem snap_sim {a : Act} {W : World} {κ : Nat → Option (Nat × Nat)} (h : SK R st a W κ) {x y : AV} {v : Value} (hx : VR (st.env R.M κ) W x v) (hs : snap st x = some y) : PV R.M W y v :=
  snapF_sim h (fun b hb => .inl hb) (fun k b s hk _ hM => by
    obtain ⟨o, ho⟩ := h.dom k _ hk
    obtain ⟨b', s', h1, h2, h3, -⟩ := h.obj k o ho
    rw [hk] at h1
    simp only [Option.some.injEq, Prod.mk.injEq] at h1
    obtain ⟨rfl, rfl⟩ := h1
    rcases h3 with h3 | h3
    · have := h.low b hM; omega
    · exact h.apart b hM h3) 6 hx hs

theorem call_sim {a : Act} {W : World} {κ : Nat → Option (Nat × Nat)} (h : SK R st a W κ) {f : FuncId} {args : List AV} {vs : Array Value} {v : AV} (hc : CallR P R.G st f args v) (ha : CR (st.env R.M κ) W args vs.toList) :
    entB P f = true ∧ Calls P f vs W fun e W' => ∃ u, e = .returned u ∧ Ext W W' ∧ SK R st a W' κ ∧ VR (st.env R.M κ) W' v u := by
  have hsz : vs.size = args.length := by simpa using ha.1
  rcases hc with ⟨hp, he, hc⟩ | ⟨hf, ys, hy, he, hc⟩
  · refine ⟨he, (hc (st.env R.M κ).M W vs (fun b hb => h.owned_lt hb) h.gr hsz (fun i x u hx hu => (ha.2 i x u hx (by simpa using hu)).toPV (List.all_eq_true.1 hp x (List.mem_of_getElem? hx)))).mono ?_⟩
    rintro e W' ⟨u, rfl, h1, h2⟩
    exact ⟨u, rfl, h2, h.grow h2, .pv h1⟩
  · obtain ⟨g1, g2⟩ := snapL_spec hy
    refine ⟨he, (hc R.M W vs (fun b hb => h.owned_lt (.inl hb)) (h.gr.mono (fun b _ hM => ⟨fun e => hM (.inl e), rfl⟩) (Nat.le_refl _)) (by omega) (fun i y u hy hu => ?_)).mono ?_⟩
    · obtain ⟨x, h3, h4⟩ := g2 i y hy
      exact snap_sim h (ha.2 i x u h3 (by simpa using hu)) h4
    · rintro e W' ⟨u, rfl, h1, h2⟩
      exact ⟨u, rfl, h2, h.grow h2, .pv (h1.flat hf)⟩

theorem callP_sim {a : Act} {W : World} {κ : Nat → Option (Nat × Nat)} (h : SK R st a W κ) {f : FuncId} {args : List AV} {vs : Array Value} {ch : List PanicEntry} (hc : CallPan P R.G st f args ch) (ha : CR (st.env R.M κ) W args vs.toList) :
    entB P f = true ∧ Calls P f vs W fun e W' => e = .panicked ch ∧ SK R st a W' κ := by
  obtain ⟨ys, hy, he, hc⟩ := hc
  have hsz : vs.size = args.length := by simpa using ha.1
  obtain ⟨g1, g2⟩ := snapL_spec hy
  refine ⟨he, (hc R.M W vs (fun b hb => h.owned_lt (.inl hb)) (h.gr.mono (fun b _ hM => ⟨fun e => hM (.inl e), rfl⟩) (Nat.le_refl _)) (by omega) (fun i y u hy hu => ?_)).mono ?_⟩
  · obtain ⟨x, h3, h4⟩ := g2 i y hy
    exact snap_sim h (ha.2 i x u h3 (by simpa using hu)) h4
  · rintro e W' ⟨rfl, h2⟩
    exact ⟨rfl, h.grow h2⟩

theorem callFunc_run {f : FuncId} (h : entB P f = true) (args : Array Value) (W : World) : (callFunc f args).run P W = .ok (.enter f args) W := by
  unfold entB at h
  split at h <;> try (simp at h; done)
  rename_i fn hf
  simp only [Bool.and_eq_true, Bool.not_eq_true', beq_eq_false_iff_ne, ne_eq] at h
  have h1 : ¬ fn.body = none := by intro e; simp [e] at h
  simp [callFunc, Sem.run_bind, hf, h.2, h1]

end

end Go.Proofs.YtdpmioiamcgfkaaDoor
