/-
  An abstract machine beside the model: values as trees, what a function owns as numbered objects; how they stand for the model's values in a world.
  Plain definitions and theorems over any program.
-/
import Derived.Test.YtdpmioiamcgfkaaDoorReg
import Derived.MapKept
namespace Go.Proofs.YtdpmioiamcgfkaaDoor
open Go.RowKit

/-- A value: a tree, or a name of what the running function owns. -/
inductive AV where
  | hole
  | undef
  | int (k : IntKind) (n : Int)
  | bool (b : Bool)
  | str (s : ByteArray)
  | nilp
  | nils
  | nilm
  | nilf
  | ptr (k off : Nat)
  | eptr (k n i off : Nat)
  | osl (k n : Nat)
  | vptr (cells : List AV) (off : Nat)
  | vsl (rows : List (List AV))
  | func (fn : Fn) (first captured : List AV)
  | agg (cells : List AV)
  | tup (vs : List AV)
  | mp (k : Nat)
  | vmap (kvs : List (AV × AV))
  | abool
  deriving Inhabited

/-- A tree stands for a value in a world; blocks of M may still be written, and no tree lies there. -/
inductive PV (M : Nat → Prop) (W : World) : AV → Value → Prop
  | hole : PV M W .hole undef
  | int (k : IntKind) (n : Int) : PV M W (.int k n) (.int k n)
  | bool (b : Bool) : PV M W (.bool b) (.bool b)
  | abool (b : Bool) : PV M W .abool (.bool b)
  | str (s : ByteArray) : PV M W (.str s) (.string s)
  | nilp : PV M W .nilp (.pointer none)
  | nils : PV M W .nils (.slice none 0 0)
  | nilm : PV M W .nilm (.map none)
  | nilf : PV M W .nilf .nilFunc
  | vptr (cells : List AV) (off b o : Nat) (f : Nat → Value) (hb : b < W.heap.size) (hM : ¬ M b)
      (hc : ∀ j, j < cells.length → W.cell? ⟨b, o + j, none⟩ = some (f j))
      (hr : ∀ (j : Nat) (x : AV), cells[j]? = some x → PV M W x (f j)) : PV M W (.vptr cells off) (.pointer (some ⟨b, o + off, none⟩))
  | vsl (rows : List (List AV)) (a : Option Addr) (cap sz b o : Nat) (f : Nat → Nat → Value) (hcap : rows.length ≤ cap) (hmax : cap ≤ maxLen)
      (ha : rows ≠ [] → a = some ⟨b, o, none⟩ ∧ b < W.heap.size ∧ ¬ M b) (hn : a = none → rows = [] ∧ cap = 0)
      (hs : ∀ r ∈ rows, r.length = sz)
      (hc : ∀ i j, i < rows.length → j < sz → W.cell? ⟨b, o + i * sz + j, none⟩ = some (f i j))
      (hr : ∀ (i j : Nat) (r : List AV) (x : AV), rows[i]? = some r → r[j]? = some x → PV M W x (f i j)) : PV M W (.vsl rows) (.slice a rows.length cap)
  | func (fn : Fn) (xs ys : List AV) (us vs : Array Value) (h1 : us.size = xs.length) (h2 : vs.size = ys.length)
      (hx : ∀ (i : Nat) (x : AV) (u : Value), xs[i]? = some x → us[i]? = some u → PV M W x u) (hy : ∀ (i : Nat) (x : AV) (u : Value), ys[i]? = some x → vs[i]? = some u → PV M W x u) :
      PV M W (.func fn xs ys) (.func fn us vs)
  | agg (xs : List AV) (us : Array Value) (h1 : us.size = xs.length) (hx : ∀ (i : Nat) (x : AV) (u : Value), xs[i]? = some x → us[i]? = some u → PV M W x u) : PV M W (.agg xs) (.agg us)
  | tup (xs : List AV) (us : Array Value) (h1 : us.size = xs.length) (hx : ∀ (i : Nat) (x : AV) (u : Value), xs[i]? = some x → us[i]? = some u → PV M W x u) : PV M W (.tup xs) (.tuple us)
  | vmap (kvs : List (AV × AV)) (b : Nat) (es : Array MapEntry) (clock : Nat) (hb : b < W.heap.size) (hM : ¬ M b) (ho : W.heap[b]? = some (.map es clock)) (hs : MapKept.Stamped es clock) (hn : es.size = kvs.length)
      (hk : ∀ (i : Nat) (x y : AV) (e : MapEntry), kvs[i]? = some (x, y) → es[i]? = some e → PV M W x e.key)
      (hv : ∀ (i : Nat) (x y : AV) (e : MapEntry), kvs[i]? = some (x, y) → es[i]? = some e → PV M W y e.val) : PV M W (.vmap kvs) (.map (some b))

theorem cell_of {W W' : World} {b : Nat} (h : W'.heap[b]? = W.heap[b]?) (o : Nat) : W'.cell? ⟨b, o, none⟩ = W.cell? ⟨b, o, none⟩ := World.cell?_of_block (w := W) h

theorem PV.mono {M M' : Nat → Prop} {W W' : World} (hk : ∀ b, b < W.heap.size → ¬ M b → ¬ M' b ∧ W'.heap[b]? = W.heap[b]?) (hz : W.heap.size ≤ W'.heap.size)
    {x : AV} {v : Value} (h : PV M W x v) : PV M' W' x v := by
  induction h with
  | hole => exact .hole
  | int k n => exact .int k n
  | bool b => exact .bool b
  | abool b => exact .abool b
  | str s => exact .str s
  | nilp => exact .nilp
  | nils => exact .nils
  | nilm => exact .nilm
  | nilf => exact .nilf
  | vptr cells off b o f hb hM hc hr ih =>
    obtain ⟨h1, h2⟩ := hk b hb hM
    exact .vptr cells off b o f (Nat.lt_of_lt_of_le hb hz) h1 (fun j hj => (cell_of h2 _).trans (hc j hj)) ih
  | vsl rows a cap sz b o f hcap hmax ha hn hs hc hr ih =>
    refine .vsl rows a cap sz b o f hcap hmax (fun h => ?_) hn hs (fun i j hi hj => ?_) ih
    · obtain ⟨h1, h2, h3⟩ := ha h
      exact ⟨h1, Nat.lt_of_lt_of_le h2 hz, (hk b h2 h3).1⟩
    · obtain ⟨h1, h2, h3⟩ := ha (by intro h; simp [h] at hi)
      exact (cell_of (hk b h2 h3).2 _).trans (hc i j hi hj)
  | func fn xs ys us vs h1 h2 hx hy ihx ihy => exact .func fn xs ys us vs h1 h2 ihx ihy
  | agg xs us h1 hx ih => exact .agg xs us h1 ih
  | tup xs us h1 hx ih => exact .tup xs us h1 ih
  | vmap kvs b es clock hb hM ho hs hn hk' hv ihk ihv =>
    obtain ⟨h1, h2⟩ := hk b hb hM
    exact .vmap kvs b es clock (Nat.lt_of_lt_of_le hb hz) h1 (h2.trans ho) hs hn ihk ihv

theorem PV.ext {M : Nat → Prop} {W W' : World} {x : AV} {v : Value} (h : PV M W x v) (he : Ext W W') : PV M W' x v :=
  h.mono (fun b hb hM => ⟨hM, he.block b hb⟩) he.size

/-- What the running function owns: where it lies, and the rows' size and number. -/
structure Env where
  M : Nat → Prop
  loc : Nat → Option (Nat × Nat)
  row : Nat → Option (Nat × Nat)

inductive VR (E : Env) (W : World) : AV → Value → Prop
  | pv {x : AV} {v : Value} (h : PV E.M W x v) : VR E W x v
  | undef (v : Value) : VR E W .undef v
  | ptr (k off b s : Nat) (h : E.loc k = some (b, s)) (hr : E.row k = none) : VR E W (.ptr k off) (.pointer (some ⟨b, s + off, none⟩))
  | eptr (k n i off sz m : Nat) (p : Option Addr) (h : E.row k = some (sz, m)) (hn : n ≤ m)
      (he : m = n → ∃ b s, E.loc k = some (b, s) ∧ p = some ⟨b, s + i * sz + off, none⟩) : VR E W (.eptr k n i off) (.pointer p)
  | osl (k n sz m : Nat) (a : Option Addr) (l c : Nat) (h : E.row k = some (sz, m)) (hn : n ≤ m)
      (he : m = n → ∃ b s cs t, E.loc k = some (b, s) ∧ a = some ⟨b, s, none⟩ ∧ l = n ∧ n ≤ c ∧ c ≤ maxLen ∧ W.heap[b]? = some (.cells cs t (0, 0)) ∧ s + c * sz ≤ cs.size) :
      VR E W (.osl k n) (.slice a l c)
  | func (fn : Fn) (xs ys : List AV) (us vs : Array Value) (h1 : us.size = xs.length) (h2 : vs.size = ys.length)
      (hx : ∀ (i : Nat) (x : AV) (u : Value), xs[i]? = some x → us[i]? = some u → VR E W x u) (hy : ∀ (i : Nat) (x : AV) (u : Value), ys[i]? = some x → vs[i]? = some u → VR E W x u) :
      VR E W (.func fn xs ys) (.func fn us vs)
  | agg (xs : List AV) (us : Array Value) (h1 : us.size = xs.length) (hx : ∀ (i : Nat) (x : AV) (u : Value), xs[i]? = some x → us[i]? = some u → VR E W x u) : VR E W (.agg xs) (.agg us)
  | tup (xs : List AV) (us : Array Value) (h1 : us.size = xs.length) (hx : ∀ (i : Nat) (x : AV) (u : Value), xs[i]? = some x → us[i]? = some u → VR E W x u) : VR E W (.tup xs) (.tuple us)
  | mp (k b : Nat) (h : E.loc k = some (b, 0)) (hr : E.row k = none) : VR E W (.mp k) (.map (some b))

/-- What is owned lies as it lay, or has grown; what is not owned is as it was. -/
structure Mono (E : Env) (W : World) (E' : Env) (W' : World) : Prop where
  size : W.heap.size ≤ W'.heap.size
  imm : ∀ b, b < W.heap.size → ¬ E.M b → ¬ E'.M b ∧ W'.heap[b]? = W.heap[b]?
  box : ∀ k p, E.loc k = some p → E.row k = none → E'.loc k = some p ∧ E'.row k = none
  row : ∀ k sz m, E.row k = some (sz, m) → ∃ m', E'.row k = some (sz, m') ∧ m ≤ m' ∧
    (m' = m → ∀ b s cs t, E.loc k = some (b, s) → E'.loc k = some (b, s) ∧ (W.heap[b]? = some (.cells cs t (0, 0)) → ∃ cs', W'.heap[b]? = some (.cells cs' t (0, 0)) ∧ cs'.size = cs.size))

theorem Mono.trans {E E' E'' : Env} {W W' W'' : World} (h : Mono E W E' W') (g : Mono E' W' E'' W'') : Mono E W E'' W'' := by
  refine ⟨Nat.le_trans h.size g.size, fun b hb hM => ?_, fun k p hk hr => ?_, fun k sz m hk => ?_⟩
  · obtain ⟨h1, h2⟩ := h.imm b hb hM
    obtain ⟨h3, h4⟩ := g.imm b (Nat.lt_of_lt_of_le hb h.size) h1
    exact ⟨h3, h4.trans h2⟩
  · obtain ⟨h1, h2⟩ := h.box k p hk hr
    exact g.box k p h1 h2
  · obtain ⟨m1, h1, h2, h3⟩ := h.row k sz m hk
    obtain ⟨m2, h4, h5, h6⟩ := g.row k sz m1 h1
    refine ⟨m2, h4, by omega, fun e b s cs t hl => ?_⟩
    obtain ⟨h7, h8⟩ := h3 (by omega) b s cs t hl
    refine ⟨(h6 (by omega) b s cs t h7).1, fun hw => ?_⟩
    obtain ⟨cs', h9, h10⟩ := h8 hw
    obtain ⟨cs'', h11, h12⟩ := (h6 (by omega) b s cs' t h7).2 h9
    exact ⟨cs'', h11, by omega⟩

theorem VR.mono {E E' : Env} {W W' : World} (m : Mono E W E' W') {x : AV} {v : Value} (h : VR E W x v) : VR E' W' x v := by
  induction h with
  | pv h => exact .pv (h.mono m.imm m.size)
  | undef v => exact .undef v
  | ptr k off b s h hr => obtain ⟨h1, h2⟩ := m.box k _ h hr; exact .ptr k off b s h1 h2
  | eptr k n i off sz l p h hn he =>
    obtain ⟨l', h1, h2, h3⟩ := m.row k sz l h
    refine .eptr k n i off sz l' p h1 (by omega) fun e => ?_
    obtain ⟨b, s, h4, h5⟩ := he (by omega)
    exact ⟨b, s, (h3 (by omega) b s #[] 0 h4).1, h5⟩
  | osl k n sz l a ll c h hn he =>
    obtain ⟨l', h1, h2, h3⟩ := m.row k sz l h
    refine .osl k n sz l' a ll c h1 (by omega) fun e => ?_
    obtain ⟨b, s, cs, t, h4, h5, h6, h7, h8, h9, h10⟩ := he (by omega)
    obtain ⟨g1, g2⟩ := h3 (by omega) b s cs t h4
    obtain ⟨cs', g3, g4⟩ := g2 h9
    exact ⟨b, s, cs', t, g1, h5, h6, h7, h8, g3, by omega⟩
  | func fn xs ys us vs h1 h2 hx hy ihx ihy => exact .func fn xs ys us vs h1 h2 ihx ihy
  | agg xs us h1 hx ih => exact .agg xs us h1 ih
  | tup xs us h1 hx ih => exact .tup xs us h1 ih
  | mp k b h hr => obtain ⟨h1, h2⟩ := m.box k _ h hr; exact .mp k b h1 h2

/-- A tree without names. -/
def AV.pure : AV → Bool
  | .undef | .ptr .. | .eptr .. | .osl .. | .mp .. => false
  | .func _ xs ys => xs.attach.all (fun ⟨x, _⟩ => x.pure) && ys.attach.all (fun ⟨x, _⟩ => x.pure)
  | .agg xs | .tup xs => xs.attach.all (fun ⟨x, _⟩ => x.pure)
  | _ => true

theorem VR.toPV {E : Env} {W : World} {x : AV} {v : Value} (h : VR E W x v) : x.pure = true → PV E.M W x v := by
  induction h with
  | pv h => exact fun _ => h
  | undef v => intro h; simp [AV.pure] at h
  | ptr k off b s h hr => intro h; simp [AV.pure] at h
  | eptr => intro h; simp [AV.pure] at h
  | osl => intro h; simp [AV.pure] at h
  | mp => intro h; simp [AV.pure] at h
  | func fn xs ys us vs h1 h2 hx hy ihx ihy =>
    intro h
    simp only [AV.pure, Bool.and_eq_true, List.all_eq_true, List.mem_attach, forall_const, Subtype.forall] at h
    exact .func fn xs ys us vs h1 h2 (fun i x u hi hu => ihx i x u hi hu (h.1 x (List.mem_of_getElem? hi))) (fun i x u hi hu => ihy i x u hi hu (h.2 x (List.mem_of_getElem? hi)))
  | agg xs us h1 hx ih =>
    intro h
    simp only [AV.pure, List.all_eq_true, List.mem_attach, forall_const, Subtype.forall] at h
    exact .agg xs us h1 (fun i x u hi hu => ih i x u hi hu (h x (List.mem_of_getElem? hi)))
  | tup xs us h1 hx ih =>
    intro h
    simp only [AV.pure, List.all_eq_true, List.mem_attach, forall_const, Subtype.forall] at h
    exact .tup xs us h1 (fun i x u hi hu => ih i x u hi hu (h x (List.mem_of_getElem? hi)))

/-- An object that the running function owns. -/
inductive AObj where
  | box (cells : List AV)
  | row (sz : Nat) (rows : List (List AV))
  | mp (kvs : List (AV × AV))
  deriving Inhabited

def lk {α : Type} : List (Nat × α) → Nat → Option α
  | [], _ => none
  | (k, x) :: r, n => if k = n then some x else lk r n
def putO {α : Type} : List (Nat × α) → Nat → α → List (Nat × α)
  | [], n, y => [(n, y)]
  | (k, x) :: r, n, y => if k = n then (k, y) :: r else (k, x) :: putO r n y

theorem lk_putO {α : Type} (l : List (Nat × α)) (n : Nat) (y : α) (m : Nat) : lk (putO l n y) m = if n = m then some y else lk l m := by
  induction l with
  | nil => simp [putO, lk]
  | cons p r ih =>
    obtain ⟨k, x⟩ := p
    simp only [putO]
    by_cases h : k = n
    · subst h
      by_cases h2 : k = m <;> simp [lk, h2]
    · by_cases h2 : k = m
      · subst h2
        have : ¬ n = k := fun e => h e.symm
        simp [lk, h, this]
      · simp [lk, h, h2, ih]

structure St where
  t : List (Nat × AV)
  o : List (Nat × AObj)

def St.tmp (st : St) (n : Nat) : Option AV := lk st.t n
def St.get (st : St) (k : Nat) : Option AObj := lk st.o k
def St.put (st : St) (n : Nat) (x : AV) : St := { st with t := (n, x) :: st.t }
def St.set (st : St) (k : Nat) (x : AObj) : St := { st with o := putO st.o k x }

theorem St.tmp_put (st : St) (n : Nat) (x : AV) (m : Nat) : (st.put n x).tmp m = if n = m then some x else st.tmp m := rfl
theorem St.get_put (st : St) (n : Nat) (x : AV) (m : Nat) : (st.put n x).get m = st.get m := rfl
theorem St.tmp_set (st : St) (n : Nat) (x : AObj) (m : Nat) : (st.set n x).tmp m = st.tmp m := rfl
theorem St.get_set (st : St) (n : Nat) (x : AObj) (m : Nat) : (st.set n x).get m = if n = m then some x else st.get m := lk_putO _ _ _ _

def AObj.dim : AObj → Option (Nat × Nat)
  | .row sz rows => some (sz, rows.length)
  | _ => none

def St.env (M : Nat → Prop) (κ : Nat → Option (Nat × Nat)) (st : St) : Env :=
  { M := fun b => M b ∨ ∃ k s, κ k = some (b, s), loc := κ, row := fun k => (st.get k).bind AObj.dim }

/-- An object stands for a block, from a cell on. -/
def ObjR (E : Env) (W : World) (b s : Nat) : AObj → Prop
  | .box cells => s = 0 ∧ ∃ cs t, W.heap[b]? = some (.cells cs t (0, 0)) ∧ cs.size = cells.length ∧ ∀ (j : Nat) (x : AV), cells[j]? = some x → ∃ v, cs[j]? = some v ∧ VR E W x v
  | .row sz rows => (∀ r ∈ rows, r.length = sz) ∧ ∃ cs t, W.heap[b]? = some (.cells cs t (0, 0)) ∧ s + rows.length * sz ≤ cs.size ∧
      ∀ (i j : Nat) (r : List AV) (x : AV), rows[i]? = some r → r[j]? = some x → ∃ v, cs[s + i * sz + j]? = some v ∧ VR E W x v
  | .mp kvs => s = 0 ∧ ∃ es clock, W.heap[b]? = some (.map es clock) ∧ MapKept.Stamped es clock ∧ es.size = kvs.length ∧ ∀ (i : Nat) (x y : AV), kvs[i]? = some (x, y) → ∃ e, es[i]? = some e ∧ VR E W x e.key ∧ VR E W y e.val

theorem ObjR.mono {E E' : Env} {W W' : World} {b s : Nat} {o : AObj} (m : Mono E W E' W') (h : ObjR E W b s o) (hb : W'.heap[b]? = W.heap[b]?) : ObjR E' W' b s o := by
  cases o with
  | box cells =>
    obtain ⟨h0, cs, t, h1, h2, h3⟩ := h
    exact ⟨h0, cs, t, hb.trans h1, h2, fun j x hj => (h3 j x hj).imp fun v hv => ⟨hv.1, hv.2.mono m⟩⟩
  | row sz rows =>
    obtain ⟨h0, cs, t, h1, h2, h3⟩ := h
    exact ⟨h0, cs, t, hb.trans h1, h2, fun i j r x hi hj => (h3 i j r x hi hj).imp fun v hv => ⟨hv.1, hv.2.mono m⟩⟩
  | mp kvs =>
    obtain ⟨h0, es, t, h1, h2, h3, h4⟩ := h
    exact ⟨h0, es, t, hb.trans h1, h2, h3, fun i x y hi => (h4 i x y hi).imp fun e he => ⟨he.1, he.2.1.mono m, he.2.2.mono m⟩⟩

/-- The program's own variables, as trees. -/
def GR (G : Nat → Option (List AV)) (M : Nat → Prop) (W : World) : Prop := ∀ g cs, G g = some cs → PV M W (.vptr cs 0) (.pointer (some ⟨g, 0, none⟩))

theorem GR.mono {G : Nat → Option (List AV)} {M M' : Nat → Prop} {W W' : World} (h : GR G M W) (hk : ∀ b, b < W.heap.size → ¬ M b → ¬ M' b ∧ W'.heap[b]? = W.heap[b]?) (hz : W.heap.size ≤ W'.heap.size) : GR G M' W' :=
  fun g cs hg => (h g cs hg).mono hk hz

/-- What every state of one run of a function has: M: what may be written elsewhere; X: what was there and may be written here; W0: the world at the run's beginning. -/
structure Run where
  G : Nat → Option (List AV)
  M : Nat → Prop
  X : Nat → Prop
  W0 : World
  N : Nat
  E0 : Env
  D : List Deferred := []
  rd : Option Nat := none
  nm : Bool := false

def coll (c : Nat) : Deferred := { target := .collected c, args := #[] }
/-- What rounds of a range over a function have deferred: nothing. -/
def Marks (nm : Bool) (D : List Deferred) (n0 : Nat) (ds : List Deferred) (W : World) : Prop :=
  ∃ cs : List Nat, ds = cs.map coll ++ D ∧ cs.Nodup ∧ (∀ c ∈ cs, n0 ≤ c ∧ W.heap[c]? = some (.deferred (some []))) ∧ (nm = true → cs = [])
theorem Marks.of {nm : Bool} {D ds : List Deferred} {n0 : Nat} {W W' : World} (h : Marks nm D n0 ds W) (hk : ∀ c : Nat, W.heap[c]? = some (.deferred (some [])) → W'.heap[c]? = some (.deferred (some []))) : Marks nm D n0 ds W' :=
  h.imp fun _ hc => ⟨hc.1, hc.2.1, fun c hm => ⟨(hc.2.2.1 c hm).1, hk c (hc.2.2.1 c hm).2⟩, hc.2.2.2⟩
theorem Marks.nil (nm : Bool) (D : List Deferred) (n0 : Nat) (W : World) : Marks nm D n0 D W := ⟨[], rfl, .nil, by simp, fun _ => rfl⟩
theorem Marks.weak {nm : Bool} {D ds : List Deferred} {n0 : Nat} {W : World} (h : Marks nm D n0 ds W) : Marks false D n0 ds W := h.imp fun _ hc => ⟨hc.1, hc.2.1, hc.2.2.1, fun h => by cases h⟩

/-- A run that is no round, and may have rounds. -/
def Run.Top (R : Run) : Prop := R.rd = none ∧ R.nm = false

structure SK (R : Run) (st : St) (a : Act) (W : World) (κ : Nat → Option (Nat × Nat)) : Prop where
  defers : Marks R.nm R.D R.W0.heap.size a.defers W
  size : a.tmps.size = R.N
  tm : ∀ n x, st.tmp n = some x → VR (st.env R.M κ) W x (a.tmps.getD n undef)
  obj : ∀ k o, st.get k = some o → ∃ b s, κ k = some (b, s) ∧ b < W.heap.size ∧ (R.W0.heap.size ≤ b ∨ R.X b) ∧ ObjR (st.env R.M κ) W b s o
  dom : ∀ k p, κ k = some p → ∃ o, st.get k = some o
  inj : ∀ k k' b s s', κ k = some (b, s) → κ k' = some (b, s') → k = k'
  low : ∀ b, R.M b → b < R.W0.heap.size
  apart : ∀ b, R.M b → ¬ R.X b
  kp : Kp R.X R.W0 W
  gr : GR R.G (st.env R.M κ).M W
  mono : Mono R.E0 R.W0 (st.env R.M κ) W
  ent : ∀ k, k < 1000 → R.E0.loc k = none ∧ R.E0.row k = none

def SR (R : Run) (st : St) (a : Act) (W : World) : Prop := ∃ κ, SK R st a W κ

end Go.Proofs.YtdpmioiamcgfkaaDoor
