/-
  The abstract machine: its operations, and that they stand for the model's (those that touch no memory).
-/
import Derived.Test.YtdpmioiamcgfkaaDoorAmA
import Derived.Deep.MidRow
import Derived.Laws.Tables
import Derived.Laws.BytesArg
namespace Go.Proofs.YtdpmioiamcgfkaaDoor
open Go.RowKit

inductive RA where
  | t (n : Nat)
  | c (v : AV)
  | g (n : Nat)
  deriving Inhabited

/-- Kinds of cells that are compared. -/
inductive CK where
  | i
  | s
  | b
  deriving DecidableEq, Inhabited

/-- Kinds of keys. -/
inductive KK where
  | i (k : IntKind)
  | s
  | b
  deriving DecidableEq, Inhabited
def KK.is : KK → AV → Bool
  | .i k, .int k' _ => decide (k' = k)
  | .s, .str _ => true
  | .b, .bool _ => true
  | _, _ => false
def KK.eq : KK → AV → AV → Option Bool
  | .i k, .int k1 a, .int k2 c => if k1 = k ∧ k2 = k then some (decide (a = c)) else none
  | .s, .str a, .str c => some (a == c)
  | .b, .bool a, .bool c => some (a == c)
  | _, _, _ => none
/-- Where a key is. -/
def KK.find (kk : KK) (x : AV) : List (AV × AV) → Option (Option Nat)
  | [] => some none
  | (k, _) :: r => match kk.eq x k with
    | some true => some (some 0)
    | some false => (kk.find x r).map (Option.map (· + 1))
    | none => none
def KK.get (kk : KK) (x : AV) (kvs : List (AV × AV)) : Option (Option AV) := if kk.is x = true then match kk.find x kvs with
  | some (some j) => (kvs[j]?).map fun p => some p.2
  | some none => some none
  | none => none
  else none
def KK.put (kk : KK) (x y : AV) (kvs : List (AV × AV)) : Option (List (AV × AV)) := if kk.is x = true then match kk.find x kvs with
  | some (some j) => some (kvs.set j (x, y))
  | some none => some (kvs ++ [(x, y)])
  | none => none
  else none
def KK.del (kk : KK) (x : AV) (kvs : List (AV × AV)) : Option (List (AV × AV)) := if kk.is x = true then match kk.find x kvs with
  | some (some j) => some (kvs.eraseIdx j)
  | some none => some kvs
  | none => none
  else none

/-- Operations on values alone. -/
inductive VOp where
  | aaddr (n sz : Nat)
  | aidx (agg : Bool) (n sz : Nat)
  | sidx
  | beq (neg : Bool)
  | bits (op : BinOp)
  | sh (left : Bool)
  | b2s
  | eqn (neg : Bool)

inductive ROp where
  | mov (x : RA)
  | pick (c a b : RA)
  | nilck (x : RA)
  | bin (op : BinOp) (x y : RA)
  | eqs (neg : Bool) (ks : List CK) (x y : RA)
  | un (op : UnOp) (x : RA)
  | conv (k : IntKind) (x : RA)
  | ext (i : Nat) (x : RA)
  | mkf (fn : Fn) (first caps : List RA)
  | field (agg : Bool) (off n : Nat) (x : RA)
  | faddr (off : Nat) (p : RA)
  | vop (v : VOp) (xs : List RA)
  | iaddr (sz : Nat) (s i : RA)
  | build (zero : List AV) (parts : List (Nat × Nat × RA))
  | len (x : RA)
  | slen (x : RA)
  | mx (great : Bool) (x : RA) (r : List RA)
  | load (agg : Bool) (n : Nat) (p : RA)
  | store (n : Nat) (p v : RA)
  | alloc (cells : List AV)
  | box (x : RA)
  | bsl (own : Bool) (sz len : Nat) (zero : List AV) (parts : List (Nat × RA))
  | slc (sz : Nat) (x : RA) (lo hi : Option RA)
  | sslc (x : RA) (lo hi : Option RA)
  | mksl (sz bytes : Nat) (zero : List AV) (n : RA)
  | app (sz bytes : Nat) (s x : RA)
  | call (f : FuncId) (args : List RA)
  | calln (f : FuncId) (args : List RA)
  | callv (f : RA) (args : List RA)
  | mkmap
  | look (kk : KK) (zero : AV) (ok : Bool) (m k : RA)
  | mupd (kk : KK) (m k v : RA)
  | mdel (kk : KK) (m k : RA)
  | mlen (m : RA)
  deriving Inhabited

def AV.cellsL : AV → List AV
  | .agg xs => xs
  | x => [x]
def AV.known : AV → Bool
  | .undef => false
  | _ => true
/-- One cell. -/
def AV.one : AV → Bool
  | .undef | .hole | .agg _ | .tup _ => false
  | _ => true

def splice (cs : List AV) (off : Nat) (us : List AV) : List AV := cs.take off ++ us ++ cs.drop (off + us.length)

section
variable (G : Nat → Option (List AV))
def evA (st : St) : RA → AV
  | .t n => (st.tmp n).getD .undef
  | .c v => v
  | .g n => match G n with | some cs => .vptr cs 0 | none => .undef

/-- Integers, strings and truth values. -/
def aBin : BinOp → AV → AV → Option AV
  | .add, .int k a, .int k' b => if k = k' then some (.int k (k.wrap (a + b))) else none
  | .sub, .int k a, .int k' b => if k = k' then some (.int k (k.wrap (a - b))) else none
  | .mul, .int k a, .int k' b => if k = k' then some (.int k (k.wrap (a * b))) else none
  | .quo, .int k a, .int k' b => if k = k' then if b = 0 then none else some (.int k (k.wrap (a.tdiv b))) else none
  | .rem, .int k a, .int k' b => if k = k' then if b = 0 then none else some (.int k (a.tmod b)) else none
  | .eql, .int k a, .int k' b => if k = k' then some (.bool (decide (a = b))) else none
  | .neq, .int k a, .int k' b => if k = k' then some (.bool (!decide (a = b))) else none
  | .lss, .int k a, .int k' b => if k = k' then some (.bool (decide (a < b))) else none
  | .leq, .int k a, .int k' b => if k = k' then some (.bool (decide (a ≤ b))) else none
  | .gtr, .int k a, .int k' b => if k = k' then some (.bool (decide (b < a))) else none
  | .geq, .int k a, .int k' b => if k = k' then some (.bool (decide (b ≤ a))) else none
  | .eql, .str a, .str b => some (.bool (a.toList == b.toList))
  | .neq, .str a, .str b => some (.bool (!(a.toList == b.toList)))
  | .add, .str a, .str b => if a.size + b.size ≤ 9223372036854775807 then some (.str (a ++ b)) else none
  | _, _, _ => none

def aUn : UnOp → AV → Option AV
  | .neg, .int k n => some (.int k (k.wrap (0 - n)))
  | .not, .bool b => some (.bool (!b))
  | _, _ => none

def aFill : List AV → List (Nat × Nat × AV) → Option (List AV)
  | cs, [] => some cs
  | cs, (off, n, x) :: r => if x.known = true ∧ x.cellsL.length = n ∧ off + n ≤ cs.length then aFill (splice cs off x.cellsL) r else none

/-- The cells behind a pointer. -/
def cellsAt (st : St) : AV → Option (List AV × Nat)
  | .vptr cs off => some (cs, off)
  | .ptr k off => match st.get k with
    | some (.box cs) => some (cs, off)
    | _ => none
  | .eptr k n i off => match st.get k with
    | some (.row _ rows) => if rows.length = n then (rows[i]?).map fun r => (r, off) else none
    | _ => none
  | _ => none

def cut (agg : Bool) (n : Nat) (cs : List AV) (off : Nat) : Option AV :=
  if agg = true then if off + n ≤ cs.length then some (.agg ((cs.drop off).take n)) else none else cs[off]?

/-- Rows of one byte each, as numbers. -/
def rowInts : List (List AV) → Option (List Int)
  | [] => some []
  | [.int .u8 n] :: r => (rowInts r).map (n :: ·)
  | _ :: _ => none
theorem rowInts_map (l : List Int) : rowInts (l.map fun n => [AV.int .u8 n]) = some l := by
  induction l with
  | nil => rfl
  | cons n l ih => simp [rowInts, ih]
theorem rowInts_spec {rows : List (List AV)} {ns : List Int} (h : rowInts rows = some ns) : rows = ns.map fun n => [AV.int .u8 n] := by
  induction rows generalizing ns with
  | nil => simp [rowInts] at h; subst h; rfl
  | cons r rows ih =>
    unfold rowInts at h
    split at h
    · rename_i h0; cases h0
    · rename_i n r' h0
      simp only [List.cons.injEq] at h0
      obtain ⟨rfl, rfl⟩ := h0
      simp only [Option.map_eq_some_iff] at h
      obtain ⟨l, h1, rfl⟩ := h
      rw [ih h1]; rfl
    · cases h

def vopF : VOp → List AV → Option AV
  | .b2s, [.vsl rows] => (rowInts rows).map fun ns => .str (strOfNums ns)
  | .b2s, [.nils] => some (.str ByteArray.empty)
  | .eqn neg, [.nils, .nils] => some (.bool (!neg))
  | .eqn neg, [.vsl rows, .nils] => some (if rows.length = 0 then .abool else .bool neg)
  | .aaddr n sz, [.ptr k o, .int _ i] => if 0 ≤ i ∧ i < (n : Int) then some (.ptr k (o + i.toNat * sz)) else none
  | .aaddr n sz, [.vptr cs o, .int _ i] => if 0 ≤ i ∧ i < (n : Int) then some (.vptr cs (o + i.toNat * sz)) else none
  | .aidx agg n sz, [.agg cs, .int _ i] => if 0 ≤ i ∧ i < (n : Int) then cut agg sz cs (i.toNat * sz) else none
  | .beq neg, [.bool a, .bool b] => some (.bool (if neg = true then !(a == b) else a == b))
  | .bits op, [.int k a, .int k' b] => if k = k' then match op with
    | .and => some (.int k (k.wrap ((BitVec.ofInt k.bits a &&& BitVec.ofInt k.bits b).toNat : Int)))
    | .or => some (.int k (k.wrap ((BitVec.ofInt k.bits a ||| BitVec.ofInt k.bits b).toNat : Int)))
    | .xor => some (.int k (k.wrap ((BitVec.ofInt k.bits a ^^^ BitVec.ofInt k.bits b).toNat : Int)))
    | _ => none
    else none
  | .sh left, [.int k a, .int _ b] => if 0 ≤ b then some (.int k (if left = true then k.wrap (a * 2 ^ (min b.toNat k.bits)) else a.fdiv (2 ^ (min b.toNat k.bits)))) else none
  | .sidx, [.str s, .int _ i] => if 0 ≤ i then (s[i.toNat]?).map fun b => .int .u8 (b.toNat : Int) else none
  | _, _ => none

/-- Into the cells behind a pointer. -/
def storeAt (st : St) (us : List AV) : AV → Option St
  | .ptr k off => match st.get k with
    | some (.box cs) => if off + us.length ≤ cs.length then some (st.set k (.box (splice cs off us))) else none
    | _ => none
  | .eptr k n i off => match st.get k with
    | some (.row sz rows) => if rows.length = n then match rows[i]? with
      | some r => if off + us.length ≤ r.length then some (st.set k (.row sz (rows.set i (splice r off us)))) else none
      | none => none
      else none
    | _ => none
  | _ => none

/-- Cells of the same kinds are the same. -/
def eq1 : CK → AV → AV → Option Bool
  | .i, .int k a, .int k' b => if k = k' then some (decide (a = b)) else none
  | .b, .bool a, .bool b => some (a == b)
  | .s, .str a, .str b => some (a.toList == b.toList)
  | _, _, _ => none
def eqL : List CK → List AV → List AV → Option Bool
  | [], [], [] => some true
  | k :: ks, x :: xs, y :: ys => match eq1 k x y, eqL ks xs ys with
    | some b, some c => some (b && c)
    | _, _ => none
  | _, _, _ => none

def aMx (great : Bool) : AV → AV → Option AV
  | .int k a, .int k' b => if k = k' then some (.int k (if great = true then max a b else min a b)) else none
  | _, _ => none
def aMxs (great : Bool) : AV → List AV → Option AV
  | x, [] => some x
  | x, y :: r => match aMx great x y with
    | some z => aMxs great z r
    | none => none

/-- Rows out of cells. -/
def chunk (sz n : Nat) (cs : List AV) : List (List AV) := (List.range n).map fun i => (cs.drop (i * sz)).take sz

/-- The rows of a slice. -/
def rowsOf (st : St) (sz : Nat) : AV → Option (List (List AV))
  | .vsl rows => if rows.all (fun r => r.length == sz) = true then some rows else none
  | .nils => some []
  | .osl k n => match st.get k with
    | some (.row sz' rows) => if sz' = sz ∧ rows.length = n then some rows else none
    | _ => none
  | _ => none

def aLen (st : St) : AV → Option Nat
  | .vsl rows => some rows.length
  | .nils => some 0
  | .osl k n => match st.get k with
    | some (.row _ rows) => if rows.length = n then some n else none
    | _ => none
  | _ => none

/-- The entries of a map. -/
def mapOf (st : St) : AV → Option (List (AV × AV))
  | .nilm => some []
  | .vmap kvs => some kvs
  | .mp k => match st.get k with
    | some (.mp kvs) => some kvs
    | _ => none
  | _ => none

def bnd (d : Nat) : Option AV → Option Nat
  | none => some d
  | some (.int _ n) => if 0 ≤ n then some n.toNat else none
  | _ => none

/-- One operation: what it yields, and what becomes of what is owned. -/
def rop (st : St) (d : Nat) : ROp → Option (AV × St)
  | .mov x => some (evA G st x, st)
  | .pick c a b => match evA G st c with
    | .bool true => some (evA G st a, st)
    | .bool false => some (evA G st b, st)
    | _ => none
  | .nilck x => match evA G st x with
    | .ptr k off => some (.ptr k off, st)
    | .vptr cs off => some (.vptr cs off, st)
    | .func (.func f) xs ys => some (.func (.func f) xs ys, st)
    | _ => none
  | .bin op x y => (aBin op (evA G st x) (evA G st y)).map fun v => (v, st)
  | .un op x => (aUn op (evA G st x)).map fun v => (v, st)
  | .conv k x => match evA G st x with
    | .int _ n => some (.int k (k.wrap n), st)
    | _ => none
  | .ext i x => match evA G st x with
    | .tup vs => (vs[i]?).map fun v => (v, st)
    | _ => none
  | .mkf fn first caps => some (.func fn (first.map (evA G st)) (caps.map (evA G st)), st)
  | .field agg off n x => match evA G st x with
    | .agg cs => (cut agg n cs off).map fun v => (v, st)
    | _ => none
  | .vop v xs => (vopF v (xs.map (evA G st))).map fun z => (z, st)
  | .faddr off p => match evA G st p with
    | .ptr k o => some (.ptr k (o + off), st)
    | .eptr k n i o => match st.get k with
      | some (.row _ rows) => if rows.length = n then some (.eptr k n i (o + off), st) else none
      | _ => none
    | .vptr cs o => some (.vptr cs (o + off), st)
    | _ => none
  | .build zero parts => (aFill zero (parts.map fun p => (p.1, p.2.1, evA G st p.2.2))).map fun cs => (.agg cs, st)
  | .load agg n p => match cellsAt st (evA G st p) with
    | some (cs, off) => (cut agg n cs off).map fun v => (v, st)
    | none => none
  | .store n p v => if (evA G st v).cellsL.length = n ∧ (evA G st v).cellsL.all AV.one = true then (storeAt st (evA G st v).cellsL (evA G st p)).map fun st' => (.hole, st') else none
  | .alloc cells => match st.get d with
    | none => some (.ptr d 0, st.set d (.box cells))
    | some _ => none
  | .box x => match st.get d with
    | none => if (evA G st x).known = true then some (.ptr d 0, st.set d (.box (evA G st x).cellsL)) else none
    | some _ => none
  | .eqs neg ks x y => match evA G st x, evA G st y with
    | .agg xs, .agg ys => (eqL ks xs ys).map fun b => (.bool (if neg = true then !b else b), st)
    | _, _ => none
  | .iaddr sz s i => match evA G st i with
    | .int _ n => if 0 ≤ n then match evA G st s with
      | .vsl rows => match rows[n.toNat]? with
        | some r => if r.length = sz then some (.vptr r 0, st) else none
        | none => none
      | .osl k m => match st.get k with
        | some (.row sz' rows) => if sz' = sz ∧ rows.length = m ∧ n.toNat < m then some (.eptr k m n.toNat 0, st) else none
        | _ => none
      | _ => none
      else none
    | _ => none
  | .len x => (aLen st (evA G st x)).map fun (n : Nat) => (AV.int .i64 (n : Int), st)
  | .slen x => match evA G st x with
    | .str s => some (.int .i64 ((s.size : Nat) : Int), st)
    | _ => none
  | .mx great x r => (aMxs great (evA G st x) (r.map (evA G st))).map fun v => (v, st)
  | .bsl own sz n zero parts => match aFill zero (parts.map fun p => (p.1 * sz, sz, evA G st p.2)) with
    | some cs => if own = true then match st.get d with
        | none => some (.osl d n, st.set d (.row sz (chunk sz n cs)))
        | some _ => none
      else if cs.all AV.pure = true then some (.vsl (chunk sz n cs), st) else none
    | none => none
  | .sslc x lo hi => match evA G st x with
    | .str s => match bnd 0 (lo.map (evA G st)), bnd s.size (hi.map (evA G st)) with
      | some l, some h => if l ≤ h ∧ h ≤ s.size then some (.str (s.extract l h), st) else none
      | _, _ => none
    | _ => none
  | .slc sz x lo hi => match evA G st x with
    | .vsl rows => match bnd 0 (lo.map (evA G st)), bnd rows.length (hi.map (evA G st)) with
      | some l, some h => if l ≤ h ∧ h ≤ rows.length ∧ rows.all (fun r => r.length == sz) = true then some (.vsl ((rows.take h).drop l), st) else none
      | _, _ => none
    | _ => none
  | .mksl sz bytes zero n => match evA G st n with
    | .int _ k => if 0 ≤ k ∧ k ≤ 16777216 ∧ bytes ≤ 65536 ∧ zero.length = sz then match st.get d with
        | none => some (.osl d k.toNat, st.set d (.row sz (List.replicate k.toNat zero)))
        | some _ => none
      else none
    | _ => none
  | .app sz bytes s x => match rowsOf st sz (evA G st x) with
    | some ys => if ys.all (fun r => r.all AV.one) = true then match evA G st s with
      | .nils => if ys = [] then some (.nils, st) else if ys.length * bytes ≤ 70368744177664 then match st.get d with
          | none => some (.osl d ys.length, st.set d (.row sz ys))
          | some _ => none
        else none
      | .osl k n => match st.get k with
        | some (.row sz' rows) => if sz' = sz ∧ rows.length = n ∧ (n + ys.length) * bytes ≤ 70368744177664 then if ys = [] then some (.osl k n, st) else some (.osl k (n + ys.length), st.set k (.row sz (rows ++ ys))) else none
        | _ => none
      | _ => none
      else none
    | none => none
  | .mkmap => match st.get d with
    | none => some (.mp d, st.set d (.mp []))
    | some _ => none
  | .look kk zero ok m k => match mapOf st (evA G st m) with
    | some kvs => match kk.get (evA G st k) kvs with
      | some (some v) => some (if ok = true then .tup [v, .bool true] else v, st)
      | some none => some (if ok = true then .tup [zero, .bool false] else zero, st)
      | none => none
    | none => none
  | .mupd kk m k v => match evA G st m with
    | .mp n => match st.get n with
      | some (.mp kvs) => match kk.put (evA G st k) (evA G st v) kvs with
        | some kvs' => some (.hole, st.set n (.mp kvs'))
        | none => none
      | _ => none
    | _ => none
  | .mdel kk m k => match evA G st m with
    | .mp n => match st.get n with
      | some (.mp kvs) => match kk.del (evA G st k) kvs with
        | some kvs' => some (.tup [], st.set n (.mp kvs'))
        | none => none
      | _ => none
    | _ => none
  | .mlen m => (mapOf st (evA G st m)).map fun kvs => (AV.int .i64 (kvs.length : Nat), st)
  | .call .. | .callv .. | .calln .. => none
end

/-! ## Which operation of the model it is -/
def cstB : Value → AV → Bool
  | .int k n, .int k' n' => decide (k = k' ∧ n = n')
  | .bool b, .bool b' => b == b'
  | .string s, .str s' => s.data == s'.data
  | .pointer none, .nilp => true
  | .slice none 0 0, .nils => true
  | .map none, .nilm => true
  | .nilFunc, .nilf => true
  | .func (.func f) ⟨[]⟩ ⟨[]⟩, .func (.func f') [] [] => f == f'
  | _, _ => false

def okA : Operand → RA → Bool
  | .tmp n, .t m => n == m
  | .const v, .c x => cstB v x
  | .global g, .g h => g == h
  | .func f, .c (.func (.func f') [] []) => f == f'
  | _, _ => false

def okO : Option Operand → Option RA → Bool
  | none, none => true
  | some l, some l' => okA l l'
  | _, _ => false

def allB2 {α β : Type} (f : α → β → Bool) : List α → List β → Bool
  | [], [] => true
  | x :: xs, y :: ys => f x y && allB2 f xs ys
  | _, _ => false

def aggB (P : Program) (t : TypeId) : Option Bool := (P.underlying t).map TypeDesc.isRow
def szB (P : Program) (t : TypeId) : Option Nat := (P.info? t).map (·.size)

def scalarT (P : Program) (t : TypeId) : Bool := match P.underlying t with
  | some (.int _) | some .string | some .bool => true
  | _ => false

/-- The kinds of the cells of a type whose values are compared cell by cell. -/
def fldK (fl : TypeId → Option (List CK)) : Nat → List Field → Option (List CK)
  | _, [] => some []
  | off, f :: fs => if f.name ≠ "_" ∧ f.offset = off then match fl f.type with
    | some ks => (fldK fl (off + ks.length) fs).map (ks ++ ·)
    | none => none
    else none
def flatK (P : Program) : Nat → TypeId → Option (List CK)
  | 0, _ => none
  | d + 1, t => match P.underlying t with
    | some (.int _) => if szB P t = some 1 then some [.i] else none
    | some .string => if szB P t = some 1 then some [.s] else none
    | some .bool => if szB P t = some 1 then some [.b] else none
    | some (.struct fs) => if P.stoodInHeld t = false then match fldK (flatK P d) 0 fs.toList with
      | some ks => if szB P t = some ks.length then some ks else none
      | none => none
      else none
    | _ => none

def kkB (P : Program) (t : TypeId) (kk : KK) : Bool := match P.underlying t, kk with
  | some (.int k), .i k' => decide (k = k')
  | some .string, .s => true
  | some .bool, .b => true
  | _, _ => false
/-- A constant value, whole. -/
def cstV (v : Value) : AV → Bool
  | .agg xs => match v with
    | .agg us => allB2 cstB us.toList xs
    | _ => false
  | x => cstB v x

def okMk (P : Program) (t : TypeId) : Option Operand → Bool
  | none => true
  | some (.const (.int _ _)) => (match P.underlying t with | some (.map _ _) => true | _ => false)
  | _ => false

def okV (P : Program) (o : Op) (v : VOp) (xs : List RA) : Bool :=
  match o, v, xs with
  | .convert src dst x, .b2s, [y] => (match P.underlying src, P.underlying dst with
    | some (.slice e), some .string => (match P.underlying e with | some (.int k) => decide (k = .u8) | _ => false)
    | _, _ => false) && okA x y
  | .indexAddr t x i, .aaddr n sz, [y, j] => (match P.underlying t with
    | some (.array n' e) => decide (n' = n) && decide (szB P e = some sz)
    | _ => false) && okA x y && okA i j
  | .index t x i, .aidx agg n sz, [y, j] => (match P.underlying t with
    | some (.array n' e) => decide (n' = n) && decide (aggB P e = some agg) && decide (szB P e = some sz)
    | _ => false) && okA x y && okA i j
  | .index t x i, .sidx, [y, j] => (match P.underlying t with
    | some .string => true
    | _ => false) && okA x y && okA i j
  | .binOp op t x i _, .beq neg, [y, j] => (match op, neg with | .eql, false | .neq, true => true | _, _ => false) && (match P.underlying t with | some .bool => true | _ => false) && okA x y && okA i j
  | .binOp op t x i _, .eqn neg, [y, j] => (match op, neg with | .eql, false | .neq, true => true | _, _ => false) && (match P.underlying t with | some (.slice _) => true | _ => false) && okA x y && okA i j
  | .binOp op _ x i _, .bits op', [y, j] => decide (op = op') && (match op with | .and | .or | .xor => true | _ => false) && okA x y && okA i j
  | .binOp op _ x i _, .sh left, [y, j] => (match op, left with | .shl, true | .shr, false => true | _, _ => false) && okA x y && okA i j
  | _, _, _ => false

def okOp (P : Program) (o : Op) (r : ROp) : Bool :=
  match o, r with
  | .move x, .mov y | .assign x, .mov y => okA x y
  | .pick c a b, .pick c' a' b' => okA c c' && okA a a' && okA b b'
  | .nilCheck x, .nilck y => okA x y
  | .binOp op t x y _, .bin op' x' y' => scalarT P t && decide (op = op') && okA x x' && okA y y' && !(op matches .shl | .shr)
  | .unOp op _ x, .un op' x' => decide (op = op') && okA x x'
  | .convert src dst x, .conv k y => (match P.underlying src, P.underlying dst with | some _, some (.int k') => decide (k = k') | _, _ => false) && okA x y
  | .extract x i, .ext j y => okA x y && i == j
  | .makeFunc fn a b, .mkf fn' a' b' => decide (fn = fn') && allB2 okA a.toList a' && allB2 okA b.toList b'
  | .field t x i, .field agg off n y => (match P.underlying t with
    | some (.struct fs) => match fs[i]? with
      | some f => f.offset == off && decide (aggB P f.type = some agg) && decide (szB P f.type = some n)
      | none => false
    | _ => false) && okA x y
  | o, .vop v xs => okV P o v xs
  | .fieldAddr t x i, .faddr off y => (match P.underlying t with
    | some (.struct fs) => match fs[i]? with
      | some f => f.offset == off && (match szB P f.type with | some (_ + 1) => true | _ => false)
      | none => false
    | _ => false) && okA x y
  | .load t x, .load agg n y => decide (aggB P t = some agg) && decide (szB P t = some n) && okA x y
  | .store t x v, .store n y u => decide (szB P t = some n) && okA x y && okA v u
  | .alloc t, .alloc cells => (match P.info? t with
    | some i => match i.zero with
      | some z => allB2 cstB z.cells.toList cells
      | none => false
    | none => false)
  | .box _ x, .box y => okA x y
  | .build t parts, .build zero qs => (match P.info? t, P.underlying t with
    | some it, some (.struct fs) => match it.zero, fs.toList.mapM (fun f => (P.info? f.type).map fun i => (f.offset, i.size)) with
      | some z, some places => allB2 cstB z.cells.toList zero && allB2 (fun (p : Nat × Operand) (q : Nat × Nat × RA) => decide (places.toArray[p.1]? = some (q.1, q.2.1)) && okA p.2 q.2.2) parts.toList qs
      | _, _ => false
    | some it, some (.array _ e) => match it.zero, P.info? e with
      | some z, some ie => allB2 cstB z.cells.toList zero && allB2 (fun (p : Nat × Operand) (q : Nat × Nat × RA) => decide (p.1 * ie.size = q.1 ∧ ie.size = q.2.1) && okA p.2 q.2.2) parts.toList qs
      | _, _ => false
    | _, _ => false)
  | .indexAddr t x i, .iaddr sz y j => (match P.underlying t with
    | some (.slice e) => decide (szB P e = some sz)
    | _ => false) && okA x y && okA i j
  | .call { callee := .builtin .len, args := ⟨[x]⟩, argTypes := ⟨t :: _⟩ }, .len y => (match P.underlying t with
    | some (.slice _) => true
    | _ => false) && okA x y
  | .call { callee := .builtin .len, args := ⟨[x]⟩, argTypes := ⟨t :: _⟩ }, .slen y => (match P.underlying t with
    | some .string => true
    | _ => false) && okA x y
  | .call { callee := .builtin .max, args := ⟨x :: xs⟩, .. }, .mx true y ys => okA x y && allB2 okA xs ys
  | .call { callee := .builtin .min, args := ⟨x :: xs⟩, .. }, .mx false y ys => okA x y && allB2 okA xs ys
  | .binOp op t x y _, .eqs neg ks x' y' => (match op, neg with | .eql, false | .neq, true => true | _, _ => false) && decide (flatK P 8 t = some ks) && decide (aggB P t = some true) && !P.eqGuardType P.depth t && okA x x' && okA y y'
  | .buildSlice t n parts, .bsl _ sz n' zero qs => (match P.underlying t with
    | some (.slice e) => decide (szB P e = some sz) && (match P.info? e with
      | some ie => match ie.zero with
        | some z => allB2 cstB (if n * sz = 0 then [] else ((List.range (n * sz)).map fun i => z.cells[i % z.cells.size]!)) zero
        | none => false
      | none => false)
    | _ => false) && n == n' && decide (n * sz ≤ 16777216) && decide (n ≤ 16777216) && allB2 (fun (p : Nat × Operand) (q : Nat × RA) => p.1 == q.1 && okA p.2 q.2) parts.toList qs
  | .slice t x lo hi none, .slc sz y lo' hi' => (match P.underlying t with
    | some (.slice e) => decide (szB P e = some sz)
    | _ => false) && okA x y && okO lo lo' && okO hi hi'
  | .slice t x lo hi none, .sslc y lo' hi' => (match P.underlying t with
    | some .string => true
    | _ => false) && okA x y && okO lo lo' && okO hi hi'
  | .makeSlice t n c, .mksl sz bytes zero n' => (match P.underlying t with
    | some (.slice e) => (match P.info? e with
      | some ie => decide (ie.size = sz) && decide (ie.bytes = bytes) && (match ie.zero with
        | some z => allB2 cstB z.cells.toList zero
        | none => false)
      | none => false)
    | _ => false) && okA n n' && okA c n'
  | .call { callee := .builtin .append, args := ⟨[s, x]⟩, argTypes := ⟨[t, u]⟩ }, .app sz bytes s' x' => t == u && (match P.underlying t with
    | some (.slice e) => (match P.info? e with
      | some ie => decide (ie.size = sz ∧ 0 < sz) && decide (ie.bytes = bytes ∧ 0 < bytes) && (match ie.zero with | some z => z.cells.size == sz | none => false)
      | none => false)
    | _ => false) && okA s s' && okA x x'
  | .makeMap t r, .mkmap => okMk P t r
  | .lookup t m k ok', .look kk zero ok y j => (match P.underlying t with
    | some (.map kt e) => kkB P kt kk && (match P.info? e with
      | some ie => (match ie.zero with | some z => cstV z zero | none => false)
      | none => false)
    | _ => false) && ok == ok' && okA m y && okA k j
  | .mapUpdate t m k v, .mupd kk y j u | .insert t m k v, .mupd kk y j u => (match P.underlying t with
    | some (.map kt _) => kkB P kt kk
    | _ => false) && okA m y && okA k j && okA v u
  | .call { callee := .builtin .delete, args := ⟨[m, k]⟩, argTypes := ⟨t :: _⟩ }, .mdel kk y j => (match P.underlying t with
    | some (.map kt _) => kkB P kt kk
    | _ => false) && okA m y && okA k j
  | .call { callee := .builtin .len, args := ⟨[x]⟩, argTypes := ⟨t :: _⟩ }, .mlen y => (match P.underlying t with
    | some (.map _ _) => true
    | _ => false) && okA x y
  | _, _ => false

/-! ## Relations -/
section
variable {E : Env} {W : World} {M : Nat → Prop}

theorem cst_pv {v : Value} {x : AV} (h : cstB v x = true) : PV M W x v := by
  unfold cstB at h
  split at h <;> simp only [Bool.false_eq_true, decide_eq_true_eq, beq_iff_eq] at h
  · obtain ⟨rfl, rfl⟩ := h; exact .int _ _
  · subst h; exact .bool _
  · rename_i s s'
    have : s = s' := by cases s; cases s'; simp_all
    subst this; exact .str _
  · exact .nilp
  · exact .nils
  · exact .nilm
  · exact .nilf
  · subst h; exact .func _ [] [] #[] #[] rfl rfl (by simp) (by simp)

theorem allB2_spec {α β : Type} {f : α → β → Bool} {xs : List α} {ys : List β} (h : allB2 f xs ys = true) : xs.length = ys.length ∧ ∀ (i : Nat) (x : α) (y : β), xs[i]? = some x → ys[i]? = some y → f x y = true := by
  induction xs generalizing ys with
  | nil => cases ys with
    | nil => exact ⟨rfl, by simp⟩
    | cons y ys => simp [allB2] at h
  | cons x xs ih => cases ys with
    | nil => simp [allB2] at h
    | cons y ys =>
      simp only [allB2, Bool.and_eq_true] at h
      obtain ⟨h1, h2⟩ := ih h.2
      refine ⟨by simp [h1], fun i u v hu hv => ?_⟩
      cases i with
      | zero => simp at hu hv; subst hu; subst hv; exact h.1
      | succ i => simp at hu hv; exact h2 i u v hu hv

/-- Cells stand for cells. -/
def CR (E : Env) (W : World) (xs : List AV) (us : List Value) : Prop := us.length = xs.length ∧ ∀ (i : Nat) (x : AV) (u : Value), xs[i]? = some x → us[i]? = some u → VR E W x u

theorem VR.agg_inv {xs : List AV} {v : Value} (h : VR E W (.agg xs) v) : ∃ us : Array Value, v = .agg us ∧ CR E W xs us.toList := by
  cases h with
  | pv h =>
    cases h with
    | agg _ us h1 hx => exact ⟨us, rfl, by simpa using h1, fun i x u hi hu => .pv (hx i x u hi (by simpa using hu))⟩
  | agg _ us h1 hx => exact ⟨us, rfl, by simpa using h1, fun i x u hi hu => hx i x u hi (by simpa using hu)⟩
theorem VR.tup_inv {xs : List AV} {v : Value} (h : VR E W (.tup xs) v) : ∃ us : Array Value, v = .tuple us ∧ CR E W xs us.toList := by
  cases h with
  | pv h =>
    cases h with
    | tup _ us h1 hx => exact ⟨us, rfl, by simpa using h1, fun i x u hi hu => .pv (hx i x u hi (by simpa using hu))⟩
  | tup _ us h1 hx => exact ⟨us, rfl, by simpa using h1, fun i x u hi hu => hx i x u hi (by simpa using hu)⟩
theorem VR.func_inv {fn : Fn} {xs ys : List AV} {v : Value} (h : VR E W (.func fn xs ys) v) : ∃ us vs : Array Value, v = .func fn us vs ∧ CR E W xs us.toList ∧ CR E W ys vs.toList := by
  cases h with
  | pv h =>
    cases h with
    | func _ _ _ us vs h1 h2 hx hy => exact ⟨us, vs, rfl, ⟨by simpa using h1, fun i x u hi hu => .pv (hx i x u hi (by simpa using hu))⟩, ⟨by simpa using h2, fun i x u hi hu => .pv (hy i x u hi (by simpa using hu))⟩⟩
  | func _ _ _ us vs h1 h2 hx hy => exact ⟨us, vs, rfl, ⟨by simpa using h1, fun i x u hi hu => hx i x u hi (by simpa using hu)⟩, ⟨by simpa using h2, fun i x u hi hu => hy i x u hi (by simpa using hu)⟩⟩
theorem VR.int_inv {k : IntKind} {n : Int} {v : Value} (h : VR E W (.int k n) v) : v = .int k n := by cases h with | pv h => cases h; rfl
theorem VR.bool_inv {b : Bool} {v : Value} (h : VR E W (.bool b) v) : v = .bool b := by cases h with | pv h => cases h; rfl
theorem VR.str_inv {s : ByteArray} {v : Value} (h : VR E W (.str s) v) : v = .string s := by cases h with | pv h => cases h; rfl
theorem VR.hole_inv {v : Value} (h : VR E W .hole v) : v = Go.undef := by cases h with | pv h => cases h; rfl
theorem VR.ptr_inv {k off : Nat} {v : Value} (h : VR E W (.ptr k off) v) : ∃ b s, E.loc k = some (b, s) ∧ E.row k = none ∧ v = .pointer (some ⟨b, s + off, none⟩) := by
  cases h with
  | pv h => cases h
  | ptr k off b s h hr => exact ⟨b, s, h, hr, rfl⟩
theorem VR.vptr_inv {cs : List AV} {off : Nat} {v : Value} (h : VR E W (.vptr cs off) v) : PV E.M W (.vptr cs off) v := by cases h with | pv h => exact h
theorem VR.eptr_inv {k n i off : Nat} {v : Value} (h : VR E W (.eptr k n i off) v) : ∃ sz m p, E.row k = some (sz, m) ∧ n ≤ m ∧ v = .pointer p ∧ (m = n → ∃ b s, E.loc k = some (b, s) ∧ p = some ⟨b, s + i * sz + off, none⟩) := by
  cases h with
  | pv h => cases h
  | eptr k n i off sz m p h hn he => exact ⟨sz, m, p, h, hn, rfl, he⟩

theorem VR.mp_inv {k : Nat} {v : Value} (h : VR E W (.mp k) v) : ∃ b, E.loc k = some (b, 0) ∧ E.row k = none ∧ v = .map (some b) := by
  cases h with
  | pv h => cases h
  | mp k b h hr => exact ⟨b, h, hr, rfl⟩
theorem VR.agg_of {xs : List AV} {us : List Value} (h : CR E W xs us) : VR E W (.agg xs) (.agg us.toArray) := .agg xs _ (by simpa using h.1) fun i x u hi hu => h.2 i x u hi (by simpa using hu)

theorem VR.cells {x : AV} {v : Value} (h : VR E W x v) (hk : x.known = true) : CR E W x.cellsL v.cells.toList := by
  have one : ∀ {v : Value}, VR E W x v → x.cellsL = [x] → v.cells = #[v] → CR E W x.cellsL v.cells.toList := fun {v} h h1 h2 => by
    rw [h1, h2]
    exact ⟨rfl, fun i y u hi hu => by cases i <;> simp_all⟩
  cases x <;> try (simp [AV.known] at hk; done)
  case agg xs => obtain ⟨us, rfl, h1⟩ := h.agg_inv; exact h1
  case tup xs => obtain ⟨us, rfl, h1⟩ := h.tup_inv; exact one h rfl rfl
  case func fn xs ys => obtain ⟨us, vs, rfl, h1⟩ := h.func_inv; exact one h rfl rfl
  all_goals
    refine one h rfl ?_
    cases h with
    | pv h => cases h <;> rfl
    | _ => rfl

theorem VR.oneCell {x : AV} {v : Value} (h : VR E W x v) (hk : x.one = true) : v.oneCell' = true := by
  cases x <;> try (simp [AV.one] at hk; done)
  case func fn xs ys => obtain ⟨us, vs, rfl, h1⟩ := h.func_inv; rfl
  all_goals
    cases h with
    | pv h => cases h <;> rfl
    | _ => rfl

end

section
variable {P : Program} {R : Run} {st : St} {a : Act} {W : World} {κ : Nat → Option (Nat × Nat)}

theorem SK.ev (h : SK R st a W κ) {x : Operand} {y : RA} (hk : okA x y = true) : VR (st.env R.M κ) W (evA R.G st y) (a.eval x) := by
  unfold okA at hk
  split at hk
  · rename_i n m
    simp only [beq_iff_eq] at hk
    subst hk
    cases hl : st.tmp n with
    | none => simp only [evA, hl, Option.getD_none]; exact .undef _
    | some x => simp only [evA, hl, Option.getD_some]; exact h.tm n x hl
  · exact .pv (cst_pv hk)
  · rename_i g k
    simp only [beq_iff_eq] at hk
    subst hk
    cases hg : R.G g with
    | none => simp only [evA, hg]; exact .undef _
    | some cs => simp only [evA, hg]; exact .pv (h.gr g cs hg)
  · rename_i f f'
    simp only [beq_iff_eq] at hk
    subst hk
    exact .pv (.func _ [] [] #[] #[] rfl rfl (by simp) (by simp))
  · simp at hk

theorem SK.evs (h : SK R st a W κ) {xs : List Operand} {ys : List RA} (hk : allB2 okA xs ys = true) : CR (st.env R.M κ) W (ys.map (evA R.G st)) (xs.map a.eval) := by
  obtain ⟨h1, h2⟩ := allB2_spec hk
  refine ⟨by simp [h1], fun i x u hx hu => ?_⟩
  simp only [List.getElem?_map, Option.map_eq_some_iff] at hx hu
  obtain ⟨y, hy, rfl⟩ := hx
  obtain ⟨z, hz, rfl⟩ := hu
  exact h.ev (h2 i z y hz hy)

/-- What one operation has to show. -/
def Sim (P : Program) (R : Run) (a : Act) (W : World) (o : Oper) (x : AV) (st' : St) : Prop :=
  ∃ v W' κ', ((execOp a.eval o).run P W = .ok (.value v) W' ∨ (execOp a.eval o).run P W = .ok .skip W' ∧ v = Go.undef) ∧ SK R st' a W' κ' ∧ VR (st'.env R.M κ') W' x v

theorem Sim.val (h : SK R st a W κ) {o : Oper} {x : AV} {v : Value} (hr : (execOp a.eval o).run P W = .ok (.value v) W) (hv : VR (st.env R.M κ) W x v) : Sim P R a W o x st :=
  ⟨v, W, κ, .inl hr, h, hv⟩

theorem sim_mov (h : SK R st a W κ) {o : Oper} {x : Operand} {y : RA} (ho : o.op = .move x ∨ o.op = .assign x) (hk : okA x y = true) : Sim P R a W o (evA R.G st y) st :=
  .val h (by rcases ho with ho | ho <;> simp [execOp, ho]) (h.ev hk)

theorem sim_pick (h : SK R st a W κ) {o : Oper} {c x y : Operand} {c' x' y' : RA} (ho : o.op = .pick c x y) (hc : okA c c' = true) (hx : okA x x' = true) (hy : okA y y' = true)
    {z : AV} {st' : St} {d : Nat} (hr : rop R.G st d (.pick c' x' y') = some (z, st')) : Sim P R a W o z st' := by
  have h1 := h.ev hc
  simp only [rop] at hr
  split at hr <;> simp only [Option.some.injEq, Prod.mk.injEq, reduceCtorEq] at hr
  · rename_i e
    obtain ⟨rfl, rfl⟩ := hr
    rw [e] at h1
    exact .val h (by simp [execOp, ho, h1.bool_inv, asBool, Sem.run_bind]) (h.ev hx)
  · rename_i e
    obtain ⟨rfl, rfl⟩ := hr
    rw [e] at h1
    exact .val h (by simp [execOp, ho, h1.bool_inv, asBool, Sem.run_bind]) (h.ev hy)

theorem sim_nilck (h : SK R st a W κ) {o : Oper} {x : Operand} {y : RA} (ho : o.op = .nilCheck x) (hk : okA x y = true)
    {z : AV} {st' : St} {d : Nat} (hr : rop R.G st d (.nilck y) = some (z, st')) : Sim P R a W o z st' := by
  have h1 := h.ev hk
  simp only [rop] at hr
  split at hr <;> simp only [Option.some.injEq, Prod.mk.injEq, reduceCtorEq] at hr
  · rename_i e
    obtain ⟨rfl, rfl⟩ := hr
    rw [e] at h1
    obtain ⟨b, s, -, -, hv⟩ := h1.ptr_inv
    exact .val h (by simp [execOp, ho, hv]) h1
  · rename_i e
    obtain ⟨rfl, rfl⟩ := hr
    rw [e] at h1
    have h2 := h1.vptr_inv
    generalize hv : a.eval x = v at *
    cases h2
    exact .val h (by simp [execOp, ho, hv]) h1
  · rename_i e
    obtain ⟨rfl, rfl⟩ := hr
    rw [e] at h1
    obtain ⟨us, vs, hv, -⟩ := h1.func_inv
    exact .val h (by simp [execOp, ho, hv]) h1

theorem sim_un (h : SK R st a W κ) {o : Oper} {op : UnOp} {t : TypeId} {x : Operand} {y : RA} (ho : o.op = .unOp op t x) (hk : okA x y = true)
    {z : AV} {st' : St} {d : Nat} (hr : rop R.G st d (.un op y) = some (z, st')) : Sim P R a W o z st' := by
  have h1 := h.ev hk
  simp only [rop, Option.map_eq_some_iff, Prod.mk.injEq] at hr
  obtain ⟨u, hu, rfl, rfl⟩ := hr
  unfold aUn at hu
  split at hu <;> simp only [Option.some.injEq, reduceCtorEq] at hu
  · subst hu
    rename_i e
    rw [e] at h1
    exact .val h (by simp [execOp, ho, h1.int_inv, Op.unary, Op.intArith, Sem.run_bind]) (.pv (.int _ _))
  · subst hu
    rename_i e
    rw [e] at h1
    exact .val h (by simp [execOp, ho, h1.bool_inv, Op.unary, Sem.run_bind]) (.pv (.bool _))

theorem sim_conv (h : SK R st a W κ) {o : Oper} {src dst : TypeId} {k : IntKind} {x : Operand} {y : RA} (ho : o.op = .convert src dst x) (hd : P.underlying dst = some (.int k))
    (hs : ∃ s, P.underlying src = some s) (hk : okA x y = true)
    {z : AV} {st' : St} {d : Nat} (hr : rop R.G st d (.conv k y) = some (z, st')) : Sim P R a W o z st' := by
  have h1 := h.ev hk
  simp only [rop] at hr
  split at hr <;> simp only [Option.some.injEq, Prod.mk.injEq, reduceCtorEq] at hr
  rename_i e
  obtain ⟨rfl, rfl⟩ := hr
  rw [e] at h1
  obtain ⟨s, hs⟩ := hs
  refine .val h ?_ (.pv (.int _ _))
  simp only [execOp, ho, h1.int_inv, convert, Sem.run_bind, run_underlying hs, run_underlying hd, Result.andThen_ok]
  cases s <;> simp [Conv.intToInt, Sem.run_bind] <;> rfl

theorem sim_ext (h : SK R st a W κ) {o : Oper} {i : Nat} {x : Operand} {y : RA} (ho : o.op = .extract x i) (hk : okA x y = true)
    {z : AV} {st' : St} {d : Nat} (hr : rop R.G st d (.ext i y) = some (z, st')) : Sim P R a W o z st' := by
  have h1 := h.ev hk
  simp only [rop] at hr
  split at hr <;> simp only [Option.map_eq_some_iff, Prod.mk.injEq, reduceCtorEq] at hr
  rename_i vs e
  obtain ⟨u, hu, rfl, rfl⟩ := hr
  rw [e] at h1
  obtain ⟨us, hv, h2, h3⟩ := h1.tup_inv
  have hlt : i < us.size := by
    have := (List.getElem?_eq_some_iff.1 hu).1
    simp at h2; omega
  have hg : us[i]? = some us[i] := by simp [hlt]
  refine .val (v := us[i]) h ?_ (h3 i u _ hu (by simp [hlt]))
  simp [execOp, ho, hv, Instr.extract, hg, Sem.run_bind]

theorem sim_mkf (h : SK R st a W κ) {o : Oper} {fn : Fn} {xs ys : Array Operand} {xs' ys' : List RA} (ho : o.op = .makeFunc fn xs ys) (hx : allB2 okA xs.toList xs' = true) (hy : allB2 okA ys.toList ys' = true) :
    Sim P R a W o (.func fn (xs'.map (evA R.G st)) (ys'.map (evA R.G st))) st := by
  have h1 := h.evs hx
  have h2 := h.evs hy
  refine .val (v := .func fn (xs.map a.eval) (ys.map a.eval)) h (by simp [execOp, ho, Instr.makeFunc, Sem.run_bind]) (.func _ _ _ _ _ (by simpa using h1.1) (by simpa using h2.1) ?_ ?_)
  · intro i x u hi hu; exact h1.2 i x u hi (by simpa using hu)
  · intro i x u hi hu; exact h2.2 i x u hi (by simpa using hu)

theorem aBin_sim {op : BinOp} {x y z : AV} {t : TypeId} {u v : Value} {E : Env} {x' y' : Operand} (hs : scalarT P t = true) (hx : VR E W x u) (hy : VR E W y v) (hb : aBin op x y = some z) :
    ∃ r, (do eqGuard op t x' y' u v; binOp op t u v : Sem Value).run P W = .ok r W ∧ VR E W z r := by
  unfold aBin at hb
  split at hb
  all_goals try (simp at hb; done)
  all_goals try (
    split at hb
    case isFalse => simp at hb
    case isTrue e =>
      subst e
      rw [hx.int_inv, hy.int_inv]
      first
        | (simp only [Option.some.injEq] at hb
           subst hb
           refine ⟨_, ?_, .pv (by first | exact .int _ _ | exact .bool _)⟩
           simp [eqGuard, binOp, Op.intArith, Op.intCmp, Sem.run_bind]; done)
        | (simp only [Option.some.injEq] at hb
           subst hb
           refine ⟨_, ?_, .pv (.bool _)⟩
           simp [eqGuard, binOp, Op.intArith, Op.intCmp, Sem.run_bind]
           rfl)
        | (split at hb
           · simp at hb
           · rename_i hz
             simp only [Option.some.injEq] at hb
             subst hb
             refine ⟨_, ?_, .pv (.int _ _)⟩
             simp [eqGuard, binOp, Op.intDiv, Sem.run_bind, hz]))
  · rw [hx.str_inv, hy.str_inv]
    simp only [Option.some.injEq] at hb
    subst hb
    exact ⟨_, by simp [eqGuard, binOp, Op.stringOp, Sem.run_bind], .pv (.bool _)⟩
  · rw [hx.str_inv, hy.str_inv]
    simp only [Option.some.injEq] at hb
    subst hb
    exact ⟨_, by simp [eqGuard, binOp, Op.stringOp, Sem.run_bind], .pv (.bool _)⟩
  · rename_i a b
    rw [hx.str_inv, hy.str_inv]
    split at hb
    · rename_i hz
      simp only [Option.some.injEq] at hb
      subst hb
      have hz2 : ¬ ((IntKind.i64.max : Int) < ((a.size + b.size : Nat) : Int)) := by have : IntKind.i64.max = 9223372036854775807 := rfl; omega
      refine ⟨_, ?_, .pv (.str _)⟩
      simp only [eqGuard, binOp, Op.stringOp, Sem.run_bind]
      rw [if_neg hz2]
      rfl
    · simp at hb

end

end Go.Proofs.YtdpmioiamcgfkaaDoor
