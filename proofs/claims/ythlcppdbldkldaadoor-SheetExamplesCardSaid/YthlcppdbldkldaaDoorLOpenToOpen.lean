/-
  What came in, as trees: integers, strings, truth values, structs of them, slices of them.
-/
import Derived.Test.YthlcppdbldkldaaDoorLAmGToAmK
import Derived.Deep.Slices
import Derived.Lib.SmallJoins
import Derived.OpenShut
set_option linter.all false
set_option maxHeartbeats 8000000
namespace Go.Proofs.YthlcppdbldkldaaDoor
open Go.ChangeShapes Go.WideShapes Go.ChangeAt Go.WideMaps Go.WideElems Go.RowKit Go.Deep
inductive TY where
 |int (k:IntKind)
 |str
 |bool
 |sl (ks:List TY)
inductive TV:TY->AV->Prop
 |int (k:IntKind) (n:Int) (h:(Lit.int k n).wf=true):TV (.int k) (.int k n)
 |str (s:ByteArray) (h:s.size<=maxLen):TV .str (.str s)
 |bool (b:Bool):TV .bool (.bool b)
 |sl (ks:List TY) (rows:List (List AV)) (hl:rows.length<=maxLen) (hr:∀ r∈rows,r.length=ks.length)
  (h:∀ r∈rows,∀ (i:Nat) (k:TY) (x:AV),ks[i]? = some k->r[i]? = some x->TV k x):TV (.sl ks) (.vsl rows)
def noM:Nat->Prop:=λ_=>False
structure Opd (W:World) (ks:List TY) (cs:List Value) (xs:List AV):Prop where
 lx:xs.length=ks.length
 lc:cs.length=ks.length
 at':∀ (i:Nat) (k:TY) (x:AV) (u:Value),ks[i]? = some k->xs[i]? = some x->cs[i]? = some u->TV k x/\PV noM W x u
def Opd.one {W:World} {k:TY} {u:Value} {x:AV} (h1:TV k x) (h2:PV noM W x u):Opd W [k] [u] [x] :=
 ⟨rfl,rfl,λi k' x' u' hk hx hu=>by
  match i,hk,hx,hu with
  |0,hk,hx,hu=>cases hk;cases hx;cases hu;exact ⟨h1,h2⟩⟩
def Opd.append {W:World} {k1 k2:List TY} {c1 c2:List Value} {x1 x2:List AV} (h1:Opd W k1 c1 x1) (h2:Opd W k2 c2 x2):Opd W (k1++k2) (c1++c2) (x1++x2):=by
 refine ⟨by simp[h1.lx,h2.lx],by simp[h1.lc,h2.lc],λi k x u hk hx hu=>?_⟩;by_cases h:i<k1.length
 . rw[W0E h]at hk;rw[W0E (by rw[h1.lx];exact h)]at hx;rw[W0E (by rw[h1.lc];exact h)]at hu;exact h1.at' i k x u hk hx hu
 . rw[W0o (by omega)]at hk;rw[W0o (by rw[h1.lx];omega),h1.lx]at hx;rw[W0o (by rw[h1.lc];omega),h1.lc]at hu;exact h2.at' _ k x u hk hx hu
def TV.int_inv {k:IntKind} {x:AV} (h:TV (.int k) x):∃ n,x = .int k n/\(Lit.int k n).wf=true:=by cases h with|int k n h=>exact ⟨n,rfl,h⟩
def TV.str_inv {x:AV} (h:TV .str x):∃ s,x = .str s/\s.size<=maxLen:=by cases h with|str s h=>exact ⟨s,rfl,h⟩
def TV.bool_inv {x:AV} (h:TV .bool x):∃ b,x = .bool b:=by cases h with|bool b=>exact ⟨b,rfl⟩
end Go.Proofs.YthlcppdbldkldaaDoor

