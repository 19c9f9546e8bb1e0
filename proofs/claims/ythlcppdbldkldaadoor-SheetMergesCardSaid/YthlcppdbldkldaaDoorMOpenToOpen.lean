/-
  What came in, as trees: integers, strings, truth values, structs of them, slices of them.
-/
import Derived.Test.YthlcppdbldkldaaDoorMAmGToAmK
import Derived.Deep.Slices
import Derived.Lib.SmallJoins
import Derived.OpenShut
set_option linter.all false
set_option maxHeartbeats 8000000
namespace Go.Proofs.YthlcppdbldkldaaDoor
open Go.ChangeShapes Go.WideShapes Go.ChangeAt Go.WideMaps Go.WideElems Go.RowKit Go.Deep
inductive TY where
 |int (k:IntKind)
 |str
 |bool
 |sl (ks:List TY)
inductive TV:TY->AV->Prop
 |int (k:IntKind) (n:Int) (h:(Lit.int k n).wf=true):TV (.int k) (.int k n)
 |str (s:ByteArray) (h:s.size<=maxLen):TV .str (.str s)
 |bool (b:Bool):TV .bool (.bool b)
 |sl (ks:List TY) (rows:List (List AV)) (hl:rows.length<=maxLen) (hr:∀ r∈rows,r.length=ks.length)
  (h:∀ r∈rows,∀ (i:Nat) (k:TY) (x:AV),ks[i]? = some k->r[i]? = some x->TV k x):TV (.sl ks) (.vsl rows)
def fldsK (P:Program) (kt:TypeId->Option (List TY)):Nat->List Field->Option (List TY)
 |_,[]=>some []
 | off,f::fs=>if f.offset=off then match kt f.type with
   |some ks=>if P.cellsOf f.type=ks.length then (fldsK P kt (off+ks.length) fs).map (ks ++ ·) else none
   |none=>none
   else none
def tyK (P:Program):Nat->TypeId->Option (List TY)
 |0,_=>none
 | d + 1,t=>match P.underlying t with
   |some (.int k)=>some [.int k]
   |some .string=>some [.str]
   |some .bool=>some [.bool]
   | some (.struct fs)=>match fldsK P (tyK P d) 0 fs.toList with
     |some ks=>if P.cellsOf t=ks.length then some ks else none
     |none=>none
   | some (.slice e)=>match tyK P d e with
     |some (k::ks)=>if P.cellsOf e=(k::ks).length then some [.sl (k::ks)] else none
     |_=>none
   |_=>none
def noM:Nat->Prop:=λ_=>False
structure Opd (W:World) (ks:List TY) (cs:List Value) (xs:List AV):Prop where
 lx:xs.length=ks.length
 lc:cs.length=ks.length
 at':∀ (i:Nat) (k:TY) (x:AV) (u:Value),ks[i]? = some k->xs[i]? = some x->cs[i]? = some u->TV k x/\PV noM W x u
def Opd.one {W:World} {k:TY} {u:Value} {x:AV} (h1:TV k x) (h2:PV noM W x u):Opd W [k] [u] [x] :=
 ⟨rfl,rfl,λi k' x' u' hk hx hu=>by
  match i,hk,hx,hu with
  |0,hk,hx,hu=>cases hk;cases hx;cases hu;exact ⟨h1,h2⟩⟩
def Opd.append {W:World} {k1 k2:List TY} {c1 c2:List Value} {x1 x2:List AV} (h1:Opd W k1 c1 x1) (h2:Opd W k2 c2 x2):Opd W (k1++k2) (c1++c2) (x1++x2):=by
 refine ⟨by simp[h1.lx,h2.lx],by simp[h1.lc,h2.lc],λi k x u hk hx hu=>?_⟩;by_cases h:i<k1.length
 . rw[W0E h]at hk;rw[W0E (by rw[h1.lx];exact h)]at hx;rw[W0E (by rw[h1.lc];exact h)]at hu;exact h1.at' i k x u hk hx hu
 . rw[W0o (by omega)]at hk;rw[W0o (by rw[h1.lx];omega),h1.lx]at hx;rw[W0o (by rw[h1.lc];omega),h1.lc]at hu;exact h2.at' _ k x u hk hx hu
def ZbT {w:World} {a:Addr} {v:Value} (h:w.cell? a=some v):a.block<w.heap.size:=by
 rcases W0q a.block w.heap.size with h'|h'
 . exact h'
 . simp[World.cell?,Array.getElem?_eq_none h']at h
section
variable {H:Type} {enc:TypeId×Value->H} {P:Program} {W:World} {base:Nat} {spare:Nat->Bool} {held:Bool}
def ZbU (kt:TypeId->Option (List TY)) (ih:∀ (t:TypeId) (ks:List TY),kt t=some ks->∀ (fuel:Nat) (cs:List Value) (y:DataW H×List MemPlace),DataW.trod enc P W base spare held fuel t cs=some y->∃ xs,Opd W ks cs xs) (cs:List Value) :
  ∀ (fs:List Field) (off:Nat) (ks:List TY),fldsK P kt off fs=some ks->(∀ f∈fs,∃ n y,DataW.trod enc P W base spare held n f.type ((cs.drop f.offset).take (P.cellsOf f.type))=some y)->off+ks.length<=cs.length->∃ xs,Opd W ks ((cs.drop off).take ks.length) xs
 | [],off,ks,hk,_,_=>by
   simp only[fldsK,W00]at hk;subst hk;exact ⟨[],rfl,by simp,λi k x u hk=>by simp at hk⟩
 | f::fs,off,ks,hk,hf,hl=>by
   simp only[fldsK]at hk
   split at hk <;> try (simp at hk;done)
   rename_i ho
   split at hk <;> try (simp at hk;done)
   rename_i k1 hk1
   split at hk <;> try (simp at hk;done)
   rename_i hc;simp only[W04]at hk;obtain ⟨k2,hk2,rfl⟩:=hk;obtain ⟨n,y,hy⟩:=hf f (W0H ..);rw[ho,hc]at hy;obtain ⟨x1,h1⟩:=ih _ _ hk1 _ _ _ hy;simp only[W0s]at hl;obtain ⟨x2,h2⟩:=ZbU kt ih cs fs (off+k1.length) k2 hk2 (λf hf'=>hf f (W0z _ hf')) (by omega);refine ⟨x1++x2,?_⟩;have:=h1.append h2;rw[W0s,List.take_add,List.drop_drop];exact this
def ZbV:∀ (d:Nat) (t:TypeId) (ks:List TY),tyK P d t=some ks->∀ (fuel:Nat) (cs:List Value) (y:DataW H×List MemPlace),DataW.trod enc P W base spare held fuel t cs=some y->∃ xs,Opd W ks cs xs:=by
 intro d
 induction d with
 |zero=>intro t ks hk;simp[tyK]at hk
 | succ d ih =>
   intro t ks hk fuel cs y h;simp only[tyK]at hk
   split at hk
   . rename_i k ht;obtain ⟨n,rfl,-,hw⟩:=DataW.trod_int ht h;simp only[W00]at hk;subst hk;exact ⟨_,.one (.int k n hw) (.int k n)⟩
   . rename_i ht;obtain ⟨s,rfl,-,hw⟩:=DataW.trod_string ht h;simp only[W00]at hk;subst hk;exact ⟨_,.one (.str s hw) (.str s)⟩
   . rename_i ht;obtain ⟨b,rfl,-⟩:=DataW.trod_bool ht h;simp only[W00]at hk;subst hk;exact ⟨_,.one (.bool b) (.bool b)⟩
   . rename_i fs ht
     split at hk <;> try (simp at hk;done)
     rename_i ks' hks
     split at hk <;> simp only[W00,reduceCtorEq]at hk
     rename_i hc;subst hk;obtain ⟨ys,n,-,-,hlen,hyl,hf⟩:=DataW.trod_struct ht h
     obtain ⟨xs,hx⟩:=ZbU (tyK P d) ih cs fs.toList 0 ks' hks (λf hf'=>by
      obtain ⟨i,hi,e⟩:=W0k hf';have hi':i<fs.size:=(by simpa using hi);have e2:fs[i]? = some f:=(by rw[W0n hi',<- e];simp);have hi2:i<ys.length:=(by omega);exact ⟨n,ys[i],by rw[hf i f e2,W07 hi2]⟩) (by omega)
     rw[W1J,W0J (by omega)]at hx;exact ⟨xs,hx⟩
   . rename_i e ht
     split at hk <;> try (simp at hk;done)
     rename_i k ks' hke
     split at hk <;> simp only[W00,reduceCtorEq]at hk
     rename_i hc;subst hk;rcases open_slice ht h with ⟨rfl,-⟩ | ⟨a,len,cap,m,n,D,Pl,rfl,hb,hl,hm,hmm,-,hx⟩
     . exact ⟨[.vsl []],.one (.sl _ [] (by simp) (by simp) (by simp)) (.vsl [] none 0 0 0 0 (λ_ _=>undef) (by simp) (by simp) (λh=>absurd rfl h) (λ_=>⟨rfl,rfl⟩) (by simp) (by simp) (by simp))⟩
     . have hlm:len<=m:=by rw[hmm];split <;> omega
       have each:∀ i,i<len->∃ q:List Value×List AV,q.1.length=(k::ks').length/\(∀ j,j<(k::ks').length->W.cell? ((a.add (i*(k::ks').length)).add j)=q.1[j]?)/\Opd W (k::ks') q.1 q.2:=by
        intro i hi;obtain ⟨cs',h1,h2⟩:=hx i (by omega);rw[hc]at h1;obtain ⟨-,hlen,hcell⟩:=World.cells?_some h1;obtain ⟨xs,hxs⟩:=ih _ _ hke _ _ _ h2;exact ⟨(cs',xs),hlen,hcell,hxs⟩
       obtain ⟨q,hq⟩:=choose_lt each;obtain ⟨b,o,spot⟩:=a
       have hspot:0<len->spot=none/\b<W.heap.size:=λhp=>by
        obtain ⟨g1,g2,-⟩:=hq 0 hp;have h0:=g2 0 (by simp);rw[W07 (by rw[g1];simp)]at h0;have h1:spot=none:=(by simpa [Addr.add] using World.cell?_spot h0);subst h1;rw[add_plain,add_plain]at h0;exact ⟨rfl,ZbT h0⟩
       have hrl:((List.range len).map λi=>(q i).2).length=len:=by simp
       have hrow:∀ (i:Nat) (r:List AV),((List.range len).map λi=>(q i).2)[i]? = some r->i<len/\r=(q i).2:=λi r hi=>by
        have hlt:i<len:=(by have:=(W02.1 hi).1;simpa using this);simp[hlt]at hi;exact ⟨hlt,hi.symm⟩
       refine ⟨[.vsl ((List.range len).map λi=>(q i).2)],.one (.sl _ _ (by rw[hrl];omega) ?_ ?_) ?_⟩
       . intro r hr;obtain ⟨i,hi,rfl⟩:=W0i.1 hr;exact (hq i (W1r.1 hi)).2.2.lx
       . intro r hr i' k' x hk' hx';obtain ⟨i,hi,rfl⟩:=W0i.1 hr;obtain ⟨g1,g2,g3⟩:=hq i (W1r.1 hi);have hlt:i'<(q i).1.length:=(by rw[g1];exact (W02.1 hk').1);exact (g3.at' i' k' x _ hk' hx' (W07 hlt)).1
       . have hp:PV noM W (.vsl ((List.range len).map λi=>(q i).2)) (.slice (some ⟨b,o,spot⟩) ((List.range len).map λi=>(q i).2).length cap):=by
          refine .vsl _ _ cap (k::ks').length b o (λi j=>((q i).1[j]?).getD undef) (by rw[hrl];exact hl) hm ?_ ?_ ?_ ?_ ?_
          . intro hne
            have hp:0<len:=by
             rcases W1U len with h0|h0
             . exact absurd (W0l.1 (hrl.trans h0)) hne
             . exact h0
            obtain ⟨rfl,h2⟩:=hspot hp;exact ⟨rfl,h2,id⟩
          . intro h;cases h
          . intro r hr;obtain ⟨i,hi,rfl⟩:=W0i.1 hr;exact (hq i (W1r.1 hi)).2.2.lx
          . intro i j hi hj;rw[hrl]at hi;obtain ⟨rfl,-⟩:=hspot (by omega);obtain ⟨g1,g2,g3⟩:=hq i hi;have h2:=g2 j hj;rw[W07 (by rw[g1];exact hj)]at h2;have h3:(q i).1[j]? = some ((q i).1[j]'(by rw[g1];exact hj)):=W07 _;rw[h3];rw[add_plain,add_plain]at h2;exact h2
          . intro i j r x hi hj;obtain ⟨hlt,rfl⟩:=hrow i r hi;obtain ⟨g1,g2,g3⟩:=hq i hlt;have hjl:j<(k::ks').length:=(by rw[<- g3.lx];exact (W02.1 hj).1);have h3:(q i).1[j]? = some ((q i).1[j]'(by rw[g1];exact hjl)):=W07 _;rw[h3];exact (g3.at' j _ x _ (W07 hjl) hj h3).2
         rw[hrl]at hp;exact hp
   . simp at hk
end
def TVs (ks:List TY) (xs:List AV):Prop:=xs.length=ks.length/\∀ (i:Nat) (k:TY) (x:AV),ks[i]? = some k->xs[i]? = some x->TV k x
section
variable {H:Type} {enc:TypeId×Value->H} {P:Program} {W:World} {base b0:Nat} {spare:Nat->Bool} {held:Bool} {r:Reach} {t:TypeId} {v:Value} {dd:DataW H} {p:List MemPlace}
def ZbW {fs:Array Field} {ks:List TY} (hs:P.underlying t=some (.struct fs)) (hk:tyK P 8 t=some ks) (hv:Value.okWide P W r b0 t v) (h:DataW.Trod enc P W base spare held t v dd p) :
  ∃ xs,TVs ks xs/\PV noM W (.agg xs) v:=by
 obtain ⟨cs,rfl,-⟩:=okWide_struct hs hv;obtain ⟨fuel,hf⟩:=h;obtain ⟨xs,hx⟩:=ZbV 8 t ks hk fuel _ _ hf;have h1:cs.size=ks.length:=(by simpa [Value.cells] using hx.lc);refine ⟨xs,⟨hx.lx,λi k x h2 h3=>?_⟩,.agg xs cs (by rw[h1,hx.lx]) λi x u h2 h3=>?_⟩
 . have hlt:i<cs.size:=(by rw[h1];exact (W02.1 h2).1);exact (hx.at' i k x cs[i] h2 h3 (by simp[Value.cells,hlt])).1
 . have hlt:i<ks.length:=(by rw[<- hx.lx];exact (W02.1 h2).1);exact (hx.at' i ks[i] x u (W07 hlt) h2 (by simpa [Value.cells] using h3)).2
end
def TV.int_inv {k:IntKind} {x:AV} (h:TV (.int k) x):∃ n,x = .int k n/\(Lit.int k n).wf=true:=by cases h with|int k n h=>exact ⟨n,rfl,h⟩
def TV.str_inv {x:AV} (h:TV .str x):∃ s,x = .str s/\s.size<=maxLen:=by cases h with|str s h=>exact ⟨s,rfl,h⟩
def TV.bool_inv {x:AV} (h:TV .bool x):∃ b,x = .bool b:=by cases h with|bool b=>exact ⟨b,rfl⟩
def TV.sl_inv {ks:List TY} {x:AV} (h:TV (.sl ks) x):∃ rows,x = .vsl rows/\rows.length<=maxLen/\∀ r∈rows,TVs ks r:=by
 cases h with|sl ks rows hl hr h=>exact ⟨rows,rfl,hl,λr h1=>⟨hr r h1,h r h1⟩⟩
def TVs.nil_inv {xs:List AV} (h:TVs [] xs):xs=[]:=W0l.1 h.1
def TVs.cons_inv {k:TY} {ks:List TY} {xs:List AV} (h:TVs (k::ks) xs):∃ x xs',xs=x::xs'/\TV k x/\TVs ks xs':=by
 obtain ⟨h1,h2⟩:=h
 match xs,h1,h2 with
 |x::xs',h1,h2=>exact ⟨x,xs',rfl,h2 0 k x rfl rfl,by simpa using h1,λi k' x' hk hx=>h2 (i+1) k' x' (by simpa using hk) (by simpa using hx)⟩
def ZbX {α β:Type} {f:α->β} {rows:List β} (h:∀ r∈rows,∃ d,r=f d):∃ l:List α,rows=l.map f:=by
 induction rows with
 |nil=>exact ⟨[],rfl⟩
 | cons r rows ih =>
   obtain ⟨d,rfl⟩:=h r (W0H ..);obtain ⟨l,rfl⟩:=ih λr hr=>h r (W0z _ hr)
   exact ⟨d::l,rfl⟩
end Go.Proofs.YthlcppdbldkldaaDoor

