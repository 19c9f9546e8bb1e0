/-
  What the program's lengths computes.
-/
import Derived.Test.YtjogcghofinemaaGreatDoorJNfToTd
import Derived.Test.YtjogcghofinemaaGreatDoorJRcWToEc
import Derived.Test.YtjogcghofinemaaGreatDoorJAmLToAmR
import Derived.Test.YtjogcghofinemaaGreatDoorJEdToNd
import Derived.Test.YtjogcghofinemaaGreatDoorProg
import Derived.Test.YtjogcghofinemaaGreatDoorJOpenToOpen
import Derived.Test.YtjogcghofinemaaGreatDoorJRowToRow
set_option linter.all false
set_option linter.unusedSimpArgs false
set_option linter.unusedVariables false
set_option linter.unusedSectionVars false
namespace Go.Proofs.YtjogcghofinemaaGreatDoor
open Go.RowKit
def edT (t:Bool) (L:List Stq):List (Rf×Rf):=if t=true then tuE (edg L) else edg L
theorem ZjG (t:Bool) (L:List Stq):(edT t L).length=L.length:=by unfold edT tuE edg;split <;> simp
theorem ZjH {L:List Stq} {i:Nat} (t:Bool) (h:i<L.length):(edT t L).getD i default=if t=true then (toS L[i],frS L[i]) else (frS L[i],toS L[i]):=by
 rw[List.getD_eq_getElem?_getD,List.getElem?_eq_getElem (by rw[ZjG];exact h),Option.getD_some];unfold edT tuE edg
 split <;> simp
def rgL (i:Nat):List Int:=(List.range i).map λi:Nat=>(i:Int)
theorem ZjI (i:Nat):rgL (i+1)=rgL i++[(i:Int)]:=by simp[rgL,List.range_succ]
theorem ZjJ (i:Nat):(i:Int) ∉ rgL i:=by simp[rgL];omega
theorem ZjK (o:List (Nat×AObj)) (kn:List (Rf×Int)):Yd o (.mp (knA kn))=true:=by
 simp only[Yd,List.all_eq_true,knA,List.mem_map];rintro p ⟨x,-,rfl⟩;simp[Ya,AV.keys]
theorem ZjL (n:Int) (s:LnS) (i:Nat) (e:Rf×Rf):(lnS n s i e).nx.length<=s.nx.length+1:=by
 unfold lnS
 split
 . split
   . split
     . omega
     . split <;> simp
   . omega
 . omega
theorem ZjM (E:List (Rf×Rf)) (n:Int) (s:LnS):∀ i,(lnI E n s i).nx.length<=s.nx.length+i
 |0=>Nat.le_refl _
 | i+1=>by
   have:=ZjM E n s i;have:=ZjL n (lnI E n s i) i (E.getD i default);rw[lnI];omega
def lnV (x:Rf) (kn:List (Rf×Int)):Int:=match knLk x kn with
 |some v=>v
 |none=>1048576
theorem lnV_F (E:List (Rf×Rf)) (y x:Rf):lnV x (knF E y)=diV E y x:=by
 unfold lnV diV;rw[ZjF]
 cases diN E y x <;> rfl
def lnC (E:List (Rf×Rf)) (y:Rf):AV:=.vptr [.vmap (knA (knF E y))] 0
def lnF (E:List (Rf×Rf)) (y:Rf):AV:=.func (.func 87) [] [lnC E y]
def leT (L:List Stq) (t:Bool) (n:Int):List (Nat×AV):=[(10,.int .i64 n),(9,.ptr 9 0),(7,.mp 20),(2,.bool t),(0,.vsl (L.map sa))]
def leO (s:LnS):List (Nat×AObj):=[(9,.box [.mp 29]),(29,.mp (knA s.kn)),(20,.mp (lfA s.left))]
def leS (L:List Stq) (t:Bool) (y:Rf) (n:Nat):St:=⟨leT L t ((n:Int)+1),leO (lnO (edT t L) y n)⟩
def leI (L:List Stq) (t:Bool) (n:Int) (i:Nat) (s:LnS):St :=
 if s.nx=[] then ⟨(36,.int .i64 i)::(35,.int .i64 L.length)::(34,.vsl (L.map sa))::(11,.nils)::leT L t n,leO s⟩
 else ⟨(36,.int .i64 i)::(35,.int .i64 L.length)::(34,.vsl (L.map sa))::(11,.osl 83 s.nx.length)::leT L t n,(83,.row 2 (s.nx.map ita))::leO s⟩
section
variable {G:Nat->Option (List AV)}
theorem ZjN (kn:List (Rf×Int)) (d e:Int):PC Tryz.prog G 87 [.agg [.int .i64 d,.int .i64 e],.vptr [.vmap (knA kn)] 0] (.int .i64 (lnV (d,e) kn)):=by
 have hg:=Zjr d e kn;unfold lnV
 (refine Z6L rfl λR hG hrd=>Qga ?_;subst hG)
 cases q:knLk (d,e) kn with
 | none =>
   rw[q]at hg;simp -implicitDefEqProofs[Z6J,Z6K,hg,mapOf]
 | some v =>
   rw[q]at hg;simp -implicitDefEqProofs[Z6J,Z6K,hg,mapOf]
theorem ZjO (E:List (Rf×Rf)) (y:Rf) (d e:Int):PC Tryz.prog G 87 [.agg [.int .i64 d,.int .i64 e],.vptr [.vmap (knA (knF E y))] 0] (.int .i64 (diV E y (d,e))):=by
 rw[<- lnV_F];exact ZjN _ d e
set_option maxRecDepth 4000 in
set_option maxHeartbeats 4000000 in
theorem ZjP (L:List Stq) (t:Bool) (d e:Int) (hL:L.length<=1000) :
  PC Tryz.prog G 57 [.vsl (L.map sa),.agg [.int .i64 d,.int .i64 e],.bool t] (lnF (edT t L) (d,e)):=by
 (refine Z6I rfl λR hG hrd=>Qga ?_;subst hG)
 have eL:=ZjG t L;simp -implicitDefEqProofs[Z6G,Z6H];refine Zba (λi=>⟨[(23,.int .i64 i),(22,.int .i64 L.length),(7,.mp 20),(4,.ptr 4 0),(2,.bool t),(0,.vsl (L.map sa))],[(20,.mp (lfA (rgL i))),(4,.box [.int .i64 d,.int .i64 e])]⟩) (λ_=>True) L.length ?_ trivial ?_ ?_
 . have e0:lfA (rgL 0)=[]:=rfl;rw[e0]
   (refine Yn.sub (by simp[lk,Ya,AV.keys]) ?_;simp only[Wkl,and_true];(try simp[lk,Yd,Ya,AV.keys]))
 . intro i hi _;have w1:IntKind.i64.wrap ((i:Int)+1)=(i:Int)+1:=Yg (by omega) (by omega);have hp:=ZcU (ZjJ i);rw[<- ZjI]at hp;refine Qga ?_;simp -implicitDefEqProofs[hi,w1,hp]
   (refine Yn.sub (by simp[lk,Ya,AV.keys]) ?_;simp only[Wkl,Zhj,and_true];(try simp[lk,Yd,Ya,AV.keys]))
 . intro _;have hp:=Zjs (d:=d) (e:=e) 0 (kn:=[]) rfl;have e0:knA []=[]:=rfl;rw[e0,List.nil_append]at hp;refine Qga ?_;simp -implicitDefEqProofs[];refine Qgr ?_;simp -implicitDefEqProofs[hp];refine Z1Q (leS L t (d,e)) (λn=>n<=L.length) (λn=>L.length-n) 0 ?_ (Nat.zero_le _) ?_
   . have e1:lnO (edT t L) (d,e) 0=⟨rgL L.length,[((d,e),0)],[]⟩:=(by rw[<- eL];rfl);simp only[leS,leT,leO,e1]
     ((try simp only[ZjK]);refine Yn.sub (by simp[lk,Ya,AV.keys,ZjK]) ?_;simp only[ZjK,Wkl,Zhj,and_true];(try simp[lk,Yd,Ya,AV.keys,ZjK]))
   . intro n hn;have w1:IntKind.i64.wrap ((n:Int)+1+1)=(n:Int)+1+1:=Yg (by omega) (by omega);obtain ⟨s0,hs0⟩ : ∃ s0:LnS,s0=⟨(lnO (edT t L) (d,e) n).left,(lnO (edT t L) (d,e) n).kn,[]⟩:=⟨_,rfl⟩;have hs1:lnI (edT t L) ((n:Int)+1) s0 L.length=lnO (edT t L) (d,e) (n+1):=(by rw[hs0,<- eL];rfl);refine Qga ?_;simp -implicitDefEqProofs[leS,leT,leO];refine Zba (λi=>leI L t ((n:Int)+1) i (lnI (edT t L) ((n:Int)+1) s0 i)) (λ_=>True) L.length ?_ trivial ?_ ?_
     . have e1:lnI (edT t L) ((n:Int)+1) s0 0=s0:=rfl;rw[e1];simp only[leI,leT,leO,hs0,if_true]
       ((try simp only[ZjK]);refine Yn.sub (by simp[lk,Ya,AV.keys,ZjK]) ?_;simp only[ZjK,Wkl,Zhj,and_true];(try simp[lk,Yd,Ya,AV.keys,ZjK]))
     . intro i hi _;have wi:IntKind.i64.wrap ((i:Int)+1)=(i:Int)+1:=Yg (by omega) (by omega);have hat:=ZjH t hi;have hnx:=ZjM (edT t L) ((n:Int)+1) s0 i;rw[show s0.nx.length=0 by rw[hs0];rfl]at hnx;obtain ⟨⟨⟨a1,a2⟩,⟨b1,b2⟩⟩,hab⟩ : ∃ p,p=(edT t L).getD i default:=⟨_,rfl⟩;have hs:lnI (edT t L) ((n:Int)+1) s0 (i+1)=lnS ((n:Int)+1) (lnI (edT t L) ((n:Int)+1) s0 i) i ((a1,a2),(b1,b2)):=(by rw[hab];rfl);rw[<- hab]at hat;generalize lnI (edT t L) ((n:Int)+1) s0 i=s at *;have gb:=Zjr b1 b2 s.kn;have ga:=Zjr a1 a2 s.kn;have gl:=ZcT (i:Int) s.left;obtain ⟨x,hx⟩ : ∃ x,x=L[i]:=⟨_,rfl⟩;rw[<- hx]at hat
       obtain ⟨nu,nt,hsa⟩ : ∃ (nu:Int) (nt:Bool),sa x=if t=true then [.int .i64 b1,.int .i64 b2,.int .i64 a1,.int .i64 a2,.int .i64 nu,.bool nt] else [.int .i64 a1,.int .i64 a2,.int .i64 b1,.int .i64 b2,.int .i64 nu,.bool nt]:=by
        refine ⟨x.nu,x.nt,?_⟩
        cases t
        . simp only[Bool.false_eq_true,if_false,frS,toS,Prod.mk.injEq]at hat;obtain ⟨⟨rfl,rfl⟩,rfl,rfl⟩:=hat;rfl
        . simp only[if_true,frS,toS,Prod.mk.injEq]at hat;obtain ⟨⟨rfl,rfl⟩,rfl,rfl⟩:=hat;rfl
       clear hat hab;have bb:(s.nx.length+1)*16<=70368744177664:=(by omega);have ln1:(s.nx.map ita).length=s.nx.length:=List.length_map _;refine Qga ?_;by_cases c1:(i:Int)∈s.left
       case neg =>
        rw[lnS,if_neg c1]at hs;rw[if_neg c1]at gl
        cases q:knLk (b1,b2) s.kn
        all_goals
         rw[q]at gb;simp only[Option.map_none,Option.map_some]at gb;by_cases cx:s.nx=[]
        all_goals
         cases t
        all_goals
         simp only[Bool.false_eq_true,if_false,if_true]at hsa;simp -implicitDefEqProofs[leI,leT,leO,cx,hi,<- hx,hsa,gb,gl,hs,wi];refine ⟨rfl,?_⟩
         ((try simp only[Zjg]);refine Yn.sub (by simp[lk,Ya,AV.keys,Zjg]) ?_;simp only[Zjg,Wkl,Zhj,ZjK,and_true];(try simp[lk,Yd,Ya,AV.keys,Zjg]))
       rw[lnS,if_pos c1]at hs;rw[if_pos c1]at gl
       cases q:knLk (b1,b2) s.kn with
       | none =>
         rw[q]at gb hs;simp only[Option.map_none]at gb hs;by_cases cx:s.nx=[]
         all_goals
          cases t
         all_goals
          simp only[Bool.false_eq_true,if_false,if_true]at hsa;simp -implicitDefEqProofs[leI,leT,leO,cx,hi,<- hx,hsa,gb,gl,hs,wi];refine ⟨rfl,?_⟩
          ((try simp only[Zjg]);refine Yn.sub (by simp[lk,Ya,AV.keys,Zjg]) ?_;simp only[Zjg,Wkl,Zhj,ZjK,and_true];(try simp[lk,Yd,Ya,AV.keys,Zjg]))
       | some k =>
         rw[q]at gb hs;simp only[Option.map_some]at gb hs;by_cases c2:(n:Int)+1<=k
         . rw[if_pos c2]at hs;by_cases cx:s.nx=[]
           all_goals
            cases t
           all_goals
            simp only[Bool.false_eq_true,if_false,if_true]at hsa;simp -implicitDefEqProofs[leI,leT,leO,cx,hi,<- hx,hsa,gb,gl,hs,wi,c2];refine ⟨rfl,?_⟩
            ((try simp only[Zjg]);refine Yn.sub (by simp[lk,Ya,AV.keys,Zjg]) ?_;simp only[Zjg,Wkl,Zhj,ZjK,and_true];(try simp[lk,Yd,Ya,AV.keys,Zjg]))
         rw[if_neg c2]at hs;have dl:=ZcW c1
         cases r:knLk (a1,a2) s.kn with
         | some w =>
           rw[r]at ga hs;simp only[Option.map_some]at ga hs;by_cases cx:s.nx=[]
           all_goals
            cases t
           all_goals
            simp only[Bool.false_eq_true,if_false,if_true]at hsa;simp -implicitDefEqProofs[leI,leT,leO,cx,hi,<- hx,hsa,ga,gb,gl,hs,wi,c2,dl];refine ⟨rfl,?_⟩
            ((try simp only[Zjg]);refine Yn.sub (by simp[lk,Ya,AV.keys,Zjg]) ?_;simp only[Zjg,Wkl,Zhj,ZjK,and_true];(try simp[lk,Yd,Ya,AV.keys,Zjg]))
         | none =>
           have pk:=Zjs ((n:Int)+1) r;rw[r]at ga hs;simp only[Option.map_none]at ga hs;by_cases cx:s.nx=[]
           . rw[cx]at hs
             cases t
             all_goals
              simp only[Bool.false_eq_true,if_false,if_true]at hsa;simp -implicitDefEqProofs[leI,leT,leO,cx,hi,<- hx,hsa,ga,gb,gl,hs,wi,c2,dl,pk];refine ⟨rfl,?_⟩
              ((try simp only[Zjg,ita]);refine Yn.sub (by simp[lk,Ya,AV.keys,Zjg,ita]) ?_;simp only[Zjg,ita,Wkl,Zhj,ZjK,and_true];(try simp[lk,Yd,Ya,AV.keys,Zjg,ita]))
           . cases t
             all_goals
              simp only[Bool.false_eq_true,if_false,if_true]at hsa;simp -implicitDefEqProofs[leI,leT,leO,cx,hi,<- hx,hsa,ga,gb,gl,hs,wi,c2,dl,pk,bb];refine ⟨rfl,?_⟩
              ((try simp only[Zjg,ita]);refine Yn.sub (by simp[lk,Ya,AV.keys,Zjg,ita]) ?_;simp only[Zjg,ita,Wkl,Zhj,ZjK,and_true];(try simp[lk,Yd,Ya,AV.keys,Zjg,ita]))
     . intro _;have hdry:(lnO (edT t L) (d,e) (n+1)).nx=[]->(lnO (edT t L) (d,e) (n+1)).kn=knF (edT t L) (d,e):=ZjD (by rw[eL];exact hn);have hwet:(lnO (edT t L) (d,e) (n+1)).nx≠[]->n+1<=L.length:=λh=>by have:=ZjE h;rwa [eL]at this
       rw[hs1];obtain ⟨S,hS⟩ : ∃ S,S=lnO (edT t L) (d,e) (n+1):=⟨_,rfl⟩;rw[<- hS]at hdry hwet ⊢;refine Qga ?_;by_cases cx:S.nx=[]
       . have hk:=hdry cx
         have pk:∀ kn:List (Rf×Int),(knA kn).all (λp=>p.1.pure&&p.2.pure)=true:=λkn=>by
          simp only[knA,List.all_eq_true,List.mem_map];rintro p ⟨x,-,rfl⟩;simp[AV.pure]
         have pk2:=pk (knF (edT t L) (d,e));simp -implicitDefEqProofs[leI,leT,leO,cx];refine Qgr ?_;simp -implicitDefEqProofs[];refine Qgr ?_;simp -implicitDefEqProofs[hk,pk2,lnF,lnC]
       . have hw:=hwet cx;have hl:¬S.nx.length=0:=λh=>cx (List.length_eq_zero_iff.1 h)
         have hl2:¬(S.nx.length:Int)=0:=(by omega);have ln1:(S.nx.map ita).length=S.nx.length:=List.length_map _;simp -implicitDefEqProofs[leI,leT,leO,cx];refine Qgr ?_;simp -implicitDefEqProofs[hl,hl2,ln1,w1];refine ⟨n+1,?_,hw,(by show L.length-(n+1)<L.length-n;omega)⟩;simp only[leS,leT,leO,<- hS]
         (refine Yn.sub (by simp[lk,Ya,AV.keys]) ?_;simp only[Wkl,Zhj,ZjK,and_true];(try simp[lk,Yd,Ya,AV.keys]))
end
def dlK {α:Type} (p:α->Bool) (l:List α) (j:Nat):List α:=(l.take j).filter λx=>!p x
def dlS {α:Type} (p:α->Bool) (l:List α) (j:Nat):List α:=dlK p l j++l.drop (dlK p l j).length
section
variable {α:Type} {p:α->Bool} {l:List α} {j:Nat}
theorem ZjQ:(dlK p l j).length<=j:=Nat.le_trans (List.length_filter_le _ _) (by simp;omega)
theorem ZjR:dlK p l l.length=l.filter λx=>!p x:=by rw[dlK,List.take_length]
theorem ZjS (h:j<l.length):dlK p l (j+1)=if p l[j]=true then dlK p l j else dlK p l j++[l[j]]:=by
 unfold dlK;rw[List.take_succ_eq_append_getElem h,List.filter_append]
 split
 . rename_i e;rw[List.filter_cons_of_neg (by simp[e]),List.filter_nil,List.append_nil]
 . rename_i e;rw[List.filter_cons_of_pos (by simpa using e)];rfl
theorem ZjT (h:∀ i (hi:i<l.length),i<j->p l[i]=false) (hj:j<=l.length):dlK p l j=l.take j:=by
 unfold dlK;rw[List.filter_eq_self];intro x hx;obtain ⟨i,hi,rfl⟩:=List.mem_take_iff_getElem.1 hx;simp[h i (by omega) (by omega)]
theorem ZjU (h:j<=l.length):(dlS p l j).length=l.length:=by
 have:=ZjQ (p:=p) (l:=l) (j:=j);simp[dlS];omega
theorem ZjV (h:j<l.length):(dlS p l j)[j]? = some l[j]:=by
 have:=ZjQ (p:=p) (l:=l) (j:=j);unfold dlS;rw[List.getElem?_append_right this,List.getElem?_drop,show (dlK p l j).length+(j-(dlK p l j).length)=j by omega,List.getElem?_eq_getElem h]
theorem ZjW (h:j<l.length) (hp:p l[j]=true):dlS p l (j+1)=dlS p l j:=by unfold dlS;rw[ZjS h,if_pos hp]
theorem ZjX (h:j<l.length) (hp:p l[j]=false):dlS p l (j+1)=(dlS p l j).set (dlK p l j).length l[j]:=by
 have hk:=ZjQ (p:=p) (l:=l) (j:=j);unfold dlS;rw[ZjS h,if_neg (by simp[hp]),List.set_append_right _ _ (Nat.le_refl _),Nat.sub_self,List.drop_eq_getElem_cons (by omega:(dlK p l j).length<l.length),List.set_cons_zero,List.length_append,List.append_assoc];rfl
end
def zrF:List AV:=[.int .i64 0,.int .i64 0]
def dlO (p:Rf->Bool) (l:List Rf):List (List AV):=if l.any p=true then (l.filter λx=>!p x).map ita++List.replicate (l.length-(l.filter λx=>!p x).length) zrF else l.map ita
def dlV (κ:Nat) (p:Rf->Bool) (l:List Rf):AV:=if l.any p=true then .oss κ l.length 0 (l.filter λx=>!p x).length else .osl κ l.length
theorem ZjY (ok:Nat->Bool) (st:St) (l:List Rf):frzO ok st (.row 2 (l.map ita)) = .row 2 (l.map ita):=by
 simp only[frzO,List.map_map]
 congr 2
 funext p;simp[ita,frzA,frz,AV.keys]
theorem ZjZ (ok:Nat->Bool) (st:St) (p:Rf->Bool) (l:List Rf):frzO ok st (.row 2 (dlO p l)) = .row 2 (dlO p l):=by
 unfold dlO
 split
 . simp only[frzO,List.map_append,List.map_map,List.map_replicate]
   congr 3
   . funext p;simp[ita,frzA,frz,AV.keys]
   . simp[zrF,frzA,frz,AV.keys]
 . exact ZjY ok st l
section
variable {G:Nat->Option (List AV)}
theorem Zk0 (g:Nat) (caps:List AV) (p:Rf->Bool) (l:List Rf) (hc:caps.all AV.pure=true) (hl:Sml l)
  (hg:∀ x∈l,PC Tryz.prog G g (.agg (ita x)::caps) (.bool (p x))) :
  PC Tryz.prog G 117 [.vsl (l.map ita),.func (.func g) [] caps] (.int .i64 (fstOf p l)):=by
 (refine Z7n rfl λR hG hrd=>Qga ?_;subst hG)
 unfold Sml at hl;have hc2:∀ x∈caps,x.pure=true:=List.all_eq_true.1 hc;simp -implicitDefEqProofs[Z7l,Z7m];refine Zba (λi=>⟨[(8,.int .i64 i),(7,.int .i64 l.length),(0,.vsl (l.map ita)),(1,.func (.func g) [] caps)],[]⟩) (λi=>∀ j (h:j<l.length),j<i->p l[j]=false) l.length (by (first|exact Yn.tm (by simp[lk])|exact Yn.sub (by simp[lk,Ya,AV.keys]) (by simp[lk,Yd,Ya,AV.keys]))) (by simp) ?_ ?_
 . intro i hi he;refine Qga ?_;have w1:IntKind.i64.wrap ((i:Int)+1)=((i+1:Nat):Int):=Yg (by omega) (by omega);have hgi:=hg _ (List.getElem_mem hi);have hln:(ita l[i]).length=2:=rfl;have htk:(ita l[i]).take 2=ita l[i]:=rfl;simp -implicitDefEqProofs[hi,hln,htk];refine Ye.of hgi (by simpa [AV.pure,ita] using hc2) ?_
   cases h3:p l[i]
   . simp -implicitDefEqProofs[w1];refine ⟨(by (first|exact Yn.tm (by simp[lk])|exact Yn.sub (by simp[lk,Ya,AV.keys]) (by simp[lk,Yd,Ya,AV.keys]))),λj q1 q2=>?_⟩;by_cases e:j=i
     . subst e;exact h3
     . exact he j q1 (by omega)
   . simp -implicitDefEqProofs;refine Qgr ?_;simp -implicitDefEqProofs[ZbY hi h3 he]
 . intro he;refine Qga ?_;simp -implicitDefEqProofs[];refine Qgr ?_;simp -implicitDefEqProofs[ZbZ (p:=p) (l:=l) (λj hj=>he j hj hj)]
theorem Zk1 (g:Nat) (caps:List AV) (p:Stq->Bool) (l:List Stq) (hc:caps.all AV.pure=true) (hl:Sml l)
  (hg:∀ x∈l,PC Tryz.prog G g (.agg (sa x)::caps) (.bool (p x))) :
  PC Tryz.prog G 88 [.vsl (l.map sa),.func (.func g) [] caps] (.int .i64 (fstOf p l)):=by
 (refine Z73 rfl λR hG hrd=>Qga ?_;subst hG)
 unfold Sml at hl;have hc2:∀ x∈caps,x.pure=true:=List.all_eq_true.1 hc;simp -implicitDefEqProofs[Z71,Z72];refine Zba (λi=>⟨[(8,.int .i64 i),(7,.int .i64 l.length),(0,.vsl (l.map sa)),(1,.func (.func g) [] caps)],[]⟩) (λi=>∀ j (h:j<l.length),j<i->p l[j]=false) l.length (by (first|exact Yn.tm (by simp[lk])|exact Yn.sub (by simp[lk,Ya,AV.keys]) (by simp[lk,Yd,Ya,AV.keys]))) (by simp) ?_ ?_
 . intro i hi he;refine Qga ?_;have w1:IntKind.i64.wrap ((i:Int)+1)=((i+1:Nat):Int):=Yg (by omega) (by omega);have hgi:=hg _ (List.getElem_mem hi);have hln:(sa l[i]).length=6:=rfl;have htk:(sa l[i]).take 6=sa l[i]:=rfl;simp -implicitDefEqProofs[hi,hln,htk];refine Ye.of hgi (by simpa [AV.pure,sa] using hc2) ?_
   cases h3:p l[i]
   . simp -implicitDefEqProofs[w1];refine ⟨(by (first|exact Yn.tm (by simp[lk])|exact Yn.sub (by simp[lk,Ya,AV.keys]) (by simp[lk,Yd,Ya,AV.keys]))),λj q1 q2=>?_⟩;by_cases e:j=i
     . subst e;exact h3
     . exact he j q1 (by omega)
   . simp -implicitDefEqProofs;refine Qgr ?_;simp -implicitDefEqProofs[ZbY hi h3 he]
 . intro he;refine Qga ?_;simp -implicitDefEqProofs[];refine Qgr ?_;simp -implicitDefEqProofs[ZbZ (p:=p) (l:=l) (λj hj=>he j hj hj)]
theorem Zk2 (g:Nat) (caps:List AV) (p:Stq->Bool) (l:List Stq) (hc:caps.all AV.pure=true) (hl:Sml l)
  (hg:∀ x∈l,PC Tryz.prog G g (.agg (sa x)::caps) (.bool (p x))) :
  PC Tryz.prog G 58 [.vsl (l.map sa),.func (.func g) [] caps] (.int .i64 (fstOf p l)):=by
 (refine Z70 rfl λR hG hrd=>Qga ?_;subst hG)
 simp -implicitDefEqProofs[Z6Y,Z6Z];have hc2:∀ x∈caps,x.pure=true:=List.all_eq_true.1 hc;refine Ye.of (Zk1 g caps p l hc hl hg) (by simpa [AV.pure] using hc2) ?_;simp -implicitDefEqProofs[]
def clK (k:Nat):Bool:=decide (k<1000) && !(k == 5)
theorem Zk3 (l:List Rf) (hne:l≠[]) (hl:Sml l):PB Tryz.prog G 97 [] [.vsl (l.map ita)] (.osl 5 l.length) [(5,.row 2 (l.map ita))]:=by
 refine Z5d clK (by intro k hk;simp[clK]at hk;omega) Tryz.func97 rfl (by kernel_rfl) (rc:=Z7a) (by kernel_rfl) (rs:=Z7b) (by kernel_rfl) (Nat.le_of_ble_eq_true rfl) λR _ hG hrd=>Qga ?_
 subst hG;unfold Sml at hl;have b1:l.length*16<=70368744177664:=(by omega);have h0:¬l.length=0:=λe=>hne (List.length_eq_zero_iff.1 e)
 have k1:(l.map ita).all (λr=>r.length == 2)=true:=(by simp[ita]);have k2:(l.map ita).all (λr=>r.all AV.one)=true:=(by simp[ita,AV.one]);simp -implicitDefEqProofs[Z7a,Z7b,h0,hne,b1,k1,k2];simp -implicitDefEqProofs[FinO,Yj,clK,ZjY,frzA,frz,AV.keys]
set_option maxHeartbeats 2000000 in
theorem Zk4 (g:Nat) (cs:List AV) (p:Rf->Bool) (l:List Rf) (hc:(AV.vptr cs 0).pure=true) (hk:(AV.vptr cs 0).keys=[]) (hl:l.length<=1000)
  (hg:∀ x∈l,PC Tryz.prog G g [.agg (ita x),.vptr cs 0] (.bool (p x))) :
  PB Tryz.prog G 96 [(1000,.row 2 (l.map ita))] [.osl 1000 l.length,.func (.func g) [] [.vptr cs 0]] (dlV 1000 p l) [(1000,.row 2 (dlO p l))]:=by
 have hx:=Zk0 (G:=G) g [.vptr cs 0] p l (by simpa using hc) (by unfold Sml;omega) hg
 (refine Z7e (Nat.le_of_ble_eq_true rfl) λR hG hrd=>Qga ?_;subst hG)
 obtain ⟨C,hC⟩ : ∃ C,C=AV.vptr cs 0:=⟨_,rfl⟩;have sC:∀ ok st n,Yi ok st n C=some C:=λok st n=>by cases n <;> simp[hC,Yi,hc]
 rw[<- hC]at hx hc hk hg ⊢;have k5:(l.map ita).all (λr=>r.all AV.pure)=true:=(by simp[ita,AV.pure]);simp -implicitDefEqProofs[Z7c,Z7d];refine Ye.flat hx (by simp[AV.flat]) (by simp[Yk,snap,Yi,sC,okAll,St.get,lk,k5,ita,AV.pure]) ?_
 cases q:l.findIdx? p with
 | none =>
   have hf:fstOf p l = -1:=by unfold fstOf;rw[q]
   have ha:l.any p=false:=by
    rw[List.findIdx?_eq_none_iff]at q;rw[List.any_eq_false];intro x hx;simp[q x hx]
   simp -implicitDefEqProofs[hf];refine ⟨[.osl 1000 l.length],?_,?_,?_⟩
   . simp[Z29,evRes,Yj,newK,frzA,frz,AV.keys,lk,St.tmp,Z7d]
   . simp[dlV,ha,tupV]
   . simp[Yj,newK,ZjY,dlO,ha]
 | some i0 =>
   have hf:fstOf p l=(i0:Int):=(by unfold fstOf;rw[q]);obtain ⟨hi0,hp0,hb0⟩:=List.findIdx?_eq_some_iff_getElem.1 q;have ha:l.any p=true:=List.any_eq_true.2 ⟨_,List.getElem_mem hi0,hp0⟩;have hne:¬(i0:Int) = -1:=(by omega);have w0:IntKind.i64.wrap ((i0:Int)+1)=(i0:Int)+1:=Yg (by omega) (by omega);have k0:dlK p l i0=l.take i0:=ZjT (λi hi hlt=>by simpa using hb0 i hlt) (by omega);have k1:dlK p l (i0+1)=l.take i0:=(by rw[ZjS hi0,if_pos hp0,k0]);have k2:(dlK p l (i0+1)).length=i0:=(by rw[k1];simp;omega);have s1:dlS p l (i0+1)=l:=(by rw[dlS,k2,k1,List.take_append_drop]);simp -implicitDefEqProofs[hf,hne,w0];refine Z1Q (λj:Nat=>⟨[(6,.int .i64 (j:Int)),(5,.int .i64 ((dlK p l j).length:Int)),(0,.osl 1000 l.length),(1,.func (.func g) [] [C])],[(1000,.row 2 ((dlS p l j).map ita))]⟩) (λj=>i0+1<=j/\j<=l.length) (λj=>l.length-j) (i0+1) ?_ ⟨Nat.le_refl _,hi0⟩ ?_
   . rw[s1,k2]
     ((try simp only[hk]);refine Yn.sub (by simp[lk,Ya,AV.keys,hk]) ?_;simp only[hk,Wkl,Zjg,and_true];(try simp[lk,Yd,Ya,AV.keys,hk]))
   rintro j ⟨hj1,hj2⟩;have kl:=ZjQ (p:=p) (l:=l) (j:=j);have sl:=ZjU (p:=p) hj2;refine Qga ?_;rcases Nat.lt_or_ge j l.length with h5|h5
   . have hgj:=hg _ (List.getElem_mem h5);obtain ⟨q1,g1⟩:=List.getElem?_eq_some_iff.1 (ZjV (p:=p) h5);have hhit:=ZjW (p:=p) h5;have hmis:=ZjX (p:=p) h5;have hks:=ZjS (p:=p) h5;have w1:IntKind.i64.wrap ((j:Int)+1)=(j:Int)+1:=Yg (by omega) (by omega);have w2:IntKind.i64.wrap (((dlK p l j).length:Int)+1)=((dlK p l j).length:Int)+1:=Yg (by omega) (by omega);have kn:(dlK p l j).length<l.length:=(by omega);generalize dlS p l j=Q at *;have e1:∀ x:Rf,ita x=[.int .i64 x.1,.int .i64 x.2]:=λ_=>rfl
     rw[e1]at hgj;simp -implicitDefEqProofs[h5,sl,g1,e1];refine Ye.of hgj (by simpa [AV.pure] using hc) ?_
     cases h3:p l[j]
     . rw[h3]at hks;simp only[Bool.false_eq_true,if_false]at hks;simp -implicitDefEqProofs[w1,w2,sl,kn,e1];refine ⟨j+1,?_,⟨by omega,h5⟩,(by show l.length-(j+1)<l.length-j;omega)⟩;rw[<- e1,<- List.map_set,<- hmis h3];simp only[hks,List.length_append,List.length_cons,List.length_nil,Nat.zero_add,Int.natCast_add,Int.cast_ofNat_Int]
       ((try simp only[hk]);refine Yn.sub (by simp[lk,Ya,AV.keys,hk]) ?_;simp only[hk,Wkl,Zjg,and_true];(try simp[lk,Yd,Ya,AV.keys,hk]))
     . rw[h3]at hks;simp only[if_true]at hks;simp -implicitDefEqProofs[w1];refine ⟨j+1,?_,⟨by omega,h5⟩,(by show l.length-(j+1)<l.length-j;omega)⟩;simp only[hhit h3,hks]
       ((try simp only[hk]);refine Yn.sub (by simp[lk,Ya,AV.keys,hk]) ?_;simp only[hk,Wkl,Zjg,and_true];(try simp[lk,Yd,Ya,AV.keys,hk]))
   . obtain rfl:j=l.length:=(by omega);have n2:(dlK p l l.length).length<=l.length:=(by omega);simp -implicitDefEqProofs[sl];refine Qgr ?_;simp -implicitDefEqProofs[sl,n2];refine ⟨[.oss 1000 l.length 0 (dlK p l l.length).length],?_,?_,?_⟩
     . simp[Z29,evRes,Yj,newK,frzA,frz,AV.keys,lk,St.tmp]
     . rw[dlV,if_pos ha,<- ZjR];rfl
     . have t1:List.take (dlK p l l.length).length ((dlS p l l.length).map ita)=(dlK p l l.length).map ita:=(by rw[<- List.map_take,dlS,List.take_left'];rfl);have t2:List.drop l.length ((dlS p l l.length).map ita)=[]:=List.drop_of_length_le (by simp[sl]);have hz:List.map ita (dlK p l l.length)++List.replicate (l.length-(dlK p l l.length).length) [AV.int .i64 0,AV.int .i64 0]=dlO p l:=(by rw[dlO,if_pos ha,<- ZjR];rfl);rw[t1,t2,List.append_nil,hz];simp[Yj,newK,ZjZ]
end
def IterG (P:Program) (G:Nat->Option (List AV)) (gf:Nat) (caps els:List AV):Prop :=
 entB P gf=true/\∀ (n l:Nat) (lb:Array Value) (J:Nat->(Nat->Prop)->World->Prop) (K:World->Prop) (M:Nat->Prop) (W:World),2<=n->(∀ k M A B,J k M A->Ext A B->J k M B)->(∀ A B,K A->Ext A B->K B) ->
  (∀ k M A,J k M A->∀ b,M b->b<A.heap.size)->(∀ k M A,J k M A->GR G M A)->CP M W caps lb ->
  (∀ (k:Nat) (x:AV) (u:Value) (M:Nat->Prop) (A:World),J k M A->els[k]? = some x->PV M A x u ->
   YieldAt Fence.wide (n-1) P l #[u] A λe A'=>(e = .returned (.bool true)/\∃ M',J (k+1) M' A'/\Since M A M' A')∨(e = .returned (.bool false)/\K A')) ->
  J 0 M W->CallsIn Fence.wide n P gf (#[.func (.yield l) #[] #[]]++lb) W λe W'=>(∃ v,e = .returned v)/\((∃ M,J els.length M W')∨K W')
theorem Zk5 {n:Nat} {P:Program} {g:Operand} {p:Nat} {assign body:Code} {Q:Exit->Act->World->Prop} {a:Act} {w:World}
  {gf:Nat} {lb:Array Value} {caps els:List AV} (hg:a.eval g = .func (.func gf) #[] lb) {G:Nat->Option (List AV)} (hit:IterG P G gf caps els) (hn:3<=n)
  (I:Nat->(Nat->Prop)->World->Prop) (K:World->Prop) (M0:Nat->Prop) (hIe:∀ k M A B,I k M A->Ext A B->I k M B) (hKe:∀ A B,K A->Ext A B->K B)
  (hIo:∀ (k l:Nat) (M:Nat->Prop) (W:World) (r r':Loop),w.heap.size<=l->I k M W->W.heap[l]? = some (.loop r)->I k M (W.putObj l (.loop r')))
  (hKo:∀ (l:Nat) (W:World) (r r':Loop),w.heap.size<=l->K W->W.heap[l]? = some (.loop r)->K (W.putObj l (.loop r')))
  (hIM:∀ k M A,I k M A->(∀ b,M b->b<A.heap.size)/\∀ (b:Nat) (o:Obj),w.heap.size<=b->A.heap[b]? = some o->Odd o->¬M b)
  (hIG:∀ k M A,I k M A->GR G M A) (hcaps:CP M0 w caps lb) (h0:I 0 M0 w)
  (hround:∀ (l k m:Nat) (x:AV) (u:Value) (M:Nat->Prop) (W:World) (lr:Loop),w.heap.size<=l->I k M W->W.heap[l]? = some (.loop lr)->els[k]? = some x->PV M W x u ->
   assign.wpIn (FW (some l)) m P (Exit.then (λa1 W1=>(∀ (b:Nat) (o:Obj),W.heap[b]? = some o->Odd o->W1.heap[b]? = some o) /\
     body.wpIn (FW (some l)) m P (λe _ W'=>((∀ (b:Nat) (o:Obj),W.heap[b]? = some o->Odd o->b≠l->W'.heap[b]? = some o)/\W'.heap[l]? = some (.loop { lr with state:=.busy })) /\
      ((e = .normal/\∃ M',I (k+1) M' W'/\W.heap.size<=W'.heap.size/\∀ b,b<W.heap.size->¬M b->¬M' b/\(b≠l->W'.heap[b]? = W.heap[b]?))∨(e = .ret/\K W'))) a1 (W1.putObj l (.loop { lr with state:=.busy }))) (λ_ _ _=>False))
    { tmps:=a.tmps.setIfInBounds p u,defers:=[] } W)
  (hdone:∀ (D:Nat) (M:Nat->Prop) (W:World),w.heap.size<=D->I els.length M W->W.heap[D]? = some (.deferred (some []))->Q .normal { a with defers:=coll D::a.defers } W)
  (hstop:∀ (D:Nat) (W:World),w.heap.size<=D->K W->W.heap[D]? = some (.deferred (some []))->Q .ret { a with defers:=coll D::a.defers } W) :
  (Code.rangeFunc g #[p] assign body).wpIn (FW none) n P Q a w:=by
 refine wpIn_rangeFunc ?_;intro fn hfn;obtain ⟨rec,hrec⟩ : ∃ rec:LoopState->Option Code->Loop,rec=λst pe=>{ state:=st,pending:=pe,fn,tmps:=a.tmps,params:=#[p],assign,body,defers:=w.heap.size }:=⟨_,rfl⟩
 obtain ⟨W1,hW1⟩ : ∃ W1,(w.alloc (.deferred (some []))).alloc (.loop (rec .ready none))=W1:=⟨_,rfl⟩;have hE1:Ext w W1:=by rw[<- hW1];exact (Ext.refl w).al.al
 have hL1:W1.heap[w.heap.size+1]? = some (.loop (rec .ready none)):=by
  rw[<- hW1];have:=World.alloc_heap_new (w.alloc (.deferred (some []))) (.loop (rec .ready none));rwa [World.size_alloc]at this
 have hK1:W1.heap[w.heap.size]? = some (.deferred (some [])):=by
  rw[<- hW1];exact (Below.heap_alloc _ _ _ (by simp)).trans (World.alloc_heap_new w _)
 have hI1:I 0 M0 W1:=hIe _ _ _ _ h0 hE1;have hC1:CP M0 W1 caps lb:=⟨hcaps.1,λi x u hx hu=>(hcaps.2 i x u hx hu).mono (λb hb hM=>⟨hM,hE1.block b hb⟩) hE1.size⟩
 refine ⟨w.heap.size+1,[{ target:=.collected w.heap.size,args:=#[] }],W1,{ target:=.fn (.func gf) lb,args:=#[.func (.yield (w.heap.size+1)) #[] #[]] },W1,gf,
  #[.func (.yield (w.heap.size+1)) #[] #[]]++lb,W1,?_,?_,λ_ _=>trivial,?_,Z24,?_⟩
 . rw[<- hW1,hrec];exact run_enterLoop_outer _ _ _ _ _
 . simp only[resolve,hg];simp[go_sem]
 . simp[invoke,go_sem,Z1W hit.1]
 . have stay : ∀ {A B:World} {b:Nat} {o:Obj},Ext A B->A.heap[b]? = some o->B.heap[b]? = some o:=λh hb=>(h.block _ (Array.getElem?_eq_some_iff.1 hb).1).trans hb
   refine (hit.2 (n-1) (w.heap.size+1) lb
    (λk M W=>I k M W/\W.heap[w.heap.size+1]? = some (.loop (rec .ready none))/\W.heap[w.heap.size]? = some (.deferred (some [])))
    (λW=>K W/\W.heap[w.heap.size+1]? = some (.loop (rec .done (some .ret)))/\W.heap[w.heap.size]? = some (.deferred (some [])))
    M0 W1 (by omega) (λk M A B h e=>⟨hIe k M A B h.1 e,stay e h.2.1,stay e h.2.2⟩) (λA B h e=>⟨hKe A B h.1 e,stay e h.2.1,stay e h.2.2⟩) (λk M A h=>(hIM k M A h.1).1) (λk M A h=>hIG k M A h.1) hC1 ?_ ⟨hI1,hL1,hK1⟩).mono ?_
   . rintro k x u M W ⟨hi,hl,hk⟩ hr hus;have hls:w.heap.size+1<W.heap.size:=(Array.getElem?_eq_some_iff.1 hl).1;have hy:=run_yield (P:=P) (args:=#[u]) hl (by rw[hrec];rfl);rw[hrec]at hy
     have hfold:(#[p].zip #[u]).foldl (λt (x:Nat×Value)=>match x with|(p,v)=>t.setIfInBounds p v) a.tmps=a.tmps.setIfInBounds p u:=by
      rw[<- Array.foldl_toList,Array.toList_zip];rfl
     have hy:(Instr.yield (w.heap.size+1) #[u]).run P W = .ok (.round (w.heap.size+1) fn (a.tmps.setIfInBounds p u) assign body) W:=(by rw[<- hfold];exact hy);refine ⟨fn,_,assign,body,hy,roundIn_of_wpIn hfn (wpIn_mono (hround (w.heap.size+1) k _ x u M W _ (by omega) hi hl hr hus) ?_)⟩;rintro e a1 W2 hp
     cases e with
     | normal =>
       obtain ⟨hodd0,hp⟩:=hp;have hl2:=hodd0 _ _ hl trivial;have hk2:=hodd0 _ _ hk trivial;have hls2:w.heap.size+1<W2.heap.size:=(Array.getElem?_eq_some_iff.1 hl2).1;refine ⟨_,run_beginRound hl2 (by rw[hrec]),wpIn_mono hp ?_⟩;rintro e a3 W3 ⟨⟨hodd,hl3⟩,hp3⟩;have hd3:=hodd _ _ hk trivial (by omega);have hls3:=(Array.getElem?_eq_some_iff.1 hl3).1
       have fin:∀ jump:Option Code,(W3.putObj (w.heap.size+1) (.loop (rec (if jump.isNone then .ready else .done) jump))).heap[w.heap.size+1]? = some (.loop (rec (if jump.isNone then .ready else .done) jump)) /\
         (W3.putObj (w.heap.size+1) (.loop (rec (if jump.isNone then .ready else .done) jump))).heap[w.heap.size]? = some (.deferred (some [])):=λjump =>
        ⟨World.putObj_heap_same hls3,(World.putObj_heap_other (by omega)).trans hd3⟩
       rcases hp3 with ⟨rfl,M',hi3,hsz3,hs3⟩ | ⟨rfl,hk3⟩
       . have hr3:=run_endRound (P:=P) none hl3;have f1:=fin none;rw[hrec]at hr3 f1;refine ⟨_,_,hr3,.inl ⟨rfl,M',⟨hIo _ _ _ _ _ _ (by omega) hi3 hl3,?_,f1.2⟩,by simpa using hsz3,λb hb hM=>⟨(hs3 b hb hM).1,?_⟩⟩⟩
         . rw[hrec];exact f1.1
         . by_cases e:b=w.heap.size+1
           . subst e;rw[hl,hrec];exact f1.1
           . rw[World.putObj_heap_other e];exact (hs3 b hb hM).2 e
       . have hr3:=run_endRound (P:=P) (some .ret) hl3;have f1:=fin (some .ret);rw[hrec]at hr3 f1;refine ⟨_,_,hr3,.inr ⟨rfl,hKo _ _ _ _ (by omega) hk3 hl3,?_,f1.2⟩⟩;rw[hrec];exact f1.1
     |_=>exact hp.elim
   . rintro e W2 ⟨⟨v,rfl⟩,⟨M,hi,hl,hk⟩ | ⟨hi,hl,hk⟩⟩
     . exact ⟨none,_,by have:=run_endLoop (P:=P) hl (by rw[hrec];simp);rw[hrec]at this;exact this,hdone _ M _ (Nat.le_refl _) (hIo _ _ _ _ _ _ (by omega) hi hl) ((World.putObj_heap_other (by omega)).trans hk)⟩
     . exact ⟨some .ret,_,by have:=run_endLoop (P:=P) hl (by rw[hrec];simp);rw[hrec]at this;exact this,wpIn_ret (hstop _ _ (Nat.le_refl _) (hKo _ _ _ _ (by omega) hi hl) ((World.putObj_heap_other (by omega)).trans hk))⟩
section
variable {P:Program} {R:Run} {st:St} {a:Act} {W:World} {κ:Nat->Option (Nat×Nat)}
theorem Zk6 {g:RA} {p gf:Nat} {assign body:RCode} {Φ:Exit->St->Prop} {caps els:List AV} (hrd:R.Top) (hit:IterG P R.G gf caps els) (hg:evA R.G st g = .func (.func gf) [] caps) (hp:caps.all AV.pure=true)
  (ok:Nat->Bool) (hok:∀ k,ok k=true->k<1000) (ρ:Nat->Nat) (t0:List (Nat×AV)) (objs outs:Nat->List (Nat×AObj)) (Iv:Nat->Prop) (hI0:Iv 0) (hK:∀ k,∀ q∈objs k,1000<=q.1) (hinj:∀ k,((objs k).map λq=>ρ q.1).Nodup) (hinj2:∀ k,((outs k).map λq=>ρ q.1).Nodup)
  (hsub:∀ k,∀ q∈objs k,isK (outs k) q.1=true) (hnew:∀ k,∀ q∈outs k,isK (objs k) q.1=true∨(Ym ρ (objs k) st).get (ρ q.1)=none) (hnext:∀ k,Ym ρ (outs k) st=Ym ρ (objs (k+1)) st)
  (h0:Ym ρ (objs 0) st=st) (hin:∀ k,∀ q∈objs k,Yd (objs k) q.2=true)
  (ht0:∀ q∈t0,lk st.t q.1=some (q.2.ren ρ)/\q.1≠p/\∀ j,∀ k∈q.2.keys,isK (objs j) k=true)
  (hround:∀ (k:Nat) (x:AV),els[k]? = some x->Iv k->∀ R':Run,R'.G=R.G->R'.N=R.N->AR P R' assign ⟨(p,x)::t0,objs k⟩ λe s1=>e = .normal/\∀ R'':Run,R''.G=R.G->R''.N=R.N ->
   AR P R'' body s1 (λe s2=>e = .normal/\(Yj ok s2).o=outs k/\Iv (k+1)))
  (hdone:Iv els.length->Φ .normal (Ym ρ (objs els.length) st)):AR P R (.rngf g [p] assign body) st Φ:=by
 intro c hc m a W hs
 cases c <;> simp only[Z1A,Bool.false_eq_true,Bool.and_eq_true,beq_iff_eq]at hc
 rename_i g' ps' ca cb;obtain ⟨⟨⟨⟨hcg,hps⟩,hpn⟩,hca⟩,hcb⟩:=hc;have hpn:p<R.N:=(by simpa using hpn);obtain rfl:ps' = #[p]:=(by rw[<- Array.toList_inj];exact hps);rw[hrd.1];refine wpFW.2 ((wpFW (n:=3)).1 ?_);obtain ⟨κ0,hs⟩:=hs;obtain ⟨S,hS⟩ : ∃ S:Nat->St,S=λk=>Ym ρ (objs k) st:=⟨_,rfl⟩
 have hSt:∀ k,(S k).t=st.t:=λk=>by rw[hS];exact Z4X ρ _ _
 have nod:∀ k,((objs k).map λp=>ρ p.1).Nodup:=hinj
 have memK:∀ {o:List (Nat×AObj)} {q:Nat},isK o q=true->∃ x,(q,x)∈o:=λ{o q} h=>by
  obtain ⟨x,h1⟩:=Option.isSome_iff_exists.1 h;exact ⟨x,Z4E h1⟩
 have injK:∀ {o:List (Nat×AObj)},(o.map λp=>ρ p.1).Nodup->∀ q q',isK o q=true->isK o q'=true->ρ q=ρ q'->q=q':=λ{o} hn q q' h1 h2 e=>by
  have m1:=Z50.1 h1;have m2:=Z50.1 h2;have:(o.map (·.1)).map ρ=o.map (λp=>ρ p.1):=(by simp[List.map_map,Function.comp_def]);rw[<- this]at hn;exact Z51 hn m1 m2 e
 have hevg:∀ k,evA R.G (S k) g = .func (.func gf) [] caps:=λk=>by
  rw[<- hg]
  cases g <;> simp only[evA,St.tmp,hSt]
 have hv0:=hs.ev hcg;rw[hg]at hv0;obtain ⟨us0,lb,hav,hus0,hlb0⟩:=hv0.func_inv
 obtain rfl:us0 = #[]:=by
  have:=hus0.1;rw[<- Array.toList_inj];exact List.length_eq_zero_iff.1 (by simpa using this)
 have hcaps:∀ k W κ,SK R (S k) a W κ->CP ((S k).env R.M κ).M W caps lb:=λk W κ h=>by
  have h1:=h.ev hcg;rw[hevg,hav]at h1;obtain ⟨us1,lb1,h2,-,h3⟩:=h1.func_inv;simp only[Value.func.injEq]at h2;obtain ⟨-,-,rfl⟩:=h2;exact ⟨by simpa using h3.1,λi x u hx hu=>(h3.2 i x u hx (by simpa using hu)).toPV (List.all_eq_true.1 hp x (List.mem_of_getElem? hx))⟩
 obtain ⟨cs0,e0,nd0,hc0,-⟩:=hs.defers
 have marks:∀ (D:Nat) (st1:St) (W1:World) (κ1:Nat->Option (Nat×Nat)),W.heap.size<=D->SK R st1 a W1 κ1->W1.heap[D]? = some (.deferred (some []))->SK R st1 { a with defers:=coll D::a.defers } W1 κ1:=λD st1 W1 κ1 hD h hd=>by
  obtain ⟨cs1,e1,nd1,hc1,-⟩:=h.defers;obtain rfl:cs1=cs0:=Z53 (List.append_cancel_right (e1.symm.trans e0));refine h.odd ⟨rfl,λb=>.inl rfl⟩ rfl rfl rfl (λb _=>rfl) rfl ⟨D::cs1,by simp[e1],List.nodup_cons.2 ⟨λhm=>?_,nd1⟩,λc hm=>?_,λe=>by rw[hrd.2]at e;cases e⟩
  . have:=(Array.getElem?_eq_some_iff.1 (hc0 D hm).2).1;omega
  . rcases List.mem_cons.1 hm with rfl|hm
    . exact ⟨Nat.le_trans hs.kp.size hD,hd⟩
    . exact hc1 c hm
 have put:∀ (l:Nat) (st1:St) (W1:World) (κ1:Nat->Option (Nat×Nat)) (r r':Loop),W.heap.size<=l->SK R st1 a W1 κ1->W1.heap[l]? = some (.loop r)->SK R st1 a (W1.putObj l (.loop r')) κ1:=λl st1 W1 κ1 r r' hl h hr=>by
  obtain ⟨cs1,e1,nd1,hc1,hz1⟩:=h.defers;have:=hs.kp.size;refine h.odd (.put hr trivial) rfl rfl rfl (λb hb=>World.putObj_heap_other (by omega)) rfl ⟨cs1,e1,nd1,λc hm=>⟨(hc1 c hm).1,?_⟩,hz1⟩;rw[World.putObj_heap_other (by rintro rfl;have:=(hc1 _ hm).2;rw[hr]at this;cases this)];exact (hc1 c hm).2
 have hs0:SK R (S 0) a W κ0:=by rw[hS];show SK R (Ym ρ (objs 0) st) a W κ0;rw[h0];exact hs
 refine Zk5 (I:=λk M W'=>∃ κ,(M=((S k).env R.M κ).M/\Iv k)/\SK R (S k) a W' κ) (K:=λW'=>∃ s κ,Φ .ret s/\SK R s a W' κ) (M0:=((S 0).env R.M κ0).M) (caps:=caps) (els:=els) hav hit (by omega) (λk M A B h e=>h.imp λκ h=>⟨h.1,h.2.grow e⟩) (λA B ⟨s,κ,h1,h2⟩ e=>⟨s,κ,h1,h2.grow e⟩)
  (λk l M W' r r' hl ⟨κ,hM,h⟩ hr=>⟨κ,hM,put l _ _ _ r r' hl h hr⟩) (λl W' r r' hl ⟨s,κ,h1,h⟩ hr=>⟨s,κ,h1,put l _ _ _ r r' hl h hr⟩) (λk M A ⟨κ,⟨hM,_⟩,h⟩=>?_) (λk M A ⟨κ,⟨hM,_⟩,h⟩=>hM ▸ h.gr) (hcaps 0 W κ0 hs0) ⟨κ0,⟨rfl,hI0⟩,hs0⟩ ?_ ?_ ?_
 . subst hM;refine ⟨λb hb=>h.owned_lt hb,λb o hb ho hodd hM=>?_⟩;rcases hM with hM | ⟨q,s,hq⟩
   . have:=h.low b hM;have:=hs.kp.size;omega
   . exact h.notOdd hq ho hodd
 . intro l k m x u M W1 lr hl hI hlr hx hxu;obtain ⟨κ,⟨rfl,hIk⟩,h⟩:=hI
   have enterAt:∀ W',SK R (S k) a W' κ->SK (rC (objs k) ρ R (S k) κ W') (obSt (objs k)) noAct W' (kC (objs k) ρ κ)/\∀ (x:AV) (v:Value),inK (objs k) x->VR ((S k).env R.M κ) W' (x.ren ρ) v->VR ((obSt (objs k)).env (mC (objs k) ρ R (S k) κ) (kC (objs k) ρ κ)) W' x v:=λW' h =>
    Z4U h (λq hq=>by obtain ⟨x,hx⟩:=memK hq;exact hK k _ hx) (injK (hinj k)) (λq o hq=>by rw[hS];exact Z4Z ρ _ _ q o (nod k) hq)
     (λq o hq=>by
      have h2:=hin k (q,o) (Z4E hq);have kept:∀ x,Ya (objs k) x=true->inK (objs k) x:=λx hx k' hk'=>List.all_eq_true.1 hx k' hk'
      cases o with
      |box cells=>exact λx hx=>kept x (List.all_eq_true.1 h2 x hx)
      |row sz rows=>exact λr hr x hx=>kept x (List.all_eq_true.1 (List.all_eq_true.1 h2 r hr) x hx)
      | mp kvs =>
        intro p hp;have:=List.all_eq_true.1 h2 p hp;simp only[Bool.and_eq_true]at this;exact ⟨kept _ this.1,kept _ this.2⟩)
   obtain ⟨h1,conv⟩:=enterAt W1 h
   have hXo:∀ W',SK R (S k) a W' κ->∀ b,(rC (objs k) ρ R (S k) κ W').X b->∀ o,W'.heap[b]? = some o->¬Odd o:=λW' h b ⟨q,s,hq⟩ o ho hodd=>by
    simp only[kC]at hq
    split at hq
    . exact h.notOdd hq ho hodd
    . cases hq
   have hMM:∀ b,((obSt (objs k)).env (mC (objs k) ρ R (S k) κ) (kC (objs k) ρ κ)).M b->((S k).env R.M κ).M b:=λb hb=>by
    rcases hb with hb | ⟨q,s,hq⟩
    . exact hb.1
    . simp only[kC]at hq
      split at hq
      . exact .inr ⟨ρ q,s,hq⟩
      . cases hq
   let R1:Run:={ rC (objs k) ρ R (S k) κ W1 with N:=R.N,rd:=some l }
   have hN:R.N=a.tmps.size:=h.size.symm
   have start:SK R1 ⟨(p,x)::t0,objs k⟩ { tmps:=a.tmps.setIfInBounds p u,defers:=[] } W1 (kC (objs k) ρ κ):=by
    refine ⟨.nil _ _ _ _,by show (a.tmps.setIfInBounds p u).size=R.N;simp[hN],λn y hy=>?_,h1.obj,h1.dom,h1.inj,h1.low,h1.apart,h1.kp,h1.gr,h1.mono,h1.ent⟩;have hy:lk ((p,x)::t0) n=some y:=hy;show VR ((obSt (objs k)).env (mC (objs k) ρ R (S k) κ) (kC (objs k) ρ κ)) W1 y ((a.tmps.setIfInBounds p u).getD n Go.undef);simp only[lk]at hy
    split at hy
    . rename_i e;subst e;obtain rfl:x=y:=(by simpa using hy);have hlt:p<a.tmps.size:=(by rw[<- hN];exact hpn);have e:(a.tmps.setIfInBounds p u).getD p Go.undef=u:=(by simp[Array.getD,hlt]);rw[e];exact .pv (hxu.mono (λb _ hb=>⟨λhb'=>hb (hMM b hb'),rfl⟩) (Nat.le_refl _))
    . rename_i e
      have e2:(a.tmps.setIfInBounds p u).getD n Go.undef=a.tmps.getD n Go.undef:=by
       simp only[Array.getD_eq_getD_getElem?,Array.getElem?_setIfInBounds,if_neg e]
      rw[e2];obtain ⟨g1,g2,g3⟩:=ht0 (n,y) (Z4E hy);have g4:=h.tm n (y.ren ρ) (by show lk (S k).t n=_;rw[hSt];exact g1);exact conv y _ (λq hq=>g3 k q hq) g4
   refine wpIn_mono (hround k x hx hIk R1 rfl rfl ca hca m _ W1 ⟨_,start⟩) ?_;rintro e a1 W2 ⟨s1,⟨rfl,hbody⟩,κ1,h2⟩;refine ⟨λb o hb ho=>h2.keepOdd (hXo W1 h) hb ho,?_⟩;have hl2:W2.heap[l]? = some (.loop lr):=h2.keepOdd (hXo W1 h) hlr trivial;have h3:=SK.both rfl h2 (o':=.loop { lr with state:=.busy }) hl2 hlr;have hb:=put l _ W1 κ lr { lr with state:=.busy } hl h hlr;refine wpIn_mono (hbody { R1 with W0:=W1.putObj l (.loop { lr with state:=.busy }) } rfl rfl cb hcb m _ _ ⟨_,h3⟩) ?_;rintro e a2 W3 ⟨s2,hrnd,hs2⟩
   have hodd:∀ κ2,SK { R1 with W0:=W1.putObj l (.loop { lr with state:=.busy }) } s2 a2 W3 κ2->(∀ (b:Nat) (o:Obj),W1.heap[b]? = some o->Odd o->b≠l->W3.heap[b]? = some o)/\W3.heap[l]? = some (.loop { lr with state:=.busy }):=λκ2 h4 =>
    ⟨λb o hb1 ho hne=>h4.keepOdd (hXo _ hb) ((World.putObj_heap_other hne).trans hb1) ho,
     h4.keepOdd (hXo _ hb) (o:=.loop { lr with state:=.busy }) (World.putObj_heap_same (Array.getElem?_eq_some_iff.1 hlr).1) trivial⟩
   have leave:(Yj ok s2).o=outs k->∃ κ3,SK R (Ym ρ (outs k) st) a W3 κ3/\Mono ((S k).env R.M κ) (W1.putObj l (.loop { lr with state:=.busy })) ((Ym ρ (outs k) st).env R.M κ3) W3:=λhe=>by
    obtain ⟨κ2,h4⟩:=Yn.frz ok s2 (λk hk=>by
     cases e:ok k
     . rfl
     . have:=hok k e;omega) _ a2 W3 hs2
    have g:=h4.sub (t':=[]) (λn x hx=>by simp[lk]at hx);have e:({ Yj ok s2 with t:=[] }:St)=obSt (outs k):=(by rw[<- he];rfl);rw[e]at g
    have g2:SK (rC (objs k) ρ R (S k) κ (W1.putObj l (.loop { lr with state:=.busy }))) (obSt (outs k)) noAct W3 κ2 :=
     ⟨.nil _ _ _ _,rfl,λn x hx=>by simp[obSt,St.tmp,lk]at hx,g.obj,g.dom,g.inj,g.low,g.apart,g.kp,g.gr,g.mono,g.ent⟩
    obtain ⟨κ3,h5,h6,-⟩:=Z5e hb (objs':=outs k) (st1:=Ym ρ (outs k) st) (injK (hinj2 k)) (λq o hq=>by rw[hS];exact Z4Z ρ _ _ q o (nod k) hq)
     (λq hq=>by obtain ⟨x,hx⟩:=memK hq;exact hsub k _ hx)
     (λq h1 h2=>by
      obtain ⟨x,hx⟩:=memK h1;rcases hnew k _ hx with h3|h3
      . rw[h2]at h3;cases h3
      . rw[hS];exact h3) g2 ((Z4X ρ _ _).trans (hSt k).symm) (λq o hq=>Z4Z ρ _ _ q o (hinj2 k) hq)
     (λj hj=>by
      have o1:(Ym ρ (outs k) st).get j=st.get j:=Z4Y ρ j _ _ λq hq=>hj q.1 (Z50.2 (List.mem_map.2 ⟨q,hq,rfl⟩))
      have o2:(Ym ρ (objs k) st).get j=st.get j:=Z4Y ρ j _ _ λq hq=>hj q.1 (hsub k q hq)
      rw[hS];exact o1.trans o2.symm)
    exact ⟨κ3,h5,h6⟩
   obtain ⟨κ2,h4⟩:=id hs2;refine ⟨hodd κ2 h4,?_⟩;obtain ⟨rfl,hro,hri⟩:=hrnd;obtain ⟨κ3,h5,h6⟩:=leave hro;rw[hnext k]at h5 h6;refine .inl ⟨rfl,_,⟨κ3,⟨rfl,hri⟩,by rw[hS];exact h5⟩,by have:=h6.size;simpa using this,λb hb1 hM=>?_⟩;obtain ⟨g1,g2⟩:=h6.imm b (by simpa using hb1) hM;exact ⟨by rw[hS];exact g1,λhne=>g2.trans (World.putObj_heap_other hne)⟩
 . rintro D M W1 hD ⟨κ,⟨-,hIk⟩,h⟩ hd;refine ⟨_,?_,κ,marks D _ _ _ hD h hd⟩;rw[hS];exact hdone hIk
 . rintro D W1 hD ⟨s,κ,h1,h⟩ hd;exact ⟨s,h1,κ,marks D _ _ _ hD h hd⟩
end
def aqR (k:Nat):Nat:=if 1000<=k then k-1000 else k
def slT (L:List Stq) (k:Nat):List (List AV):=(L.take k).map sa
def aqB (L:List Stq) (k:Nat):List (Nat×AObj):=if k=0 then [(1002,.box [.nils])] else [(1002,.box [.osl 1011 k]),(1011,.row 6 (slT L k))]
def aqU (L:List Stq) (k:Nat):List (Nat×AObj):=if k=0 then [(1002,.box [.osl 11 1]),(11,.row 6 (slT L 1))] else [(1002,.box [.osl 1011 (k+1)]),(1011,.row 6 (slT L (k+1)))]
theorem Zk7 (ρ:Nat->Nat) (L:List Stq):(AObj.row 6 (L.map sa)).ren ρ = .row 6 (L.map sa):=by
 simp only[AObj.ren,List.map_map]
 congr 2
 funext p;simp[sa,AV.ren]
theorem Zk8 (ρ:Nat->Nat) (xs:List AV):(AObj.box xs).ren ρ = .box (xs.map (AV.ren ρ)):=rfl
theorem Zk9 (ok:Nat->Bool) (st:St) (L:List Stq):frzO ok st (.row 6 (L.map sa)) = .row 6 (L.map sa):=by
 simp only[frzO,List.map_map]
 congr 2
 funext p;simp[sa,frzA,frz,AV.keys]
theorem Zka (ρ:Nat->Nat) (L:List Stq) (k:Nat):(AObj.row 6 (slT L k)).ren ρ = .row 6 (slT L k):=Zk7 ρ _
theorem Zkb (ok:Nat->Bool) (st:St) (L:List Stq) (k:Nat):frzO ok st (.row 6 (slT L k)) = .row 6 (slT L k):=Zk9 ok st _
theorem Zkc (o:List (Nat×AObj)) (L:List Stq) (k:Nat):Yd o (.row 6 (slT L k))=true:=Zi8 o _
theorem Zkd {L:List Stq} {k:Nat} (h:k<=L.length):(slT L k).length=k:=by simp[slT];omega
section
variable {G:Nat->Option (List AV)}
set_option maxHeartbeats 1000000 in
theorem Zke (gf:Nat) (caps:List AV) (L:List Stq) (hp:caps.all AV.pure=true) (hit:IterG Tryz.prog G gf caps (L.map λx=>.agg (sa x))) (hl:L.length<=100) :
  PC Tryz.prog G 85 [.nils,.func (.func gf) [] caps] (Yh (L.map sa)):=by
 refine Z8g rfl λR hG hrd=>?_
 subst hG;refine Qga ?_;simp -implicitDefEqProofs[Z8e,Z8f];have tl:∀ k,k<=L.length->(L.take k).length=k:=λk h=>by simp;omega
 refine Zk6 hrd hit (by simp[evA,St.tmp,lk]) hp (λk=>k == 5) (by intro k hk;simp at hk;omega) aqR [(2,.ptr 1002 0)] (aqB L) (aqU L) (λk=>k<=L.length) (Nat.zero_le _)
  ?_ ?_ ?_ ?_ ?_ ?_ ?_ ?_ ?_ ?_ ?_
 . intro k q hq;unfold aqB at hq
   split at hq <;> simp at hq <;> (try rcases hq with rfl|rfl) <;> simp_all
 . intro k;unfold aqB
   split <;> simp[aqR]
 . intro k;unfold aqU
   split <;> simp[aqR]
 . intro k q hq;unfold aqB at hq;unfold aqU;by_cases c:k=0
   . rw[if_pos c]at hq ⊢;simp at hq;subst hq;simp[isK,lk]
   . rw[if_neg c]at hq ⊢;simp at hq;rcases hq with rfl|rfl <;> simp[isK,lk]
 . intro k q hq;unfold aqU at hq;unfold aqB;by_cases c:k=0
   . rw[if_pos c]at hq ⊢;simp at hq;rcases hq with rfl|rfl
     . exact .inl (by simp[isK,lk])
     . exact .inr (by simp[Ym,aqR,St.get,St.set,putO,lk])
   . rw[if_neg c]at hq ⊢;simp at hq;rcases hq with rfl|rfl <;> exact .inl (by simp[isK,lk])
 . intro k;unfold aqU aqB;by_cases c:k=0
   . subst c;simp[Ym,aqR,Zk8,Zka,AV.ren]
   . rw[if_neg c,if_neg (by omega)]
 . simp[aqB,Ym,aqR,St.set,putO,AObj.ren,AV.ren]
 . intro k q hq;unfold aqB at hq ⊢;by_cases c:k=0
   . rw[if_pos c]at hq ⊢;simp at hq;subst hq;simp[Yd,Ya,AV.keys]
   . rw[if_neg c]at hq ⊢;simp at hq;rcases hq with rfl|rfl
     . simp[Yd,Ya,AV.keys,lk]
     . exact Zkc _ _ _
 . intro q hq;simp at hq;subst hq;refine ⟨by simp[lk,AV.ren,aqR],by simp,λj k hk=>?_⟩;simp[AV.keys]at hk;subst hk;unfold aqB
   split <;> simp[isK,lk]
 . intro k x hx hk R' hG hN;obtain ⟨hkl,hxe⟩:=List.getElem?_eq_some_iff.1 hx;have hkl:k<L.length:=(by simpa using hkl);have hxe:x = .agg (sa L[k]):=(by rw[<- hxe];simp);subst hxe;have tk:=List.take_succ_eq_append_getElem hkl;have tlk:=Zkd (L:=L) (k:=k) (by omega);have bb:=sixB k (by omega);have hsa:sa L[k]=[.int .i64 L[k].fd,.int .i64 L[k].fl,.int .i64 L[k].td,.int .i64 L[k].tl,.int .i64 L[k].nu,.bool L[k].nt]:=rfl;have e1:slT L (k+1)=slT L k++[[.int .i64 L[k].fd,.int .i64 L[k].fl,.int .i64 L[k].td,.int .i64 L[k].tl,.int .i64 L[k].nu,.bool L[k].nt]]:=(by unfold slT;rw[tk,List.map_append];rfl);refine Qga ?_;by_cases c:k=0
   . subst c;simp only[aqB,aqU,if_true];simp -implicitDefEqProofs[hsa];intro R'' hG'' hN'';refine Qga ?_;simp -implicitDefEqProofs[hsa];have e0:slT L 1=[[.int .i64 L[0].fd,.int .i64 L[0].fl,.int .i64 L[0].td,.int .i64 L[0].tl,.int .i64 L[0].nu,.bool L[0].nt]]:=(by rw[show slT L 0=[] from rfl,List.nil_append]at e1;exact e1);refine ⟨?_,by omega⟩;rw[e0];simp[Yj,frzO,frzA,frz,AV.keys]
   . simp only[aqB,aqU,c,if_false];simp -implicitDefEqProofs[hsa];intro R'' hG'' hN'';refine Qga ?_;simp -implicitDefEqProofs[hsa,tlk,bb];refine ⟨?_,by omega⟩;rw[<- e1];simp[Yj,ZhA,Zkb,frzA,frz,AV.keys]
 . intro _;have hll:(List.map (λx=>AV.agg (sa x)) L).length=L.length:=(by simp);rw[hll];unfold aqB;by_cases c:L.length=0
   . have e:L=[]:=List.length_eq_zero_iff.1 c;rw[if_pos c];simp -implicitDefEqProofs[Ym,AObj.ren,AV.ren,aqR];refine Qgr ?_;simp -implicitDefEqProofs[e,Yh]
   . have e:¬L=[]:=λh=>c (by rw[h];rfl)
     have eL:slT L L.length=L.map sa:=(by unfold slT;rw[List.take_length]);rw[if_neg c,eL];simp -implicitDefEqProofs[Ym,Zk7,Zk8,AV.ren,aqR];refine Qgr ?_;simp -implicitDefEqProofs[e,Yh,sa]
end
section
variable {G:Nat->Option (List AV)}
theorem Zkf (gf:Nat) (caps:List AV) (L:List Stq) (hp:caps.all AV.pure=true) (hit:IterG Tryz.prog G gf caps (L.map λx=>.agg (sa x))) (hl:L.length<=100) :
  PC Tryz.prog G 55 [.func (.func gf) [] caps] (Yh (L.map sa)):=by
 have ha:=Zke (G:=G) gf caps L hp hit hl;have pL:=Zf4 (l:=L.map sa) (by simp[sa,AV.pure]);have sL:=λok st n=>Zf6 (L.map sa) ok st n
 generalize Yh (L.map sa)=V at *
 (refine Z8d rfl λR hG hrd=>Qga ?_;subst hG)
 have hp2:∀ x∈caps,x.pure=true:=List.all_eq_true.1 hp;simp -implicitDefEqProofs[Z8b,Z8c];refine Ye.of ha (by simpa [AV.pure] using hp2) ?_;simp -implicitDefEqProofs[pL,sL]
theorem Zkg (r:List Iss) (l:List Nte) (q:List Rul) (s:List Int) (m day:Int):PC Tryz.prog G 56 [.agg (moC r l q s m day)] (.func (.func 86) [] [.vptr (moC r l q s m day) 0]):=by
 have pS:(Yl r l q).pure=true:=(by unfold Yl rfA;split <;> simp[AV.pure,isa,na,ra,rfa]);obtain ⟨cs,eS⟩ : ∃ cs,Yl r l q = .vptr cs 0:=⟨_,rfl⟩;rw[eS]at pS;unfold moC;rw[eS]
 (refine Z83 rfl λR hG hrd=>Qga ?_;subst hG)
 simp -implicitDefEqProofs[Z81,Z82,pS]
theorem Zkh (hG:GC G) (hN:GN G) (r:List Iss) (l:List Nte) (q:List Rul) (s:List Int) (m day:Int) (hw:WfN l) (hr:Wf r) (hq:Sml q) (hs:Sml s)
  (hit:chS r l q=0->truB l s=true->IterG Tryz.prog G 86 [.vptr (moC r l q s m day) 0] ((st5 r l q s m day).map λx=>.agg (sa x))) (hl:chS r l q=0->(st5 r l q s m day).length<=100) :
  PC Tryz.prog G 19 [swa r l q,.vsl (s.map ia),.int .i64 m,.int .i64 day] (stA r l q s m day):=by
 have ha:=ZiK hG hN r l q s m day day hw hr hq hs;unfold moA swa at ha
 (refine Z8m rfl λR hG hrd=>Qga ?_;subst hG)
 unfold stA stE;by_cases h0:aqN r l q s m day day=0
 . have hz:=Zi9 h0;have pS:(Yl r l q).pure=true:=(by unfold Yl rfA;split <;> simp[AV.pure,isa,na,ra,rfa]);have pM:(AV.vptr (moC r l q s m day) 0).pure=true:=(by simp[AV.pure,moC,pS]);have hc:=Zkf (G:=R.G) _ _ _ (by simpa using pM) (hit hz.1 hz.2.1) (hl hz.1);have hf:=Zkg (G:=R.G) r l q s m day;have sS:=λok st n=>Zf6 ((st5 r l q s m day).map sa) ok st n
   rw[if_pos h0,h0]at ha;rw[if_pos h0];have pS2:=pS;obtain ⟨cs,eS⟩ : ∃ cs,Yl r l q = .vptr cs 0:=⟨_,rfl⟩;unfold moC at *;rw[eS]at ha hc hf pS pM;simp -implicitDefEqProofs[Z8k,Z8l,swa];refine Qco (ha) (by simp) ?_;simp -implicitDefEqProofs[];refine Ye.of hf (by simp[AV.pure]at pS ⊢;try simp[pS]) ?_;simp -implicitDefEqProofs[];refine Ye.of hc (by simp[AV.pure]at pS ⊢;try simp[pS]) ?_;simp -implicitDefEqProofs[sS]
 . rw[if_neg h0]at ha;rw[if_neg h0];simp -implicitDefEqProofs[Z8k,Z8l,swa];refine Qco (ha) (by simp) ?_;simp -implicitDefEqProofs[h0,Yh]
end
def Zki (G:Nat->Option (List AV)) (M:Nat->Prop) (W:World) (N:Nat) (rd:Option Nat):Run :=
 { G:=G,M:=M,X:=λ_=>False,W0:=W,N:=N,E0:={ M:=M,loc:=λ_=>none,row:=λ_=>none },rd:=rd,nm:=true }
theorem Zkj {G:Nat->Option (List AV)} {M:Nat->Prop} {W:World} {N:Nat} {rd:Option Nat} {t:List (Nat×AV)} {a:Act} (hgr:GR G M W) (hM:∀ b,M b->b<W.heap.size) (hd:a.defers=[]) (hN:a.tmps.size=N) (ht:TT' M W t a):SR (Zki G M W N rd) ⟨t,[]⟩ a W:=by
 have hGM:∀ b,b<W.heap.size->¬M b->¬((⟨t,[]⟩ : St).env M (λ_=>none)).M b/\W.heap[b]? = W.heap[b]?:=λb _ h1=>⟨(by rintro (h2 | ⟨k,s,h2⟩) <;> first|exact h1 h2|cases h2),rfl⟩
 refine ⟨λ_=>none,⟨[],by simp[hd,Zki],.nil,by simp,λ_=>rfl⟩,hN,λn x hx=>.pv ((ht n x hx).mono hGM (Nat.le_refl _)),(λk o ho=>by simp[St.get,lk]at ho),(λk p hk=>by cases hk),(λk k' b s s' hk=>by cases hk),hM,λ_ _ h=>h,Kp.refl _ _,(hgr.mono hGM (Nat.le_refl _)),⟨Nat.le_refl _,hGM,λk p hk=>(by cases hk),λk sz m hk=>(by cases hk)⟩,λ_ _=>⟨rfl,rfl⟩⟩
theorem endG {G:Nat->Option (List AV)} {M:Nat->Prop} {W W':World} {N:Nat} {rd:Option Nat} {st:St} {a:Act} (h:SR (Zki G M W N rd) st a W') {t:List (Nat×AV)} (hw:Yn st ⟨t,[]⟩) (hp:∀ q∈t,q.2.pure=true) :
  a.defers=[]/\a.tmps.size=N/\TT' M W' t a/\Ext W W':=by
 obtain ⟨κ,hk⟩:=hw _ _ _ h;obtain ⟨cs,e,-,-,hz⟩:=hk.defers
 have hκ:∀ k,κ k=none:=λk=>by
  cases e:κ k with
  |none=>rfl
  |some p=>obtain ⟨o,ho⟩:=hk.dom k p e;simp[St.get,lk]at ho
 refine ⟨by rw[e,hz rfl];rfl,hk.size,λn x hx=>?_,⟨hk.kp.os,hk.kp.tape,hk.kp.output,hk.kp.size,λi hi=>hk.kp.block i hi (λh=>h)⟩⟩;refine ((hk.tm n x hx).toPV (hp (n,x) (Z4E hx))).mono (λb _ hb=>⟨λh=>hb (.inl h),rfl⟩) (Nat.le_refl _)
def lpB:RCode->RCode
 |.loop b=>b
 |c=>c
def K2s:List AV:=[.func (.func 182) [] [],.func (.func 183) [] []]
def GQ (G:Nat->Option (List AV)):Prop:=G 0=some K2s
def ouT (mo:List AV) (l i:Nat):List (Nat×AV):=[(8,.int .i64 i),(7,.agg K2s),(1,.vptr mo 0),(0,.func (.yield l) [] [])]
def inT (mo:List AV) (L:List Stq) (l i j:Nat):List (Nat×AV):=(16,.int .i64 j)::(15,.int .i64 L.length)::(14,Yh (L.map sa))::ouT mo l i
def rcO:RCode:=lpB (issBk (ZcH Z84))
def rcO3:RCode:=ZcH (ZcH rcO)
def rcB1:RCode:=issBk (issA rcO3)
def rcI:RCode:=lpB (issBk (ZcH (ZcH rcB1)))
def rcI3:RCode:=ZcH (ZcH rcI)
def rcB3:RCode:=issBk (issA rcI3)
section
variable {G:Nat->Option (List AV)}
set_option maxHeartbeats 2000000 in
theorem Zkk (hQ:GQ G) (mo:List AV) (hmo:∀ x∈mo,x.pure=true) (hml:mo.length=4) (Ls:Nat->List Stq) (hl:∀ i,(Ls i).length<=100)
  (h0:PC Tryz.prog G 182 [.agg mo] (Yh ((Ls 0).map sa))) (h1:PC Tryz.prog G 183 [.agg mo] (Yh ((Ls 1).map sa))) :
  IterG Tryz.prog G 86 [.vptr mo 0] ((Ls 0++Ls 1).map λx=>.agg (sa x)):=by
 refine ⟨by kernel_rfl,?_⟩;intro n' l lb J K M W hn hJe hKe hJM hJG hC hY hJ0;obtain ⟨off,hoff⟩ : ∃ off:Nat->Nat,off=λi=>if i=0 then 0 else if i=1 then (Ls 0).length else (Ls 0).length+(Ls 1).length:=⟨_,rfl⟩
 obtain ⟨c,hc,hok⟩ : ∃ c,Tryz.f86.body=some c/\Z1A Tryz.prog Tryz.f86.ntmps c Z84=true:=⟨_,rfl,by kernel_rfl⟩;obtain ⟨N,hN⟩ : ∃ N,N=Tryz.f86.ntmps:=⟨_,rfl⟩;have hN3:3<=N:=(by rw[hN];decide);rw[<- hN]at hok;refine callsIn_of_wp (F:=Fence.wide) Tryz.func86 hc trivial ?_ rfl
 have hres:∀ (tm:Array Value) (W':World),(results Tryz.f86 tm).run Tryz.prog W' = .ok (.tuple #[]) W':=λtm W'=>by
  have e:Tryz.f86.results = #[]:=rfl;simp[results,e,Sem.run_bind]
 obtain ⟨tot,htot⟩ : ∃ tot,tot=((Ls 0++Ls 1).map λx=>AV.agg (sa x)).length:=⟨_,rfl⟩;rw[<- htot];have htot2:tot=(Ls 0).length+(Ls 1).length:=(by rw[htot];simp);obtain ⟨Q,hQd⟩ : ∃ Q,Q=bodyPost Tryz.prog Tryz.f86 (λe W'=>(∃ v,e = .returned v)/\((∃ M,J tot M W')∨K W')):=⟨_,rfl⟩
 have hfin:∀ (a:Act) (W':World),a.defers=[]->((∃ M,J tot M W')∨K W')->Q .ret a W'/\Q .normal a W':=λa W' hd h=>by
  rw[hQd];exact ⟨⟨hd,_,hres _ _,⟨_,rfl⟩,h⟩,⟨hd,_,hres _ _,⟨_,rfl⟩,h⟩⟩
 rw[<- hQd];have hwide:Fence.wide=FW none:=rfl;rw[hwide];obtain ⟨cA,c1,rfl,okA',ok1⟩:=Zct (a:=issA Z84) (b:=ZcH Z84) hok;obtain ⟨c3,rfl,ok3⟩:=Zcu (id:=0) (a:=issBk (ZcH Z84)) ok1;obtain ⟨c4,rfl,ok4⟩:=Zcv (a:=rcO) ok3
 have hv:∃ v1,lb = #[v1]/\PV M W (.vptr mo 0) v1:=by
  obtain ⟨q1,q2⟩:=hC
  match lb,q1,q2 with
  | ⟨[v1]⟩,_,q2=>exact ⟨v1,rfl,q2 0 _ v1 rfl rfl⟩
 obtain ⟨v1,rfl,hv1⟩:=hv
 have start:SR (Zki G M W N none) ⟨[(1,.vptr mo 0),(0,.func (.yield l) [] [])],[]⟩ { tmps:=(#[.func (.yield l) #[] #[]] ++ #[v1]:Array Value)++Array.replicate (N-2) Go.undef,defers:=[] } W:=by
  refine Zkj (hJG 0 M W hJ0) (hJM 0 M W hJ0) rfl (by simp;omega) λk x hx=>?_
  have g0:((#[.func (.yield l) #[] #[]] ++ #[v1]:Array Value)++Array.replicate (N-2) Go.undef).getD 0 Go.undef = .func (.yield l) #[] #[]:=(by simp[Array.getD]);have g1:((#[.func (.yield l) #[] #[]] ++ #[v1]:Array Value)++Array.replicate (N-2) Go.undef).getD 1 Go.undef=v1:=(by simp[Array.getD];omega);simp only[lk]at hx
  split at hx
  . rename_i e;subst e;cases hx;rw[g1];exact hv1
  . split at hx
    . rename_i e;subst e;cases hx;rw[g0];exact .func _ [] [] #[] #[] rfl rfl (by simp) (by simp)
    . cases hx
 have hact:({ tmps:=(#[.func (.yield l) #[] #[]] ++ #[v1]:Array Value)++Array.replicate (Tryz.f86.ntmps-(#[.func (.yield l) #[] #[]] ++ #[v1]:Array Value).size) Go.undef,defers:=[] }:Act)={ tmps:=(#[.func (.yield l) #[] #[]] ++ #[v1]:Array Value)++Array.replicate (N-2) Go.undef,defers:=[] }:=(by rw[hN];rfl);rw[hact];have pm:(AV.vptr mo 0).pure=true:=by simp[AV.pure]
 have arA:AR Tryz.prog (Zki G M W N none) (issA Z84) ⟨[(1,.vptr mo 0),(0,.func (.yield l) [] [])],[]⟩ (λe s=>e = .normal/\Yn s ⟨ouT mo l 0,[]⟩):=by
  refine Qga ?_;unfold GQ at hQ;simp -implicitDefEqProofs[issA,Z84,Zki,hQ,K2s,ouT];exact (by (first|exact Yn.tm (by simp[lk])|exact Yn.sub (by simp[lk,Ya,AV.keys]) (by simp[lk,Yd,Ya,AV.keys])))
 refine wpIn_seq (wpIn_mono (arA cA okA' _ _ W start) ?_);rintro e a2 W2 ⟨s2,⟨rfl,hw2⟩,hs2⟩;obtain ⟨d2,n2,t2,e2⟩:=endG hs2 hw2 (by simp[ouT,K2s,AV.pure]);have hJ2:=hJe _ _ _ _ hJ0 e2;refine wpIn_block ?_;refine wpIn_loop_ghost (λm a A=>∃ i M,i<=2/\m=2-i/\J (off i) M A/\a.defers=[]/\a.tmps.size=N/\TT' M A (ouT mo l i) a) 2 ⟨0,M,by omega,rfl,by rw[hoff];exact hJ2,d2,n2,t2⟩ ?_;rintro m a A ⟨i,M,hi,rfl,hJ,hd,hn2,ht⟩;have hfr:SR (Zki G M A N none) ⟨ouT mo l i,[]⟩ a A:=Zkj (hJG _ M A hJ) (hJM _ M A hJ) hd hn2 ht;have kO:off 2=tot:=(by rw[hoff,htot2];simp);by_cases hlt:i<2
 case neg =>
  obtain rfl:i=2:=by omega
  have ar:AR Tryz.prog (Zki G M A N none) rcO ⟨ouT mo l 2,[]⟩ (λe s=>e = .exit 0/\Yn s ⟨[],[]⟩):=by
   refine Qga ?_;simp -implicitDefEqProofs[rcO,lpB,issBk,ZcH,Z84,ouT];exact (by (first|exact Yn.tm (by simp[lk])|exact Yn.sub (by simp[lk,Ya,AV.keys]) (by simp[lk,Yd,Ya,AV.keys])))
  refine wpIn_mono (ar c4 ok4 _ a A hfr) ?_;rintro e a3 A3 ⟨s3,⟨rfl,hw3⟩,hs3⟩;obtain ⟨d3,-,-,e3⟩:=endG hs3 hw3 (by simp);refine (hfin a3 A3 d3 (.inl ⟨M,?_⟩)).2;rw[<- kO];exact hJe _ _ _ _ hJ e3
 obtain ⟨r1,q1,rfl,okr1,okq1⟩:=Zct (a:=issA rcO) (b:=ZcH rcO) ok4;obtain ⟨k1,q2,rfl,okk1,okq2⟩:=Zct (a:=issA (ZcH rcO)) (b:=rcO3) okq1;obtain ⟨q3,r8,rfl,okq3,okr8⟩:=Zct (a:=issA rcO3) (b:=ZcH rcO3) okq2;obtain ⟨q4,rfl,okq4⟩:=Zcu (id:=1) (a:=rcB1) okq3;obtain ⟨r2,q5,rfl,okr2,okq5⟩:=Zct (a:=issA rcB1) (b:=ZcH rcB1) okq4;obtain ⟨r3,q6,rfl,okr3,okq6⟩:=Zct (a:=issA (ZcH rcB1)) (b:=ZcH (ZcH rcB1)) okq5;obtain ⟨q7,rfl,okq7⟩:=Zcu (id:=2) (a:=issBk (ZcH (ZcH rcB1))) okq6;obtain ⟨cI,rfl,okI⟩:=Zcv (a:=rcI) okq7;have i01:i=0∨i=1:=by omega
 have ar1:AR Tryz.prog (Zki G M A N none) (issA rcO) ⟨ouT mo l i,[]⟩ (λe s=>e = .normal/\Yn s ⟨(9,.bool true)::ouT mo l i,[]⟩):=by
  have:(i:Int)<2:=(by omega);refine Qga ?_;simp -implicitDefEqProofs[rcO,lpB,issA,issBk,ZcH,Z84,ouT,this];exact (by (first|exact Yn.tm (by simp[lk,K2s])|exact Yn.sub (by simp[lk,Ya,AV.keys,K2s]) (by simp[lk,Yd,Ya,AV.keys,K2s])))
 refine wpIn_seq (wpIn_mono (ar1 r1 okr1 _ a A hfr) ?_);rintro e b1 B1 ⟨s1,⟨rfl,w1⟩,hs1⟩
 have ark:AR Tryz.prog (Zki G M A N none) (issA (ZcH rcO)) ⟨(9,.bool true)::ouT mo l i,[]⟩ (λe s=>e = .normal/\Yn s ⟨ouT mo l i,[]⟩):=by
  refine Qga ?_;simp -implicitDefEqProofs[rcO,lpB,issA,issBk,ZcH,Z84,ouT];exact (by (first|exact Yn.tm (by simp[lk,K2s])|exact Yn.sub (by simp[lk,Ya,AV.keys,K2s]) (by simp[lk,Yd,Ya,AV.keys,K2s])))
 refine wpIn_seq (wpIn_mono (ark k1 okk1 _ b1 B1 (w1 _ _ _ hs1)) ?_);rintro e b2 B2 ⟨s2,⟨rfl,w2⟩,hs2⟩;refine wpIn_seq (wpIn_block ?_)
 have ar2:AR Tryz.prog (Zki G M A N none) (issA rcB1) ⟨ouT mo l i,[]⟩ (λe s=>e = .normal/\Yn s ⟨(4,.ptr 4 0)::ouT mo l i,[(4,.box [K2s.getD i .nilf])]⟩):=by
  refine Qga ?_;rcases i01 with rfl|rfl
  all_goals
   simp -implicitDefEqProofs[rcB1,rcO3,rcO,lpB,issA,issBk,ZcH,Z84,ouT,K2s];exact (by (first|exact Yn.tm (by simp[lk])|exact Yn.sub (by simp[lk,Ya,AV.keys]) (by simp[lk,Yd,Ya,AV.keys])))
 refine wpIn_seq (wpIn_mono (ar2 r2 okr2 _ b2 B2 (w2 _ _ _ hs2)) ?_);rintro e b3 B3 ⟨s3,⟨rfl,w3⟩,hs3⟩
 have ar3:AR Tryz.prog (Zki G M A N none) (issA (ZcH rcB1)) ⟨(4,.ptr 4 0)::ouT mo l i,[(4,.box [K2s.getD i .nilf])]⟩ (λe s=>e = .normal/\Yn s ⟨inT mo (Ls i) l i 0,[]⟩):=by
  have pL:=Zf4 (l:=(Ls i).map sa) (by simp[sa,AV.pure]);have kL:=Zf5 ((Ls i).map sa);refine Qga ?_
  match mo,hml,hmo with
  | [x1,x2,x3,x4],_,hmo =>
    rcases i01 with rfl|rfl
    . simp -implicitDefEqProofs[rcB1,rcO3,rcO,lpB,issA,issBk,ZcH,Z84,ouT,K2s,Zki];refine Ye.of h0 (by simpa [AV.pure] using hmo) ?_;by_cases c:Ls 0=[]
      . simp -implicitDefEqProofs[Yh,c];simp only[inT,ouT,Yh,c]
        ((try simp only[K2s]);refine Yn.sub (by simp[lk,Ya,AV.keys,K2s]) ?_;simp only[K2s,Wkl,and_true];(try simp[lk,Yd,Ya,AV.keys,K2s]))
      . have ev:Yh ((Ls 0).map sa) = .vsl ((Ls 0).map sa):=(by simp[Yh,c]);simp -implicitDefEqProofs[ev];simp only[inT,ouT,ev]
        ((try simp only[K2s]);refine Yn.sub (by simp[lk,Ya,AV.keys,K2s]) ?_;simp only[K2s,Wkl,and_true];(try simp[lk,Yd,Ya,AV.keys,K2s]))
    . simp -implicitDefEqProofs[rcB1,rcO3,rcO,lpB,issA,issBk,ZcH,Z84,ouT,K2s,Zki];refine Ye.of h1 (by simpa [AV.pure] using hmo) ?_;by_cases c:Ls 1=[]
      . simp -implicitDefEqProofs[Yh,c];simp only[inT,ouT,Yh,c]
        ((try simp only[K2s]);refine Yn.sub (by simp[lk,Ya,AV.keys,K2s]) ?_;simp only[K2s,Wkl,and_true];(try simp[lk,Yd,Ya,AV.keys,K2s]))
      . have ev:Yh ((Ls 1).map sa) = .vsl ((Ls 1).map sa):=(by simp[Yh,c]);simp -implicitDefEqProofs[ev];simp only[inT,ouT,ev]
        ((try simp only[K2s]);refine Yn.sub (by simp[lk,Ya,AV.keys,K2s]) ?_;simp only[K2s,Wkl,and_true];(try simp[lk,Yd,Ya,AV.keys,K2s]))
 refine wpIn_seq (wpIn_mono (ar3 r3 okr3 _ b3 B3 (w3 _ _ _ hs3)) ?_);rintro e b4 B4 ⟨s4,⟨rfl,w4⟩,hs4⟩
 have pI:∀ j,∀ p∈inT mo (Ls i) l i j,p.2.pure=true:=λj p hp=>by
  have pL:=Zf4 (l:=(Ls i).map sa) (by simp[sa,AV.pure]);simp only[inT,ouT,List.mem_cons,List.not_mem_nil,or_false]at hp;rcases hp with rfl|rfl|rfl|rfl|rfl|rfl|rfl <;> simp[AV.pure,pL,K2s]
 obtain ⟨d4,n4,t4,e4⟩:=endG hs4 w4 (pI 0);have hJ4:=hJe _ _ _ _ hJ e4;clear hs1 hs2 hs3 hs4 w1 w2 w3 w4 ar1 ar2 ar3 ark start hact;refine wpIn_block ?_;refine wpIn_loop_ghost (λm a A=>∃ j M,j<=(Ls i).length/\m=(Ls i).length-j/\J (off i+j) M A/\a.defers=[]/\a.tmps.size=N/\TT' M A (inT mo (Ls i) l i j) a) (Ls i).length ⟨0,M,Nat.zero_le _,rfl,hJ4,d4,n4,t4⟩ ?_;clear hJ4 d4 n4 t4 e4;rintro m5 a5 A5 ⟨j,M5,hj,rfl,hJ5,hd5,hn5,ht5⟩;have hfr5:SR (Zki G M5 A5 N none) ⟨inT mo (Ls i) l i j,[]⟩ a5 A5:=Zkj (hJG _ M5 A5 hJ5) (hJM _ M5 A5 hJ5) hd5 hn5 ht5;have kN:off i+(Ls i).length=off (i+1):=by rw[hoff];rcases i01 with rfl|rfl <;> simp
 by_cases hj2:j<(Ls i).length
 case neg =>
  obtain rfl:j=(Ls i).length:=by omega
  have ar:AR Tryz.prog (Zki G M5 A5 N none) rcI ⟨inT mo (Ls i) l i (Ls i).length,[]⟩ (λe s=>e = .exit 2/\Yn s ⟨ouT mo l i,[]⟩):=by
   refine Qga ?_;simp -implicitDefEqProofs[rcI,rcB1,rcO3,rcO,lpB,issA,issBk,ZcH,Z84,inT,ouT];exact (by (first|exact Yn.tm (by simp[lk,K2s])|exact Yn.sub (by simp[lk,Ya,AV.keys,K2s]) (by simp[lk,Yd,Ya,AV.keys,K2s])))
  refine wpIn_mono (ar cI okI _ a5 A5 hfr5) ?_;rintro e a6 A6 ⟨s6,⟨rfl,w6⟩,hs6⟩
  have ar8:AR Tryz.prog (Zki G M5 A5 N none) (ZcH rcO3) ⟨ouT mo l i,[]⟩ (λe s=>e = .normal/\Yn s ⟨ouT mo l (i+1),[]⟩):=by
   have w1:IntKind.i64.wrap ((i:Int)+1)=((i+1:Nat):Int):=Yg (by omega) (by omega);refine Qga ?_;simp -implicitDefEqProofs[rcO3,rcO,lpB,issA,issBk,ZcH,Z84,ouT,w1];exact (by (first|exact Yn.tm (by simp[lk,K2s])|exact Yn.sub (by simp[lk,Ya,AV.keys,K2s]) (by simp[lk,Yd,Ya,AV.keys,K2s])))
  refine wpIn_mono (ar8 r8 okr8 _ a6 A6 (w6 _ _ _ hs6)) ?_;rintro e a7 A7 ⟨s7,⟨rfl,w7⟩,hs7⟩;obtain ⟨d7,n7,t7,e7⟩:=endG hs7 w7 (by simp[ouT,K2s,AV.pure]);rw[kN]at hJ5;exact ⟨2-(i+1),by omega,i+1,M5,by omega,rfl,hJe _ _ _ _ hJ5 e7,d7,n7,t7⟩
 obtain ⟨x,hx⟩ : ∃ x,x=(Ls i)[j]:=⟨_,rfl⟩;have hLj:(Ls i)[j]=x:=hx.symm;have hne:¬Ls i=[]:=λh=>by rw[h]at hj2;simp at hj2
 have ev:Yh ((Ls i).map sa) = .vsl ((Ls i).map sa):=(by simp[Yh,hne]);have hsa:sa x=[.int .i64 x.fd,.int .i64 x.fl,.int .i64 x.td,.int .i64 x.tl,.int .i64 x.nu,.bool x.nt]:=rfl
 have helt:((Ls 0++Ls 1).map λx=>AV.agg (sa x))[off i+j]? = some (.agg (sa x)):=by
  rw[hoff];rcases i01 with rfl|rfl
  . simp only[if_true,Nat.zero_add,List.getElem?_map];rw[List.getElem?_append_left hj2,List.getElem?_eq_getElem hj2,hLj];rfl
  . have eo:(if (1:Nat)=0 then 0 else if (1:Nat)=1 then (Ls 0).length else (Ls 0).length+(Ls 1).length)=(Ls 0).length:=rfl;show (List.map (λx=>AV.agg (sa x)) (Ls 0++Ls 1))[(if (1:Nat)=0 then 0 else if (1:Nat)=1 then (Ls 0).length else (Ls 0).length+(Ls 1).length)+j]? = _;rw[eo,List.getElem?_map,List.getElem?_append_right (by omega),Nat.add_sub_cancel_left,List.getElem?_eq_getElem hj2,hLj];rfl
 obtain ⟨p1,u1,rfl,okp1,oku1⟩:=Zct (a:=issA rcI) (b:=ZcH rcI) okI;obtain ⟨kk,u2,rfl,okkk,oku2⟩:=Zct (a:=issA (ZcH rcI)) (b:=rcI3) oku1;obtain ⟨u3,r7,rfl,oku3,okr7⟩:=Zct (a:=issA rcI3) (b:=ZcH rcI3) oku2;obtain ⟨u4,rfl,oku4⟩:=Zcu (id:=3) (a:=rcB3) oku3;obtain ⟨r5,u5,rfl,okr5,oku5⟩:=Zct (a:=issA rcB3) (b:=ZcH rcB3) oku4;obtain ⟨r6,k2,rfl,okr6,okk2⟩:=Zct (a:=issA (ZcH rcB3)) (b:=ZcH (ZcH rcB3)) oku5;obtain ⟨ops,rfl,hops⟩:=Zcw (id:=6) (rs:=ZcI (issA (ZcH rcB3))) okr6;obtain ⟨hol,hoo⟩:=Zc hops;have hol:ops.size=4:=hol
 have ar4:AR Tryz.prog (Zki G M5 A5 N none) (issA rcI) ⟨inT mo (Ls i) l i j,[]⟩ (λe s=>e = .normal/\Yn s ⟨(17,.bool true)::inT mo (Ls i) l i j,[]⟩):=by
  refine Qga ?_;simp -implicitDefEqProofs[rcB3,rcI3,rcI,rcB1,rcO3,rcO,lpB,issA,issBk,ZcH,Z84,inT,ouT,ev,hj2];exact (by (first|exact Yn.tm (by simp[lk,K2s])|exact Yn.sub (by simp[lk,Ya,AV.keys,K2s]) (by simp[lk,Yd,Ya,AV.keys,K2s])))
 refine wpIn_seq (wpIn_mono (ar4 p1 okp1 _ a5 A5 hfr5) ?_);rintro e b1 B1 ⟨s1,⟨rfl,w1⟩,hs1⟩
 have ark:AR Tryz.prog (Zki G M5 A5 N none) (issA (ZcH rcI)) ⟨(17,.bool true)::inT mo (Ls i) l i j,[]⟩ (λe s=>e = .normal/\Yn s ⟨inT mo (Ls i) l i j,[]⟩):=by
  refine Qga ?_;simp -implicitDefEqProofs[rcB3,rcI3,rcI,rcB1,rcO3,rcO,lpB,issA,issBk,ZcH,Z84,inT,ouT,ev];exact (by (first|exact Yn.tm (by simp[lk,K2s])|exact Yn.sub (by simp[lk,Ya,AV.keys,K2s]) (by simp[lk,Yd,Ya,AV.keys,K2s])))
 refine wpIn_seq (wpIn_mono (ark kk okkk _ b1 B1 (w1 _ _ _ hs1)) ?_);rintro e b2 B2 ⟨s2,⟨rfl,w2⟩,hs2⟩;refine wpIn_seq (wpIn_block ?_)
 have ar5:AR Tryz.prog (Zki G M5 A5 N none) (issA rcB3) ⟨inT mo (Ls i) l i j,[]⟩ (λe s=>e = .normal/\Yn s ⟨(6,.ptr 6 0)::inT mo (Ls i) l i j,[(6,.box (sa x))]⟩):=by
  refine Qga ?_;simp -implicitDefEqProofs[rcB3,rcI3,rcI,rcB1,rcO3,rcO,lpB,issA,issBk,ZcH,Z84,inT,ouT,ev,hj2,hLj,hsa];exact (by (first|exact Yn.tm (by simp[lk,K2s])|exact Yn.sub (by simp[lk,Ya,AV.keys,K2s]) (by simp[lk,Yd,Ya,AV.keys,K2s])))
 refine wpIn_seq (wpIn_mono (ar5 r5 okr5 _ b2 B2 (w2 _ _ _ hs2)) ?_);rintro e b3 B3 ⟨s3,⟨rfl,w3⟩,hs3⟩;have hs3:=w3 _ _ _ hs3;clear hs1 hs2 w1 w2 w3 ar4 ark ar5;refine wpIn_seq (wpIn_region ?_);have hrg:List.range ops.size=[0,1]++[2,3]:=(by rw[hol];rfl);rw[hrg]
 have okAt:∀ (k:Nat) (r:ROper),(ZcI (issA (ZcH rcB3)))[k]? = some r->∃ o,ops[k]? = some o/\Z1z Tryz.prog N ops o r=true:=λk r hk=>by
  have hlt:k<ops.size:=by
   have:=(List.getElem?_eq_some_iff.1 hk).1;rw[hol];exact this
  exact ⟨ops[k],by simp[hlt],hoo k _ r (by simp[hlt]) hk⟩
 refine Zcx (R:=Zki G M5 A5 N none) [2,3] _ ((ZcI (issA (ZcH rcB3))).take 2) ⟨(6,.ptr 6 0)::inT mo (Ls i) l i j,[(6,.box (sa x))]⟩
  (λs=>Yn s ⟨(21,.agg (sa x))::(20,.func (.yield l) [] [])::inT mo (Ls i) l i j,[]⟩) b3 B3 ?_ rfl ?_ ?_ hs3
 . intro k r hk;rw[List.getElem?_take]at hk
   split at hk
   . rename_i h7;obtain ⟨o,h1,h2⟩:=okAt k r hk;refine ⟨k,o,?_,h1,h2⟩
     match k,h7 with
     |0,_|1,_=>rfl
   . cases hk
 . intro s4 b4 B4 w4 hs4;obtain ⟨κ4,hk4⟩:=w4 _ _ _ hs4
   obtain ⟨d4,n4,t4,e4⟩:=endG hs4 w4 (λp hp=>by
    rcases List.mem_cons.1 hp with rfl|hp
    . simp[AV.pure,sa]
    . rcases List.mem_cons.1 hp with rfl|hp
      . simp[AV.pure]
      . exact pI j p hp)
   obtain ⟨o2,ho2,hk2⟩:=okAt 2 _ rfl;rw[wpOpsIn_cons];refine ZcB (R:=Zki G M5 A5 N none) (l:=l) (f:=.t 20) (y:=.t 21) rfl (by simp[evA,St.tmp,lk]) (by simp[wants]) ho2 hk2 hk4 λu hu=>?_
   have hpu:PV M5 B4 (.agg (sa x)) u:=by
    have h21:evA (Zki G M5 A5 N none).G ⟨(21,.agg (sa x))::(20,.func (.yield l) [] [])::inT mo (Ls i) l i j,[]⟩ (.t 21) = .agg (sa x):=(by simp[evA,St.tmp,lk]);rw[h21]at hu;exact (hu.toPV (by simp[AV.pure,sa])).mono (λb _ hb=>⟨λh=>hb (.inl h),rfl⟩) (Nat.le_refl _)
   have hdst:o2.dst=some 22:=by
    simp only[Z1z,Bool.and_eq_true,decide_eq_true_eq]at hk2;exact hk2.1.1.1
   have suffix:∀ (b:Bool) (T:List (Nat×AV)) (G':Nat->Option (List AV)) (M':Nat->Prop) (A':World),GR G' M' A'->(T=inT mo (Ls i) l i j∨T=[])->(∀ x,M' x->x<A'.heap.size)->TT' M' A' T b4->∀ (Qx:Exit->Act->World->Prop),
     (∀ a5 A5,SR (Zki G' M' A' N none) ⟨(23,.bool (!b))::T,[]⟩ a5 A5->Qx .normal a5 A5)->wpOpsIn (FW none) n' Tryz.prog ops Qx [3] (b4.put (some 22) (.bool b)) A':=by
    intro b T G' M' A' hGR hTT hM' hT Qx hQx;have n22:22<N:=by rw[hN];decide
    have hsr:SR (Zki G' M' A' N none) ⟨(22,.bool b)::T,[]⟩ (b4.put (some 22) (.bool b)) A':=by
     refine Zkj hGR hM' d4 (by simpa [Act.put] using n4) λk x hx=>?_
     show PV M' A' x ((b4.tmps.setIfInBounds 22 (.bool b)).getD k Go.undef);simp only[lk]at hx
     split at hx
     . rename_i e;subst e
       cases hx
       have:(b4.tmps.setIfInBounds 22 (.bool b)).getD 22 Go.undef = .bool b:=(by simp[Array.getD,n4,n22]);rw[this];exact .bool b
     . rename_i e
       have h3:(b4.tmps.setIfInBounds 22 (.bool b)).getD k Go.undef=b4.tmps.getD k Go.undef:=by
        simp only[Array.getD_eq_getD_getElem?,Array.getElem?_setIfInBounds,if_neg e]
       rw[h3];exact hT k x hx
    refine Z27 (R:=Zki G' M' A' N none) [3] ((ZcI (issA (ZcH rcB3))).drop 3) ⟨(22,.bool b)::T,[]⟩
     (λe s=>e = .normal/\Yn s ⟨(23,.bool (!b))::T,[]⟩) Qx _ A' ?_ rfl ?_ ?_ hsr
    . intro k r hk;rw[List.getElem?_drop]at hk;obtain ⟨o,h1,h2⟩:=okAt (3+k) r hk
      have h7:k<1:=by
       have:=(List.getElem?_eq_some_iff.1 hk).1;have e:(ZcI (issA (ZcH rcB3))).length=4:=rfl;omega
      refine ⟨3+k,o,?_,h1,h2⟩
      match k,h7 with
      |0,_=>rfl
    . rintro e s5 a5 A5 ⟨rfl,w5⟩ hs5;exact hQx a5 A5 (w5 _ _ _ hs5)
    . rcases hTT with rfl|rfl <;> cases b
      all_goals
       simp -implicitDefEqProofs[rcB3,rcI3,rcI,rcB1,rcO3,rcO,lpB,issA,issBk,ZcH,Z84,inT,ouT,ZcI,ev];exact (by (first|exact Yn.tm (by simp[lk,K2s])|exact Yn.sub (by simp[lk,Ya,AV.keys,K2s]) (by simp[lk,Yd,Ya,AV.keys,K2s])))
   obtain ⟨fn,tm,asg,bo,y1,y2⟩:=hY (off i+j) _ u M5 B4 (hJe _ _ _ _ hJ5 e4) helt hpu;refine ⟨fn,tm,asg,bo,y1,y2.mono ?_⟩;rintro e A' (⟨rfl,M',hJ',hSi⟩ | ⟨rfl,hK'⟩)
   . show wpOpsIn (FW none) n' Tryz.prog ops _ [3] (b4.put o2.dst (.bool true)) A';rw[hdst]
     have hT':TT' M' A' (inT mo (Ls i) l i j) b4:=λk x hx=>by
      refine (t4 k x ?_).mono hSi.2 hSi.1;simp only[lk];rw[if_neg (by rintro rfl;simp[inT,ouT,lk]at hx),if_neg (by rintro rfl;simp[inT,ouT,lk]at hx)];exact hx
     refine suffix true _ G M' A' (hJG _ _ _ hJ') (.inl rfl) (hJM _ _ _ hJ') hT' _ λa5 A5 h5=>?_
     have ark2:AR Tryz.prog (Zki G M' A' N none) (ZcH (ZcH rcB3)) ⟨(23,.bool (!true))::inT mo (Ls i) l i j,[]⟩ (λe s=>e = .normal/\Yn s ⟨inT mo (Ls i) l i j,[]⟩):=by
      refine Qga ?_;simp -implicitDefEqProofs[rcB3,rcI3,rcI,rcB1,rcO3,rcO,lpB,issA,issBk,ZcH,Z84,inT,ouT,ev];exact (by (first|exact Yn.tm (by simp[lk,K2s])|exact Yn.sub (by simp[lk,Ya,AV.keys,K2s]) (by simp[lk,Yd,Ya,AV.keys,K2s])))
     refine wpIn_mono (ark2 k2 okk2 _ a5 A5 h5) ?_;rintro e b6 B6 ⟨s6,⟨rfl,w6⟩,hs6⟩
     have ar7:AR Tryz.prog (Zki G M' A' N none) (ZcH rcI3) ⟨inT mo (Ls i) l i j,[]⟩ (λe s=>e = .normal/\Yn s ⟨inT mo (Ls i) l i (j+1),[]⟩):=by
      have hli:=hl i;have w1:IntKind.i64.wrap ((j:Int)+1)=((j+1:Nat):Int):=Yg (by omega) (by omega);refine Qga ?_;simp -implicitDefEqProofs[rcB3,rcI3,rcI,rcB1,rcO3,rcO,lpB,issA,issBk,ZcH,Z84,inT,ouT,ev,w1];exact (by (first|exact Yn.tm (by simp[lk,K2s])|exact Yn.sub (by simp[lk,Ya,AV.keys,K2s]) (by simp[lk,Yd,Ya,AV.keys,K2s])))
     refine wpIn_mono (ar7 r7 okr7 _ b6 B6 (w6 _ _ _ hs6)) ?_;rintro e b7 B7 ⟨s7,⟨rfl,w7⟩,hs7⟩;obtain ⟨d7,n7,t7,e7⟩:=endG hs7 w7 (pI (j+1));exact ⟨(Ls i).length-(j+1),by omega,j+1,M',by omega,rfl,hJe _ _ _ _ hJ' e7,d7,n7,t7⟩
   . show wpOpsIn (FW none) n' Tryz.prog ops _ [3] (b4.put o2.dst (.bool false)) A';rw[hdst];refine suffix false [] (λ_=>none) (λ_=>False) A' (λg cs hg=>by cases hg) (.inr rfl) (λ_ h=>h.elim) (λk x hx=>by simp[lk]at hx) _ λa5 A5 h5=>?_
     have ark2:AR Tryz.prog (Zki (λ_=>none) (λ_=>False) A' N none) (ZcH (ZcH rcB3)) ⟨[(23,.bool (!false))],[]⟩ (λe s=>e = .ret/\Yn s ⟨[],[]⟩):=by
      refine Qga ?_;simp -implicitDefEqProofs[rcB3,rcI3,rcI,rcB1,rcO3,rcO,lpB,issA,issBk,ZcH,Z84,inT,ouT];exact (by (first|exact Yn.tm (by simp[lk])|exact Yn.sub (by simp[lk,Ya,AV.keys]) (by simp[lk,Yd,Ya,AV.keys])))
     refine wpIn_mono (ark2 k2 okk2 _ a5 A5 h5) ?_;rintro e b6 B6 ⟨s6,⟨rfl,w6⟩,hs6⟩;obtain ⟨d6,-,-,e6⟩:=endG hs6 w6 (by simp);exact (hfin b6 B6 d6 (.inr (hKe _ _ hK' e6))).1
 . simp -implicitDefEqProofs[rcB3,rcI3,rcI,rcB1,rcO3,rcO,lpB,issA,issBk,ZcH,Z84,inT,ouT,ZcI,ev,hsa];exact (by (first|exact Yn.tm (by simp[lk,K2s])|exact Yn.sub (by simp[lk,Ya,AV.keys,K2s]) (by simp[lk,Yd,Ya,AV.keys,K2s])))
end
theorem Zkl {r:List Iss} {l:List Nte} {q:List Rul} {s:List Int} {m day:Int} (h:chS r l q=0):(st5 r l q s m day).length<=100:=by
 obtain ⟨hN,hR⟩:=ZhY h;have h1:=ZhQ (ZhP hN);have h2:=ZhZ hR;have h3:=Zi6 (stF r l s m day) (dyN day l) (dyN day l).length (Nat.le_refl _);have h4:=Zi7 day q q.length (Nat.le_refl _);have h5:=Zi0 day l;unfold st5;rw[List.length_append];omega
section
variable {G:Nat->Option (List AV)}
theorem Zkm (hG:GC G) (hN:GN G) (hQ:GQ G) (r:List Iss) (l:List Nte) (q:List Rul) (s:List Int) (m day:Int) (hw:WfN l) (hr:Wf r) (hq:Sml q) (hs:Sml s) :
  PC Tryz.prog G 19 [swa r l q,.vsl (s.map ia),.int .i64 m,.int .i64 day] (stA r l q s m day):=by
 refine Zkh hG hN r l q s m day hw hr hq hs (λh ht=>?_) Zkl;obtain ⟨hN0,hR⟩:=ZhY h;have hB:=ZhP hN0;have h12:=ZhQ hB;have h16:=ZhZ hR;have pS:(Yl r l q).pure=true:=(by unfold Yl rfA;split <;> simp[AV.pure,isa,na,ra,rfa]);have hn:=ZiE hG hN r l q s m day hw hr h12 hs (dyK day l) (ZiR day l) ZiT (λh=>ZiU h);have hru:=ZiI (G:=G) r l q s m day h16;have e:=Zj1 (m:=m) (day:=day) h ht;have l1:=Ziw (fcE r (l.take (dyK day l)) (sortI (tnN l s (dyK day l))) m).1 (l.take (dyK day l)) (l.take (dyK day l)).length (Nat.le_refl _);have l2:=ZiH day q q.length (Nat.le_refl _);have l3:(l.take (dyK day l)).length<=12:=(by simp;omega);rw[<- e];generalize nsP (fcE r (l.take (dyK day l)) (sortI (tnN l s (dyK day l))) m).1 (l.take (dyK day l)) (l.take (dyK day l)).length=A at *;generalize rsP day q q.length=B at *;exact Zkk hQ (moC r l q s m day) (by simp[moC,pS,AV.pure]) rfl (λi=>if i=0 then A else B) (λi=>by show (if i=0 then A else B).length<=100;split <;> omega) hn hru
end
theorem Zkn (E:List (Rf×Rf)) (y:Rf):(lnC E y).pure=true:=by simp[lnC,AV.pure,knA]
theorem Zko (E:List (Rf×Rf)) (y:Rf):(lnC E y).keys=[]:=by simp[lnC,AV.keys]
def puN (r:List Iss) (l:List Nte) (q:List Rul) (s:List Int) (m d:Int) (a b:Rf):Int:=if aqN r l q s m d d=0 then if (knB r a.1 a.2&&knB r b.1 b.2)=true then 0 else 6 else aqN r l q s m d d
theorem Zkp {r:List Iss} {l:List Nte} {q:List Rul} {s:List Int} {m d:Int} {a b:Rf} (h:puN r l q s m d a b=0):aqN r l q s m d d=0/\knB r a.1 a.2=true/\knB r b.1 b.2=true:=by
 unfold puN at h
 split at h
 . rename_i h0
   split at h
   . rename_i h1;rw[Bool.and_eq_true]at h1;exact ⟨h0,h1⟩
   . cases h
 . rename_i h0;exact absurd h h0
def rcL (r:List Iss) (L:List Stq) (t:Bool) (x:Rf):List Rf:=(rfs r).filter λy=>!decide (diV (edT t L) x y=1048576)
theorem dlO_V (κ:Nat) (p:Rf->Bool) (l:List Rf) (ok:Nat->Bool) (st:St) (hg:st.get κ=some (.row 2 (dlO p l))) (hk:ok κ=true):Yi ok st 6 (dlV κ p l)=some (.vsl ((l.filter λx=>!p x).map ita)):=by
 have hp:∀ l:List Rf,(l.map ita).all (λr=>r.all AV.pure)=true:=λl=>by simp[ita,AV.pure]
 have hfl:(l.filter λx=>!p x).length<=l.length:=List.length_filter_le _ _;unfold dlV dlO at *
 cases ha:l.any p with
 | true =>
   rw[ha]at hg;simp only[if_true]at hg ⊢;have hlen:((l.filter λx=>!p x).map ita++List.replicate (l.length-(l.filter λx=>!p x).length) zrF).length=l.length:=(by simp;omega);have ht:List.take (l.filter λx=>!p x).length ((l.filter λx=>!p x).map ita++List.replicate (l.length-(l.filter λx=>!p x).length) zrF)=(l.filter λx=>!p x).map ita:=List.take_left' (by simp);simp only[Yi,hg,hk,hlen,and_self,if_true,ht,List.drop_zero,hp]
 | false =>
   rw[ha]at hg;simp only[Bool.false_eq_true,if_false]at hg ⊢
   have e:(l.filter λx=>!p x)=l:=by
    rw[List.filter_eq_self];intro x hx;rw[List.any_eq_false]at ha;simpa using ha x hx
   simp only[Yi,hg,hk,List.length_map,and_self,if_true,hp,e]
section
variable {G:Nat->Option (List AV)}
theorem Zkq (hG:GC G) (hN:GN G) (hQ:GQ G) (r:List Iss) (l:List Nte) (q:List Rul) (s:List Int) (m day:Int) (hw:WfN l) (hr:Wf r) (hq:Sml q) (hs:Sml s) (h:chS r l q=0) (ht:truB l s=true) :
  IterG Tryz.prog G 86 [.vptr (moC r l q s m day) 0] ((st5 r l q s m day).map λx=>.agg (sa x)):=by
 obtain ⟨hN0,hR⟩:=ZhY h;have hB:=ZhP hN0;have h12:=ZhQ hB;have h16:=ZhZ hR;have pS:(Yl r l q).pure=true:=(by unfold Yl rfA;split <;> simp[AV.pure,isa,na,ra,rfa]);have hn:=ZiE hG hN r l q s m day hw hr h12 hs (dyK day l) (ZiR day l) ZiT (λh=>ZiU h);have hru:=ZiI (G:=G) r l q s m day h16;have e:=Zj1 (m:=m) (day:=day) h ht;have l1:=Ziw (fcE r (l.take (dyK day l)) (sortI (tnN l s (dyK day l))) m).1 (l.take (dyK day l)) (l.take (dyK day l)).length (Nat.le_refl _);have l2:=ZiH day q q.length (Nat.le_refl _);have l3:(l.take (dyK day l)).length<=12:=(by simp;omega);rw[<- e];generalize nsP (fcE r (l.take (dyK day l)) (sortI (tnN l s (dyK day l))) m).1 (l.take (dyK day l)) (l.take (dyK day l)).length=A at *;generalize rsP day q q.length=B at *;exact Zkk hQ (moC r l q s m day) (by simp[moC,pS,AV.pure]) rfl (λi=>if i=0 then A else B) (λi=>by show (if i=0 then A else B).length<=100;split <;> omega) hn hru
theorem Zkr (hG:GC G) (hN:GN G) (r:List Iss) (l:List Nte) (q:List Rul) (s:List Int) (m day a1 a2 b1 b2:Int) (hw:WfN l) (hr:Wf r) (hq:Sml q) (hs:Sml s) :
  PC Tryz.prog G 53 [swa r l q,.vsl (s.map ia),.int .i64 m,.int .i64 day,.agg [.int .i64 a1,.int .i64 a2],.agg [.int .i64 b1,.int .i64 b2]]
   (.tup [.agg (if puN r l q s m day (a1,a2) (b1,b2)=0 then moC r l q s m day else [.nilp,.nils,.int .i64 0,.int .i64 0]),.int .i64 (puN r l q s m day (a1,a2) (b1,b2))]):=by
 have ha:=ZiK hG hN r l q s m day day hw hr hq hs;have h1:=Zim (G:=G) r l q a1 a2 hr.1.1;have h2:=Zim (G:=G) r l q b1 b2 hr.1.1;have pS:(Yl r l q).pure=true:=(by unfold Yl rfA;split <;> simp[AV.pure,isa,na,ra,rfa]);have kS:(Yl r l q).keys=[]:=(by unfold Yl;simp[AV.keys]);unfold moA swa at ha
 (refine Z6F rfl λR hG hrd=>Qga ?_;subst hG)
 unfold puN;by_cases h0:aqN r l q s m day day=0
 . rw[if_pos h0,h0]at ha;rw[if_pos h0];obtain ⟨cs,eS⟩ : ∃ cs,Yl r l q = .vptr cs 0:=⟨_,rfl⟩;unfold moC at *;rw[eS]at ha h1 h2 pS kS ⊢;simp -implicitDefEqProofs[Z6D,Z6E,swa];refine Qco (ha) (by simp) ?_;simp -implicitDefEqProofs[];refine Ye.of h1 (by simp[AV.pure]at pS ⊢;try simp[pS]) ?_
   cases c1:knB r a1 a2
   . simp -implicitDefEqProofs[]
   . simp -implicitDefEqProofs[];refine Ye.of h2 (by simp[AV.pure]at pS ⊢;try simp[pS]) ?_
     cases c2:knB r b1 b2
     . simp -implicitDefEqProofs[]
     . simp -implicitDefEqProofs[]
 . rw[if_neg h0]at ha;rw[if_neg h0,if_neg h0];simp -implicitDefEqProofs[Z6D,Z6E,swa];refine Qco (ha) (by simp) ?_;simp -implicitDefEqProofs[h0]
theorem Zks (hG:GC G) (hN:GN G) (hQ:GQ G) (r:List Iss) (l:List Nte) (q:List Rul) (s:List Int) (m day a1 a2 b1 b2:Int) (hw:WfN l) (hr:Wf r) (hq:Sml q) (hs:Sml s) (h:chS r l q=0) (ht:truB l s=true) :
  PC Tryz.prog G 54 [.agg (moC r l q s m day),.agg [.int .i64 a1,.int .i64 a2],.agg [.int .i64 b1,.int .i64 b2]] (.bool (decide (diV (edg (st5 r l q s m day)) (b1,b2) (a1,a2)<1048576))):=by
 have pS:(Yl r l q).pure=true:=(by unfold Yl rfA;split <;> simp[AV.pure,isa,na,ra,rfa]);have pM:(AV.vptr (moC r l q s m day) 0).pure=true:=(by simp[AV.pure,moC,pS]);have hlen:=Zkl (s:=s) (m:=m) (day:=day) h;have hf:=Zkg (G:=G) r l q s m day;have hc:=Zkf _ _ _ (by simpa using pM) (Zkq hG hN hQ r l q s m day hw hr hq hs h ht) hlen;have hln:=PC.sub (ZjP (G:=G) (st5 r l q s m day) false b1 b2 (by omega)) (xs:=[Yh ((st5 r l q s m day).map sa),.agg [.int .i64 b1,.int .i64 b2],.bool false]) ⟨.orNil _,.rfl',.rfl',trivial⟩;have hv:=ZjO (G:=G) (edg (st5 r l q s m day)) (b1,b2) a1 a2;have pV:=Zf4 (l:=(st5 r l q s m day).map sa) (by simp[sa,AV.pure]);have e1:edT false (st5 r l q s m day)=edg (st5 r l q s m day):=rfl;rw[e1,lnF]at hln;have pC:=Zkn (edg (st5 r l q s m day)) (b1,b2);have kC:=Zko (edg (st5 r l q s m day)) (b1,b2);have kV:=Zf5 ((st5 r l q s m day).map sa);replace hv:PC Tryz.prog G 87 [.agg [.int .i64 a1,.int .i64 a2],lnC (edg (st5 r l q s m day)) (b1,b2)] _:=hv;generalize lnC (edg (st5 r l q s m day)) (b1,b2)=C at *;generalize Yh ((st5 r l q s m day).map sa)=V at *;generalize diV (edg (st5 r l q s m day)) (b1,b2) (a1,a2)=D at *
 (refine Z6O rfl λR hG hrd=>Qga ?_;subst hG)
 obtain ⟨cs,eS⟩ : ∃ cs,Yl r l q = .vptr cs 0:=⟨_,rfl⟩;unfold moC at *;rw[eS]at hf hc pS pM ⊢;simp -implicitDefEqProofs[Z6M,Z6N];refine Yf.of hf (by simp[AV.pure]at pS ⊢;try simp[pS]) ?_;simp -implicitDefEqProofs[];refine Yf.of hc (by simp[AV.pure]at pS ⊢;try simp[pS]) ?_;simp -implicitDefEqProofs[];refine Yf.of hln (by simp[pV,AV.pure]) ?_;simp -implicitDefEqProofs[];refine Yf.of hv (by simp[pC,AV.pure]) ?_;simp -implicitDefEqProofs[kC,kV];rfl
theorem Zkt (E:List (Rf×Rf)) (x:Rf) (d e:Int):PC Tryz.prog G 98 [.agg [.int .i64 d,.int .i64 e],.vptr [lnF E x] 0] (.bool (decide (diV E x (d,e)=1048576))):=by
 have hv:=ZjO (G:=G) E x d e;have pC:=Zkn E x;replace hv:PC Tryz.prog G 87 [.agg [.int .i64 d,.int .i64 e],lnC E x] _:=hv;unfold lnF;generalize lnC E x=C at *;generalize diV E x (d,e)=D at *
 (refine Z79 rfl λR hG hrd=>Qga ?_;subst hG)
 simp -implicitDefEqProofs[Z77,Z78];refine Ye.of hv (by simp[pC,AV.pure]) ?_;simp -implicitDefEqProofs[]
end
theorem Zku {r:List Iss} (h:r≠[]):rfA r = .vsl ((rfs r).map ita):=by rw[rfA,if_neg h,Zjf]
theorem Zkv (ρ:Nat->Nat) (p:Rf->Bool) (l:List Rf):(AObj.row 2 (dlO p l)).ren ρ = .row 2 (dlO p l):=by
 refine AObj.ren_pure ?_;unfold dlO
 split <;> simp[ita,zrF,AV.pure]
theorem Zkw (κ:Nat) (p:Rf->Bool) (l:List Rf):(dlV 1000 p l).ren (λ_=>κ)=dlV κ p l:=by
 unfold dlV
 split <;> simp[AV.ren]
def rcD (E:List (Rf×Rf)) (x:Rf):Rf->Bool:=λy=>decide (diV E x y=1048576)
section
variable {G:Nat->Option (List AV)}
set_option maxHeartbeats 1000000 in
theorem Zkx (hG:GC G) (hN:GN G) (hQ:GQ G) (r:List Iss) (l:List Nte) (q:List Rul) (s:List Int) (m day x1 x2:Int) (t:Bool) (hw:WfN l) (hr:Wf r) (hq:Sml q) (hs:Sml s) (h:chS r l q=0) (ht:truB l s=true) (hne:r≠[]) (h80:r.length<=1000) :
  PC Tryz.prog G 66 [.agg (moC r l q s m day),.agg [.int .i64 x1,.int .i64 x2],.bool t] (.vsl ((rcL r (st5 r l q s m day) t (x1,x2)).map ita)):=by
 have pS:(Yl r l q).pure=true:=(by unfold Yl rfA;split <;> simp[AV.pure,isa,na,ra,rfa]);have pM:(AV.vptr (moC r l q s m day) 0).pure=true:=(by simp[AV.pure,moC,pS]);have hlen:=Zkl (s:=s) (m:=m) (day:=day) h;have hf:=Zkg (G:=G) r l q s m day;have hc:=Zkf _ _ _ (by simpa using pM) (Zkq hG hN hQ r l q s m day hw hr hq hs h ht) hlen;have hln:=PC.sub (ZjP (G:=G) (st5 r l q s m day) t x1 x2 (by omega)) (xs:=[Yh ((st5 r l q s m day).map sa),.agg [.int .i64 x1,.int .i64 x2],.bool t]) ⟨.orNil _,.rfl',.rfl',trivial⟩;have hv:=λd e=>Zkt (G:=G) (edT t (st5 r l q s m day)) (x1,x2) d e
 have pV:=Zf4 (l:=(st5 r l q s m day).map sa) (by simp[sa,AV.pure]);have kV:=Zf5 ((st5 r l q s m day).map sa);have hres:rcL r (st5 r l q s m day) t (x1,x2)=(rfs r).filter λy=>!rcD (edT t (st5 r l q s m day)) (x1,x2) y:=rfl
 rw[hres];have hD:∀ d e,rcD (edT t (st5 r l q s m day)) (x1,x2) (d,e)=decide (diV (edT t (st5 r l q s m day)) (x1,x2) (d,e)=1048576):=λd e=>rfl
 simp only[<- hD]at hv;have eF:lnF (edT t (st5 r l q s m day)) (x1,x2) = .func (.func 87) [] [lnC (edT t (st5 r l q s m day)) (x1,x2)]:=rfl;rw[eF]at hln hv;have pC:=Zkn (edT t (st5 r l q s m day)) (x1,x2);have kC:=Zko (edT t (st5 r l q s m day)) (x1,x2)
 have sC:∀ ok st n,Yi ok st n (lnC (edT t (st5 r l q s m day)) (x1,x2))=some (lnC (edT t (st5 r l q s m day)) (x1,x2)):=λok st n=>by
  have:=pC;unfold lnC at *
  cases n <;> simp[Yi,this]
 have rC:=λρ=>AV.ren_pure (ρ:=ρ) _ pC
 generalize lnC (edT t (st5 r l q s m day)) (x1,x2)=C at *;generalize Yh ((st5 r l q s m day).map sa)=V at *;generalize hp:rcD (edT t (st5 r l q s m day)) (x1,x2)=p at *;have hcl:=Zk3 (G:=G) (rfs r) (by simpa [rfs] using hne) (by unfold Sml;simp[rfs];omega);have hdl:=Zk4 (G:=G) 98 [.func (.func 87) [] [C]] p (rfs r) (by simp[AV.pure,pC]) (by simp[AV.keys,kC]) (by simpa [rfs] using h80) (λy _=>hv y.1 y.2);have pRF:(AV.vsl ((rfs r).map ita)).pure=true:=(by simp[AV.pure,ita]);have lRF:(rfs r).length=r.length:=(by simp[rfs]);obtain ⟨cs,eS⟩ : ∃ cs,Yl r l q = .vptr cs 0:=⟨_,rfl⟩
 have eC:cs=[.vsl (r.map isa),.vsl (l.map na),.vsl (q.map ra),.vsl ((rfs r).map ita)]:=by
  unfold Yl at eS;rw[Zku hne]at eS;injection eS with e1 _
  exact e1.symm
 refine Z76 rfl λR hG hrd=>Yc Yb 6 ?_
 subst hG;unfold moC at *;rw[eS]at hf hc pS pM ⊢;simp -implicitDefEqProofs[Z74,Z75];refine Yf.of hf (by simp[AV.pure]at pS ⊢;try simp[pS]) ?_;simp -implicitDefEqProofs[];refine Yf.of hc (by simp[AV.pure]at pS ⊢;try simp[pS]) ?_;simp -implicitDefEqProofs[];refine Yf.of hln (by simp[pV,AV.pure]) ?_;simp -implicitDefEqProofs[kC,kV];refine ⟨rfl,GO0 (Z2L (st':=⟨[(7,.vptr [.func (.func 87) [] [C]] 0),(3,.ptr 3 0)],[(3,.box [.vptr cs 0,.vsl (s.map ia),.int .i64 m,.int .i64 day])]⟩) (Yn.trans (Yn.frz (λk=>k == 7) _) ?_) ?_)⟩
 . ((try simp only[Yj,frzA,frzO,frz,Yi,Yk,St.get,AV.pure,sC,pC,kC]);refine Yn.sub (by simp[lk,Ya,AV.keys,Yj,frzA,frzO,frz,Yi,Yk,St.get,AV.pure,sC,pC,kC]) ?_;simp only[Yj,frzA,frzO,frz,Yi,Yk,St.get,AV.pure,sC,pC,kC,Wkl,and_true];(try simp[lk,Yd,Ya,AV.keys,Yj,frzA,frzO,frz,Yi,Yk,St.get,AV.pure,sC,pC,kC]))
 subst eC;refine Qga ?_;simp -implicitDefEqProofs[];refine Ye.sem (Z1B.objs hcl (λ_=>19) (by simp) (by simp[St.get,lk]) (by simp[AV.pure,ita]) rfl rfl) ?_;simp -implicitDefEqProofs[AV.ren,Ym,Zdv];refine Ye.sem (Z1B.byref hdl (λ_=>19) (by simp) (by simp) (by simp[St.get,lk,Zdv]) (by simp[Zjg]) (by simp[Ya,AV.keys,lk,kC]) rfl (by simp[AV.ren,rC]) rfl rfl) ?_;have hsn:=λok st hg hk=>dlO_V 19 p (rfs r) ok st hg hk
 simp -implicitDefEqProofs[Ym,Zkv,Zkw];refine Qgr ?_;simp -implicitDefEqProofs[];rw[hsn _ _ (by simp[St.get,lk]) rfl];exact ⟨_,rfl,rfl⟩
theorem Zky {r:List Iss} {d e:Int} (h:knB r d e=true):r≠[]:=by
 rintro rfl;simp[knB,findN]at h
def liR (l:List Rf):AV:=.vsl (l.map ita)
def maE (r:List Iss) (l:List Nte) (q:List Rul) (s:List Int) (m day:Int) (a b:Rf):AV :=
 .tup [.bool (if puN r l q s m day a b=0 then decide (diV (edg (st5 r l q s m day)) b a<1048576) else false),.int .i64 (puN r l q s m day a b)]
def foE (r:List Iss) (l:List Nte) (q:List Rul) (s:List Int) (m day:Int) (t:Bool) (x:Rf):AV :=
 .tup [if puN r l q s m day x x=0 then liR (rcL r (st5 r l q s m day) t x) else .nils,.int .i64 (puN r l q s m day x x)]
theorem Zkz (hG:GC G) (hN:GN G) (hQ:GQ G) (r:List Iss) (l:List Nte) (q:List Rul) (s:List Int) (m day a1 a2 b1 b2:Int) (hw:WfN l) (hr:Wf r) (hq:Sml q) (hs:Sml s) :
  PC Tryz.prog G 17 [swa r l q,.vsl (s.map ia),.int .i64 m,.int .i64 day,.agg [.int .i64 a1,.int .i64 a2],.agg [.int .i64 b1,.int .i64 b2]] (maE r l q s m day (a1,a2) (b1,b2)):=by
 have hp:=Zkr hG hN r l q s m day a1 a2 b1 b2 hw hr hq hs;unfold swa at hp;unfold maE
 (refine Z6R rfl λR hG hrd=>Qga ?_;subst hG)
 by_cases h0:puN r l q s m day (a1,a2) (b1,b2)=0
 . obtain ⟨h1,h2,h3⟩:=Zkp h0;have hz:=Zi9 h1;have hm:=Zks hG hN hQ r l q s m day a1 a2 b1 b2 hw hr hq hs hz.1 hz.2.1;have pS:(Yl r l q).pure=true:=(by unfold Yl rfA;split <;> simp[AV.pure,isa,na,ra,rfa]);rw[if_pos h0,h0]at hp;rw[if_pos h0,h0];obtain ⟨cs,eS⟩ : ∃ cs,Yl r l q = .vptr cs 0:=⟨_,rfl⟩;unfold moC at *;rw[eS]at hp hm pS;simp -implicitDefEqProofs[Z6P,Z6Q,swa];refine Qco (hp) (by simp) ?_;simp -implicitDefEqProofs[];refine Ye.of hm (by simp[AV.pure]at pS ⊢;try simp[pS]) ?_;simp -implicitDefEqProofs[]
 . rw[if_neg h0]at hp;rw[if_neg h0];simp -implicitDefEqProofs[Z6P,Z6Q,swa];refine Qco (hp) (by simp) ?_;simp -implicitDefEqProofs[h0]
theorem ZkA (hG:GC G) (hN:GN G) (hQ:GQ G) (r:List Iss) (l:List Nte) (q:List Rul) (s:List Int) (m day a1 a2:Int) (hw:WfN l) (hr:Wf r) (hq:Sml q) (hs:Sml s) (h80:r.length<=1000) :
  PC Tryz.prog G 27 [swa r l q,.vsl (s.map ia),.int .i64 m,.int .i64 day,.agg [.int .i64 a1,.int .i64 a2]] (foE r l q s m day false (a1,a2)):=by
 have hp:=Zkr hG hN r l q s m day a1 a2 a1 a2 hw hr hq hs;unfold swa at hp;unfold foE liR
 (refine Z7h rfl λR hG hrd=>Qga ?_;subst hG)
 by_cases h0:puN r l q s m day (a1,a2) (a1,a2)=0
 . obtain ⟨h1,h2,h3⟩:=Zkp h0;have hz:=Zi9 h1;have hm:=Zkx hG hN hQ r l q s m day a1 a2 false hw hr hq hs hz.1 hz.2.1 (Zky h2) h80;have pS:(Yl r l q).pure=true:=(by unfold Yl rfA;split <;> simp[AV.pure,isa,na,ra,rfa]);have pL:(AV.vsl ((rcL r (st5 r l q s m day) false (a1,a2)).map ita)).pure=true:=(by simp[AV.pure,ita]);rw[if_pos h0,h0]at hp;rw[if_pos h0,h0];obtain ⟨cs,eS⟩ : ∃ cs,Yl r l q = .vptr cs 0:=⟨_,rfl⟩;unfold moC at *;rw[eS]at hp hm pS;generalize rcL r (st5 r l q s m day) false (a1,a2)=L at *;simp -implicitDefEqProofs[Z7f,Z7g,swa];refine Qco (hp) (by simp) ?_;simp -implicitDefEqProofs[];refine Ye.of hm (by simp[AV.pure]at pS ⊢;try simp[pS]) ?_;simp -implicitDefEqProofs[ita]
 . rw[if_neg h0]at hp;rw[if_neg h0];simp -implicitDefEqProofs[Z7f,Z7g,swa];refine Qco (hp) (by simp) ?_;simp -implicitDefEqProofs[h0]
theorem ZkB (hG:GC G) (hN:GN G) (hQ:GQ G) (r:List Iss) (l:List Nte) (q:List Rul) (s:List Int) (m day a1 a2:Int) (hw:WfN l) (hr:Wf r) (hq:Sml q) (hs:Sml s) (h80:r.length<=1000) :
  PC Tryz.prog G 28 [swa r l q,.vsl (s.map ia),.int .i64 m,.int .i64 day,.agg [.int .i64 a1,.int .i64 a2]] (foE r l q s m day true (a1,a2)):=by
 have hp:=Zkr hG hN r l q s m day a1 a2 a1 a2 hw hr hq hs;unfold swa at hp;unfold foE liR
 (refine Z7k rfl λR hG hrd=>Qga ?_;subst hG)
 by_cases h0:puN r l q s m day (a1,a2) (a1,a2)=0
 . obtain ⟨h1,h2,h3⟩:=Zkp h0;have hz:=Zi9 h1;have hm:=Zkx hG hN hQ r l q s m day a1 a2 true hw hr hq hs hz.1 hz.2.1 (Zky h2) h80;have pS:(Yl r l q).pure=true:=(by unfold Yl rfA;split <;> simp[AV.pure,isa,na,ra,rfa]);rw[if_pos h0,h0]at hp;rw[if_pos h0,h0];obtain ⟨cs,eS⟩ : ∃ cs,Yl r l q = .vptr cs 0:=⟨_,rfl⟩;unfold moC at *;rw[eS]at hp hm pS;generalize rcL r (st5 r l q s m day) true (a1,a2)=L at *;simp -implicitDefEqProofs[Z7i,Z7j,swa];refine Qco (hp) (by simp) ?_;simp -implicitDefEqProofs[];refine Ye.of hm (by simp[AV.pure]at pS ⊢;try simp[pS]) ?_;simp -implicitDefEqProofs[ita]
 . rw[if_neg h0]at hp;rw[if_neg h0];simp -implicitDefEqProofs[Z7i,Z7j,swa];refine Qco (hp) (by simp) ?_;simp -implicitDefEqProofs[h0]
end
theorem ZkC {r:List Iss} {l:List Nte} {q:List Rul} (h:chS r l q=0):r.length<=60/\l.length<=16/\(l.map (·.nu)).Nodup/\q.length<=16:=by
 obtain ⟨h1,h2⟩:=ZhY h;have hB:=ZhP h1;exact ⟨Zjo (Zjp h),by have:=ZhQ hB;omega,ZhD hB,ZhZ h2⟩
theorem ZkD (r:List Iss):(rfs r).length=r.length:=by simp[rfs]
section
variable {G:Nat->Option (List AV)}
def acM (l:List Rf):List (List AV):=l.map ita
theorem ZkE (l:List Rf) (x:Rf):acM (l++[x])=acM l++[[.int .i64 x.1,.int .i64 x.2]]:=by simp[acM,ita]
theorem ZkF (l:List Rf):(acM l).length=l.length:=List.length_map _
theorem ZkG (o:List (Nat×AObj)) (l:List Rf):Yd o (.row 2 (acM l))=true:=Zjg o l
theorem ZkH (l:List Rf):(acM l).all (λr=>r.all AV.pure)=true:=by simp[acM,ita,AV.pure]
end
section
variable {G:Nat->Option (List AV)}
end
def nxS (L:List Stq) (y x:Rf) (s:Stq):Bool:=decide (frS s=x)&&decide (diV (edg L) y (toS s)+1=diV (edg L) y x)
def chP (L:List Stq) (y:Rf):Nat->Rf->List Stq
 |0,_=>[]
 | n+1,x=>match L.find? (nxS L y x) with
   |some s=>s::chP L y n (toS s)
   |none=>[]
theorem ZkI {E:List (Rf×Rf)} {x y:Rf} {n:Nat} (h:diN E y x=some n):diV E y x=n:=by simp[diV,h]
theorem ZkJ {E:List (Rf×Rf)} {x y:Rf} {n:Nat} (hE:E.length<=1000) (h:diV E y x=n) (hn:n<=2000):diN E y x=some n:=by
 unfold diV at h
 cases q:diN E y x with
 |none=>rw[q]at h;simp only at h;omega
 |some m=>rw[q]at h;simp only at h;congr 1;omega
theorem ZkK {E:List (Rf×Rf)} {x y:Rf}:diN E y x=some 0↔x=y:=by
 rw[Zj6]
 constructor
 . rintro ⟨h,-⟩;simpa [pth] using h
 . rintro rfl;exact ⟨by simp[pth],by omega⟩
theorem dsfar {E:List (Rf×Rf)} {x y:Rf} (hE:E.length<=1000):diV E y x=1048576↔diN E y x=none:=Zjb hE
theorem ZkL {L:List Stq} {x y:Rf} {n:Nat} (hL:L.length<=1000) (h:diN (edg L) y x=some (n+1)) :
  ∃ (i:Nat) (hi:i<L.length),L.findIdx? (nxS L y x)=some i/\frS L[i]=x/\diN (edg L) y (toS L[i])=some n/\chP L y (n+1) x=L[i]::chP L y n (toS L[i]):=by
 have hE:(edg L).length<=1000:=(by simpa [edg] using hL);have hm:=Zj6.1 h;obtain ⟨e,he,h1,h2⟩:=Zj4 hm;obtain ⟨s,hs,rfl⟩:=List.mem_map.1 he;have hl:=md_le hm
 have hns:nxS L y x s=true:=by
  simp only[nxS,Bool.and_eq_true,decide_eq_true_eq];exact ⟨h1,by rw[ZkI (Zj6.2 h2),ZkI h];omega⟩
 cases q:L.findIdx? (nxS L y x) with
 | none =>
   rw[List.findIdx?_eq_none_iff]at q;rw[q s hs]at hns;cases hns
 | some i =>
   obtain ⟨hi,h3,h4⟩:=List.findIdx?_eq_some_iff_getElem.1 q;have h5:=h3;simp only[nxS,Bool.and_eq_true,decide_eq_true_eq]at h5;rw[ZkI h]at h5;refine ⟨i,hi,rfl,h5.1,ZkJ hE (by omega) (by omega),?_⟩
   have hf:L.find? (nxS L y x)=some L[i]:=by
    rw[List.find?_eq_some_iff_getElem];exact ⟨h3,i,hi,rfl,λj hj=>by simpa using h4 j hj⟩
   rw[chP,hf]
theorem ZkM (L:List Stq) (y:Rf):∀ (n:Nat) (x:Rf),(chP L y n x).length<=n
 |0,_=>Nat.le_refl _
 | n+1,x=>by
   rw[chP]
   split
   . have:=ZkM L y n (toS ‹Stq›);simp;omega
   . simp
def chE (r:List Iss) (l:List Nte) (q:List Rul) (s:List Int) (m day:Int) (a b:Rf):List Stq×Int :=
 if puN r l q s m day a b=0 then match diN (edg (st5 r l q s m day)) b a with
  |some n=>(chP (st5 r l q s m day) b n a,0)
  |none=>([],6)
 else ([],puN r l q s m day a b)
def chA (r:List Iss) (l:List Nte) (q:List Rul) (s:List Int) (m day:Int) (a b:Rf):AV:=.tup [Yh ((chE r l q s m day a b).1.map sa),.int .i64 (chE r l q s m day a b).2]
def chO (M:List AV) (F:AV) (b:Rf):List (Nat×AObj):=[(17,.box [F]),(11,.box [.int .i64 b.1,.int .i64 b.2])]
def chSt (M:List AV) (F V:AV) (b:Rf) (x:List Stq×Rf×Nat):St :=
 if x.1=[] then ⟨[(19,.ptr 19 0),(18,.nils),(17,.ptr 17 0),(16,V),(11,.ptr 11 0)],(19,.box [.int .i64 x.2.1.1,.int .i64 x.2.1.2])::chO M F b⟩
 else ⟨[(19,.ptr 19 0),(18,.osl 57 x.1.length),(17,.ptr 17 0),(16,V),(11,.ptr 11 0)],(19,.box [.int .i64 x.2.1.1,.int .i64 x.2.1.2])::(57,.row 6 (x.1.map sa))::chO M F b⟩
section
variable {G:Nat->Option (List AV)}
theorem ZkN (L:List Stq) (x:Stq) (y1 y2 d e:Int) (hL:L.length<=1000):PC Tryz.prog G 59 [.agg (sa x),.vptr [.int .i64 d,.int .i64 e] 0,.vptr [lnF (edg L) (y1,y2)] 0] (.bool (nxS L (y1,y2) (d,e) x)):=by
 have hE:(edg L).length<=1000:=(by simpa [edg] using hL);have hv1:=ZjO (G:=G) (edg L) (y1,y2) x.td x.tl;have hv2:=ZjO (G:=G) (edg L) (y1,y2) d e;have b1:=Zj9 (E:=edg L) (y:=(y1,y2)) (x:=(x.td,x.tl));have b2:=Zja (y:=(y1,y2)) (x:=(x.td,x.tl)) hE;have hnx:nxS L (y1,y2) (d,e) x=(decide ((x.fd,x.fl)=(d,e))&&decide (diV (edg L) (y1,y2) (x.td,x.tl)+1=diV (edg L) (y1,y2) (d,e))):=rfl;have pC:=Zkn (edg L) (y1,y2);have kC:=Zko (edg L) (y1,y2);replace hv1:PC Tryz.prog G 87 [_,lnC (edg L) (y1,y2)] _:=hv1;replace hv2:PC Tryz.prog G 87 [_,lnC (edg L) (y1,y2)] _:=hv2;rw[hnx];unfold lnF;generalize lnC (edg L) (y1,y2)=C at *;generalize diV (edg L) (y1,y2) (d,e)=D2 at *;generalize diV (edg L) (y1,y2) (x.td,x.tl)=D1 at *;have w1:IntKind.i64.wrap (D1+1)=D1+1:=Yg (by omega) (by omega);have hsa:sa x=[.int .i64 x.fd,.int .i64 x.fl,.int .i64 x.td,.int .i64 x.tl,.int .i64 x.nu,.bool x.nt]:=rfl
 (refine Z6X rfl λR hG hrd=>Qga ?_;subst hG)
 by_cases c1:x.fd=d/\x.fl=e
 . obtain ⟨rfl,rfl⟩:=c1;simp -implicitDefEqProofs[Z6V,Z6W,hsa];refine Yf.of hv1 (by simp[pC,AV.pure]) ?_;simp -implicitDefEqProofs[w1];refine Yf.of hv2 (by simp[pC,AV.pure]) ?_;simp -implicitDefEqProofs[w1,kC];rfl
 . have c2:(decide (x.fd=d)&&decide (x.fl=e))=false:=by
    cases hh:(decide (x.fd=d)&&decide (x.fl=e))
    . rfl
    . simp at hh;exact absurd hh c1
   have c3:decide ((x.fd,x.fl)=(d,e))=false:=by
    rw[decide_eq_false_iff_not,Prod.mk.injEq];exact c1
   simp -implicitDefEqProofs[Z6V,Z6W,hsa,c2,c3];rfl
set_option maxHeartbeats 2000000 in
theorem ZkO (hG:GC G) (hN:GN G) (hQ:GQ G) (r:List Iss) (l:List Nte) (q:List Rul) (s:List Int) (m day a1 a2 b1 b2:Int) (hw:WfN l) (hr:Wf r) (hq:Sml q) (hs:Sml s) :
  PC Tryz.prog G 18 [swa r l q,.vsl (s.map ia),.int .i64 m,.int .i64 day,.agg [.int .i64 a1,.int .i64 a2],.agg [.int .i64 b1,.int .i64 b2]] (chA r l q s m day (a1,a2) (b1,b2)):=by
 have hp:=Zkr hG hN r l q s m day a1 a2 b1 b2 hw hr hq hs;unfold swa at hp;unfold chA chE;refine Z6U rfl λR hG' hrd=>?_
 by_cases h0:puN r l q s m day (a1,a2) (b1,b2)=0
 case neg =>
  subst hG';rw[if_neg h0]at hp;rw[if_neg h0];refine Qga ?_;simp -implicitDefEqProofs[Z6S,Z6T,swa];refine Qco (hp) (by simp) ?_;simp -implicitDefEqProofs[h0,Yh]
 obtain ⟨h1,h2,h3⟩:=Zkp h0;have hz:=Zi9 h1;have pS:(Yl r l q).pure=true:=(by unfold Yl rfA;split <;> simp[AV.pure,isa,na,ra,rfa]);have pM:(AV.vptr (moC r l q s m day) 0).pure=true:=(by simp[AV.pure,moC,pS]);have hlen:=Zkl (s:=s) (m:=m) (day:=day) hz.1;have hf:=Zkg (G:=G) r l q s m day;have hc:=Zkf _ _ _ (by simpa using pM) (Zkq hG hN hQ r l q s m day hw hr hq hs hz.1 hz.2.1) hlen;have hln:=PC.sub (ZjP (G:=G) (st5 r l q s m day) false b1 b2 (by omega)) (xs:=[Yh ((st5 r l q s m day).map sa),.agg [.int .i64 b1,.int .i64 b2],.bool false]) ⟨.orNil _,.rfl',.rfl',trivial⟩;have e1:edT false (st5 r l q s m day)=edg (st5 r l q s m day):=rfl;rw[e1]at hln;rw[if_pos h0,h0]at hp;rw[if_pos h0];have hV:st5 r l q s m day≠[]->Yh ((st5 r l q s m day).map sa) = .vsl ((st5 r l q s m day).map sa):=λh=>by simp[Yh,h]
 have pV:=Zf4 (l:=(st5 r l q s m day).map sa) (by simp[sa,AV.pure]);have kV:=Zf5 ((st5 r l q s m day).map sa);generalize hLL:st5 r l q s m day=L at *;have hL:L.length<=1000:=(by omega);have hE:(edg L).length<=1000:=(by simpa [edg] using hL);have hv:=ZjO (G:=G) (edg L) (b1,b2) a1 a2;have hcc:=λ(x:Stq) (n1 n2:Int)=>ZkN (G:=G) L x b1 b2 n1 n2 hL
 have hfi:=λ(n1 n2:Int)=>Zk2 (G:=G) 59 [.vptr [.int .i64 n1,.int .i64 n2] 0,.vptr [lnF (edg L) (b1,b2)] 0] (nxS L (b1,b2) (n1,n2)) L (by simp[AV.pure,lnF,Zkn]) (by unfold Sml;omega) (λx _=>hcc x n1 n2)
 have hfar:=dsfar (E:=edg L) (y:=(b1,b2)) (x:=(a1,a2)) hE;have eF:lnF (edg L) (b1,b2) = .func (.func 87) [] [lnC (edg L) (b1,b2)]:=rfl;replace hv:PC Tryz.prog G 87 [_,lnC (edg L) (b1,b2)] _:=hv;simp only[eF]at hln hfi;have pC:=Zkn (edg L) (b1,b2);have kC:=Zko (edg L) (b1,b2)
 have sC:∀ ok st n,Yi ok st n (lnC (edg L) (b1,b2))=some (lnC (edg L) (b1,b2)):=λok st n=>by
  have:=pC;unfold lnC at *
  cases n <;> simp[Yi,this]
 generalize lnC (edg L) (b1,b2)=C at *;generalize Yh (L.map sa)=V at *;obtain ⟨cs,eS⟩ : ∃ cs,Yl r l q = .vptr cs 0:=⟨_,rfl⟩;unfold moC at *;rw[eS]at hp hf hc pS pM;subst hG';refine Qga ?_;simp -implicitDefEqProofs[Z6S,Z6T,swa];refine Qco (hp) (by simp) ?_;simp -implicitDefEqProofs[];refine Ye.of hf (by simp[AV.pure]at pS ⊢;try simp[pS]) ?_;simp -implicitDefEqProofs[];refine Ye.of hc (by simp[AV.pure]at pS ⊢;try simp[pS]) ?_;simp -implicitDefEqProofs[];refine Ye.of hln (by simp[pV,AV.pure]) ?_;simp -implicitDefEqProofs[];refine Ye.of hv (by simp[pC,AV.pure]) ?_
 cases hd:diN (edg L) (b1,b2) (a1,a2) with
 | none =>
   have e2:=hfar.2 hd;simp -implicitDefEqProofs[e2,Yh]
 | some k0 =>
   have e2:¬diV (edg L) (b1,b2) (a1,a2)=1048576:=λh=>by rw[hfar.1 h]at hd;cases hd
   simp -implicitDefEqProofs[e2];refine Z1Q (chSt [] (.func (.func 87) [] [C]) V (b1,b2)) (λx=>diN (edg L) (b1,b2) x.2.1=some x.2.2/\x.1++chP L (b1,b2) x.2.2 x.2.1=chP L (b1,b2) k0 (a1,a2)) (λx=>x.2.2) ([],(a1,a2),k0) ?_ ⟨hd,rfl⟩ ?_
   . simp only[chSt,chO,if_true]
     ((try simp only[kC,kV]);refine Yn.sub (by simp[lk,Ya,AV.keys,kC,kV]) ?_;simp only[kC,kV,Wkl,and_true];(try simp[lk,Yd,Ya,AV.keys,kC,kV]))
   rintro ⟨acc,⟨n1,n2⟩,k⟩ ⟨hi1,hi2⟩;simp only at hi1 hi2
   cases k with
   | zero =>
     have hxy:=ZkK.1 hi1;rw[Prod.mk.injEq]at hxy;obtain ⟨rfl,rfl⟩:=hxy;rw[chP,List.append_nil]at hi2;refine Qga ?_;by_cases cx:acc=[]
     . simp -implicitDefEqProofs[chSt,chO,cx];refine Qgr ?_;simp -implicitDefEqProofs[<- hi2,cx,Yh]
     . have sA:(acc.map sa).all (λr=>r.all AV.pure)=true:=(by simp[sa,AV.pure]);simp -implicitDefEqProofs[chSt,chO,cx];refine Qgr ?_;simp -implicitDefEqProofs[<- hi2,cx,Yh,sA]
   | succ k =>
     have hb:(!decide (n1=b1) || !decide (n2=b2))=true:=by
      cases hh:(!decide (n1=b1) || !decide (n2=b2))
      . simp at hh;obtain ⟨rfl,rfl⟩:=hh;rw[ZkK.2 rfl]at hi1;cases hi1
      . rfl
     obtain ⟨i,hi,f1,f2,f3,f4⟩:=ZkL hL hi1;have hfst:fstOf (nxS L (b1,b2) (n1,n2)) L=(i:Int):=(by unfold fstOf;rw[f1]);have hfn:=hfi n1 n2;have hVe:=hV (λh=>by rw[h]at hi;simp at hi);subst hVe;rw[hfst]at hfn;rw[f4]at hi2;have hsa:sa L[i]=[.int .i64 L[i].fd,.int .i64 L[i].fl,.int .i64 L[i].td,.int .i64 L[i].tl,.int .i64 L[i].nu,.bool L[i].nt]:=rfl;have k5:(L.map sa).all (λr=>r.all AV.pure)=true:=by simp[sa,AV.pure]
     have al:acc.length<=2000:=by
      have h5:=congrArg List.length hi2;have h6:=ZkM L (b1,b2) k0 (a1,a2);have h7:=Zj8 hd;rw[List.length_append]at h5;omega
     have hnext:diN (edg L) (b1,b2) (toS L[i])=some k/\(acc++[L[i]])++chP L (b1,b2) k (toS L[i])=chP L (b1,b2) k0 (a1,a2):=⟨f3,by rw[List.append_assoc];exact hi2⟩;have hto:toS L[i]=(L[i].td,L[i].tl):=rfl;have lnm:(acc.map sa).length=acc.length:=List.length_map _;have bb:(acc.length+1)*48<=70368744177664:=(by omega);refine Yc Yb 21 ?_;by_cases cx:acc=[]
     . rw[cx,List.nil_append]at hnext;simp -implicitDefEqProofs[chSt,chO,cx,hb];refine Ye.flat hfn (by simp[AV.flat]) (by simp[Yk,snap,Yi,sC,okAll,St.get,lk,k5,AV.pure]) ?_;simp -implicitDefEqProofs[hi,hsa];refine GO0 (Z2L (st':=⟨[(63,.agg [.int .i64 L[i].td,.int .i64 L[i].tl]),(18,.osl 57 1),(17,.ptr 17 0),(16,.vsl (L.map sa)),(11,.ptr 11 0)],[(57,.row 6 [sa L[i]]),(17,.box [.func (.func 87) [] [C]]),(11,.box [.int .i64 b1,.int .i64 b2])]⟩) ?_ ?_)
       . rw[hsa]
         ((try simp only[kC,kV]);refine Yn.sub (by simp[lk,Ya,AV.keys,kC,kV]) ?_;simp only[kC,kV,Wkl,and_true];(try simp[lk,Yd,Ya,AV.keys,kC,kV]))
       refine Qga ?_;simp -implicitDefEqProofs[];refine Qgr ?_;simp -implicitDefEqProofs[];refine ⟨([L[i]],toS L[i],k),?_,hnext,Nat.lt_succ_self _⟩;simp only[chSt,chO,hto,List.cons_ne_nil,if_false,reduceCtorEq]
       ((try simp only[kC,kV,hsa]);refine Yn.sub (by simp[lk,Ya,AV.keys,kC,kV,hsa]) ?_;simp only[kC,kV,hsa,Wkl,and_true];(try simp[lk,Yd,Ya,AV.keys,kC,kV,hsa]))
     . simp -implicitDefEqProofs[chSt,chO,cx,hb];refine Ye.flat hfn (by simp[AV.flat]) (by simp[Yk,snap,Yi,sC,okAll,St.get,lk,k5,AV.pure]) ?_;simp -implicitDefEqProofs[hi,hsa,bb,lnm];refine GO0 (Z2L (st':=⟨[(63,.agg [.int .i64 L[i].td,.int .i64 L[i].tl]),(18,.osl 57 (acc++[L[i]]).length),(17,.ptr 17 0),(16,.vsl (L.map sa)),(11,.ptr 11 0)],[(57,.row 6 ((acc++[L[i]]).map sa)),(17,.box [.func (.func 87) [] [C]]),(11,.box [.int .i64 b1,.int .i64 b2])]⟩) ?_ ?_)
       . have em:acc.map sa++[[.int .i64 L[i].fd,.int .i64 L[i].fl,.int .i64 L[i].td,.int .i64 L[i].tl,.int .i64 L[i].nu,.bool L[i].nt]]=(acc++[L[i]]).map sa:=(by rw[<- hsa,List.map_append];rfl);have el:(acc++[L[i]]).length=acc.length+1:=(by simp);rw[em,el]
         ((try simp only[kC,kV]);refine Yn.sub (by simp[lk,Ya,AV.keys,kC,kV]) ?_;simp only[kC,kV,Wkl,Zi8,and_true];(try simp[lk,Yd,Ya,AV.keys,kC,kV]))
       refine Qga ?_;simp -implicitDefEqProofs[];refine Qgr ?_;simp -implicitDefEqProofs[];refine ⟨(acc++[L[i]],toS L[i],k),?_,hnext,Nat.lt_succ_self _⟩;have cx2:¬acc++[L[i]]=[]:=(by simp);simp only[chSt,chO,hto,cx2,if_false]
       ((try simp only[kC,kV]);refine Yn.sub (by simp[lk,Ya,AV.keys,kC,kV]) ?_;simp only[kC,kV,Wkl,Zi8,and_true];(try simp[lk,Yd,Ya,AV.keys,kC,kV]))
end
section
variable {G:Nat->Option (List AV)}
end
abbrev Pr:=Rf×Rf
def prK (p:Pr):AV:=.agg [.int .i64 p.1.1,.int .i64 p.1.2,.int .i64 p.2.1,.int .i64 p.2.2]
def prA (l:List Pr):List (AV×AV):=l.map λp=>(prK p,.bool true)
theorem pr_eq (x p:Pr):(KK.ag [.i,.i,.i,.i]).eq (prK x) (prK p)=some (decide (x=p)):=by
 obtain ⟨⟨a,b⟩,c,d⟩:=x;obtain ⟨⟨e,f⟩,g,h⟩:=p;simp only[prK,KK.eq,eqL,eq1,if_true,Prod.mk.injEq,Bool.and_true]
 congr 1
 by_cases h1:a=e <;> by_cases h2:b=f <;> by_cases h3:c=g <;> by_cases h4:d=h <;> simp[h1,h2,h3,h4]
theorem ZkP (x:Pr):∀ l:List Pr,(KK.ag [.i,.i,.i,.i]).find (prK x) (prA l)=some (l.findIdx? λp=>decide (x=p))
 |[]=>rfl
 | p::r=>by
   have ih:=ZkP x r;have e:prA (p::r)=(prK p,.bool true)::prA r:=rfl;rw[e,KK.find,pr_eq,ih,List.findIdx?_cons];by_cases c:x=p
   . simp[c]
   . simp[c]
theorem pr_is (x:Pr):(KK.ag [.i,.i,.i,.i]).is (prK x)=true:=rfl
theorem ZkQ (x : Pr) (l:List Pr):(KK.ag [.i,.i,.i,.i]).get (prK x) (prA l)=some (if x∈l then some (.bool true) else none):=by
 unfold KK.get;rw[if_pos (pr_is x),ZkP]
 cases q:l.findIdx? λp=>decide (x=p) with
 | none =>
   rw[List.findIdx?_eq_none_iff]at q;have:x ∉ l:=λh=>by have:=q x h;simp at this
   simp[this]
 | some j =>
   rw[List.findIdx?_eq_some_iff_getElem]at q;obtain ⟨h1,h2,-⟩:=q
   have h3 : x ∈ l := by have:x=l[j]:=by simpa using h2
                         rw[this];exact List.getElem_mem h1
   simp[prA,h1,h3]
theorem ZkR {x:Pr} {l:List Pr} (h:x ∉ l):(KK.ag [.i,.i,.i,.i]).put (prK x) (.bool true) (prA l)=some (prA (l++[x])):=by
 unfold KK.put;rw[if_pos (pr_is x),ZkP]
 have q:(l.findIdx? λp=>decide (x=p))=none:=by
  rw[List.findIdx?_eq_none_iff];intro y hy;simp;rintro rfl;exact h hy
 rw[q];simp[prA]
theorem ZkS {α β:Type} (f:α->β):∀ (l:List α) (j:Nat),(l.map f).eraseIdx j=(l.eraseIdx j).map f
 |[],_=>rfl
 |_::_,0=>rfl
 |x::l,j+1=>by simp[ZkS f l j]
theorem ZkT {α:Type} [DecidableEq α]:∀ (l:List α) (j:Nat) (h:j<l.length),l.Nodup->l.eraseIdx j=l.filter λp=>!decide (l[j]=p)
 |[],_,h,_=>by simp at h
 | x::l,0,_,hn=>by
   obtain ⟨h1,-⟩:=List.nodup_cons.1 hn
   have:(l.filter λp=>!decide (x=p))=l:=List.filter_eq_self.2 λy hy=>by
    have:¬x=y:=(by rintro rfl;exact h1 hy);simp[this]
   simp[this]
 | x::l,j+1,h,hn=>by
   obtain ⟨h1,h2⟩:=List.nodup_cons.1 hn;have hj:j<l.length:=(by simpa using h);have:¬l[j]=x:=(by rintro rfl;exact h1 (List.getElem_mem hj));simp[ZkT l j hj h2,this]
theorem ZkU {x:Pr} {l:List Pr} (h:l.Nodup):(KK.ag [.i,.i,.i,.i]).del (prK x) (prA l)=some (prA (l.filter λp=>!decide (x=p))):=by
 unfold KK.del;rw[if_pos (pr_is x),ZkP]
 cases q:l.findIdx? λp=>decide (x=p) with
 | none =>
   rw[List.findIdx?_eq_none_iff]at q;have:(l.filter λp=>!decide (x=p))=l:=List.filter_eq_self.2 λy hy=>by have:=q y hy;simpa using this
   rw[this]
 | some j =>
   rw[List.findIdx?_eq_some_iff_getElem]at q;obtain ⟨h1,h2,-⟩:=q;have h3:x=l[j]:=(by simpa using h2);have e1:(prA l).eraseIdx j=prA (l.eraseIdx j):=ZkS _ l j
   have e2:l.eraseIdx j=l.filter λp=>!decide (x=p):=by
    rw[h3];exact ZkT l j h1 h
   simp only[e1,e2]
def prL (r:List Iss) (L:List Stq) (bs:List Rf):List Pr:=bs.flatMap λb=>(rcL r L false b).map λa=>(a,b)
theorem ZkV (r:List Iss) (L:List Stq) (bs:List Rf) (b:Rf):prL r L (bs++[b])=prL r L bs++(rcL r L false b).map λa=>(a,b):=by simp[prL]
theorem ZkW {r:List Iss} {L:List Stq} {bs:List Rf} {p:Pr}:p∈prL r L bs↔p.2∈bs/\p.1∈rcL r L false p.2:=by
 simp only[prL,List.mem_flatMap,List.mem_map]
 constructor
 . rintro ⟨b,hb,a,ha,rfl⟩;exact ⟨hb,ha⟩
 . rintro ⟨hb,ha⟩;exact ⟨p.2,hb,p.1,ha,rfl⟩
theorem ZkX {r:List Iss} {L:List Stq} (hr:(rfs r).Nodup):∀ {bs:List Rf},bs.Nodup->(prL r L bs).Nodup
 |[],_=>by simp[prL]
 | b :: bs,h=>by
   obtain ⟨h1,h2⟩:=List.nodup_cons.1 h;have e:prL r L (b::bs)=((rcL r L false b).map λa=>(a,b))++prL r L bs:=(by simp[prL]);rw[e];refine List.nodup_append.2 ⟨?_,ZkX hr h2,?_⟩
   . have:(rcL r L false b).Nodup:=hr.sublist List.filter_sublist;exact List.pairwise_map.2 (this.imp λhxy e=>hxy (congrArg Prod.fst e))
   . rintro x hx y hy rfl;obtain ⟨a,-,rfl⟩:=List.mem_map.1 hx;exact h1 (ZkW.1 hy).1
theorem ZkY (o:List (Nat×AObj)) (l:List Pr):Yd o (.mp (prA l))=true:=by simp[Yd,prA,prK,Ya,AV.keys]
theorem ZkZ (l:List Pr):(prA l).all (λp=>p.1.pure&&p.2.pure)=true:=by simp[prA,prK,AV.pure]
theorem Zl0 (ρ:Nat->Nat) (l:List Pr):(AObj.mp (prA l)).ren ρ = .mp (prA l):=by simp[AObj.ren,prA,prK,AV.ren]
theorem Zl1 (ok:Nat->Bool) (st:St) (l:List Pr):frzO ok st (.mp (prA l)) = .mp (prA l):=by
 have e:∀ p:Pr,frzA ok st (prK p)=prK p:=λp=>by simp[frzA,frz,prK,AV.keys]
 have e2:frzA ok st (.bool true) = .bool true:=(by simp[frzA,frz,AV.keys]);simp only[frzO,prA,List.map_map]
 congr 1
 exact List.map_congr_left λp _=>by simp only[Function.comp,e,e2]
theorem Zl2 (ok:Nat->Bool) (st:St) (l:List Pr):(prA l).map (λp=>((frz ok st 6 p.1).getD .undef,(frz ok st 6 p.2).getD .undef))=prA l:=by
 have:=Zl1 ok st l;simpa only [frzO,frzA,AObj.mp.injEq] using this
theorem Zl3 {r:List Iss} {L:List Stq} {t:Bool} {x:Rf}:(rcL r L t x).length<=r.length:=Nat.le_trans (List.length_filter_le _ _) (Nat.le_of_eq (ZkD r))
def pbK:Nat->Bool:=λk=>k == 1
def pbT (n:Nat) (bs:List Rf) (i:Nat):List (Nat×AV):=[(15,.int .i64 i),(14,.int .i64 n),(13,.vsl (bs.map ita)),(3,.mp 8),(1,.ptr 1 0)]
def pbO (M:List AV) (n:Nat) (bs:List Rf) (X:List Pr) (i:Nat):St:=⟨pbT n bs i,[(8,.mp (prA X)),(1,.box M)]⟩
def pbI (M:List AV) (n:Nat) (bs:List Rf) (b:Rf) (Q:List Rf) (X:List Pr) (i k:Nat):St :=
 ⟨(23,.int .i64 k)::(22,.int .i64 Q.length)::(21,.vsl (Q.map ita))::(5,.ptr 5 0)::pbT n bs i,[(8,.mp (prA X)),(5,.box [.int .i64 b.1,.int .i64 b.2]),(1,.box M)]⟩
def prI (X:List Pr) (Q:List Rf) (b:Rf) (k:Nat):List Pr:=X++(Q.take k).map λa=>(a,b)
theorem Zl4 (X:List Pr) (Q:List Rf) (b:Rf):prI X Q b 0=X:=by simp[prI]
theorem Zl5 {X:List Pr} {Q:List Rf} {b:Rf} {k:Nat} (h:k<Q.length):prI X Q b (k+1)=prI X Q b k++[(Q[k],b)]:=by
 unfold prI;rw[List.take_succ_eq_append_getElem h,List.map_append,List.append_assoc];rfl
theorem Zl6 (X:List Pr) (Q:List Rf) (b:Rf):prI X Q b Q.length=X++Q.map λa=>(a,b):=by simp[prI]
section
variable {G:Nat->Option (List AV)}
set_option maxHeartbeats 1000000 in
theorem Zl7 (hG:GC G) (hN:GN G) (hQ:GQ G) (r:List Iss) (l:List Nte) (q:List Rul) (s:List Int) (m day:Int) (hw:WfN l) (hr:Wf r) (hq:Sml q) (hs:Sml s) (h:chS r l q=0) (ht:truB l s=true) (hne:r≠[]) :
  PB Tryz.prog G 68 [] [.agg (moC r l q s m day)] (.mp 8) [(8,.mp (prA (prL r (st5 r l q s m day) (rfs r))))]:=by
 have hl:=ZkC h;have hn:=ZkD r;have hrc:=λb1 b2=>Zkx hG hN hQ r l q s m day b1 b2 false hw hr hq hs h ht hne (by omega)
 have hnd:(rfs r).Nodup:=Zjl (Zjp h);have hQl:∀ b,(rcL r (st5 r l q s m day) false b).length<=60:=λb=>by have:=Zl3 (r:=r) (L:=st5 r l q s m day) (t:=false) (x:=b);omega
 have hput:∀ i (hi:i<(rfs r).length) k (hk:k<(rcL r (st5 r l q s m day) false (rfs r)[i]).length),
   ((rcL r (st5 r l q s m day) false (rfs r)[i])[k],(rfs r)[i]) ∉ prL r (st5 r l q s m day) ((rfs r).take i)++((rcL r (st5 r l q s m day) false (rfs r)[i]).take k).map λa=>(a,(rfs r)[i]):=by
  intro i hi k hk hm;rcases List.mem_append.1 hm with hm|hm
  . have:=(ZkW.1 hm).1;obtain ⟨j,hj,e⟩:=List.getElem_of_mem this;have hj2:j<i:=(by simp at hj;omega);rw[List.getElem_take]at e;have:=(List.pairwise_iff_getElem.1 hnd) j i (by omega) hi hj2;exact this e
  . obtain ⟨a,ha,e⟩:=List.mem_map.1 hm;have e1:a=(rcL r (st5 r l q s m day) false (rfs r)[i])[k]:=(Prod.mk.injEq .. ▸ e).1;obtain ⟨j,hj,e⟩:=List.getElem_of_mem ha;have hj2:j<k:=(by simp at hj;omega);rw[List.getElem_take]at e;have hnd2:(rcL r (st5 r l q s m day) false (rfs r)[i]).Nodup:=hnd.sublist List.filter_sublist;exact (List.pairwise_iff_getElem.1 hnd2) j k (by omega) hk hj2 (e.trans e1)
 have hsn:∀ i (hi:i<(rfs r).length),prL r (st5 r l q s m day) ((rfs r).take (i+1))=prL r (st5 r l q s m day) ((rfs r).take i)++(rcL r (st5 r l q s m day) false (rfs r)[i]).map λa=>(a,(rfs r)[i]):=λi hi=>by
  rw[List.take_succ_eq_append_getElem hi,ZkV]
 have pS:(Yl r l q).pure=true:=(by unfold Yl rfA;split <;> simp[AV.pure,isa,na,ra,rfa]);have h0:prL r (st5 r l q s m day) ((rfs r).take 0)=[]:=(by simp[prL]);have hall:(rfs r).take (rfs r).length=rfs r:=List.take_length;obtain ⟨cs,eS⟩ : ∃ cs,Yl r l q = .vptr cs 0:=⟨_,rfl⟩
 have eC:cs=[.vsl (r.map isa),.vsl (l.map na),.vsl (q.map ra),.vsl ((rfs r).map ita)]:=by
  unfold Yl at eS;rw[Zku hne]at eS;injection eS with e1 _
  exact e1.symm
 refine Z5d pbK (by intro k hk;simp[pbK]at hk;omega) Tryz.func68 rfl (by kernel_rfl) (rc:=Z6a) (by kernel_rfl) (rs:=Z6b) (by kernel_rfl) (Nat.le_of_ble_eq_true rfl) λR _ hG hrd=>Qga ?_
 subst hG;unfold moC at *;rw[eS]at hrc pS ⊢;subst eC;generalize hQF:(λb=>rcL r (st5 r l q s m day) false b)=Q at *;have eQ:∀ b,rcL r (st5 r l q s m day) false b=Q b:=λb=>by rw[<- hQF]
 simp only[eQ]at hrc hQl hput hsn;generalize hXF:(λi=>prL r (st5 r l q s m day) ((rfs r).take i))=X at *;have eX:∀ i,prL r (st5 r l q s m day) ((rfs r).take i)=X i:=λi=>by rw[<- hXF]
 have eXa:prL r (st5 r l q s m day) (rfs r)=X (rfs r).length:=(by rw[<- eX,hall]);simp only[eX]at hput hsn h0;rw[eXa];have lB:(rfs r).length<=60:=(by omega);generalize rfs r=bs at *;generalize hM:[AV.vptr [.vsl (r.map isa),.vsl (l.map na),.vsl (q.map ra),.vsl (bs.map ita)] 0,.vsl (s.map ia),.int .i64 m,.int .i64 day]=M at *;rw[<- hM];simp -implicitDefEqProofs[Z6a,Z6b];rw[hM];refine Zba (λi=>pbO M bs.length bs (X i) i) (λ_=>True) bs.length ?_ trivial ?_ ?_
 . rw[h0];have e0:prA []=[]:=rfl;simp only[pbO,pbT,e0];subst hM
   (refine Yn.sub (by simp[lk,Ya,AV.keys]) ?_;simp only[Wkl,and_true];(try simp[lk,Yd,Ya,AV.keys]))
 . intro i hi _;have wi:IntKind.i64.wrap ((i:Int)+1)=(i:Int)+1:=Yg (by omega) (by omega);obtain ⟨b,hb⟩ : ∃ b,b=bs[i]:=⟨_,rfl⟩;have hm:=hrc b.1 b.2;have lq:=hQl b;have hp:=hput i hi;have hs1:=hsn i hi;rw[<- hb]at hs1;simp only[<- hb]at hp;obtain ⟨Qi,hQi⟩ : ∃ Qi,Qi=Q b:=⟨_,rfl⟩;have eb:(b.1,b.2)=b:=rfl;rw[eb,<- hQi]at hm;rw[<- hQi]at lq hs1;simp only[<- hQi]at hp;obtain ⟨Xi,hXi⟩ : ∃ Xi,Xi=X i:=⟨_,rfl⟩;rw[<- hXi]at hs1;simp only[<- hXi]at hp;replace hp:∀ k (hk:k<Qi.length),(Qi[k],b) ∉ prI Xi Qi b k:=hp;rw[<- hXi];refine Qga ?_;simp -implicitDefEqProofs[pbO,pbT,hi,ita,<- hb,<- hM];rw[hM];refine Ye.of hm (by simp[AV.pure,<- hM,pS]) ?_;simp -implicitDefEqProofs[];refine Zba (λk=>pbI M bs.length bs b Qi (prI Xi Qi b k) i k) (λ_=>True) Qi.length ?_ trivial ?_ ?_
   . rw[Zl4];simp only[pbI,pbT]
     ((try simp only[ita,<- hM]);refine Yn.sub (by simp[lk,Ya,AV.keys,ita,<- hM]) ?_;simp only[ita,<- hM,Wkl,ZkY,and_true];(try simp[lk,Yd,Ya,AV.keys,ita,<- hM]))
   . intro k hk _;have wk:IntKind.i64.wrap ((k:Int)+1)=(k:Int)+1:=Yg (by omega) (by omega);have hpk:=ZkR (hp k hk);have hs2:=Zl5 (X:=Xi) (b:=b) hk;rw[<- hs2]at hpk;simp only[prK]at hpk;refine Qga ?_;simp -implicitDefEqProofs[pbI,pbT,hk,ita,wk,hpk]
     ((try simp only[ita,<- hM]);refine Yn.sub (by simp[lk,Ya,AV.keys,ita,<- hM]) ?_;simp only[ita,<- hM,Wkl,ZkY,and_true];(try simp[lk,Yd,Ya,AV.keys,ita,<- hM]))
   . intro _;rw[Zl6,<- hs1];refine Qga ?_;simp -implicitDefEqProofs[pbI,pbT,wi];refine Qgr ?_;simp -implicitDefEqProofs[wi,pbO,pbT]
     ((try simp only[ita,<- hM]);refine Yn.sub (by simp[lk,Ya,AV.keys,ita,<- hM]) ?_;simp only[ita,<- hM,Wkl,ZkY,and_true];(try simp[lk,Yd,Ya,AV.keys,ita,<- hM]))
 . intro _;refine Qga ?_;simp -implicitDefEqProofs[pbO,pbT];refine Qgr ?_;simp -implicitDefEqProofs[FinO,Yj,pbK,Zl1,frzA,frz,AV.keys]
end
def mayT (E:List (Rf×Rf)) (a b:Rf):Bool:=decide (diV E b a<1048576)
def ownP (T:Rf->Rf->Bool) (a b:Rf):Bool:=!(T a b&&T b a)
def ownT (T:Rf->Rf->Bool) (bs:List Rf) (a:Rf):List Rf:=dlK (ownP T a) bs bs.length
def hdT (T:Rf->Rf->Bool) (bs:List Rf) (a:Rf):Bool:=decide (1<(ownT T bs a).length)&&decide ((ownT T bs a).head? = some a)
def clX (T:Rf->Rf->Bool) (bs:List Rf) (i:Nat):List (List Rf):=(dlK (λa=>!hdT T bs a) bs i).map (ownT T bs)
theorem Zl8 {T:Rf->Rf->Bool} {bs:List Rf} {a:Rf} {k:Nat} (h:k<bs.length):dlK (ownP T a) bs (k+1)=if (T a bs[k]&&T bs[k] a)=true then dlK (ownP T a) bs k++[bs[k]] else dlK (ownP T a) bs k:=by
 rw[ZjS h];unfold ownP
 cases T a bs[k]&&T bs[k] a <;> simp
theorem Zl9 (T:Rf->Rf->Bool) (bs:List Rf):clX T bs 0=[]:=rfl
theorem Zla {T:Rf->Rf->Bool} {bs:List Rf} {i:Nat} (h:i<bs.length):clX T bs (i+1)=if hdT T bs bs[i]=true then clX T bs i++[ownT T bs bs[i]] else clX T bs i:=by
 unfold clX;rw[ZjS h]
 cases hdT T bs bs[i] <;> simp
theorem Zlb {T:Rf->Rf->Bool} {bs:List Rf} {i:Nat}:(clX T bs i).length<=i:=by
 unfold clX;rw[List.length_map];exact ZjQ
theorem Zlc {T:Rf->Rf->Bool} {bs:List Rf} {a:Rf}:(ownT T bs a).length<=bs.length:=ZjQ
theorem Zld {T:Rf->Rf->Bool} {bs:List Rf} {a b:Rf}:b∈ownT T bs a↔b∈bs/\T a b=true/\T b a=true:=by
 unfold ownT;rw[ZjR,List.mem_filter];simp[ownP]
def clM (l:List (List Rf)):List (List AV):=l.map λc=>[.vsl (acM c)]
theorem Zle (l:List (List Rf)) (c:List Rf):clM (l++[c])=clM l++[[.vsl (acM c)]]:=by simp[clM]
theorem Zlf (l:List (List Rf)):(clM l).length=l.length:=List.length_map _
theorem Zlg (o:List (Nat×AObj)) (l:List (List Rf)):Yd o (.row 1 (clM l))=true:=by
 simp only[Yd,List.all_eq_true,clM,List.mem_map];rintro x ⟨y,-,rfl⟩ w hw;simp only[List.mem_singleton]at hw;subst hw;simp[Ya,AV.keys]
theorem Zlh (l:List Rf):(AV.vsl (acM l)).pure=true:=by simp[AV.pure,acM,ita]
theorem Zli (l:List (List Rf)):(clM l).all (λr=>r.all AV.pure)=true:=by simp[clM,Zlh]
theorem Zlj (ok:Nat->Bool) (st:St) (l:List (List Rf)):(clM l).map (λr=>r.map (frzA ok st))=clM l:=by
 simp only[clM,List.map_map]
 congr 1
 funext w;simp[frzA,frz,AV.keys]
theorem Zlk {r:List Iss} {L:List Stq} {a b:Rf} (hL:L.length<=1000):a∈rcL r L false b↔a∈rfs r/\mayT (edg L) a b=true:=by
 have e:edT false L=edg L:=rfl;have hE:(edg L).length<=1000:=(by simpa [edg] using hL);have hle:=Zja (y:=b) (x:=a) hE;unfold rcL mayT;rw[List.mem_filter,e];refine and_congr Iff.rfl ?_;simp only[Bool.not_eq_true',decide_eq_false_iff_not,decide_eq_true_eq];omega
theorem Zll {r:List Iss} {L:List Stq} {a b:Rf} (hL:L.length<=1000) (ha:a∈rfs r) (hb:b∈rfs r):(a,b)∈prL r L (rfs r)↔mayT (edg L) a b=true:=by
 rw[ZkW,Zlk hL];exact ⟨λh=>h.2.2,λh=>⟨hb,ha,h⟩⟩
theorem Zlm {E:List (Rf×Rf)} (hE:E.length<=1000) (a:Rf):mayT E a a=true:=by
 unfold mayT;rw[decide_eq_true_eq,Zjc hE,ZkK.2 rfl];rfl
theorem ch_ne {r:List Iss} {l:List Nte} {q:List Rul} (h:chS r l q=0):r≠[]:=by
 have:=Zjp h;rintro rfl;simp[Zbv,inR]at this
def clT (n:Nat) (bs:List Rf) (i:Nat):List (Nat×AV):=[(39,.int .i64 i),(38,.int .i64 n),(37,.vsl (bs.map ita)),(12,.mp 32),(10,.ptr 10 0)]
structure CB where
 I:AV
 J:AV
 K:AV
 V:List (List AV)
 m:Int
 day:Int
def CB.M (c:CB) (bs:List Rf):List AV:=[.vptr [c.I,c.J,c.K,.vsl (bs.map ita)] 0,.vsl c.V,.int .i64 c.m,.int .i64 c.day]
def clB (c:CB) (bs:List Rf) (X:List Pr):List (Nat×AObj):=[(32,.mp (prA X)),(10,.box (c.M bs))]
def clL (acc:List (List Rf)):AV:=if acc=[] then .nils else .osl 83 acc.length
def clO (c:CB) (bs:List Rf) (X:List Pr) (acc:List (List Rf)):List (Nat×AObj):=if acc=[] then clB c bs X else (83,.row 1 (clM acc))::clB c bs X
def clS (c:CB) (bs:List Rf) (X:List Pr) (acc:List (List Rf)) (i:Nat):St:=⟨(13,clL acc)::clT bs.length bs i,clO c bs X acc⟩
def clI (c:CB) (bs:List Rf) (X:List Pr) (acc:List (List Rf)) (a:Rf) (own:List Rf) (i k:Nat):St :=
 if own=[] then ⟨(49,.int .i64 k)::(48,.int .i64 bs.length)::(47,.vsl (bs.map ita))::(16,.nils)::(15,.ptr 15 0)::(13,clL acc)::clT bs.length bs i,(15,.box [.int .i64 a.1,.int .i64 a.2])::clO c bs X acc⟩
 else ⟨(49,.int .i64 k)::(48,.int .i64 bs.length)::(47,.vsl (bs.map ita))::(16,.osl 68 own.length)::(15,.ptr 15 0)::(13,clL acc)::clT bs.length bs i,(68,.row 2 (acM own))::(15,.box [.int .i64 a.1,.int .i64 a.2])::clO c bs X acc⟩
def clE (r:List Iss) (l:List Nte) (q:List Rul) (s:List Int) (m day:Int):AV :=
 .tup [if aqN r l q s m day day=0 then Yh (clM (clX (mayT (edg (st5 r l q s m day))) (rfs r) (rfs r).length)) else .nils,.int .i64 (aqN r l q s m day day)]
section
variable {G:Nat->Option (List AV)}
set_option maxHeartbeats 4000000 in
theorem Zln (hG:GC G) (hN:GN G) (hQ:GQ G) (r:List Iss) (l:List Nte) (q:List Rul) (s:List Int) (m day:Int) (hw:WfN l) (hr:Wf r) (hq:Sml q) (hs:Sml s) :
  PC Tryz.prog G 32 [swa r l q,.vsl (s.map ia),.int .i64 m,.int .i64 day] (clE r l q s m day):=by
 have ha:=ZiK hG hN r l q s m day day hw hr hq hs;unfold clE;unfold moA at ha;by_cases h0:aqN r l q s m day day=0
 case neg =>
  rw[if_neg h0]at ha ⊢;unfold swa at *
  (refine Z6e rfl λR hG hrd=>Qga ?_;subst hG)
  simp -implicitDefEqProofs[Z6c,Z6d];refine Qco (ha) (by simp) ?_;simp -implicitDefEqProofs[h0]
 have hz:=Zi9 h0;have hne:=ch_ne hz.1;have hp:=Zl7 hG hN hQ r l q s m day hw hr hq hs hz.1 hz.2.1 hne;have hlen:=Zkl (s:=s) (m:=m) (day:=day) hz.1;have hE:(edg (st5 r l q s m day)).length<=1000:=(by simp[edg];omega);have hnd:(rfs r).Nodup:=Zjl (Zjp hz.1);have hch:=ZkC hz.1;have hn:=ZkD r;have lB:(rfs r).length<=60:=(by omega);have pS:(Yl r l q).pure=true:=(by unfold Yl rfA;split <;> simp[AV.pure,isa,na,ra,rfa]);have kS:(Yl r l q).keys=[]:=(by unfold Yl;simp[AV.keys]);have hT:=λa b ha hb=>Zll (r:=r) (L:=st5 r l q s m day) (a:=a) (b:=b) (by omega) ha hb
 have hself:=λa=>Zlm hE a
 rw[if_pos h0,h0]at ha ⊢;obtain ⟨cs,eS⟩ : ∃ cs,Yl r l q = .vptr cs 0:=⟨_,rfl⟩
 have eC:cs=[.vsl (r.map isa),.vsl (l.map na),.vsl (q.map ra),.vsl ((rfs r).map ita)]:=by
  unfold Yl at eS;rw[Zku hne]at eS;injection eS with e1 _
  exact e1.symm
 unfold moC at *;rw[eS]at ha hp pS kS;generalize prL r (st5 r l q s m day) (rfs r)=X at *;generalize mayT (edg (st5 r l q s m day))=T at *;unfold swa at *;subst eC;generalize rfs r=bs at *
 (refine Z6e rfl λR hG hrd=>Qga ?_;subst hG)
 simp -implicitDefEqProofs[Z6c,Z6d];refine Qco (ha) (by simp) ?_;simp -implicitDefEqProofs[];refine Ye.sem (Z1B.objs hp (λ_=>32) (by simp) (by simp[St.get,lk]) (by simp[AV.pure]at pS ⊢;try simp[pS]) rfl rfl) ?_;simp -implicitDefEqProofs[AV.ren,Ym,Zl0];obtain ⟨c,hc⟩ : ∃ c:CB,c=⟨.vsl (r.map isa),.vsl (l.map na),.vsl (q.map ra),s.map ia,m,day⟩:=⟨_,rfl⟩;have hk:c.I.keys=[]/\c.J.keys=[]/\c.K.keys=[]:=(by rw[hc];simp[AV.keys]);obtain ⟨kI,kJ,kK⟩:=hk;refine Zba (λi=>clS c bs X (clX T bs i) i) (λ_=>True) bs.length ?_ trivial ?_ ?_
 . rw[Zl9];have e0:clL [] = .nils:=rfl;have e1:clO c bs X []=clB c bs X:=rfl;simp only[clS,clT,e0,e1,clB];simp only[CB.M,hc]
   ((try simp only[ita]);refine Yn.sub (by simp[lk,Ya,AV.keys,ita]) ?_;simp only[ita,Wkl,ZkY,and_true];(try simp[lk,Yd,Ya,AV.keys,ita]))
 . intro i hi _;have wi:IntKind.i64.wrap ((i:Int)+1)=(i:Int)+1:=Yg (by omega) (by omega);obtain ⟨a,hae⟩ : ∃ a,a=bs[i]:=⟨_,rfl⟩;have hmem:a∈bs:=(by rw[hae];exact List.getElem_mem hi);have sn:=Zla (T:=T) hi;rw[<- hae]at sn;have al:=Zlb (T:=T) (bs:=bs) (i:=i);generalize clX T bs i=acc at *;have lnm:=Zlf acc;have bb:(acc.length+1)*24<=70368744177664:=(by omega);refine Qga ?_;by_cases c0:acc=[]
   case' pos =>
    have hL:clL acc = .nils:=(by simp[clL,c0]);have hO:clO c bs X acc=clB c bs X:=by simp[clO,c0]
   case' neg =>
    have hL:clL acc = .osl 83 acc.length:=(by simp[clL,c0]);have hO:clO c bs X acc=(83,.row 1 (clM acc))::clB c bs X:=by simp[clO,c0]
   all_goals
    simp -implicitDefEqProofs[clS,clT,clB,CB.M,hL,hO,hi,ita,<- hae];refine Zba (λk=>clI c bs X acc a (dlK (ownP T a) bs k) i k) (λ_=>True) bs.length ?_ trivial ?_ ?_
    . have e0:dlK (ownP T a) bs 0=[]:=rfl;simp only[clI,e0,if_true,clT,clB,CB.M,hL,hO]
      ((try simp only[CB.M,kI,kJ,kK,ita]);refine Yn.sub (by simp[lk,Ya,AV.keys,CB.M,kI,kJ,kK,ita]) ?_;simp only[CB.M,kI,kJ,kK,ita,Wkl,ZkY,Zlg,and_true];(try simp[lk,Yd,Ya,AV.keys,CB.M,kI,kJ,kK,ita]))
    . intro k hk _;have wk:IntKind.i64.wrap ((k:Int)+1)=(k:Int)+1:=Yg (by omega) (by omega);obtain ⟨b,hbe⟩ : ∃ b,b=bs[k]:=⟨_,rfl⟩;have hb:b∈bs:=(by rw[hbe];exact List.getElem_mem hk);have sn2:=Zl8 (T:=T) (a:=a) hk;rw[<- hbe]at sn2;have ol:=ZjQ (p:=ownP T a) (l:=bs) (j:=k);have g1:=ZkQ (a,b) X;have g2:=ZkQ (b,a) X;have m1:=hT a b hmem hb;have m2:=hT b a hb hmem;simp only[prK]at g1 g2;generalize dlK (ownP T a) bs k=own at *;have em:=ZkE own b;have lo:=ZkF own;have b2:(own.length+1)*16<=70368744177664:=(by omega);refine Qga ?_
      cases t1:T a b
      . rw[t1]at m1 sn2;rw[if_neg (λh=>by have:=m1.1 h;cases this)]at g1;simp only[Bool.false_and,Bool.false_eq_true,if_false]at sn2;by_cases cx:own=[]
        all_goals
         simp -implicitDefEqProofs[clI,clT,clB,hL,hO,hk,ita,<- hbe,wk,g1,cx,sn2]
         ((try simp only[CB.M,kI,kJ,kK,ita]);refine Yn.sub (by simp[lk,Ya,AV.keys,CB.M,kI,kJ,kK,ita]) ?_;simp only[CB.M,kI,kJ,kK,ita,Wkl,ZkY,Zlg,ZkG,and_true];(try simp[lk,Yd,Ya,AV.keys,CB.M,kI,kJ,kK,ita]))
      . rw [t1]at m1 sn2;rw[if_pos (m1.2 rfl)]at g1
        cases t2:T b a
        . rw[t2]at m2 sn2;rw[if_neg (λh=>by have:=m2.1 h;cases this)]at g2;simp only[Bool.and_false,Bool.false_eq_true,if_false]at sn2;by_cases cx:own=[]
          all_goals
           simp -implicitDefEqProofs[clI,clT,clB,hL,hO,hk,ita,<- hbe,wk,g1,g2,cx,sn2]
           ((try simp only[CB.M,kI,kJ,kK,ita]);refine Yn.sub (by simp[lk,Ya,AV.keys,CB.M,kI,kJ,kK,ita]) ?_;simp only[CB.M,kI,kJ,kK,ita,Wkl,ZkY,Zlg,ZkG,and_true];(try simp[lk,Yd,Ya,AV.keys,CB.M,kI,kJ,kK,ita]))
        . rw[t2]at m2 sn2;rw[if_pos (m2.2 rfl)]at g2;simp only[Bool.and_self,if_true]at sn2;by_cases cx:own=[]
          . rw[cx,List.nil_append]at sn2 em;have e0:acM []=[]:=rfl;rw[e0,List.nil_append]at em;simp -implicitDefEqProofs[clI,clT,clB,hL,hO,hk,ita,<- hbe,wk,g1,g2,cx,sn2];rw[<- em]
            ((try simp only[CB.M,kI,kJ,kK,ita]);refine Yn.sub (by simp[lk,Ya,AV.keys,CB.M,kI,kJ,kK,ita]) ?_;simp only[CB.M,kI,kJ,kK,ita,Wkl,ZkY,Zlg,ZkG,and_true];(try simp[lk,Yd,Ya,AV.keys,CB.M,kI,kJ,kK,ita]))
          . have cx2:¬own++[b]=[]:=(by simp);simp -implicitDefEqProofs[clI,clT,clB,hL,hO,hk,ita,<- hbe,wk,g1,g2,cx,cx2,sn2,b2,lo];rw[<- em]
            ((try simp only[CB.M,kI,kJ,kK,ita]);refine Yn.sub (by simp[lk,Ya,AV.keys,CB.M,kI,kJ,kK,ita]) ?_;simp only[CB.M,kI,kJ,kK,ita,Wkl,ZkY,Zlg,ZkG,and_true];(try simp[lk,Yd,Ya,AV.keys,CB.M,kI,kJ,kK,ita]))
    . intro _;have eO:dlK (ownP T a) bs bs.length=ownT T bs a:=rfl;rw[eO];have hin:a∈ownT T bs a:=Zld.2 ⟨hmem,hself a,hself a⟩;have ol:=Zlc (T:=T) (bs:=bs) (a:=a);have hH:hdT T bs a=(decide (1<(ownT T bs a).length)&&decide ((ownT T bs a).head? = some a)):=rfl;rw[hH]at sn;generalize ownT T bs a=own at *
      obtain ⟨x,rest,rfl⟩ : ∃ x rest,own=x::rest:=by
       cases own with
       |nil=>cases hin
       |cons x rest=>exact ⟨x,rest,rfl⟩
      have k5:=ZkH (x::rest);have k6:=ZkF (x::rest);have k7:=Zlh (x::rest);refine Qga ?_;simp -implicitDefEqProofs[clI,clT,clB,CB.M,hL,hO];refine Z2M Yb 2 ?_;simp -implicitDefEqProofs[];refine GO0 (Z2L (st':=⟨(16,.vsl (acM (x::rest)))::(15,.ptr 15 0)::(13,clL acc)::clT bs.length bs i,(15,.box [.int .i64 a.1,.int .i64 a.2])::clO c bs X acc⟩) (Yn.trans (Yn.frz (λk=>k == 68) _) ?_) ?_)
      . simp only[clT,clB,CB.M,hL,hO]
        ((try simp only[Yj,frzA,frzO,frz,Yi,Yk,St.get,AV.pure,k5,k6,Zlj,Zl2,CB.M,kI,kJ,kK,ita]);refine Yn.sub (by simp[lk,Ya,AV.keys,Yj,frzA,frzO,frz,Yi,Yk,St.get,AV.pure,k5,k6,Zlj,Zl2,CB.M,kI,kJ,kK,ita]) ?_;simp only[Yj,frzA,frzO,frz,Yi,Yk,St.get,AV.pure,k5,k6,Zlj,Zl2,CB.M,kI,kJ,kK,ita,Wkl,ZkY,Zlg,and_true];(try simp[lk,Yd,Ya,AV.keys,Yj,frzA,frzO,frz,Yi,Yk,St.get,AV.pure,k5,k6,Zlj,Zl2,CB.M,kI,kJ,kK,ita]))
      have hrow:acM (x::rest)=[.int .i64 x.1,.int .i64 x.2]::acM rest:=rfl;have lr:=ZkF rest;refine Qga ?_;by_cases c1:rest=[]
      . have sn1:clX T bs (i+1)=acc:=(by rw[sn,c1];simp);have hA:acM [x]=[[.int .i64 x.1,.int .i64 x.2]]:=rfl;simp -implicitDefEqProofs[clT,clB,CB.M,hL,hO,hA,c1,wi,sn1];refine ⟨rfl,?_⟩;refine Qgr ?_;simp -implicitDefEqProofs[clS,clT,clB,CB.M,hL,hO,wi,sn1]
        ((try simp only[CB.M,kI,kJ,kK,ita]);refine Yn.sub (by simp[lk,Ya,AV.keys,CB.M,kI,kJ,kK,ita]) ?_;simp only[CB.M,kI,kJ,kK,ita,Wkl,ZkY,Zlg,and_true];(try simp[lk,Yd,Ya,AV.keys,CB.M,kI,kJ,kK,ita]))
      . have hl:0<rest.length:=List.length_pos_iff.2 c1;have hl2:(1:Int)<(rest.length:Int)+1:=(by omega);by_cases c2:x=a
        . have sn1:clX T bs (i+1)=acc++[x::rest]:=(by rw[sn,c2];simp[hl]);have em:=Zle acc (x::rest);rw[hrow]at em;subst c2;simp -implicitDefEqProofs[clT,clB,CB.M,hL,hO,hrow,lr,hl2,lnm,bb,wi,sn1];refine ⟨rfl,?_⟩;have hL1:clL (acc++[x::rest]) = .osl 83 (acc.length+1):=(by simp[clL]);have hO1:clO c bs X (acc++[x::rest])=(83,.row 1 (clM (acc++[x::rest])))::clB c bs X:=(by simp[clO]);have e0:clM []=[]:=rfl
          (try (rw[c0]at em sn1 hL1 hO1;simp only[List.nil_append,e0,List.length_nil,Nat.zero_add]at em sn1 hL1 hO1))
          refine Qgr ?_;simp -implicitDefEqProofs[clS,clT,clB,CB.M,wi,sn1,hL1,hO1];rw[<- em]
          ((try simp only[CB.M,kI,kJ,kK,ita]);refine Yn.sub (by simp[lk,Ya,AV.keys,CB.M,kI,kJ,kK,ita]) ?_;simp only[CB.M,kI,kJ,kK,ita,Wkl,ZkY,Zlg,and_true];(try simp[lk,Yd,Ya,AV.keys,CB.M,kI,kJ,kK,ita]))
        . have sn1:clX T bs (i+1)=acc:=by rw[sn];simp[c2]
          have hb:(decide (x.1=a.1)&&decide (x.2=a.2))=false:=by
           cases q:(decide (x.1=a.1)&&decide (x.2=a.2))
           . rfl
           . simp only[Bool.and_eq_true,decide_eq_true_eq]at q;exact absurd (Prod.ext q.1 q.2) c2
          simp -implicitDefEqProofs[clT,clB,CB.M,hL,hO,hrow,lr,hl2,hb,wi,sn1];refine ⟨rfl,?_⟩;refine Qgr ?_;simp -implicitDefEqProofs[clS,clT,clB,CB.M,hL,hO,wi,sn1]
          ((try simp only[CB.M,kI,kJ,kK,ita]);refine Yn.sub (by simp[lk,Ya,AV.keys,CB.M,kI,kJ,kK,ita]) ?_;simp only[CB.M,kI,kJ,kK,ita,Wkl,ZkY,Zlg,and_true];(try simp[lk,Yd,Ya,AV.keys,CB.M,kI,kJ,kK,ita]))
 . intro _;generalize clX T bs bs.length=acc at *;have k5:=Zli acc;have k6:=Zlf acc;refine Qga ?_;by_cases c0:acc=[]
   . have hL:clL acc = .nils:=(by simp[clL,c0]);have hO:clO c bs X acc=clB c bs X:=(by simp[clO,c0]);simp -implicitDefEqProofs[clS,clT,hL,hO];refine Qgr ?_;have e0:clM []=[]:=rfl;simp -implicitDefEqProofs[c0,Yh,e0]
   . have hL:clL acc = .osl 83 acc.length:=(by simp[clL,c0]);have hO:clO c bs X acc=(83,.row 1 (clM acc))::clB c bs X:=(by simp[clO,c0]);have e0:¬clM acc=[]:=λh=>c0 (by simpa [clM] using h)
     simp -implicitDefEqProofs[clS,clT,hL,hO];refine Qgr ?_;simp -implicitDefEqProofs[Yh,k5,k6,e0]
end
def stkP (Y:List Pr) (D:Nat->Bool) (p:Pr):Bool:=(List.range Y.length).any λi=>D i&&decide (Y[i]? = some p)
theorem Zlo (X Y:List Pr):X.filter (λp=>!stkP Y (λ_=>false) p)=X:=List.filter_eq_self.2 λp _=>by simp[stkP]
theorem Zlp {X Y:List Pr} {D:Nat->Bool} {i:Nat} (hi:i<Y.length):(X.filter λp=>!stkP Y D p).filter (λp=>!decide (Y[i]=p))=X.filter λp=>!stkP Y (λj=>D j||j == i) p:=by
 rw[List.filter_filter];refine List.filter_congr λp _=>?_
 have e:stkP Y (λj=>D j||j == i) p=(decide (Y[i]=p)||stkP Y D p):=by
  unfold stkP;rw[Bool.eq_iff_iff];simp only[List.any_eq_true,List.mem_range,Bool.and_eq_true,Bool.or_eq_true,beq_iff_eq,decide_eq_true_eq]
  constructor
  . rintro ⟨j,hj,h1|rfl,h2⟩
    . exact .inr ⟨j,hj,h1,h2⟩
    . rw[List.getElem?_eq_getElem hj]at h2;cases h2;exact .inl rfl
  . rintro (h1 | ⟨j,hj,h1,h2⟩)
    . exact ⟨i,hi,.inr rfl,by rw[List.getElem?_eq_getElem hi,h1]⟩
    . exact ⟨j,hj,.inl h1,h2⟩
 rw[e];simp
theorem Zlq {X Y:List Pr} {D:Nat->Bool} (h:∀ i,i<Y.length->D i=true) {p:Pr}:p∈X.filter (λp=>!stkP Y D p)↔p∈X/\p ∉ Y:=by
 rw[List.mem_filter];refine and_congr Iff.rfl ?_
 have:stkP Y D p=true↔p∈Y:=by
  unfold stkP;simp only[List.any_eq_true,List.mem_range,Bool.and_eq_true,decide_eq_true_eq]
  constructor
  . rintro ⟨j,hj,-,h2⟩;exact List.mem_of_getElem? h2
  . intro hm;obtain ⟨j,hj,e⟩:=List.getElem_of_mem hm;exact ⟨j,hj,h j hj,by rw[List.getElem?_eq_getElem hj,e]⟩
 rw[<- this];simp
def losP (T U:Rf->Rf->Bool) (a b:Rf):Bool:=!(T a b && !U a b)
def losR (T U:Rf->Rf->Bool) (bs:List Rf) (a:Rf) (k:Nat):List Pr:=(dlK (losP T U a) bs k).map λb=>(a,b)
def losX (T U:Rf->Rf->Bool) (bs:List Rf) (i:Nat):List Pr:=(bs.take i).flatMap λa=>losR T U bs a bs.length
theorem Zlr {T U:Rf->Rf->Bool} {bs:List Rf} {i:Nat} (h:i<bs.length):losX T U bs (i+1)=losX T U bs i++losR T U bs bs[i] bs.length:=by
 unfold losX;rw[List.take_succ_eq_append_getElem h,List.flatMap_append,List.flatMap_cons,List.flatMap_nil,List.append_nil]
theorem Zls {T U:Rf->Rf->Bool} {bs:List Rf} {a:Rf} {k:Nat} (h:k<bs.length):losR T U bs a (k+1)=if (T a bs[k] && !U a bs[k])=true then losR T U bs a k++[(a,bs[k])] else losR T U bs a k:=by
 unfold losR;rw[ZjS h];unfold losP
 cases T a bs[k] && !U a bs[k] <;> simp
theorem Zlt {T U:Rf->Rf->Bool} {bs:List Rf} {a:Rf} {k:Nat}:(losR T U bs a k).length<=k:=by
 unfold losR;rw[List.length_map];exact ZjQ
theorem Zlu {T U:Rf->Rf->Bool} {bs:List Rf}:∀ i,i<=bs.length->(losX T U bs i).length<=i*bs.length
 |0,_=>by simp[losX]
 | i+1,h=>by
   have hi:i<bs.length:=h;have ih:=Zlu (T:=T) (U:=U) (bs:=bs) i (by omega);have:=Zlt (T:=T) (U:=U) (bs:=bs) (a:=bs[i]) (k:=bs.length);rw[Zlr hi,List.length_append,Nat.succ_mul];omega
def pra (p:Pr):List AV:=[.int .i64 p.1.1,.int .i64 p.1.2,.int .i64 p.2.1,.int .i64 p.2.2]
def prM (l:List Pr):List (List AV):=l.map pra
theorem Zlv (l:List Pr) (p:Pr):prM (l++[p])=prM l++[[.int .i64 p.1.1,.int .i64 p.1.2,.int .i64 p.2.1,.int .i64 p.2.2]]:=by simp[prM,pra]
theorem Zlw (l:List Pr):(prM l).length=l.length:=List.length_map _
theorem Zlx (l:List Pr):(prM l).all (λr=>r.all AV.pure)=true:=by simp[prM,pra,AV.pure]
theorem Zly (o:List (Nat×AObj)) (l:List Pr):Yd o (.row 4 (prM l))=true:=by
 simp only[Yd,List.all_eq_true,prM,List.mem_map];rintro x ⟨y,-,rfl⟩ w hw;simp only[pra,List.mem_cons,List.not_mem_nil,or_false]at hw;rcases hw with rfl|rfl|rfl|rfl <;> simp[Ya,AV.keys]
def loE (r:List Iss) (l:List Nte) (q:List Rul) (s:List Int) (m d e:Int):AV :=
 .tup [if aqN r l q s m d e=0 then Yh (prM (losX (mayT (edg (st5 r l q s m d))) (mayT (edg (st5 r l q s m e))) (rfs r) (rfs r).length)) else .nils,.int .i64 (aqN r l q s m d e)]
def loD (c:CB) (bs:List Rf) (X Y:List Pr) (D:Nat->Bool):St :=
 ⟨[(39,.vmap (prA Y)),(14,.mp 35),(12,.ptr 12 0)],[(35,.mp (prA (X.filter λp=>!stkP Y D p))),(12,.box (c.M bs))]⟩
def loT (n:Nat) (bs:List Rf) (i:Nat):List (Nat×AV):=[(53,.int .i64 i),(52,.int .i64 n),(51,.vsl (bs.map ita)),(14,.mp 35),(12,.ptr 12 0)]
def loB (c:CB) (bs:List Rf) (Z:List Pr):List (Nat×AObj):=[(35,.mp (prA Z)),(12,.box (c.M bs))]
def loL (acc:List Pr):AV:=if acc=[] then .nils else .osl 76 acc.length
def loO (c:CB) (bs:List Rf) (Z acc:List Pr):List (Nat×AObj):=if acc=[] then loB c bs Z else (76,.row 4 (prM acc))::loB c bs Z
def loS (c:CB) (bs:List Rf) (Z acc:List Pr) (i:Nat):St:=⟨(16,loL acc)::loT bs.length bs i,loO c bs Z acc⟩
def loI (c:CB) (bs:List Rf) (Z acc:List Pr) (a:Rf) (i k:Nat):St :=
 ⟨(63,.int .i64 k)::(62,.int .i64 bs.length)::(61,.vsl (bs.map ita))::(18,.ptr 18 0)::(16,loL acc)::loT bs.length bs i,(18,.box [.int .i64 a.1,.int .i64 a.2])::loO c bs Z acc⟩
section
variable {G:Nat->Option (List AV)}
set_option maxHeartbeats 4000000 in
theorem Zlz (hG:GC G) (hN:GN G) (hQ:GQ G) (r:List Iss) (l:List Nte) (q:List Rul) (s:List Int) (m d e:Int) (hw:WfN l) (hr:Wf r) (hq:Sml q) (hs:Sml s) :
  PC Tryz.prog G 36 [swa r l q,.vsl (s.map ia),.int .i64 m,.int .i64 d,.int .i64 e] (loE r l q s m d e):=by
 have ha:=ZiK hG hN r l q s m d e hw hr hq hs;unfold loE;unfold moA at ha;by_cases h0:aqN r l q s m d e=0
 case neg =>
  rw[if_neg h0]at ha ⊢;unfold swa at *
  (refine Z6h rfl λR hG hrd=>Qga ?_;subst hG)
  simp -implicitDefEqProofs[Z6f,Z6g];refine Qco (ha) (by simp) ?_;simp -implicitDefEqProofs[h0]
 have hz:=Zi9 h0;have hne:=ch_ne hz.1;have hp:=Zl7 hG hN hQ r l q s m d hw hr hq hs hz.1 hz.2.1 hne;have hp2:=Zl7 hG hN hQ r l q s m e hw hr hq hs hz.1 hz.2.1 hne;have hlen:=Zkl (s:=s) (m:=m) (day:=d) hz.1;have hlen2:=Zkl (s:=s) (m:=m) (day:=e) hz.1;have hnd:(rfs r).Nodup:=Zjl (Zjp hz.1);have hXn:=ZkX (L:=st5 r l q s m d) hnd hnd;have hch:=ZkC hz.1;have hn:=ZkD r;have lB:(rfs r).length<=60:=(by omega);have pS:(Yl r l q).pure=true:=(by unfold Yl rfA;split <;> simp[AV.pure,isa,na,ra,rfa]);have hT:=λa b ha hb=>Zll (r:=r) (L:=st5 r l q s m d) (a:=a) (b:=b) (by omega) ha hb
 have hU:=λa b ha hb=>Zll (r:=r) (L:=st5 r l q s m e) (a:=a) (b:=b) (by omega) ha hb
 rw[if_pos h0,h0]at ha ⊢;obtain ⟨cs,eS⟩ : ∃ cs,Yl r l q = .vptr cs 0:=⟨_,rfl⟩
 have eC:cs=[.vsl (r.map isa),.vsl (l.map na),.vsl (q.map ra),.vsl ((rfs r).map ita)]:=by
  unfold Yl at eS;rw[Zku hne]at eS;injection eS with e1 _
  exact e1.symm
 unfold moC at *;rw[eS]at ha hp hp2 pS;generalize prL r (st5 r l q s m d) (rfs r)=X at *;generalize prL r (st5 r l q s m e) (rfs r)=Y at *;generalize mayT (edg (st5 r l q s m d))=T at *;generalize mayT (edg (st5 r l q s m e))=U at *;unfold swa at *;subst eC;generalize rfs r=bs at *
 (refine Z6h rfl λR hG hrd=>Qga ?_;subst hG)
 simp -implicitDefEqProofs[Z6f,Z6g];refine Qco (ha) (by simp) ?_;simp -implicitDefEqProofs[];refine Ye.sem (Z1B.objs hp (λ_=>35) (by simp) (by simp[St.get,lk]) (by simp[AV.pure]at pS ⊢;try simp[pS]) rfl rfl) ?_;simp -implicitDefEqProofs[AV.ren,Ym,Zl0];obtain ⟨c,hc⟩ : ∃ c:CB,c=⟨.vsl (r.map isa),.vsl (l.map na),.vsl (q.map ra),s.map ia,m,e⟩:=⟨_,rfl⟩;have hk:c.I.keys=[]/\c.J.keys=[]/\c.K.keys=[]:=(by rw[hc];simp[AV.keys]);obtain ⟨kI,kJ,kK⟩:=hk;refine Z5o (kvs:=prA Y) (loD c bs X Y) (by decide) (by simp[Z1y]) (λD=>by simp[loD,St.tmp,lk]) (λD n hn=>by simp at hn;rcases hn with rfl|rfl|rfl|rfl|rfl <;> simp[loD,St.tmp,lk]) ?_ ?_ ?_
 . simp -implicitDefEqProofs[];refine Ye.sem (Z1B.objs hp2 (λ_=>39) (by simp) (by simp[St.get,lk]) (by simp[AV.pure]at pS ⊢;try simp[pS]) rfl rfl) ?_;simp -implicitDefEqProofs[AV.ren,Ym,Zl0];refine Yn.trans (Yn.frz (λk=>k == 39) _) ?_;simp only[loD,Zlo,CB.M,hc]
   ((try simp only[Yj,frzA,frzO,frz,Yi,Yk,St.get,AV.pure,Zl2,ZkZ]);refine Yn.sub (by simp[lk,Ya,AV.keys,Yj,frzA,frzO,frz,Yi,Yk,St.get,AV.pure,Zl2,ZkZ]) ?_;simp only[Yj,frzA,frzO,frz,Yi,Yk,St.get,AV.pure,Zl2,ZkZ,Wkl,ZkY,and_true];(try simp[lk,Yd,Ya,AV.keys,Yj,frzA,frzO,frz,Yi,Yk,St.get,AV.pure,Zl2,ZkZ]))
 . intro D i k v hkv hD;obtain ⟨hi0,hkv2⟩:=List.getElem?_eq_some_iff.1 hkv;have hi:i<Y.length:=(by simpa [prA] using hi0);have hk1:k=prK Y[i]:=(by simp[prA]at hkv2;exact hkv2.1.symm);subst hk1;have hde:=ZkU (x:=Y[i]) (l:=X.filter λp=>!stkP Y D p) (hXn.sublist List.filter_sublist);rw[Zlp hi]at hde;simp only[prK]at hde;simp -implicitDefEqProofs[loD,prK,hde]
   ((try simp only[CB.M,kI,kJ,kK]);refine Yn.sub (by simp[lk,Ya,AV.keys,CB.M,kI,kJ,kK]) ?_;simp only[CB.M,kI,kJ,kK,Wkl,ZkY,and_true];(try simp[lk,Yd,Ya,AV.keys,CB.M,kI,kJ,kK]))
 . intro D hD;have hmem:=λp=>Zlq (X:=X) (Y:=Y) (D:=D) (by simpa [prA] using hD) (p:=p)
   simp only[loD];generalize X.filter (λp=>!stkP Y D p)=Z at *
   have hZ:∀ a b,a∈bs->b∈bs->((a,b)∈Z↔(T a b && !U a b)=true):=λa b h1 h2=>by
    rw[hmem,hT a b h1 h2,hU a b h1 h2]
    cases T a b <;> cases U a b <;> simp
   clear hD hmem;refine Qgr ?_;simp -implicitDefEqProofs[CB.M];refine Zba (λi=>loS c bs Z (losX T U bs i) i) (λ_=>True) bs.length ?_ trivial ?_ ?_
   . have e0:losX T U bs 0=[]:=rfl;have e1:loL [] = .nils:=rfl;have e2:loO c bs Z []=loB c bs Z:=rfl;simp only[loS,loT,loB,CB.M,e0,e1,e2]
     ((try simp only[kI,kJ,kK,ita]);refine Yn.sub (by simp[lk,Ya,AV.keys,kI,kJ,kK,ita]) ?_;simp only[kI,kJ,kK,ita,Wkl,ZkY,and_true];(try simp[lk,Yd,Ya,AV.keys,kI,kJ,kK,ita]))
   . intro i hi _;have wi:IntKind.i64.wrap ((i:Int)+1)=(i:Int)+1:=Yg (by omega) (by omega);obtain ⟨a,hae⟩ : ∃ a,a=bs[i]:=⟨_,rfl⟩;have hma:a∈bs:=(by rw[hae];exact List.getElem_mem hi);have sn:=Zlr (T:=T) (U:=U) hi;rw[<- hae]at sn;have al:=Zlu (T:=T) (U:=U) (bs:=bs) i (by omega);have al2:i*bs.length<=60*60:=Nat.mul_le_mul (by omega) lB;generalize losX T U bs i=A at *;refine Qga ?_
     have init:∀ st',Yn st' (loI c bs Z A a i 0)->Yn st' (loI c bs Z (A++losR T U bs a 0) a i 0):=λst' h=>by
      have e:losR T U bs a 0=[]:=rfl;rw[e,List.append_nil];exact h
     by_cases c0:A=[]
     case' pos =>
      have hL:loL A = .nils:=(by simp[loL,c0]);have hO:loO c bs Z A=loB c bs Z:=by simp[loO,c0]
     case' neg =>
      have hL:loL A = .osl 76 A.length:=(by simp[loL,c0]);have hO:loO c bs Z A=(76,.row 4 (prM A))::loB c bs Z:=by simp[loO,c0]
     all_goals
      simp -implicitDefEqProofs[loS,loT,loB,CB.M,hL,hO,hi,ita,<- hae];refine Zba (λk=>loI c bs Z (A++losR T U bs a k) a i k) (λ_=>True) bs.length ?_ trivial ?_ ?_
      . refine init _ ?_;simp only[loI,loT,loB,CB.M,hL,hO]
        ((try simp only[kI,kJ,kK,ita]);refine Yn.sub (by simp[lk,Ya,AV.keys,kI,kJ,kK,ita]) ?_;simp only[kI,kJ,kK,ita,Wkl,ZkY,Zly,and_true];(try simp[lk,Yd,Ya,AV.keys,kI,kJ,kK,ita]))
      . clear hL hO init;intro k hk _;have wk:IntKind.i64.wrap ((k:Int)+1)=(k:Int)+1:=Yg (by omega) (by omega);obtain ⟨b,hbe⟩ : ∃ b,b=bs[k]:=⟨_,rfl⟩;have hmb:b∈bs:=(by rw[hbe];exact List.getElem_mem hk);have sn2:=Zls (T:=T) (U:=U) (a:=a) hk;rw[<- hbe]at sn2;have g1:=ZkQ (a,b) Z;have m1:=hZ a b hma hmb;simp only[prK]at g1
        have sn3:A++losR T U bs a (k+1)=if (T a b && !U a b)=true then (A++losR T U bs a k)++[(a,b)] else A++losR T U bs a k:=by
         rw[sn2];split <;> simp
        have ol:(A++losR T U bs a k).length<=60*60+60:=by
         have:=Zlt (T:=T) (U:=U) (bs:=bs) (a:=a) (k:=k);rw[List.length_append];omega
        generalize A++losR T U bs a k=acc at *;have em:=Zlv acc (a,b);have lo:=Zlw acc;have bb:(acc.length+1)*32<=70368744177664:=(by omega);refine Qga ?_;by_cases t1:(T a b && !U a b)=true
        . rw[if_pos t1]at sn3;rw[if_pos (m1.2 t1)]at g1;have hL1:loL (acc++[(a,b)]) = .osl 76 (acc.length+1):=(by simp[loL]);have hO1:loO c bs Z (acc++[(a,b)])=(76,.row 4 (prM (acc++[(a,b)])))::loB c bs Z:=(by simp[loO]);by_cases cx:acc=[]
          . have hL:loL acc = .nils:=(by simp[loL,cx]);have hO:loO c bs Z acc=loB c bs Z:=(by simp[loO,cx]);have e0:prM []=[]:=rfl;rw[cx]at em sn3 hL1 hO1;simp only[List.nil_append,e0,List.length_nil,Nat.zero_add]at em sn3 hL1 hO1;simp -implicitDefEqProofs[loI,loT,loB,CB.M,hL,hO,hk,ita,<- hbe,wk,g1,sn3,hL1,hO1];rw[<- em]
            ((try simp only[kI,kJ,kK,ita]);refine Yn.sub (by simp[lk,Ya,AV.keys,kI,kJ,kK,ita]) ?_;simp only[kI,kJ,kK,ita,Wkl,ZkY,Zly,and_true];(try simp[lk,Yd,Ya,AV.keys,kI,kJ,kK,ita]))
          . have hL:loL acc = .osl 76 acc.length:=(by simp[loL,cx]);have hO:loO c bs Z acc=(76,.row 4 (prM acc))::loB c bs Z:=(by simp[loO,cx]);simp -implicitDefEqProofs[loI,loT,loB,CB.M,hL,hO,hk,ita,<- hbe,wk,g1,sn3,hL1,hO1,lo,bb];rw[<- em]
            ((try simp only[kI,kJ,kK,ita]);refine Yn.sub (by simp[lk,Ya,AV.keys,kI,kJ,kK,ita]) ?_;simp only[kI,kJ,kK,ita,Wkl,ZkY,Zly,and_true];(try simp[lk,Yd,Ya,AV.keys,kI,kJ,kK,ita]))
        . rw[if_neg t1]at sn3;rw[if_neg (λh=>t1 (m1.1 h))]at g1;by_cases cx:acc=[]
          case' pos =>
           have hL:loL acc = .nils:=(by simp[loL,cx]);have hO:loO c bs Z acc=loB c bs Z:=by simp[loO,cx]
          case' neg =>
           have hL:loL acc = .osl 76 acc.length:=(by simp[loL,cx]);have hO:loO c bs Z acc=(76,.row 4 (prM acc))::loB c bs Z:=by simp[loO,cx]
          all_goals
           simp -implicitDefEqProofs[loI,loT,loB,CB.M,hL,hO,hk,ita,<- hbe,wk,g1,sn3]
           ((try simp only[kI,kJ,kK,ita]);refine Yn.sub (by simp[lk,Ya,AV.keys,kI,kJ,kK,ita]) ?_;simp only[kI,kJ,kK,ita,Wkl,ZkY,Zly,and_true];(try simp[lk,Yd,Ya,AV.keys,kI,kJ,kK,ita]))
      . intro _;rw[<- sn];clear hL hO init sn;obtain ⟨acc,hacc⟩ : ∃ acc,acc=losX T U bs (i+1):=⟨_,rfl⟩;rw[<- hacc];refine Qga ?_;by_cases cx:acc=[]
        case' pos =>
         have hL:loL acc = .nils:=(by simp[loL,cx]);have hO:loO c bs Z acc=loB c bs Z:=by simp[loO,cx]
        case' neg =>
         have hL:loL acc = .osl 76 acc.length:=(by simp[loL,cx]);have hO:loO c bs Z acc=(76,.row 4 (prM acc))::loB c bs Z:=by simp[loO,cx]
        all_goals
         simp -implicitDefEqProofs[loI,loT,loB,CB.M,hL,hO,wi];refine Qgr ?_;simp -implicitDefEqProofs[loS,loT,loB,CB.M,<- hacc,hL,hO,wi]
         ((try simp only[kI,kJ,kK,ita]);refine Yn.sub (by simp[lk,Ya,AV.keys,kI,kJ,kK,ita]) ?_;simp only[kI,kJ,kK,ita,Wkl,ZkY,Zly,and_true];(try simp[lk,Yd,Ya,AV.keys,kI,kJ,kK,ita]))
   . intro _;generalize losX T U bs bs.length=acc at *;have k5:=Zlx acc;have k6:=Zlw acc;refine Qga ?_;by_cases cx:acc=[]
     . have hL:loL acc = .nils:=(by simp[loL,cx]);have hO:loO c bs Z acc=loB c bs Z:=(by simp[loO,cx]);simp -implicitDefEqProofs[loS,loT,hL,hO];refine Qgr ?_;have e0:prM []=[]:=rfl;simp -implicitDefEqProofs[cx,Yh,e0]
     . have hL:loL acc = .osl 76 acc.length:=(by simp[loL,cx]);have hO:loO c bs Z acc=(76,.row 4 (prM acc))::loB c bs Z:=(by simp[loO,cx]);have e0:¬prM acc=[]:=λh=>cx (by simpa [prM] using h)
       simp -implicitDefEqProofs[loS,loT,hL,hO];refine Qgr ?_;simp -implicitDefEqProofs[Yh,k5,k6,e0]
end
open Qq in
def ZlA:RCode :=
 .seq (r 0 [b 1 0,n 2 .nils]) (.seq (r 1 [L 8 2 1,c 9 46 [8],m 3 9]) (.seq (r 2 [n 4 .nils]) (.seq (.seq (r 3 [n 5 O]) (.block 0 (.loop (.seq (.seq (r 4 [m 10 5,m 11 3,e 12 11,w 13 (.vop (.sh true) [(.c I),(.t 12)]),o 14 .lss 10 13]) (.cond (.t 14) .skip (.exit 0))) (.seq (.block 1 (.seq (r 6 [w 17 (.bsl true 1 0 [] []),m 6 17]) (.seq (.seq (r 7 [n 7 O]) (.block 2 (.loop (.seq (.seq (r 8 [m 18 7,m 19 3,e 20 19,o 21 .lss 18 20]) (.cond (.t 21) .skip (.exit 2))) (.seq (.block 3 (.seq (r 10 [m 24 5,m 25 7,w 26 (.vop (.sh false) [(.t 24),(.t 25)]),w 27 (.vop (.bits .and) [(.t 26),(.c I)]),k 28 .eql 27 I]) (.cond (.t 28) (R 11 [m 29 6,f 30 1 1,a [1] (l 31 30),m 32 3,m 33 7,a [3,4] (i 34 1 32 33),a [5] (l 35 34),a [2,6] (i 36 10 31 35),a [7] (f 37 0 36),a [8] (l 38 37),a [9] (w 39 (.bsl false 1 1 [O] [(0,.t 38)])),a [0,10] (w 40 (.app 1 8 (.t 29) (.t 39))),a [11,11,0,1,2,3,4,5,6,7,8,9,10,11] (m 6 40)]) .skip))) (r 9 [m 22 7,k 23 .add 22 I,m 7 23])))))) (r 12 [m 41 4,m 42 6,w 43 (.bsl false 1 1 [.nils] [(0,.t 42)]),w 44 (.app 1 24 (.t 41) (.t 43)),m 4 44])))) (r 5 [m 15 5,k 16 .add 15 I,m 5 16])))))) (.seq (r 13 [m 45 4,m 2 45]) .ret))))
def ZlB:List RRes:=[.t 2]
theorem ZlC:PCt Tryz.prog 45 Tryz.f45 ZlA ZlB:=pcT Tryz.func45 rfl (by kernel_rfl) (by kernel_rfl) (by kernel_rfl)
open Qq in
def ZlD:RCode :=
 .seq (r 0 [b 5 0,b 8 3,b 9 4,n 10 (.int .u8 0),n 11 O]) (.seq (r 1 [L 22 3 5,m 23 1,m 24 2,L 25 2 8,L 26 2 9,w 27 (.call 53 [.t 22,.c .nils,.t 23,.t 24,.t 25,.t 26]),m 21 27,x 28 0 21,x 29 1 21,w 12 (.alloc [.nilp,.nils,O,O]),s 4 12 28,m 13 29]) (.seq (.seq (r 2 [m 30 13,k 31 .neq 30 O]) (.cond (.t 31) (.seq (r 3 [m 32 13,n 10 (.int .u8 0),m 11 32]) .ret) .skip)) (.seq (r 4 [n 14 .nils]) (.seq (.seq (r 5 [f 33 0 5,f 34 1 33,l 35 34,e 36 35,n 37 O]) (.block 0 (.loop (.seq (r 6 [o 38 .lss 37 36]) (.seq (.cond (.t 38) .skip (.exit 0)) (.seq (.block 1 (.seq (r 7 [i 39 10 35 37,L 40 10 39,w 16 (.alloc [O,O,.int .u8 0,O,O,O,O,O,.bool false,.int .u8 0]),s 10 16 40]) (.seq (r 8 [f 41 2 16,l 42 41,k 43 .eql 42 (.int .u8 1)]) (.cond (.t 43) (r 9 [m 44 14,f 45 0 16,l 46 45,w 47 (.bsl false 1 1 [O] [(0,.t 46)]),w 48 (.app 1 8 (.t 44) (.t 47)),m 14 48]) .skip)))) (r 10 [k 49 .add 37 I,m 37 49]))))))) (.seq (r 11 [m 50 14,c 51 73 [50]]) (.seq (r 12 [w 17 (.alloc [.bool false,.bool false])]) (.seq (.seq (r 13 [m 52 14,e 53 52,w 54 (.vop (.sh true) [(.c I),(.t 53)]),n 55 O]) (.block 2 (.loop (.seq (r 14 [o 56 .lss 55 54]) (.seq (.cond (.t 56) .skip (.exit 2)) (.seq (.block 3 (.seq (r 15 [m 57 55,m 18 57]) (.seq (r 16 [f 58 1 12,z (.store 1 (.t 58) (.c .nils))]) (.seq (.seq (r 17 [m 59 14,e 60 59,n 61 O]) (.block 4 (.loop (.seq (r 18 [o 62 .lss 61 60]) (.seq (.cond (.t 62) .skip (.exit 4)) (.seq (.block 5 (.seq (r 19 [m 63 61,i 64 1 59 61,l 65 64,m 19 63,m 20 65]) (.seq (r 20 [m 66 18,m 67 19,w 68 (.vop (.sh false) [(.t 66),(.t 67)]),w 69 (.vop (.bits .and) [(.t 68),(.c I)]),k 70 .eql 69 I]) (.cond (.t 70) (r 21 [f 71 1 12,l 72 71,m 73 20,w 74 (.bsl false 1 1 [O] [(0,.t 73)]),w 75 (.app 1 8 (.t 72) (.t 74)),f 76 1 12,s 1 76 75]) .skip)))) (r 22 [k 77 .add 61 I,m 61 77]))))))) (.seq (r 23 [L 78 4 12,L 79 2 8,L 80 2 9,c 81 54 [78,79,80]]) (.cond (.t 81) (r 24 [w 82 (.vop (.aaddr 2 1) [(.t 17),(.c I)]),z (.store 1 (.t 82) (.c (.bool true)))]) (r 25 [w 83 (.vop (.aaddr 2 1) [(.t 17),(.c O)]),z (.store 1 (.t 83) (.c (.bool true)))]))))))) (r 26 [k 84 .add 55 I,m 55 84]))))))) (.seq (.seq (r 27 [L 85 2 17]) (.block 6 (.seq (r 28 [w 87 (.build [.bool false,.bool false] [(0,1,.c (.bool true)),(1,1,.c (.bool true))]),w 88 (.eqs false [.b,.b] (.t 85) (.t 87)),m 86 88]) (.cond (.t 86) (.seq (r 29 [n 10 (.int .u8 1),n 11 O]) .ret) (.seq (r 30 [w 90 (.build [.bool false,.bool false] [(0,1,.c (.bool false)),(1,1,.c (.bool true))]),w 91 (.eqs false [.b,.b] (.t 85) (.t 90)),m 89 91]) (.cond (.t 89) (.seq (r 31 [n 10 (.int .u8 2),n 11 O]) .ret) .skip)))))) (.seq (r 32 [n 10 (.int .u8 0),n 11 O]) .ret)))))))))
def ZlE:List RRes:=[.t 10,.t 11]
theorem ZlF:PCt Tryz.prog 43 Tryz.f43 ZlD ZlE:=pcT Tryz.func43 rfl (by kernel_rfl) (by kernel_rfl) (by kernel_rfl)
def sbN (U:List Int) (v:Nat):Nat->List Int
 |0=>[]
 |i+1=>if v / 2 ^ i % 2=1 then sbN U v i++[U.getD i 0] else sbN U v i
def sbT (U:List Int) (v:Nat):List Int:=sbN U v U.length
theorem ZlG (U:List Int) (v:Nat):∀ i,(sbN U v i).length<=i
 |0=>Nat.le_refl _
 | i+1=>by
   have:=ZlG U v i;rw[sbN];split
   . simp;omega
   . omega
theorem ZlH {U:List Int} {v:Nat}:∀ i,i<=U.length->(sbN U v i).Sublist (U.take i)
 |0,_=>by simp[sbN]
 | i + 1,h=>by
   have hi:i<U.length:=h;have ih:=ZlH (U:=U) (v:=v) i (by omega);rw[sbN,List.take_succ_eq_append_getElem hi]
   split
   . have e:U.getD i 0=U[i]:=(by simp[List.getD_eq_getElem?_getD,hi]);rw[e];exact ih.append (List.Sublist.refl _)
   . exact ih.trans (List.sublist_append_left _ _)
theorem ZlI (U:List Int) (v:Nat):(sbT U v).Sublist U:=by
 have:=ZlH (v:=v) U.length (Nat.le_refl _)
 rwa [List.take_length]at this
theorem ZlJ {l:List Nte} {s:List Int} (h1:s.Pairwise λx y=>x<y) (h2:∀ n∈s,n∈opU l):truB l s=true:=by
 rw[Zhe];intro j hj;have e:∀ k,k<s.length->∃ h:k<s.length,s.getD k 0=s[k]:=λk h=>⟨h,by simp[List.getD_eq_getElem?_getD,h]⟩
 obtain ⟨q1,e1⟩:=e j hj;rw[e1];refine ⟨h2 _ (List.getElem_mem q1),λhp=>?_⟩;obtain ⟨q2,e2⟩:=e (j-1) (by omega);rw[e2];exact List.pairwise_iff_getElem.1 h1 (j-1) j q2 q1 (by omega)
theorem ZlK (l:List Nte):∀ i,i<=l.length->((opI l i).map λj=>(nAt l j).nu).Perm ((opN l i).map (·.nu))
 |0,_=>by simp[opI,opN]
 | i + 1,h=>by
   have ih:=ZlK l i (by omega);have hi:i<l.length:=(by omega);have e:=ZdX hi;have ea:=ZdW hi;rw[e];unfold opI;rw[ea];by_cases c:l[i].sg=1
   . rw[if_pos c,if_pos c];have:=(ZeR (λj=>(nAt l j).nu) (opI l i) i).map λj=>(nAt l j).nu
     refine this.trans ?_;rw[List.map_cons,List.map_append,List.map_cons,List.map_nil,ea];exact (List.Perm.cons _ ih).trans (List.perm_append_singleton _ _).symm
   . rw[if_neg c,if_neg c];exact ih
def opQ (l:List Nte):List Int:=sortI (opU l)
theorem ZlL (l:List Nte):nuI l=opQ l:=by
 refine (Zea (ZlK l l.length (Nat.le_refl _)) ?_).symm;have:=ZeU l l.length;exact List.pairwise_map.2 this
theorem ZlM {r:List Iss} {l:List Nte} (h:ZdZ r l=true):(opQ l).Pairwise λx y=>x<y:=by
 have h1:=Ze8 (opU l);have h2:(opQ l).Nodup:=(Ze7 (opU l)).nodup_iff.2 (ZhE h).1;refine (h1.and (List.nodup_iff_pairwise_ne.1 h2)).imp ?_;rintro a b ⟨p,q⟩;omega
theorem ZlN {r:List Iss} {l:List Nte} (h:ZdZ r l=true) (v:Nat):truB l (sbT (opQ l) v)=true :=
 ZlJ ((ZlM h).sublist (ZlI _ v)) λn hn=>Zec.1 ((ZlI _ v).subset hn)
theorem ZlO {r:List Iss} {l:List Nte} (h:ZdZ r l=true):(opQ l).length<=5:=by
 simp only[ZdZ,Bool.and_eq_true,decide_eq_true_eq]at h;rw[opQ,Zeb,opU,List.length_map];exact h.2
theorem bitU {v i:Nat} (h:v<64) (hi:i<6):IntKind.i64.wrap ((((v:Int).fdiv (2 ^ (min i IntKind.i64.bits)) % 2 ^ IntKind.i64.bits).toNat &&& (1 % 2 ^ IntKind.i64.bits):Nat):Int)=if v / 2 ^ i % 2=1 then 1 else 0:=by
 have h1:∀ n:_root_.Fin 64,∀ k:_root_.Fin 6,IntKind.i64.wrap ((((n.val:Int).fdiv (2 ^ (min k.val IntKind.i64.bits)) % 2 ^ IntKind.i64.bits).toNat &&& (1 % 2 ^ IntKind.i64.bits):Nat):Int)=if n.val / 2 ^ k.val % 2=1 then 1 else 0:=by decide +kernel
 exact h1 ⟨v,h⟩ ⟨i,hi⟩
theorem shU {n:Nat} (h:n<6):IntKind.i64.wrap (2 ^ (min n IntKind.i64.bits))=((2 ^ n:Nat):Int):=by
 have h1:∀ k:_root_.Fin 6,IntKind.i64.wrap (2 ^ (min k.val IntKind.i64.bits))=((2 ^ k.val:Nat):Int):=(by decide +kernel);exact h1 ⟨n,h⟩
theorem pow5 {n:Nat} (h:n<=5):2 ^ n<=32:=by
 have:n=0∨n=1∨n=2∨n=3∨n=4∨n=5:=(by omega);rcases this with rfl|rfl|rfl|rfl|rfl|rfl <;> decide
theorem PC.out {P:Program} {G:Nat->Option (List AV)} {f:FuncId} {xs:List AV} {v w:AV} (h:PC P G f xs v) (hs:Nsub v w):PC P G f xs w :=
 ⟨h.1,λM W vs a b c d=>(h.2 M W vs a b c d).mono λ_ _ ⟨u,h1,h2,h3⟩=>⟨u,h1,hs _ _ _ h2,h3⟩⟩
def trR (U:List Int) (v:Nat):List AV:=[.vsl ((sbT U v).map ia)]
def trK (U:List Int) (v:Nat):List (List AV):=(List.range v).map (trR U)
theorem ZlP (U:List Int) (v:Nat):trK U (v+1)=trK U v++[[.vsl ((sbT U v).map ia)]]:=by simp[trK,trR,List.range_succ]
theorem ZlQ (U:List Int) (v:Nat):(trK U v).length=v:=by simp[trK]
theorem ZlR (o:List (Nat×AObj)) (U:List Int) (v:Nat):Yd o (.row 1 (trK U v))=true:=by
 simp only[Yd,List.all_eq_true,trK,List.mem_map];rintro x ⟨y,-,rfl⟩ w hw;simp only[trR,List.mem_singleton]at hw;subst hw;simp[Ya,AV.keys]
theorem ZlS (U:List Int) (v:Nat):(trK U v).all (λr=>r.all AV.pure)=true:=by simp[trK,trR,AV.pure,ia]
theorem ZlT (ok:Nat->Bool) (st:St) (U:List Int) (v:Nat):(trK U v).map (λr=>r.map (frzA ok st))=trK U v:=by
 simp only[trK,List.map_map]
 congr 1
 funext w;simp[trR,frzA,frz,AV.keys]
def iaM (l:List Int):List (List AV):=l.map ia
theorem ZlU (l:List Int) (x:Int):iaM (l++[x])=iaM l++[[.int .i64 x]]:=by simp[iaM,ia]
theorem ZlV (l:List Int):(iaM l).length=l.length:=List.length_map _
theorem ZlW (o:List (Nat×AObj)) (l:List Int):Yd o (.row 1 (iaM l))=true:=ZgW o l
theorem ZlX (l:List Int):(iaM l).all (λr=>r.all AV.pure)=true:=by simp[iaM,ia,AV.pure]
def thT (V:AV) (v:Nat):List (Nat×AV):=[(5,.int .i64 v),(3,V),(1,.ptr 1 0)]
def thO (r:List Iss) (l:List Nte) (v:Nat):List (Nat×AObj):=if v=0 then [(1,.box [.vsl (r.map isa),.vsl (l.map na)])] else [(44,.row 1 (trK (opQ l) v)),(1,.box [.vsl (r.map isa),.vsl (l.map na)])]
def thL (v:Nat):AV:=if v=0 then .nils else .osl 44 v
def thS (r:List Iss) (l:List Nte) (V:AV) (v:Nat):St:=⟨(4,thL v)::thT V v,thO r l v⟩
def thI (r:List Iss) (l:List Nte) (V:AV) (v i:Nat):St:=⟨(7,.int .i64 i)::(6,.osl 17 (sbN (opQ l) v i).length)::(4,thL v)::thT V v,(17,.row 1 (iaM (sbN (opQ l) v i)))::thO r l v⟩
section
variable {G:Nat->Option (List AV)}
theorem ZlY (U:List Int) (v i:Nat):sbN U v (i+1)=if v / 2 ^ i % 2=1 then sbN U v i++[U.getD i 0] else sbN U v i:=rfl
set_option maxHeartbeats 2000000 in
theorem ZlZ (r:List Iss) (l:List Nte) (h:ZdZ r l=true):PC Tryz.prog G 45 [.agg [.vsl (r.map isa),.vsl (l.map na)]] (.vsl (trK (opQ l) (2 ^ (opQ l).length))):=by
 have h12:=ZhQ h;have h5:=ZlO h;have hO:=Zf9 (G:=G) r l h12;have hp5:=pow5 h5;have eU:=ZlL l;have lU:(opQ l).length=(opI l l.length).length:=(by rw[<- eU,ZhO]);have hlt:=ZeS l l.length;have sh:=shU (n:=(opQ l).length) (by omega);rw[lU]at sh hp5 h5 ⊢
 have eget:∀ i (hi:i<(opI l l.length).length),(opQ l).getD i 0=(nAt l (opI l l.length)[i]).nu:=λi hi=>by
  rw[<- eU,nuI,List.getD_eq_getElem?_getD,List.getElem?_map,List.getElem?_eq_getElem hi];rfl
 have eT:∀ v,sbT (opQ l) v=sbN (opQ l) v (opI l l.length).length:=λv=>by rw[sbT,lU]
 have hpos:0<2 ^ (opI l l.length).length:=Nat.pos_of_ne_zero (by simp);generalize hI:opI l l.length=I at *;have hO:=PC.out hO (.orNil _);generalize hKe:2 ^ I.length=K at *
 (refine ZlC rfl λR hG hrd=>Qga ?_;subst hG)
 simp -implicitDefEqProofs[ZlA,ZlB];refine Qco (hO) (by simp) ?_;simp -implicitDefEqProofs[];refine Zba (thS r l (.vsl (I.map ja))) (λ_=>True) K ?_ trivial ?_ ?_
 . simp only[thS,thT,thL,thO,if_true]
   ((try simp only[ja]);refine Yn.sub (by simp[lk,Ya,AV.keys,ja]) ?_;simp only[ja,Wkl,and_true];(try simp[lk,Yd,Ya,AV.keys,ja]))
 . intro v hv _;have wv:IntKind.i64.wrap ((v:Int)+1)=(v:Int)+1:=Yg (by omega) (by omega);have tk:=ZlP (opQ l) v;have tln:=ZlQ (opQ l) v;have eTv:=eT v;have hT1:thL (v+1) = .osl 44 (v+1):=rfl;have hO1:thO r l (v+1)=[(44,.row 1 (trK (opQ l) (v+1))),(1,.box [.vsl (r.map isa),.vsl (l.map na)])]:=rfl;refine Qga ?_;by_cases v0:v=0
   case' pos =>
    have hT:thL v = .nils:=(by simp[thL,v0]);have hO:thO r l v=[(1,.box [.vsl (r.map isa),.vsl (l.map na)])]:=(by simp[thO,v0]);have tk0:trK (opQ l) v=[]:=(by rw[v0];rfl);rw[tk0,List.nil_append]at tk;simp -implicitDefEqProofs[thS,thT,hT,hO,sh,hv]
   case' neg =>
    have hT:thL v = .osl 44 v:=(by simp[thL,v0]);have hO:thO r l v=[(44,.row 1 (trK (opQ l) v)),(1,.box [.vsl (r.map isa),.vsl (l.map na)])]:=(by simp[thO,v0]);simp -implicitDefEqProofs[thS,thT,hT,hO,sh,hv]
   all_goals
    refine Zba (thI r l (.vsl (I.map ja)) v) (λ_=>True) I.length ?_ trivial ?_ ?_
    . have e0:sbN (opQ l) v 0=[]:=rfl;have e1:iaM []=[]:=rfl;simp only[thI,thT,hT,hO,e0,e1]
      ((try simp only[ja]);refine Yn.sub (by simp[lk,Ya,AV.keys,ja]) ?_;simp only[ja,Wkl,ZlR,and_true];(try simp[lk,Yd,Ya,AV.keys,ja]))
    . intro i hi _;have wi:IntKind.i64.wrap ((i:Int)+1)=(i:Int)+1:=Yg (by omega) (by omega);have bU:=bitU (v:=v) (i:=i) (by omega) (by omega);have sn:=ZlY (opQ l) v i;rw[eget i hi]at sn;have sl:=ZlG (opQ l) v i;obtain ⟨hj,-⟩:=hlt I[i] (List.getElem_mem hi);have hna:=ZdW hj;have hnx:na l[I[i]]=[.int .i64 l[I[i]].nu,.int .i64 l[I[i]].dy,.int .u8 l[I[i]].sg,.int .i64 l[I[i]].dr,.int .i64 l[I[i]].lt,.int .i64 l[I[i]].fr,.int .i64 l[I[i]].tu,.int .i64 l[I[i]].ca,.bool l[I[i]].up,.int .u8 l[I[i]].wy]:=rfl;have bb:((sbN (opQ l) v i).length+1)*8<=70368744177664:=(by omega);have lnm:=ZlV (sbN (opQ l) v i);have em:=ZlU (sbN (opQ l) v i) l[I[i]].nu;rw[hna]at sn;refine Qga ?_;by_cases cb:v / 2 ^ i % 2=1
      . rw[if_pos cb]at sn bU;simp -implicitDefEqProofs[thI,thT,hT,hO,hi,bU,ja,wi,sn,hj,hnx,bb,lnm];refine ⟨rfl,?_⟩;rw[<- em]
        ((try simp only[ja]);refine Yn.sub (by simp[lk,Ya,AV.keys,ja]) ?_;simp only[ja,Wkl,ZlR,ZlW,and_true];(try simp[lk,Yd,Ya,AV.keys,ja]))
      . rw[if_neg cb]at sn bU;simp -implicitDefEqProofs[thI,thT,hT,hO,hi,bU,ja,wi,sn]
        ((try simp only[ja]);refine Yn.sub (by simp[lk,Ya,AV.keys,ja]) ?_;simp only[ja,Wkl,ZlR,ZlW,and_true];(try simp[lk,Yd,Ya,AV.keys,ja]))
    . intro _;have k5:=ZlX (sbN (opQ l) v I.length);have k6:=ZlV (sbN (opQ l) v I.length);have k7:(sbN (opQ l) v I.length).map ia=iaM (sbN (opQ l) v I.length):=rfl;rw[eTv,k7]at tk;have bb:(v+1)*24<=70368744177664:=(by omega);refine Qga ?_;simp -implicitDefEqProofs[thI,thT,hT,hO];refine Z2M Yb 2 ?_;simp -implicitDefEqProofs[];refine GO0 (Z2L (st':=⟨(6,.vsl (iaM (sbN (opQ l) v I.length)))::(4,thL v)::thT (.vsl (I.map ja)) v,thO r l v⟩) (Yn.trans (Yn.frz (λk=>k == 17) _) ?_) ?_)
      . simp only[thT,hT,hO]
        ((try simp only[Yj,frzA,frzO,frz,Yi,Yk,St.get,AV.pure,ZlX,ZlV,ja,k5,k6,ZlT]);refine Yn.sub (by simp[lk,Ya,AV.keys,Yj,frzA,frzO,frz,Yi,Yk,St.get,AV.pure,ZlX,ZlV,ja,k5,k6,ZlT]) ?_;simp only[Yj,frzA,frzO,frz,Yi,Yk,St.get,AV.pure,ZlX,ZlV,ja,k5,k6,ZlT,Wkl,ZlR,and_true];(try simp[lk,Yd,Ya,AV.keys,Yj,frzA,frzO,frz,Yi,Yk,St.get,AV.pure,ZlX,ZlV,ja,k5,k6,ZlT]))
      refine Qga ?_;simp -implicitDefEqProofs[thT,hT,hO,bb,tln];refine Qgr ?_;simp -implicitDefEqProofs[thS,thT,hT1,hO1,wv];rw[<- tk]
      ((try simp only[ja,v0]);refine Yn.sub (by simp[lk,Ya,AV.keys,ja,v0]) ?_;simp only[ja,v0,Wkl,ZlR,and_true];(try simp[lk,Yd,Ya,AV.keys,ja,v0]))
 . intro _;have k0:¬K=0:=(by omega);have hT:thL K = .osl 44 K:=(by simp[thL,k0]);have hO:thO r l K=[(44,.row 1 (trK (opQ l) K)),(1,.box [.vsl (r.map isa),.vsl (l.map na)])]:=(by simp[thO,k0]);have tp:=ZlS (opQ l) K;have tl:=ZlQ (opQ l) K;refine Qga ?_;simp -implicitDefEqProofs[thS,thT,hT,hO,sh];refine Qgr ?_;simp -implicitDefEqProofs[tp,tl]
end
def zN1:Nte:=⟨0,0,0,0,1,0,0,0,false,0⟩
def byV (s:List Int) (m:Int) (l:List Nte) (d:Int):Nat->Nte
 |0=>zN1
 |i+1=>if (nAt l i).dr=d/\fB s [] m l i=true then nAt l i else byV s m l d i
def byK (s:List Int) (m:Int) (l:List Nte) (d:Int):Nat->List (Int×Bool)->List (Int×Bool)
 |0,K=>K
 |i+1,K=>if (nAt l i).dr=d then if fB s [] m l i=true then ifK s [] m l l.length i K else byK s m l d i (ifK s [] m l l.length i K) else byK s m l d i K
theorem Zm0 {s:List Int} {m:Int} {l:List Nte} {d:Int}:∀ i {K:List (Int×Bool)},OkK s [] m l K->OkK s [] m l (byK s m l d i K)
 |0,_,h=>h
 | i + 1,K,h=>by
   rw[byK]
   split
   . split
     . exact Zhp _ _ h
     . exact Zm0 i (Zhp _ _ h)
   . exact Zm0 i h
def ltL (s:List Int) (m:Int) (l:List Nte) (ds:List Int):List Int:=ds.map λd=>(byV s m l d l.length).lt
def ltK (s:List Int) (m:Int) (l:List Nte) (ds:List Int) (i:Nat):List (Int×Bool):=(ds.take i).foldl (λK d=>byK s m l d l.length K) []
theorem Zm1 {s:List Int} {m:Int} {l:List Nte} {ds:List Int} {i:Nat} (h:i<ds.length):ltK s m l ds (i+1)=byK s m l ds[i] l.length (ltK s m l ds i):=by
 unfold ltK;rw[List.take_succ_eq_append_getElem h,List.foldl_append];rfl
theorem Zm2 {s:List Int} {m:Int} {l:List Nte} {ds:List Int}:∀ i,i<=ds.length->OkK s [] m l (ltK s m l ds i)
 |0,_=>λ_ _ h=>by cases h
 |i+1,h=>by rw[Zm1 h];exact Zm0 _ (Zm2 i (by omega))
def z10:List AV:=[.int .i64 0,.int .i64 0,.int .u8 0,.int .i64 0,.int .i64 0,.int .i64 0,.int .i64 0,.int .i64 0,.bool false,.int .u8 0]
def byS (F sV:AV) (m d:Int) (x:Nat×List (Int×Bool)):St :=
 ⟨[(7,.int .i64 ((x.1:Int)-1)),(6,.ptr 6 0),(0,F),(1,.func (.func 95) [] fcC),(2,.int .i64 d)],(6,.box z10)::fcO F sV .nils m x.2⟩
section
variable {G:Nat->Option (List AV)}
set_option maxHeartbeats 2000000 in
theorem by_pb (r:List Iss) (l:List Nte) (s:List Int) (m d:Int) (K:List (Int×Bool)) (hl:l.length<=12) (hs:Sml s) (hK:OkK s [] m l K) :
  PB Tryz.prog G 101 (fcO (fileA r l) (.vsl (s.map ia)) .nils m K) [fileA r l,.func (.func 95) [] fcC,.int .i64 d] (.agg (na (byV s m l d l.length))) (fcO (fileA r l) (.vsl (s.map ia)) .nils m (byK s m l d l.length K)):=by
 have hI:=λi K hi hK=>is_pb (G:=G) r l false true s [] m hl hs (by simp[Sml]) l.length i K hi (by omega) hK
 have e1:liA false s = .vsl (s.map ia):=(by simp[liA]);have e2:liA true [] = .nils:=(by simp[liA]);rw[e1,e2]at hI;have hF:fileA r l = .vptr [.vsl (r.map isa),.vsl (l.map na),.vsl ((nums r).map ia),opA l] 0:=rfl;have fF:∀ ok st,frz ok st 6 (fileA r l)=some (fileA r l):=λok st=>by rw[hF];simp[frz,AV.keys]
 have kF:(fileA r l).keys=[]:=(by rw[hF];simp[AV.keys]);have rF:=λρ=>AV.ren_pure (ρ:=ρ) (fileA r l) (ZhF r l)
 simp only[hF]at hI fF kF rF ⊢;refine Z6t (Nat.le_of_ble_eq_true rfl) λR hG hrd=>?_
 subst hG;refine Qga ?_;have w0:IntKind.i64.wrap ((l.length:Int)-1)=(l.length:Int)-1:=Yg (by omega) (by omega);simp -implicitDefEqProofs[Z6r,Z6s,fcO,fcC,w0];refine Z1Q (byS (.vptr [.vsl (r.map isa),.vsl (l.map na),.vsl ((nums r).map ia),opA l] 0) (.vsl (s.map ia)) m d) (λx=>x.1<=l.length/\OkK s [] m l x.2/\byV s m l d x.1=byV s m l d l.length/\byK s m l d x.1 x.2=byK s m l d l.length K) (λx=>x.1) (l.length,K) ?_ ⟨Nat.le_refl _,hK,rfl,rfl⟩ ?_
 . simp only[byS,z10,fcO,fcC]
   ((try simp only[ia]);refine Yn.sub (by simp[lk,Ya,AV.keys,ia]) ?_;simp only[ia,Wkl,Zht,and_true];(try simp[lk,Yd,Ya,AV.keys,ia]))
 rintro ⟨i,K'⟩ ⟨h1,h2,h3,h4⟩;simp only at h1 h2 h3 h4
 cases i with
 | zero =>
   refine Qga ?_;simp -implicitDefEqProofs[byS,z10,fcO,fcC];refine Qgr ?_;rw[<- h3,<- h4];simp -implicitDefEqProofs[byV,byK,zN1,na];simp -implicitDefEqProofs[FinB,Yj,newK,Zhv,ZhA,frzA,frz,fF,tupV,Z29,Z6s]
 | succ i =>
   have hi:i<l.length:=h1;have hI:=hI i K' hi h2;have hx:=ZdW hi;rw[byV]at h3;rw[byK]at h4;generalize hxx:nAt l i=x at *;have hlx:l[i]=x:=hx.symm;have hnx:na x=[.int .i64 x.nu,.int .i64 x.dy,.int .u8 x.sg,.int .i64 x.dr,.int .i64 x.lt,.int .i64 x.fr,.int .i64 x.tu,.int .i64 x.ca,.bool x.up,.int .u8 x.wy]:=rfl;have w1:IntKind.i64.wrap ((i:Int)-1)=(i:Int)-1:=Yg (by omega) (by omega);have w2:((i:Int)+1-1)=(i:Int):=(by omega);refine Qga ?_;by_cases c:x.dr=d
   . simp only[fcO]at hI;simp -implicitDefEqProofs[byS,z10,fcO,fcC,hi,hlx,hnx,c,w2];refine Ye.sem (Z1B.byref hI id (by simp) (by simp) (by simp[St.get,lk,AV.ren,AObj.ren,Zhu,ia,rF]) (by simp only[List.mem_cons,List.not_mem_nil,or_false,forall_eq_or_imp,forall_eq,Zht,and_true];simp[lk,Yd,Ya,AV.keys]) (by simp[Ya,AV.keys,lk,fcC]) rfl (by simp[AV.ren,fcC]) rfl rfl) ?_;simp -implicitDefEqProofs[Ym,AV.ren,AObj.ren,Zhu,ia,rF]
     cases hb:fB s [] m l i
     . rw[if_pos c,hb,if_neg (by simp)]at h4;rw[if_neg (λh=>by rw[hb]at h;cases h.2)]at h3;simp -implicitDefEqProofs[w1];refine ⟨(i,ifK s [] m l l.length i K'),?_,⟨by omega,Zhp _ _ h2,h3,h4⟩,Nat.lt_succ_self _⟩;simp only[byS,z10,fcO,fcC]
       (refine Yn.sub (by simp[lk,Ya,AV.keys]) ?_;simp only[Wkl,Zht,and_true];(try simp[lk,Yd,Ya,AV.keys]))
     . rw[if_pos c,hb,if_pos rfl]at h4;rw[if_pos ⟨c,hb⟩]at h3;rw[<- h3,<- h4];have hnd:na x=[.int .i64 x.nu,.int .i64 x.dy,.int .u8 x.sg,.int .i64 d,.int .i64 x.lt,.int .i64 x.fr,.int .i64 x.tu,.int .i64 x.ca,.bool x.up,.int .u8 x.wy]:=(by rw[<- c];rfl);simp -implicitDefEqProofs[hnd];refine Qgr ?_;simp -implicitDefEqProofs[FinB,Yj,newK,Zhv,ZhA,frzA,frz,fF,tupV,Z29,Z6s]
   . rw[if_neg (λh=>c h.1)]at h3;rw[if_neg c]at h4;simp -implicitDefEqProofs[byS,z10,fcO,fcC,hi,hlx,hnx,c,w1,w2];refine ⟨(i,K'),?_,⟨by omega,h2,h3,h4⟩,Nat.lt_succ_self _⟩;simp only[byS,z10,fcO,fcC]
     ((try simp only[ia]);refine Yn.sub (by simp[lk,Ya,AV.keys,ia]) ?_;simp only[ia,Wkl,Zht,and_true];(try simp[lk,Yd,Ya,AV.keys,ia]))
def ltS (r:List Iss) (l:List Nte) (s:List Int) (m:Int) (ds:List Int) (i:Nat):St :=
 if i=0 then ⟨[(20,.int .i64 i),(19,.int .i64 ds.length),(18,.vsl (ds.map ia)),(8,.nils),(7,.func (.func 95) [] [.ptr 209 0,.ptr 204 0,.ptr 205 0,.ptr 206 0,.ptr 207 0,.ptr 210 0]),(0,fileA r l)],fcQ (fileA r l) (.vsl (s.map ia)) .nils m (ltK s m l ds i)⟩
 else ⟨[(20,.int .i64 i),(19,.int .i64 ds.length),(18,.vsl (ds.map ia)),(8,.osl 31 i),(7,.func (.func 95) [] [.ptr 209 0,.ptr 204 0,.ptr 205 0,.ptr 206 0,.ptr 207 0,.ptr 210 0]),(0,fileA r l)],(31,.row 1 (iaM (ltL s m l (ds.take i))))::fcQ (fileA r l) (.vsl (s.map ia)) .nils m (ltK s m l ds i)⟩
set_option maxHeartbeats 2000000 in
theorem Zm3 (r:List Iss) (l:List Nte) (s:List Int) (m:Int) (hl:l.length<=12) (hs:Sml s) (h20:(nums r).length<=20) :
  PC Tryz.prog G 71 [fileA r l,.vsl (s.map ia),.int .i64 m] (Yh ((ltL s m l (nums r)).map ia)):=by
 have hf:=ZhK (G:=G) r l false true s [] m;have e1:liA false s = .vsl (s.map ia):=(by simp[liA]);have e2:liA true [] = .nils:=(by simp[liA]);rw[e1,e2]at hf;have hB:=λd K hK=>by_pb (G:=G) r l s m d K hl hs hK
 have hp:=ZhF r l;have kF:(fileA r l).keys=[]:=AV.pure_keys _ hp;have rF:=λρ=>AV.ren_pure (ρ:=ρ) (fileA r l) hp
 have hF:fileA r l = .vptr [.vsl (r.map isa),.vsl (l.map na),.vsl ((nums r).map ia),opA l] 0:=rfl;have e5:=λK=>Zhu (λk=>k-800) K
 generalize hds:nums r=ds at *
 (refine Z6q rfl λR hG hrd=>Qga ?_;subst hG)
 simp only[hF,fcO]at hf hB kF rF hp ⊢;simp -implicitDefEqProofs[Z6o,Z6p];refine Ye.sem (Z1B.objs hf (λk=>k+200) (by simp[ffO]) (by simp[ffO,St.get,lk]) (by simp[hp,AV.pure]) rfl rfl) ?_;simp -implicitDefEqProofs[Ym,ffO,ffC,AV.ren,AObj.ren,rF];refine Zba (ltS r l s m ds) (λ_=>True) ds.length ?_ trivial ?_ ?_
 . have e3:ltK s m l ds 0=[]:=rfl;have e4:mpA AV.bool []=[]:=rfl;simp only[ltS,fcQ,e3,e4,hF,if_true]
   ((try simp only[kF]);refine Yn.sub (by simp[lk,Ya,AV.keys,kF]) ?_;simp only[kF,Wkl,and_true];(try simp[lk,Yd,Ya,AV.keys,kF]))
 . intro i hi _;obtain ⟨d,hd⟩ : ∃ d,d=ds[i]:=⟨_,rfl⟩;have hB:=hB d (ltK s m l ds i) (Zm2 i (by omega));have ks:=Zm1 (s:=s) (m:=m) (l:=l) hi;rw[<- hd]at ks;rw[<- ks]at hB;have wi:IntKind.i64.wrap ((i:Int)+1)=(i:Int)+1:=Yg (by omega) (by omega);have bb:(i+1)*8<=70368744177664:=by omega
   have ls:ltL s m l (ds.take (i+1))=ltL s m l (ds.take i)++[(byV s m l d l.length).lt]:=by
    unfold ltL;rw[List.take_succ_eq_append_getElem hi,List.map_append,hd];rfl
   have ll:(ltL s m l (ds.take i)).length=i:=(by unfold ltL;rw[List.length_map,List.length_take];omega);generalize byV s m l d l.length=x at *;have hnx:na x=[.int .i64 x.nu,.int .i64 x.dy,.int .u8 x.sg,.int .i64 x.dr,.int .i64 x.lt,.int .i64 x.fr,.int .i64 x.tu,.int .i64 x.ca,.bool x.up,.int .u8 x.wy]:=rfl;have em:=ZlU (ltL s m l (ds.take i)) x.lt;rw[<- ls]at em;have lm:=ZlV (ltL s m l (ds.take i));rw[ll]at lm;rw[hnx]at hB;refine Qga ?_;by_cases i0:i=0
   case' pos =>
    have hS:ltS r l s m ds i=⟨[(20,.int .i64 i),(19,.int .i64 ds.length),(18,.vsl (ds.map ia)),(8,.nils),(7,.func (.func 95) [] [.ptr 209 0,.ptr 204 0,.ptr 205 0,.ptr 206 0,.ptr 207 0,.ptr 210 0]),(0,fileA r l)],fcQ (fileA r l) (.vsl (s.map ia)) .nils m (ltK s m l ds i)⟩:=(by unfold ltS;rw[if_pos i0]);have eL0:ltL s m l (ds.take i)=[]:=(by rw[i0];rfl);have e0:iaM []=[]:=rfl;rw[eL0,e0,List.nil_append]at em
   case' neg =>
    have hS:ltS r l s m ds i=⟨[(20,.int .i64 i),(19,.int .i64 ds.length),(18,.vsl (ds.map ia)),(8,.osl 31 i),(7,.func (.func 95) [] [.ptr 209 0,.ptr 204 0,.ptr 205 0,.ptr 206 0,.ptr 207 0,.ptr 210 0]),(0,fileA r l)],(31,.row 1 (iaM (ltL s m l (ds.take i))))::fcQ (fileA r l) (.vsl (s.map ia)) .nils m (ltK s m l ds i)⟩:=by unfold ltS;rw[if_neg i0]
   all_goals
    simp -implicitDefEqProofs[hS,fcQ,hF,hi,ia,<- hd];refine Ye.sem (Z1B.byref hB (λk=>k-800) (by simp) (by simp) (by simp[St.get,lk,AV.ren,AObj.ren,Zhu,rF,ia,fcC]) (by simp only[List.mem_cons,List.not_mem_nil,or_false,forall_eq_or_imp,forall_eq,Zht,and_true];simp[lk,Yd,Ya,AV.keys,fcC]) (by simp[Ya,AV.keys,lk,fcC]) rfl (by simp[AV.ren,fcC]) rfl rfl) ?_;simp -implicitDefEqProofs[Ym,AV.ren,AObj.ren,Zhu,rF,wi,bb,lm,ia,fcC];have hS1:ltS r l s m ds (i+1)=⟨[(20,.int .i64 ((i+1:Nat):Int)),(19,.int .i64 ds.length),(18,.vsl (ds.map ia)),(8,.osl 31 (i+1)),(7,.func (.func 95) [] [.ptr 209 0,.ptr 204 0,.ptr 205 0,.ptr 206 0,.ptr 207 0,.ptr 210 0]),(0,fileA r l)],(31,.row 1 (iaM (ltL s m l (ds.take (i+1)))))::fcQ (fileA r l) (.vsl (s.map ia)) .nils m (ltK s m l ds (i+1))⟩:=(by unfold ltS;rw[if_neg (by omega)]);rw[hS1,<- em];simp only[fcQ,hF]
    ((try simp only[kF,i0]);refine Yn.sub (by simp[lk,Ya,AV.keys,kF,i0]) ?_;simp only[kF,i0,Wkl,Zht,ZlW,and_true];(try simp[lk,Yd,Ya,AV.keys,kF,i0]))
 . intro _;have hall:ds.take ds.length=ds:=List.take_length;have lm:=ZlV (ltL s m l ds);have ll:(ltL s m l ds).length=ds.length:=(by simp[ltL]);have eM:(ltL s m l ds).map ia=iaM (ltL s m l ds):=rfl;have k5:=ZlX (ltL s m l ds);rw[ll]at lm;rw[eM];refine Qga ?_;by_cases i0:ds.length=0
   . have hS:ltS r l s m ds ds.length=⟨[(20,.int .i64 ds.length),(19,.int .i64 ds.length),(18,.vsl (ds.map ia)),(8,.nils),(7,.func (.func 95) [] [.ptr 209 0,.ptr 204 0,.ptr 205 0,.ptr 206 0,.ptr 207 0,.ptr 210 0]),(0,fileA r l)],fcQ (fileA r l) (.vsl (s.map ia)) .nils m (ltK s m l ds ds.length)⟩:=(by unfold ltS;rw[if_pos i0]);have e0:iaM (ltL s m l ds)=[]:=(by rw[List.length_eq_zero_iff.1 i0];rfl);simp -implicitDefEqProofs[hS,fcQ,hF];refine Qgr ?_;simp -implicitDefEqProofs[Yh,e0]
   . have hS:ltS r l s m ds ds.length=⟨[(20,.int .i64 ds.length),(19,.int .i64 ds.length),(18,.vsl (ds.map ia)),(8,.osl 31 ds.length),(7,.func (.func 95) [] [.ptr 209 0,.ptr 204 0,.ptr 205 0,.ptr 206 0,.ptr 207 0,.ptr 210 0]),(0,fileA r l)],(31,.row 1 (iaM (ltL s m l (ds.take ds.length))))::fcQ (fileA r l) (.vsl (s.map ia)) .nils m (ltK s m l ds ds.length)⟩:=(by unfold ltS;rw[if_neg i0]);rw[hall]at hS;have e0:¬iaM (ltL s m l ds)=[]:=λh=>i0 (by rw[<- lm,h];rfl)
     simp -implicitDefEqProofs[hS,fcQ,hF];refine Qgr ?_;simp -implicitDefEqProofs[Yh,e0,k5,lm]
end
def ltA (r:List Iss) (l:List Nte) (s:List Int) (m:Int):AV:=.tup [if asN r l s m=0 then Yh ((ltL s m l (nums r)).map ia) else .nils,.int .i64 (asN r l s m)]
theorem Zm4 {r:List Iss} {l:List Nte} {s:List Int} {m:Int} (h:asN r l s m=0):chN r l=0/\truB l s=true:=by
 unfold asN at h
 split at h
 . rename_i h1
   split at h
   . rename_i h2;exact ⟨h1,h2⟩
   . cases h
 . rename_i e;exact absurd h e
theorem Zm5 {r:List Iss} {l:List Nte} (h:chN r l=0):openV r=0:=by
 unfold chN at h
 split at h
 . rename_i h1;exact h1
 . rename_i e;exact absurd h e
theorem Zm6 {r:List Iss} (h:openV r=0):r≠[]/\(nums r).length<=20:=by
 have hL:Zbv r=true:=by
  unfold openV at h
  split at h
  . assumption
  . cases h
 simp only[Zbv,Bool.and_eq_true,decide_eq_true_eq]at hL;refine ⟨?_,hL.2⟩;rintro rfl;have:=hL.1.1.1.1;simp[inR]at this
theorem Zm7 {l:List (List AV)} (h:(Yh l).pure=true) (ok:Nat->Bool) (st:St):Yi ok st 6 (Yh l)=some (Yh l):=by
 unfold Yh at *
 split at h
 . rename_i e;rw[if_pos e];simp[Yi,AV.pure]
 . rename_i e;rw[if_neg e];simp[Yi,h]
section
variable {G:Nat->Option (List AV)}
theorem Zm8 (hG:GC G) (hN:GN G) (r:List Iss) (l:List Nte) (s:List Int) (m:Int) (hw:WfN l) (hr:Wf r) (hs:Sml s):PC Tryz.prog G 38 [.agg [.vsl (r.map isa),.vsl (l.map na)],.vsl (s.map ia),.int .i64 m] (ltA r l s m):=by
 have ha:=ZhJ hG hN r l s m hw hr hs;unfold askA at ha;unfold ltA;by_cases h0:asN r l s m=0
 . obtain ⟨h1,h2⟩:=Zm4 h0;have hlt:=Zm3 (G:=G) r l s m (ZhQ (ZhP h1)) hs (Zm6 (Zm5 h1)).2;have hp:=ZhF r l;have pV:=Zf4 (l:=(ltL s m l (nums r)).map ia) (by simp[ia,AV.pure]);have sV:=λok st=>Zm7 pV ok st
   rw[if_pos h0,h0]at ha;rw[if_pos h0,h0];generalize Yh ((ltL s m l (nums r)).map ia)=V at *;generalize fileA r l=F at *
   (refine Z6n rfl λR hG hrd=>Qga ?_;subst hG)
   simp -implicitDefEqProofs[Z6l,Z6m];refine Qco (ha) (by simp) ?_;simp -implicitDefEqProofs[];refine Ye.of hlt (by simp[hp,AV.pure]) ?_;simp -implicitDefEqProofs[sV]
 . rw[if_neg h0]at ha;rw[if_neg h0]
   (refine Z6n rfl λR hG hrd=>Qga ?_;subst hG)
   simp -implicitDefEqProofs[Z6l,Z6m];refine Qco (ha) (by simp) ?_;simp -implicitDefEqProofs[h0]
end
def plX (r:List Iss) (L:List Stq) (ds ls:List Int):List (Rf×List Rf):=(ds.zip ls).map λx=>(x,rcL r L false x)
def plR (w:Bool) (p:Rf×List Rf):List AV:=[.int .i64 p.1.1,.int .i64 p.1.2,if w=true then Yh (acM p.2) else .vsl (acM p.2)]
def plM (w:Bool) (l:List (Rf×List Rf)):List (List AV):=l.map (plR w)
theorem Zm9 (w:Bool) (l:List (Rf×List Rf)) (p:Rf×List Rf):plM w (l++[p])=plM w l++[plR w p]:=by simp[plM]
theorem Zma (w:Bool) (l:List (Rf×List Rf)):(plM w l).length=l.length:=List.length_map _
theorem Zmb (l:List Rf):(Yh (acM l)).pure=true/\(Yh (acM l)).keys=[]:=⟨Zf4 (ZkH l),Zf5 _⟩
theorem Zmc (w:Bool) (l:List (Rf×List Rf)):(plM w l).all (λr=>r.all AV.pure)=true:=by
 simp only[plM,List.all_eq_true,List.mem_map];rintro _ ⟨p,-,rfl⟩ x hx;simp only[plR,List.mem_cons,List.not_mem_nil,or_false]at hx;rcases hx with rfl|rfl|rfl
 . simp[AV.pure]
 . simp[AV.pure]
 . split
   . exact (Zmb p.2).1
   . exact Zlh p.2
theorem Zmd (w:Bool) (o:List (Nat×AObj)) (l:List (Rf×List Rf)):Yd o (.row 3 (plM w l))=true:=by
 simp only[Yd,List.all_eq_true];intro r hr x hx;have:=List.all_eq_true.1 (List.all_eq_true.1 (Zmc w l) r hr) x hx;simp[Ya,AV.pure_keys x this]
theorem Zme {r:List Iss} {L:List Stq} {ds ls:List Int} (h:ls.length=ds.length):(plX r L ds ls).length=ds.length:=by simp[plX,h]
theorem Zmf {r:List Iss} {L:List Stq} {ds ls:List Int} {i:Nat} (h:ls.length=ds.length) (hi:i<ds.length):(plX r L ds ls).take (i+1)=(plX r L ds ls).take i++[((ds[i],ls[i]),rcL r L false (ds[i],ls[i]))]:=by
 have h1:i<(plX r L ds ls).length:=(by rw[Zme h];exact hi);rw[List.take_succ_eq_append_getElem h1];simp[plX]
def plE (w:Bool) (r:List Iss) (l:List Nte) (q:List Rul) (s:List Int) (m day:Int):AV :=
 .tup [if aqN r l q s m day day=0 then Yh (plM w (plX r (st5 r l q s m day) (nums r) (ltL s m l (nums r)))) else .nils,.int .i64 (aqN r l q s m day day)]
theorem aq_as {r:List Iss} {l:List Nte} {q:List Rul} {s:List Int} {m d e:Int} (h:aqN r l q s m d e=0):asN r l s m=0:=by
 obtain ⟨h1,h2,h3,-⟩:=Zi9 h;unfold asN;rw[if_pos (ZhY h1).1,if_pos h2,if_pos h3]
section
variable {G:Nat->Option (List AV)}
end
section
variable {G:Nat->Option (List AV)}
end
open Go.ChangeShapes Go.WideShapes Go.ChangeAt Go.WideMaps Go.WideElems Go.RowKit Go.Deep
theorem own:ownKnob Tryz.prog.godebug=none:=by kernel_rfl
theorem Zmo:laidOutB Tryz.prog=true:=by kernel_rfl
theorem cF:Tryz.prog.cellsOf 201=1:=by kernel_rfl
theorem Zmp {P:Program} {G:Nat->Option (List AV)} {f:FuncId} {args:List AV} {W:World} {vs:Array Value} (h:PC P G f args (.bool true)) (hG:GR G noM W) (hs:vs.size=args.length)
  (hv:∀ (i:Nat) (x:AV) (u:Value),args[i]? = some x->vs[i]? = some u->PV noM W x u):Calls P f vs W λe W'=>e = .returned (.bool true)/\Ext W W' :=
 (h.2 noM W vs (λ_ h=>h.elim) hG hs hv).mono λe W' ⟨v,h1,h2,h3⟩=>by
  cases h2
  exact ⟨h1,h3⟩
def itK:List TY:=[.int .i64,.int .i64]
def dmK:List TY:=[.int .i64,.int .i64,.int .i64]
def isK2:List TY:=[.int .i64,.int .i64,.int .u8,.sl itK,.sl dmK]
theorem Zmq {xs:List AV} (h:TVs itK xs):∃ p:Int×Int,xs=ita p:=by
 obtain ⟨x0,_,rfl,h0,h⟩:=h.cons_inv;obtain ⟨x1,_,rfl,h1,h⟩:=h.cons_inv;obtain rfl:=h.nil_inv;obtain ⟨n,rfl,-⟩:=h0.int_inv;obtain ⟨l,rfl,-⟩:=h1.int_inv;exact ⟨(n,l),rfl⟩
theorem Zmr {xs:List AV} (h:TVs dmK xs):∃ d:Dm,xs=dma d:=by
 obtain ⟨x0,_,rfl,h0,h⟩:=h.cons_inv;obtain ⟨x1,_,rfl,h1,h⟩:=h.cons_inv;obtain ⟨x2,_,rfl,h2,h⟩:=h.cons_inv;obtain rfl:=h.nil_inv;obtain ⟨n,rfl,-⟩:=h0.int_inv;obtain ⟨l,rfl,-⟩:=h1.int_inv;obtain ⟨u,rfl,-⟩:=h2.int_inv;exact ⟨⟨n,l,u⟩,rfl⟩
def KOk (x:Iss):Prop:=0<=x.k/\x.k<=255
theorem Zms {xs:List AV} (h:TVs isK2 xs):∃ x:Iss,xs=isa x/\KOk x:=by
 obtain ⟨x0,_,rfl,h0,h⟩:=h.cons_inv;obtain ⟨x1,_,rfl,h1,h⟩:=h.cons_inv;obtain ⟨x2,_,rfl,h2,h⟩:=h.cons_inv;obtain ⟨x3,_,rfl,h3,h⟩:=h.cons_inv;obtain ⟨x4,_,rfl,h4,h⟩:=h.cons_inv;obtain rfl:=h.nil_inv;obtain ⟨n,rfl,-⟩:=h0.int_inv;obtain ⟨l,rfl,-⟩:=h1.int_inv;obtain ⟨k,rfl,hk⟩:=h2.int_inv;obtain ⟨r3,rfl,-,g3⟩:=h3.sl_inv;obtain ⟨r4,rfl,-,g4⟩:=h4.sl_inv;obtain ⟨its,rfl⟩:=Zml (f:=ita) λr hr=>Zmq (g3 r hr)
 obtain ⟨dms,rfl⟩:=Zml (f:=dma) λr hr=>Zmr (g4 r hr)
 exact ⟨⟨n,l,k,its,dms⟩,rfl,bounds_u8 hk⟩
theorem Zmt {α β:Type} {f:α->β} {p:α->Prop} {rows:List β} (h:∀ r∈rows,∃ d,r=f d/\p d):∃ l:List α,rows=l.map f/\∀ x∈l,p x:=by
 induction rows with
 |nil=>exact ⟨[],rfl,by simp⟩
 | cons r rows ih =>
   obtain ⟨d,rfl,hd⟩:=h r (List.mem_cons_self ..);obtain ⟨l,rfl,hl⟩:=ih λr hr=>h r (List.mem_cons_of_mem _ hr)
   exact ⟨d::l,rfl,λx hx=>by
    rcases List.mem_cons.1 hx with rfl|hx
    . exact hd
    . exact hl x hx⟩
theorem Zmu {G:Nat->Option (List AV)} (r:List Iss):PC Tryz.prog G 105 [rega r] (.bool (Zbm r)):=by
 by_cases h1:80<r.length
 . (refine Zb4 rfl λR hG hrd=>Qga ?_;subst hG)
   have h1':(80:Int)<r.length:=(by omega);simp -implicitDefEqProofs[Zb2,Zb3,rega,h1',Zbm,h1]
 . exact Zbq r (by unfold Sml;omega)
theorem Zmv {r:List Iss} (h:Zbm r=false) (hk:∀ x∈r,KOk x):Wf r:=by
 simp only[Zbm,Bool.or_eq_false_iff,decide_eq_false_iff_not,List.any_eq_false,Bool.or_eq_true,decide_eq_true_eq,not_or]at h;exact ⟨⟨by unfold Sml;omega,λx hx=>by have:=h.2 x hx;unfold Sml;omega⟩,hk⟩
section
variable {G:Nat->Option (List AV)}
theorem Zmw (r:List Iss) (l:List Nte):PC Tryz.prog G 81 [.agg [.vsl (r.map isa),.vsl (l.map na)]] (.bool (Zbm r||decide (16<l.length))):=by
 have hg:=Zmu (G:=G) r;rw[rega]at hg
 (refine ZeH rfl λR hG hrd=>Qga ?_;subst hG)
 simp -implicitDefEqProofs[ZeF,ZeG];refine Qco (hg) (by simp) ?_
 cases q:Zbm r
 . have e:decide ((16:Int)<l.length)=decide (16<l.length):=(by rw[decide_eq_decide];omega);simp -implicitDefEqProofs[e]
 . simp -implicitDefEqProofs[]
theorem Zmx (r:List Iss) (l:List Nte) (q:List Rul):PC Tryz.prog G 49 [swa r l q] (.bool (Zbm r||decide (16<l.length)||decide (20<q.length))):=by
 have hg:=Zmw (G:=G) r l
 (refine Z8J rfl λR hG hrd=>Qga ?_;subst hG)
 simp -implicitDefEqProofs[Z8H,Z8I,swa];refine Qco (hg) (by simp) ?_
 cases h1:(Zbm r||decide (16<l.length))
 . have e:decide ((20:Int)<q.length)=decide (20<q.length):=(by rw[decide_eq_decide];omega);simp -implicitDefEqProofs[e]
 . simp -implicitDefEqProofs[]
def NOk (x:Nte):Prop:=0<=x.sg/\x.sg<=255/\0<=x.wy/\x.wy<=255
end
def mB (r:List Iss) (l:List Nte) (q:List Rul) (m day:Int) (a b:Rf) (v:Nat):Bool:=decide (diV (edg (st5 r l q (sbT (opQ l) v) m day)) b a<1048576)
def anyT (f:Nat->Bool) (v:Nat):Bool:=(List.range v).any f
def anyF (f:Nat->Bool) (v:Nat):Bool:=(List.range v).any λw=>!f w
theorem Zmy (f:Nat->Bool) (v:Nat):anyT f (v+1)=(anyT f v||f v):=by simp[anyT,List.range_succ,List.any_append]
theorem Zmz (f:Nat->Bool) (v:Nat):anyF f (v+1)=(anyF f v || !f v):=by simp[anyF,List.range_succ,List.any_append]
def suV (f:Nat->Bool) (K:Nat):Int:=if anyT f K=true then if anyF f K=true then 1 else 2 else 0
def suE (r:List Iss) (l:List Nte) (q:List Rul) (m day:Int) (a b:Rf):AV :=
 .tup [.int .u8 (if puN r l q [] m day a b=0 then suV (mB r l q m day a b) (2 ^ (opQ l).length) else 0),.int .i64 (puN r l q [] m day a b)]
def suB (S:AV) (m day a1 a2 b1 b2:Int) (C:AV):List (Nat×AObj):=[(12,.box [S,C,.int .i64 m,.int .i64 day]),(9,.box [.int .i64 b1,.int .i64 b2]),(8,.box [.int .i64 a1,.int .i64 a2])]
def suP:List (Nat×AV):=[(12,.ptr 12 0),(9,.ptr 9 0),(8,.ptr 8 0)]
def su1 (l:List Nte) (B:List (Nat×AObj)) (acc:List Int) (i:Nat):St :=
 if acc=[] then ⟨(37,.int .i64 i)::(36,.int .i64 l.length)::(35,.vsl (l.map na))::(14,.nils)::suP,B⟩
 else ⟨(37,.int .i64 i)::(36,.int .i64 l.length)::(35,.vsl (l.map na))::(14,.osl 48 acc.length)::suP,(48,.row 1 (iaM acc))::B⟩
def suU (l:List Nte):AV:=if opQ l=[] then .nils else .vsl ((opQ l).map ia)
def su2 (l:List Nte) (f:Nat->Bool) (K:Nat) (S:AV) (m day a1 a2 b1 b2:Int) (x:Nat×AV):St :=
 ⟨(55,.int .i64 x.1)::(54,.int .i64 K)::(17,.ptr 17 0)::(14,suU l)::suP,(17,.box [.bool (anyF f x.1),.bool (anyT f x.1)])::suB S m day a1 a2 b1 b2 x.2⟩
def su3 (l:List Nte) (f:Nat->Bool) (K:Nat) (S:AV) (m day a1 a2 b1 b2:Int) (v i:Nat) (s:List Int):St :=
 if s=[] then ⟨(61,.int .i64 i)::(60,.int .i64 (opQ l).length)::(59,suU l)::(18,.int .i64 v)::(55,.int .i64 v)::(54,.int .i64 K)::(17,.ptr 17 0)::(14,suU l)::suP,(17,.box [.bool (anyF f v),.bool (anyT f v)])::suB S m day a1 a2 b1 b2 .nils⟩
 else ⟨(61,.int .i64 i)::(60,.int .i64 (opQ l).length)::(59,suU l)::(18,.int .i64 v)::(55,.int .i64 v)::(54,.int .i64 K)::(17,.ptr 17 0)::(14,suU l)::suP,(75,.row 1 (iaM s))::(17,.box [.bool (anyF f v),.bool (anyT f v)])::suB S m day a1 a2 b1 b2 (.osl 75 s.length)⟩
section
variable {G:Nat->Option (List AV)}
theorem ZmA (hG:GC G) (hN:GN G) (r:List Iss) (l:List Nte) (q:List Rul) (m day a1 a2 b1 b2:Int) (hw:WfN l) (hr:Wf r) (hq:Sml q) :
  PC Tryz.prog G 53 [swa r l q,.nils,.int .i64 m,.int .i64 day,.agg [.int .i64 a1,.int .i64 a2],.agg [.int .i64 b1,.int .i64 b2]]
   (.tup [.agg (if puN r l q [] m day (a1,a2) (b1,b2)=0 then moC r l q [] m day else [.nilp,.nils,.int .i64 0,.int .i64 0]),.int .i64 (puN r l q [] m day (a1,a2) (b1,b2))]) :=
 PC.sub (Zkr hG hN r l q [] m day a1 a2 b1 b2 hw hr hq (by simp[Sml])) ⟨.rfl',.nils,.rfl',.rfl',.rfl',.rfl',trivial⟩
set_option maxHeartbeats 4000000 in
theorem ZmB (hG:GC G) (hN:GN G) (hQ:GQ G) (r:List Iss) (l:List Nte) (q:List Rul) (m day a1 a2 b1 b2:Int) (hw:WfN l) (hr:Wf r) (hq:Sml q) :
  PC Tryz.prog G 43 [swa r l q,.int .i64 m,.int .i64 day,.agg [.int .i64 a1,.int .i64 a2],.agg [.int .i64 b1,.int .i64 b2]] (suE r l q m day (a1,a2) (b1,b2)):=by
 have hp:=ZmA hG hN r l q m day a1 a2 b1 b2 hw hr hq;unfold suE;by_cases h0:puN r l q [] m day (a1,a2) (b1,b2)=0
 case neg =>
  rw[if_neg h0]at hp ⊢;unfold swa at *
  (refine ZlF rfl λR hG hrd=>Qga ?_;subst hG)
  simp -implicitDefEqProofs[ZlD,ZlE];refine Qco (hp) (by simp) ?_;simp -implicitDefEqProofs[h0]
 obtain ⟨h1,h2,h3⟩:=Zkp h0;have hz:=Zi9 h1;have hB:=ZhP (ZhY hz.1).1;have h12:=ZhQ hB;have h5:=ZlO hB;have pS:(Yl r l q).pure=true:=(by unfold Yl rfA;split <;> simp[AV.pure,isa,na,ra,rfa]);have kS:(Yl r l q).keys=[]:=by unfold Yl;simp[AV.keys]
 have hm:∀ v,PC Tryz.prog G 54 [.agg (moC r l q (sbT (opQ l) v) m day),.agg [.int .i64 a1,.int .i64 a2],.agg [.int .i64 b1,.int .i64 b2]] (.bool (mB r l q m day (a1,a2) (b1,b2) v)):=λv =>
  Zks hG hN hQ r l q (sbT (opQ l) v) m day a1 a2 b1 b2 hw hr hq (by have:=(ZlI (opQ l) v).length_le;unfold Sml;omega) hz.1 (ZlN hB v)
 have hK:=pow5 h5;have sh:=shU (n:=(opQ l).length) (by omega);rw[if_pos h0,h0]at hp;rw[if_pos h0,h0];obtain ⟨cs,eS⟩ : ∃ cs,Yl r l q = .vptr cs 0:=⟨_,rfl⟩
 have sS:∀ ok st n,Yi ok st n (Yl r l q)=some (Yl r l q):=λok st n=>by
  rw[eS]at pS ⊢
  cases n <;> simp[Yi,pS]
 unfold moC at *;rw[eS]at hp pS kS sS;simp only[eS]at hm;generalize mB r l q m day (a1,a2) (b1,b2)=f at *;generalize hKe:2 ^ (opQ l).length=K at *;unfold swa at *
 (refine ZlF rfl λR hG hrd=>Qga ?_;subst hG)
 simp -implicitDefEqProofs[ZlD,ZlE];refine Qco (hp) (by simp) ?_;simp -implicitDefEqProofs[];refine Zba (λi=>su1 l (suB (.vptr cs 0) m day a1 a2 b1 b2 (.vsl [])) (onu l i) i) (λ_=>True) l.length ?_ trivial ?_ ?_
 . have e0:onu l 0=[]:=rfl;simp only[su1,suP,suB,e0,if_true]
   ((try simp only[kS]);refine Yn.sub (by simp[lk,Ya,AV.keys,kS]) ?_;simp only[kS,Wkl,and_true];(try simp[lk,Yd,Ya,AV.keys,kS]))
 . intro i hi _;have wi:IntKind.i64.wrap ((i:Int)+1)=(i:Int)+1:=Yg (by omega) (by omega);have sn:=Zh8 hi;have sl:=Zh9 l i;obtain ⟨x,hx⟩ : ∃ x,x=l[i]:=⟨_,rfl⟩;have hnx:na x=[.int .i64 x.nu,.int .i64 x.dy,.int .u8 x.sg,.int .i64 x.dr,.int .i64 x.lt,.int .i64 x.fr,.int .i64 x.tu,.int .i64 x.ca,.bool x.up,.int .u8 x.wy]:=rfl;rw[<- hx]at sn;have em:=ZlU (onu l i) x.nu;have lnm:=ZlV (onu l i);have bb:((onu l i).length+1)*8<=70368744177664:=(by omega);generalize onu l i=acc at *;refine Qga ?_;by_cases cg:x.sg=1
   . rw[if_pos cg]at sn;by_cases cx:acc=[]
     . rw[cx,List.nil_append]at sn em;have e0:iaM []=[]:=rfl;rw[e0,List.nil_append]at em;simp -implicitDefEqProofs[su1,suP,suB,cx,hi,<- hx,hnx,cg,wi,sn];rw[<- em]
       ((try simp only[kS]);refine Yn.sub (by simp[lk,Ya,AV.keys,kS]) ?_;simp only[kS,Wkl,ZlW,and_true];(try simp[lk,Yd,Ya,AV.keys,kS]))
     . have cx2:¬onu l (i+1)=[]:=(by rw[sn];simp);simp -implicitDefEqProofs[su1,suP,suB,cx,hi,<- hx,hnx,cg,wi,sn,bb,lnm];rw[<- em]
       ((try simp only[kS]);refine Yn.sub (by simp[lk,Ya,AV.keys,kS]) ?_;simp only[kS,Wkl,ZlW,and_true];(try simp[lk,Yd,Ya,AV.keys,kS]))
   . rw[if_neg cg]at sn;by_cases cx:acc=[]
     all_goals
      simp -implicitDefEqProofs[su1,suP,suB,cx,hi,<- hx,hnx,cg,wi,sn]
      ((try simp only[kS]);refine Yn.sub (by simp[lk,Ya,AV.keys,kS]) ?_;simp only[kS,Wkl,ZlW,and_true];(try simp[lk,Yd,Ya,AV.keys,kS]))
 . intro _;have eO:opU l=onu l l.length:=rfl;have eQ:opQ l=sortI (onu l l.length):=rfl;have hso:=Zh3 (G:=R.G) (onu l l.length) (by have:=Zh9 l l.length;omega);rw[<- eQ]at hso;have lQ:(onu l l.length).length=(opQ l).length:=(by rw[eQ,Zeb]);refine Qga ?_;have wK:IntKind.i64.wrap 1=1:=rfl;by_cases cx:onu l l.length=[]
   case' pos =>
    have hq0:opQ l=[]:=(by rw[eQ,cx];simp[sortI]);have hU:suU l = .nils:=(by simp[suU,hq0]);have hl:(opQ l).length=0:=(by rw[hq0];rfl);have hK1:K=1:=(by rw[<- hKe,hl];try rfl);simp -implicitDefEqProofs[su1,suP,suB,cx];refine Qgr ?_;simp -implicitDefEqProofs[];refine Qco (Zh6) (by simp) ?_;simp -implicitDefEqProofs[]
   case' neg =>
    have hq0:¬opQ l=[]:=λh=>cx (List.length_eq_zero_iff.1 (by rw[lQ,h];rfl))
    have hU:suU l = .vsl ((opQ l).map ia):=(by simp[suU,hq0]);have hl:True:=trivial;have hK1:True:=trivial;have sh2:=sh;rw[<- lQ]at sh2;simp -implicitDefEqProofs[su1,suP,suB,cx];refine Qgr ?_;simp -implicitDefEqProofs[];have e1:iaM (onu l l.length)=(onu l l.length).map ia:=rfl;rw[e1];refine Ye.sem (Z1B.byref hso (λ_=>48) (by simp) (by simp) (by simp[St.get,lk,ZgV]) (by simp[ZgW]) (by simp[Ya,AV.keys,lk]) rfl (by simp[AV.ren]) rfl rfl) ?_;simp -implicitDefEqProofs[Ym,ZgV,lQ,sh,sh2]
   all_goals
    refine Z1Q (su2 l f K (.vptr cs 0) m day a1 a2 b1 b2) (λx=>x.1<=K/\x.2.keys=[]) (λx=>K-x.1) (0,.vsl []) ?_ ⟨Nat.zero_le _,by simp[AV.keys]⟩ ?_
    . have t0:anyT f 0=false:=rfl;have f0:anyF f 0=false:=rfl;simp only[su2,suP,suB,hU,t0,f0];refine Yn.trans (Yn.frz (λk=>k == 48) _) ?_
      ((try simp only[Yj,frzA,frzO,frz,Yi,Yk,St.get,AV.pure,lQ,ia,kS,hK1,wK]);refine Yn.sub (by simp[lk,Ya,AV.keys,Yj,frzA,frzO,frz,Yi,Yk,St.get,AV.pure,lQ,ia,kS,hK1,wK]) ?_;simp only[Yj,frzA,frzO,frz,Yi,Yk,St.get,AV.pure,lQ,ia,kS,hK1,wK,Wkl,and_true];(try simp[lk,Yd,Ya,AV.keys,Yj,frzA,frzO,frz,Yi,Yk,St.get,AV.pure,lQ,ia,kS,hK1,wK]))
    rintro ⟨v,C⟩ ⟨hv,kC⟩;simp only at hv kC;refine Qga ?_;by_cases hvK:v<K
    . have wv:IntKind.i64.wrap ((v:Int)+1)=(v:Int)+1:=Yg (by omega) (by omega);have t1:=Zmy f v;have t2:=Zmz f v;simp -implicitDefEqProofs[su2,suP,suB,hvK,hU,hl];refine Zba (λi=>su3 l f K (.vptr cs 0) m day a1 a2 b1 b2 v i (sbN (opQ l) v i)) (λ_=>True) (opQ l).length ?_ trivial ?_ ?_
      . have e0:sbN (opQ l) v 0=[]:=rfl;simp only[su3,suP,suB,e0,if_true,hU]
        ((try simp only[kS,hl,ia]);refine Yn.sub (by simp[lk,Ya,AV.keys,kS,hl,ia]) ?_;simp only[kS,hl,ia,Wkl,and_true];(try simp[lk,Yd,Ya,AV.keys,kS,hl,ia]))
      . intro i hi _;have hq:¬opQ l=[]:=λh=>by rw[h]at hi;simp at hi
        have hU':suU l = .vsl ((opQ l).map ia):=(by simp[suU,hq]);have wi:IntKind.i64.wrap ((i:Int)+1)=(i:Int)+1:=Yg (by omega) (by omega);have bU:=bitU (v:=v) (i:=i) (by omega) (by omega);have sn:=ZlY (opQ l) v i;have eg:(opQ l).getD i 0=(opQ l)[i]:=(by simp[List.getD_eq_getElem?_getD,hi]);rw[eg]at sn;have sl:=ZlG (opQ l) v i;have em:=ZlU (sbN (opQ l) v i) (opQ l)[i];have lnm:=ZlV (sbN (opQ l) v i);have bb:((sbN (opQ l) v i).length+1)*8<=70368744177664:=(by omega);generalize sbN (opQ l) v i=s at *;refine Qga ?_;by_cases cb:v / 2 ^ i % 2=1
        . rw[if_pos cb]at sn bU;by_cases cx:s=[]
          . rw[cx,List.nil_append]at sn em;have e0:iaM []=[]:=rfl;rw[e0,List.nil_append]at em;simp -implicitDefEqProofs[su3,suP,suB,cx,hU',hi,bU,ia,wi,sn];rw[<- em]
            ((try simp only[kS,ia]);refine Yn.sub (by simp[lk,Ya,AV.keys,kS,ia]) ?_;simp only[kS,ia,Wkl,ZlW,and_true];(try simp[lk,Yd,Ya,AV.keys,kS,ia]))
          . have cx2:¬s++[(opQ l)[i]]=[]:=(by simp);simp -implicitDefEqProofs[su3,suP,suB,cx,cx2,hU',hi,bU,ia,wi,sn,bb,lnm];rw[<- em]
            ((try simp only[kS,ia]);refine Yn.sub (by simp[lk,Ya,AV.keys,kS,ia]) ?_;simp only[kS,ia,Wkl,ZlW,and_true];(try simp[lk,Yd,Ya,AV.keys,kS,ia]))
        . rw[if_neg cb]at sn bU;by_cases cx:s=[]
          all_goals
           simp -implicitDefEqProofs[su3,suP,suB,cx,hU',hi,bU,ia,wi,sn]
           ((try simp only[kS,ia]);refine Yn.sub (by simp[lk,Ya,AV.keys,kS,ia]) ?_;simp only[kS,ia,Wkl,ZlW,and_true];(try simp[lk,Yd,Ya,AV.keys,kS,ia]))
      . intro _;have hmv:=hm v;have eT:sbN (opQ l) v (opQ l).length=sbT (opQ l) v:=rfl;rw[eT];have s5:(sbT (opQ l) v).length<=5:=Nat.le_trans (ZlI (opQ l) v).length_le h5;generalize sbT (opQ l) v=s at *;have sp:=ZlX s;have lnm:=ZlV s;have eM:s.map ia=iaM s:=rfl;refine Qga ?_;by_cases cx:s=[]
        . simp -implicitDefEqProofs[su3,suP,suB,cx,hU];refine Qgr ?_;simp -implicitDefEqProofs[];refine Ye.of (PC.sub hmv ⟨.agg ⟨.rfl',by rw[cx];exact .nils,.rfl',.rfl',trivial⟩,.rfl',.rfl',trivial⟩) (by simp[AV.pure,pS]) ?_
          cases hf:f v
          all_goals
           rw[hf]at t1 t2;simp only[Bool.or_false,Bool.or_true,Bool.not_true,Bool.not_false]at t1 t2;simp -implicitDefEqProofs[wv];refine ⟨(v+1,.nils),?_,⟨hvK,by simp[AV.keys]⟩,by show K-(v+1)<K-v;omega⟩;simp only[su2,suP,suB,hU,t1,t2]
           ((try simp only[kS,ia]);refine Yn.sub (by simp[lk,Ya,AV.keys,kS,ia]) ?_;simp only[kS,ia,Wkl,and_true];(try simp[lk,Yd,Ya,AV.keys,kS,ia]))
        . simp -implicitDefEqProofs[su3,suP,suB,cx,hU];refine Qgr ?_;simp -implicitDefEqProofs[];refine Ye.flat hmv (by simp[AV.flat]) (by simp[Yk,snap,Yi,sS,okAll,St.get,lk,sp,lnm,eM,AV.pure]) ?_
          cases hf:f v
          all_goals
           rw[hf]at t1 t2;simp only[Bool.or_false,Bool.or_true,Bool.not_true,Bool.not_false]at t1 t2;simp -implicitDefEqProofs[wv];refine ⟨(v+1,.vsl (s.map ia)),?_,⟨hvK,by simp[AV.keys]⟩,by show K-(v+1)<K-v;omega⟩;simp only[su2,suP,suB,hU,t1,t2];refine Yn.trans (Yn.frz (λk=>k == 75) _) ?_
           ((try simp only[Yj,frzA,frzO,frz,Yi,Yk,St.get,AV.pure,ia,kS,pS,sp,lnm,eM]);refine Yn.sub (by simp[lk,Ya,AV.keys,Yj,frzA,frzO,frz,Yi,Yk,St.get,AV.pure,ia,kS,pS,sp,lnm,eM]) ?_;simp only[Yj,frzA,frzO,frz,Yi,Yk,St.get,AV.pure,ia,kS,pS,sp,lnm,eM,Wkl,and_true];(try simp[lk,Yd,Ya,AV.keys,Yj,frzA,frzO,frz,Yi,Yk,St.get,AV.pure,ia,kS,pS,sp,lnm,eM]))
    . have hK2:v=K:=(by omega);subst hK2
      cases c1:anyT f v
      all_goals
       cases c2:anyF f v
      all_goals
       simp -implicitDefEqProofs[su2,suP,suB,hU,c1,c2];refine Qgr ?_;simp -implicitDefEqProofs[suV,c1,c2]
end
end Go.Proofs.YtjogcghofinemaaGreatDoor
