/-
  How two issues differ: what the program's Differ computes.
-/
import Derived.Test.YthlcppdbldkldaaDoorLEgToGd
import Derived.Test.YthlcppdbldkldaaDoorLOpenToOpen
import Derived.Test.YthlcppdbldkldaaDoorLRowToRow
import Derived.Test.YthlcppdbldkldaaDoorLHaToHa
set_option linter.all false
set_option maxHeartbeats 8000000
namespace Go.Proofs.YthlcppdbldkldaaDoor
open Go.Proofs.Tryd (prog)
open IntKind (i64)
open Go.RowKit
variable {G:Jg}
def mpP {α:Type} (n:Int) (v:α):List (Int×α)->List (Int×α)
 |[]=>[(n,v)]
 |p::l=>if n=p.1 then (n,v)::l else p::mpP n v l
def Zdo {α:Type} (n:Int) (v:α):∀ (l:List (Int×α)) (m:Int),mlk m (mpP n v l)=if m=n then some v else mlk m l
 |[],m=>by simp[mpP,mlk]
 | p :: l,m=>by
   have ih:=Zdo n v l m;simp only[mpP];by_cases e:n=p.1
   . rw[if_pos e];simp only[mlk];by_cases e2:m=n
     . rw[if_pos e2,if_pos e2]
     . rw[if_neg e2,if_neg e2,if_neg (by rw[<- e];exact e2)]
   . rw[if_neg e];simp only[mlk];by_cases e2:m=p.1
     . rw[if_pos e2,if_pos e2,if_neg (by rintro rfl;exact e e2)]
     . rw[if_neg e2,if_neg e2];exact ih
def Zdp {α:Type} (f:α->AV) (n:Int) (v:α):∀ l:List (Int×α),∃ o:Option Nat,(KK.i .i64).find (.int .i64 n) (mpA f l)=some o/\match o with
  |some j=>mpP n v l=l.set j (n,v)
  |none=>mpP n v l=l++[(n,v)]
 |[]=>⟨none,rfl,rfl⟩
 | p :: r=>by
   obtain ⟨o,h1,h2⟩:=Zdp f n v r;by_cases e:n=p.1
   . exact ⟨some 0,by simp[mpA,KK.find,KK.eq,e],by simp[mpP,e]⟩
   . refine ⟨o.map (· + 1),?_,?_⟩
     . simp only[mpA,W0F,KK.find,KK.eq,and_self,if_true,e,W1u];rw[show r.map (λp=>(AV.int .i64 p.1,f p.2))=mpA f r from rfl,h1];rfl
     . cases o with
       |none=>simp only[Option.map_none,mpP,if_neg e,h2];rfl
       |some j=>simp only[W0m,mpP,if_neg e,h2];rfl
def Zdq {α:Type} (f:α->AV) (n:Int) (v:α) (l:List (Int×α)):(KK.i .i64).put (.int .i64 n) (f v) (mpA f l)=some (mpA f (mpP n v l)):=by
 obtain ⟨o,h1,h2⟩:=Zdp f n v l;have hi:(KK.i .i64).is (.int .i64 n)=true:=(by simp[KK.is]);unfold KK.put;rw[if_pos hi,h1]
 cases o with
 |none=>simp only[h2];simp[mpA]
 |some j=>rw[h2];simp[mpA,W29]
def dA (d:Dm):AV:=.agg (dma d)
def Zdr (o:List (Nat×AObj)) (l:List (Int×Dm)):Yc o (.mp (mpA dA l))=true:=by
 simp only[Yc,W03,mpA,W0i];rintro _ ⟨y,-,rfl⟩;simp[dA,dma,Ya,AV.keys]
def Cnt (l:List (Int×Dm)) (f g:Int->Int):Prop:=∀ n,(mlk n l=none/\f n=0/\g n=0)∨mlk n l=some ⟨n,f n,g n⟩
def Zds {l:List (Int×Int)} (hn:(l.map (·.1)).Nodup) {i:Nat} (h:i<l.length) (n:Int):ctL n (l.take (i+1))=if n=l[i].1 then l[i].2 else ctL n (l.take i):=by
 have app:∀ (l1:List (Int×Int)) (y:Int×Int),y.1 ∉ l1.map (·.1)->ctL n (l1++[y])=if n=y.1 then y.2 else ctL n l1:=by
  intro l1 y
  induction l1 with
  | nil =>
    intro _;simp only[W18,ctL];by_cases e:n=y.1
    . rw[if_pos e,if_pos e.symm]
    . rw[if_neg e,if_neg λq=>e q.symm]
  | cons z l1 ih =>
    intro h;simp only[W0F,W0g,not_or]at h;simp only[W1d,ctL,ih h.2];by_cases e:z.1=n
    . rw[if_pos e,if_pos e,if_neg (λq=>h.1 (by rw[e,q]))]
    . rw[if_neg e,if_neg e]
 rw[W08 h];refine app _ _ λhm=>?_
 obtain ⟨y,hy,e⟩:=W0i.1 hm;obtain ⟨j,hj,rfl⟩:=W0k hy;simp only[W15]at hj;simp only[W1O]at e;have h1:=W0Y.1 hn j i (by simp;omega) (by simpa using h) (by omega);simp only[W1t]at h1;exact h1 e
def by1 (its:List (Int×Int)) (i:Nat):List (Int×Dm):=(its.take i).foldl (λl y=>mpP y.1 ⟨y.1,y.2,0⟩ l) []
def by2 (l:List (Int×Dm)) (its:List (Int×Int)) (i:Nat):List (Int×Dm):=(its.take i).foldl (λl y=>mpP y.1 ⟨y.1,((mlk y.1 l).getD Dm.zero).l,y.2⟩ l) l
def Zdt {its:List (Int×Int)} {i:Nat} (h:i<its.length):by1 its (i+1)=mpP its[i].1 ⟨its[i].1,its[i].2,0⟩ (by1 its i):=Z9U _ _ _ _ h
def Zdu {l:List (Int×Dm)} {its:List (Int×Int)} {i:Nat} (h:i<its.length):by2 l its (i+1)=mpP its[i].1 ⟨its[i].1,((mlk its[i].1 (by2 l its i)).getD Dm.zero).l,its[i].2⟩ (by2 l its i):=Z9U (λ(l:List (Int×Dm)) (y:Int×Int)=>mpP y.1 ⟨y.1,((mlk y.1 l).getD Dm.zero).l,y.2⟩ l) _ _ _ h
def Zdv {its:List (Int×Int)} (hn:(its.map (·.1)).Nodup):∀ i,i<=its.length->Cnt (by1 its i) (λn=>ctL n (its.take i)) λ_=>0
 |0,_=>λn=>.inl ⟨rfl,by simp[ctL],rfl⟩
 | i+1,hi=>λn=>by
   have hlt:i<its.length:=(by omega);have ih:=Zdv hn i (by omega) n;rw[Zdt hlt,Zdo];simp only[Zds hn hlt n];by_cases e:n=its[i].1
   . rw[if_pos e,if_pos e];exact .inr (by rw[e])
   . rw[if_neg e,if_neg e];simpa using ih
def Zdw {l:List (Int×Dm)} {f:Int->Int} (h0:Cnt l f λ_=>0) {its:List (Int×Int)} (hn:(its.map (·.1)).Nodup):∀ i,i<=its.length->Cnt (by2 l its i) f λn=>ctL n (its.take i)
 |0,_=>λn=>by have:=h0 n;simpa [by2,ctL] using this
 | i + 1,hi=>λn=>by
   have hlt:i<its.length:=(by omega);have ih:=Zdw h0 hn i (by omega);rw[Zdu hlt,Zdo];simp only[Zds hn hlt n];by_cases e:n=its[i].1
   . rw[if_pos e,if_pos e];refine .inr ?_;rcases ih its[i].1 with ⟨h1,h2,-⟩|h1
     . rw[h1,e,h2];rfl
     . rw[h1,e];rfl
   . rw[if_neg e,if_neg e];exact ih n
def f1S (r:Jr) (a b:Iss) (l:List (Int×Dm)) (i:Nat):St:=⟨[(59,.int .i64 i),(58,.int .i64 a.its.length),(57,.vsl (a.its.map ita)),(16,.mp 55),(11,bkA r (nums r)),(12,.ptr 12 0),(14,.ptr 14 0),(8,.nils),(9,.nils)],[(12,.box (isa a)),(14,.box (isa b)),(55,.mp (mpA dA l))]⟩
def f2S (r:Jr) (a b:Iss) (l:List (Int×Dm)) (i:Nat):St:=⟨[(75,.int .i64 i),(74,.int .i64 b.its.length),(73,.vsl (b.its.map ita)),(16,.mp 55),(11,bkA r (nums r)),(12,.ptr 12 0),(14,.ptr 14 0),(8,.nils),(9,.nils)],[(12,.box (isa a)),(14,.box (isa b)),(55,.mp (mpA dA l))]⟩
def f3S (l:List Int) (a b:Iss) (m:List (Int×Dm)) (D:List Dm) (i:Nat):St:=if D=[] then ⟨[(98,.int .i64 i),(97,.int .i64 l.length),(96,.vsl (l.map ia)),(16,.mp 55),(12,.ptr 12 0),(14,.ptr 14 0),(8,.nils),(9,.nils)],[(12,.box (isa a)),(14,.box (isa b)),(55,.mp (mpA dA m))]⟩
 else ⟨[(98,.int .i64 i),(97,.int .i64 l.length),(96,.vsl (l.map ia)),(16,.mp 55),(12,.ptr 12 0),(14,.ptr 14 0),(8,.osl 113 D.length),(9,.nils)],[(12,.box (isa a)),(14,.box (isa b)),(55,.mp (mpA dA m)),(113,.row 3 (D.map dma))]⟩
def f4S (C:AV) (a b:Iss) (i:Nat):St:=if dsN a.dms b.dms i=[] then ⟨[(122,.int .i64 i),(121,.int .i64 (max a.dms.length b.dms.length:Nat)),(8,C),(9,.nils),(12,.ptr 12 0),(14,.ptr 14 0)],[(12,.box (isa a)),(14,.box (isa b))]⟩
 else ⟨[(122,.int .i64 i),(121,.int .i64 (max a.dms.length b.dms.length:Nat)),(8,C),(9,.osl 150 (dsN a.dms b.dms i).length),(12,.ptr 12 0),(14,.ptr 14 0)],[(12,.box (isa a)),(14,.box (isa b)),(150,.row 1 ((dsN a.dms b.dms i).map ia))]⟩
def Zdx {l:List (Int×Dm)} {f g:Int->Int} (h:Cnt l f g) (n:Int):((mlk n l).getD Dm.zero).l=f n/\((mlk n l).getD Dm.zero).u=g n/\(f n≠g n->mlk n l=some ⟨n,f n,g n⟩):=by
 rcases h n with ⟨h1,h2,h3⟩|h1
 . rw[h1,h2,h3];exact ⟨rfl,rfl,λh=>absurd rfl h⟩
 . rw[h1];exact ⟨rfl,rfl,λ_=>rfl⟩
set_option maxRecDepth 4000 in
def Zdy (hG:GC G) (r:Jr) (d n m:Int) (h:Wf r):PC prog G 24 [rega r,.int .i64 d,.int .i64 n,.int .i64 m] (.tup [.vsl ((difE r d n m).1.map dma),.vsl ((difE r d n m).2.1.map ia),.int .i64 (difE r d n m).2.2]):=by
 by_cases e:openV r=0
 case neg =>
  refine PC.nzR (v:=.tup [.nils,.nils,.int .i64 (openV r)]) ?_ (by simp[nz,difE,e])
  (refine Z5N rfl λR hG hrd=>Qga ?_;subst hG)
  simp -implicitDefEqProofs[Z5L,Z5M,rega];refine Qco (Za9 hG r h) ?_;simp -implicitDefEqProofs[openA,e]
 have hL:=Zaa e;have hO:=Z8x hL;have hl:=Zab hL
 cases fa:findN d n r with
 | none =>
   have ev:difE r d n m=([],[],6):=(by simp[difE,e,fa]);refine PC.nzR (v:=.tup [.nils,.nils,.int .i64 6]) ?_ (by simp[nz,ev])
   (refine Z5N rfl λR hG hrd=>Qga ?_;subst hG)
   simp -implicitDefEqProofs[Z5L,Z5M,rega];refine Qco (Za9 hG r h) ?_;simp -implicitDefEqProofs[openA,e];refine Qco (Z9A r (nums r) d n (Zai hO) h.1.1 (Zak hL)) ?_;simp -implicitDefEqProofs[fa,fndA,noIs];refine Qco (Z9A r (nums r) d m (Zai hO) h.1.1 (Zak hL)) ?_
   cases fb:findN d m r <;> simp -implicitDefEqProofs[fb,fndA,noIs,isa]
 |some a =>
 cases fb:findN d m r with
 | none =>
   have ev:difE r d n m=([],[],6):=(by simp[difE,e,fa,fb]);refine PC.nzR (v:=.tup [.nils,.nils,.int .i64 6]) ?_ (by simp[nz,ev])
   (refine Z5N rfl λR hG hrd=>Qga ?_;subst hG)
   simp -implicitDefEqProofs[Z5L,Z5M,rega];refine Qco (Za9 hG r h) ?_;simp -implicitDefEqProofs[openA,e];refine Qco (Z9A r (nums r) d n (Zai hO) h.1.1 (Zak hL)) ?_;simp -implicitDefEqProofs[fa,fndA,isa];refine Qco (Z9A r (nums r) d m (Zai hO) h.1.1 (Zak hL)) ?_;simp -implicitDefEqProofs[fb,fndA,noIs]
 |some b =>
 have ha:=h.1.2 a (Z8I fa).1;have hb:=h.1.2 b (Z8I fb).1;have na:=Zbm (Zad hL (Z8I fa).1);have nb:=Zbm (Zad hL (Z8I fb).1);have h8a:=(ZaS (Zad hL (Z8I fa).1)).2.2.1;have h8b:=(ZaS (Zad hL (Z8I fb).1)).2.2.1;have ev:difE r d n m=(dfN (nums r) (λn=>ctL n a.its) (λn=>ctL n b.its) (nums r).length,dsN a.dms b.dms (max a.dms.length b.dms.length),0):=(by simp[difE,e,fa,fb]);rw[ev];refine PC.nzR (v:=.tup [Yg ((dfN (nums r) (λn=>ctL n a.its) (λn=>ctL n b.its) (nums r).length).map dma),Yg ((dsN a.dms b.dms (max a.dms.length b.dms.length)).map ia),.int .i64 0]) ?_ (by simp only[Z8k,W0F,W1c,ZbD];simp[nz])
 (refine Z5N rfl λR hG hrd=>Qga ?_;subst hG)
 simp -implicitDefEqProofs[Z5L,Z5M,rega];refine Qco (Za9 hG r h) ?_;simp -implicitDefEqProofs[openA,e];refine Qco (Z9A r (nums r) d n (Zai hO) h.1.1 (Zak hL)) ?_;simp -implicitDefEqProofs[fa,fndA,isa];refine Qco (Z9A r (nums r) d m (Zai hO) h.1.1 (Zak hL)) ?_;simp -implicitDefEqProofs[fb,fndA,isa];refine Z8h (λi=>f1S r a b (by1 a.its i) i) (λ_=>True) a.its.length ?_ trivial ?_ ?_
 . ((try simp only[f1S,isa,by1,W1f,List.foldl_nil,mpA,W1c,bkA]);refine Ym.sub (by simp[lk,Ya,AV.keys,f1S,isa,by1,W1f,List.foldl_nil,mpA,W1c,bkA]) ?_;simp only[f1S,isa,by1,W1f,List.foldl_nil,mpA,W1c,bkA,Wkl,Zdr,and_true];(try simp[lk,Yc,Ya,AV.keys,f1S,isa,by1,W1f,List.foldl_nil,mpA,W1c,bkA]))
 . intro i hi _;refine Qga ?_;have w1:i64.wrap ((i:Int)+1)=((i+1:Nat):Int):=Yf;have pm:=Zdq dA a.its[i].1 ⟨a.its[i].1,a.its[i].2,0⟩ (by1 a.its i);rw[<- Zdt hi,dA,dma]at pm;simp -implicitDefEqProofs[f1S,hi,ita,pm,w1]
   ((try simp only[f1S,isa,bkA]);refine Ym.sub (by simp[lk,Ya,AV.keys,f1S,isa,bkA]) ?_;simp only[f1S,isa,bkA,Wkl,Zdr,and_true];(try simp[lk,Yc,Ya,AV.keys,f1S,isa,bkA]))
 intro _;refine Qga ?_;simp -implicitDefEqProofs[f1S,isa];refine Qgr ?_;simp -implicitDefEqProofs;refine Z8h (λi=>f2S r a b (by2 (by1 a.its a.its.length) b.its i) i) (λ_=>True) b.its.length ?_ trivial ?_ ?_
 . ((try simp only[f2S,isa,by2,W1f,List.foldl_nil,bkA]);refine Ym.sub (by simp[lk,Ya,AV.keys,f2S,isa,by2,W1f,List.foldl_nil,bkA]) ?_;simp only[f2S,isa,by2,W1f,List.foldl_nil,bkA,Wkl,Zdr,and_true];(try simp[lk,Yc,Ya,AV.keys,f2S,isa,by2,W1f,List.foldl_nil,bkA]))
 . intro i hi _;refine Qga ?_;have w1:i64.wrap ((i:Int)+1)=((i+1:Nat):Int):=Yf;have bs:=Zdu (l:=by1 a.its a.its.length) hi;generalize by2 (by1 a.its a.its.length) b.its i=L at *;have pm:=Zdq dA b.its[i].1 ⟨b.its[i].1,((mlk b.its[i].1 L).getD Dm.zero).l,b.its[i].2⟩ L;rw[<- bs,dA,dma]at pm;have gm:=Zba dA b.its[i].1 L
   cases q:mlk b.its[i].1 L with
   | none =>
     rw[q]at gm pm;simp only[W1T,Dm.zero]at pm;simp -implicitDefEqProofs[f2S,hi,ita,gm,pm,w1]
     ((try simp only[f2S,isa,bkA]);refine Ym.sub (by simp[lk,Ya,AV.keys,f2S,isa,bkA]) ?_;simp only[f2S,isa,bkA,Wkl,Zdr,and_true];(try simp[lk,Yc,Ya,AV.keys,f2S,isa,bkA]))
   | some v =>
     rw[q]at gm pm;simp only[W0P]at pm;simp -implicitDefEqProofs[f2S,hi,ita,gm,dA,dma,pm,w1]
     ((try simp only[f2S,isa,bkA]);refine Ym.sub (by simp[lk,Ya,AV.keys,f2S,isa,bkA]) ?_;simp only[f2S,isa,bkA,Wkl,Zdr,and_true];(try simp[lk,Yc,Ya,AV.keys,f2S,isa,bkA]))
 intro _;refine Qga ?_;have hC:=Zdw (Zdv na _ (W0f _)) nb _ (W0f b.its.length);simp only[W0v]at hC;generalize by2 (by1 a.its a.its.length) b.its b.its.length=M at *;simp -implicitDefEqProofs[f2S,isa];refine Qgr ?_;simp -implicitDefEqProofs[bkA];refine Z8h (λi=>f3S (nums r) a b M (dfN (nums r) (λn=>ctL n a.its) (λn=>ctL n b.its) i) i) (λ_=>True) (nums r).length ?_ trivial ?_ ?_
 . have e0:dfN (nums r) (λn=>ctL n a.its) (λn=>ctL n b.its) 0=[]:=rfl;simp only[f3S,e0,if_true]
   ((try simp only[isa]);refine Ym.sub (by simp[lk,Ya,AV.keys,isa]) ?_;simp only[isa,Wkl,Zdr,and_true];(try simp[lk,Yc,Ya,AV.keys,isa]))
 . intro i hi _;refine Qga ?_;have w1:i64.wrap ((i:Int)+1)=((i+1:Nat):Int):=Yf;have hs:=Zby (f:=λn=>ctL n a.its) (g:=λn=>ctL n b.its) hi;have bl:=Zbz (nums r) (λn=>ctL n a.its) (λn=>ctL n b.its) i;obtain ⟨c1,c2,c3⟩:=Zdx hC (nums r)[i];have gm:=Zba dA (nums r)[i] M;generalize dfN (nums r) (λn=>ctL n a.its) (λn=>ctL n b.its) i=D at *;have bb:(D.length+1)*24<=70368744177664:=(by omega);by_cases q:ctL (nums r)[i] a.its=ctL (nums r)[i] b.its
   . rw [if_pos q]at hs;rw[<- c1,<- c2]at q
     cases k:mlk (nums r)[i] M with
     | none =>
       rw[k]at gm;by_cases z:D=[]
       . simp -implicitDefEqProofs[f3S,z,hi,ia,gm,w1];simp only[f3S,hs,z,if_true]
         ((try simp only[isa]);refine Ym.sub (by simp[lk,Ya,AV.keys,isa]) ?_;simp only[isa,Wkl,ZbI,Zdr,and_true];(try simp[lk,Yc,Ya,AV.keys,isa]))
       . simp -implicitDefEqProofs[f3S,z,hi,ia,gm,w1];simp only[f3S,hs,z,if_false]
         ((try simp only[isa]);refine Ym.sub (by simp[lk,Ya,AV.keys,isa]) ?_;simp only[isa,Wkl,ZbI,Zdr,and_true];(try simp[lk,Yc,Ya,AV.keys,isa]))
     | some v =>
       rw[k]at gm q;simp only[W0P]at q;by_cases z:D=[]
       . simp -implicitDefEqProofs[f3S,z,hi,ia,gm,dA,dma,q,w1];simp only[f3S,hs,z,if_true]
         ((try simp only[isa]);refine Ym.sub (by simp[lk,Ya,AV.keys,isa]) ?_;simp only[isa,Wkl,ZbI,Zdr,and_true];(try simp[lk,Yc,Ya,AV.keys,isa]))
       . simp -implicitDefEqProofs[f3S,z,hi,ia,gm,dA,dma,q,w1];simp only[f3S,hs,z,if_false]
         ((try simp only[isa]);refine Ym.sub (by simp[lk,Ya,AV.keys,isa]) ?_;simp only[isa,Wkl,ZbI,Zdr,and_true];(try simp[lk,Yc,Ya,AV.keys,isa]))
   . rw[if_neg q]at hs;have k:=c3 q;rw[k]at gm;by_cases z:D=[]
     . simp -implicitDefEqProofs[f3S,z,hi,ia,gm,dA,dma,q,w1];simp only[f3S,hs,z,W18,List.cons_ne_nil,if_false]
       ((try simp only[isa,dma]);refine Ym.sub (by simp[lk,Ya,AV.keys,isa,dma]) ?_;simp only[isa,dma,Wkl,ZbI,Zdr,and_true];(try simp[lk,Yc,Ya,AV.keys,isa,dma]))
     . simp -implicitDefEqProofs[f3S,z,hi,ia,gm,dA,dma,q,w1,bb];simp only[f3S,hs,List.append_eq_nil_iff,List.cons_ne_nil,and_false,if_false]
       ((try simp only[isa,dma]);refine Ym.sub (by simp[lk,Ya,AV.keys,isa,dma]) ?_;simp only[isa,dma,Wkl,ZbI,Zdr,and_true];(try simp[lk,Yc,Ya,AV.keys,isa,dma]))
 intro _;refine Qga ?_;obtain ⟨C,hC⟩:=Qex (Yg ((dfN (nums r) (λn=>ctL n a.its) (λn=>ctL n b.its) (nums r).length).map dma));have hCk:C.keys=[]:=(by rw[hC];exact ZbE _);have hCs:∀ ok st n,Yh ok st n C=some C:=(by rw[hC];exact ZbF _);have hmx:max (a.dms.length:Int) (b.dms.length:Int)=((max a.dms.length b.dms.length:Nat):Int):=by omega
 have key : ∀ st:St,Ym st (f4S C a b 0)->AR prog R (endLp (headS (dropS 10 Z5L))) st (RetP prog R [KF.bk 6,KF.sq (dropS 11 Z5L)] (Fin Z5M (.tup [C,Yg ((dsN a.dms b.dms (max a.dms.length b.dms.length)).map ia),.int .i64 0]))):=by
  intro st hw;refine Z8h (f4S C a b) (λ_=>True) (max a.dms.length b.dms.length) hw trivial ?_ ?_
  . intro i hi _;refine Qga ?_;have hza:=ha.2;have hzb:=hb.2;unfold Sml at hza hzb;have w1:i64.wrap ((i:Int)+1)=((i+1:Nat):Int):=Yf;have hs:=ZbA (a:=a.dms) (b:=b.dms) (i:=i);have bl:=ZbB a.dms b.dms i;have bb:((dsN a.dms b.dms i).length+1)*8<=70368744177664:=(by omega);by_cases ca:i<a.dms.length
    . by_cases cb:i<b.dms.length
      . have cm:¬min (a.dms.length:Int) (b.dms.length:Int)<=(i:Int):=(by omega);rw[ZbC ca cb]at hs;by_cases q:a.dms[i]=b.dms[i]
        . rw[if_neg (by simp[q])]at hs;by_cases z:dsN a.dms b.dms i=[]
          . rw[z]at hs;simp -implicitDefEqProofs[endLp,headS,dropS,Z5L,f4S,z,isa,dma,ca,cb,cm,q,hi,w1];refine ⟨rfl,?_⟩;simp only[f4S,hs,z,if_true,if_false]
            ((try simp only[isa,hCk,ia]);refine Ym.sub (by simp[lk,Ya,AV.keys,isa,hCk,ia]) ?_;simp only[isa,hCk,ia,Wkl,Zbt,and_true];(try simp[lk,Yc,Ya,AV.keys,isa,hCk,ia]))
          . simp -implicitDefEqProofs[endLp,headS,dropS,Z5L,f4S,z,isa,dma,ca,cb,cm,q,hi,w1];refine ⟨rfl,?_⟩;simp only[f4S,hs,z,if_true,if_false]
            ((try simp only[isa,hCk,ia]);refine Ym.sub (by simp[lk,Ya,AV.keys,isa,hCk,ia]) ?_;simp only[isa,hCk,ia,Wkl,Zbt,and_true];(try simp[lk,Yc,Ya,AV.keys,isa,hCk,ia]))
        . rw[if_pos (by simp[q])]at hs;by_cases z:dsN a.dms b.dms i=[]
          . rw[z]at hs;simp -implicitDefEqProofs[endLp,headS,dropS,Z5L,f4S,z,isa,dma,ca,cb,cm,hi];refine ⟨rfl,?_⟩;rw[dm_ne q];simp -implicitDefEqProofs[w1];simp only[f4S,hs,W18,List.append_eq_nil_iff,List.cons_ne_nil,and_false,if_false]
            ((try simp only[isa,hCk,ia]);refine Ym.sub (by simp[lk,Ya,AV.keys,isa,hCk,ia]) ?_;simp only[isa,hCk,ia,Wkl,Zbt,and_true];(try simp[lk,Yc,Ya,AV.keys,isa,hCk,ia]))
          . simp -implicitDefEqProofs[endLp,headS,dropS,Z5L,f4S,z,isa,dma,ca,cb,cm,hi];refine ⟨rfl,?_⟩;rw[dm_ne q];simp -implicitDefEqProofs[w1,bb];simp only[f4S,hs,W18,List.append_eq_nil_iff,List.cons_ne_nil,and_false,if_false]
            ((try simp only[isa,hCk,ia]);refine Ym.sub (by simp[lk,Ya,AV.keys,isa,hCk,ia]) ?_;simp only[isa,hCk,ia,Wkl,Zbt,and_true];(try simp[lk,Yc,Ya,AV.keys,isa,hCk,ia]))
      . have cm:min (a.dms.length:Int) (b.dms.length:Int)<=(i:Int):=(by omega);have cb2:b.dms.length<=i:=(by omega);rw[if_pos (by simp[dsB,cb2])]at hs;by_cases z:dsN a.dms b.dms i=[]
        . rw[z]at hs;simp -implicitDefEqProofs[endLp,headS,dropS,Z5L,f4S,z,isa,dma,cm,hi,w1];refine ⟨rfl,?_⟩;simp only[f4S,hs,W18,List.append_eq_nil_iff,List.cons_ne_nil,and_false,if_false]
          ((try simp only[isa,hCk,ia]);refine Ym.sub (by simp[lk,Ya,AV.keys,isa,hCk,ia]) ?_;simp only[isa,hCk,ia,Wkl,Zbt,and_true];(try simp[lk,Yc,Ya,AV.keys,isa,hCk,ia]))
        . simp -implicitDefEqProofs[endLp,headS,dropS,Z5L,f4S,z,isa,dma,cm,hi,bb,w1];refine ⟨rfl,?_⟩;simp only[f4S,hs,W18,List.append_eq_nil_iff,List.cons_ne_nil,and_false,if_false]
          ((try simp only[isa,hCk,ia]);refine Ym.sub (by simp[lk,Ya,AV.keys,isa,hCk,ia]) ?_;simp only[isa,hCk,ia,Wkl,Zbt,and_true];(try simp[lk,Yc,Ya,AV.keys,isa,hCk,ia]))
    . have cm:min (a.dms.length:Int) (b.dms.length:Int)<=(i:Int):=(by omega);have ca2:a.dms.length<=i:=(by omega);rw[if_pos (by simp[dsB,ca2])]at hs;by_cases z:dsN a.dms b.dms i=[]
      . rw[z]at hs;simp -implicitDefEqProofs[endLp,headS,dropS,Z5L,f4S,z,isa,dma,cm,hi,w1];refine ⟨rfl,?_⟩;simp only[f4S,hs,W18,List.append_eq_nil_iff,List.cons_ne_nil,and_false,if_false]
        ((try simp only[isa,hCk,ia]);refine Ym.sub (by simp[lk,Ya,AV.keys,isa,hCk,ia]) ?_;simp only[isa,hCk,ia,Wkl,Zbt,and_true];(try simp[lk,Yc,Ya,AV.keys,isa,hCk,ia]))
      . simp -implicitDefEqProofs[endLp,headS,dropS,Z5L,f4S,z,isa,dma,cm,hi,bb,w1];refine ⟨rfl,?_⟩;simp only[f4S,hs,W18,List.append_eq_nil_iff,List.cons_ne_nil,and_false,if_false]
        ((try simp only[isa,hCk,ia]);refine Ym.sub (by simp[lk,Ya,AV.keys,isa,hCk,ia]) ?_;simp only[isa,hCk,ia,Wkl,Zbt,and_true];(try simp[lk,Yc,Ya,AV.keys,isa,hCk,ia]))
  . intro _;refine Qga ?_
    have hM:∀ i,f4S C a b i=if dsN a.dms b.dms i=[] then ⟨[(122,.int .i64 i),(121,.int .i64 (max a.dms.length b.dms.length:Nat)),(8,C),(9,.nils),(12,.ptr 12 0),(14,.ptr 14 0)],[(12,.box (isa a)),(14,.box (isa b))]⟩
     else ⟨[(122,.int .i64 i),(121,.int .i64 (max a.dms.length b.dms.length:Nat)),(8,C),(9,.osl 150 (dsN a.dms b.dms i).length),(12,.ptr 12 0),(14,.ptr 14 0)],[(12,.box (isa a)),(14,.box (isa b)),(150,.row 1 ((dsN a.dms b.dms i).map ia))]⟩:=λ_=>rfl
    generalize max a.dms.length b.dms.length=M at *;by_cases z:dsN a.dms b.dms M=[]
    . simp -implicitDefEqProofs[endLp,headS,dropS,Z5L,hM,z,isa];refine Qgr ?_;simp -implicitDefEqProofs[dropS,Z5L,Z5M,Yg,hCs]
    . have pu:=ZbH (dsN a.dms b.dms M);simp -implicitDefEqProofs[endLp,headS,dropS,Z5L,hM,z,isa];refine Qgr ?_;simp -implicitDefEqProofs[dropS,Z5L,Z5M,Yg,hCs,z,pu]
 rw[<- hC];by_cases z:dfN (nums r) (λn=>ctL n a.its) (λn=>ctL n b.its) (nums r).length=[]
 . rw[z]at hC;simp -implicitDefEqProofs[f3S,z,isa];refine Qgr ?_;simp -implicitDefEqProofs[hmx];refine key _ ?_;simp only[f4S,hC,Yg,if_true,W1c,dsN,List.range_zero,List.filter_nil]
   (first|exact Ym.tm (by simp[lk,isa])|exact Ym.sub (by simp[lk,Ya,AV.keys,isa]) (by simp[lk,Yc,Ya,AV.keys,isa]))
 . have pu:=ZbG (dfN (nums r) (λn=>ctL n a.its) (λn=>ctL n b.its) (nums r).length);simp -implicitDefEqProofs[f3S,z,isa];refine Qgr ?_;simp -implicitDefEqProofs[hmx];refine key _ (Ym.trans (b:=⟨[(122,.int .i64 0),(121,.int .i64 (max a.dms.length b.dms.length:Nat)),(8,.osl 113 (dfN (nums r) (λn=>ctL n a.its) (λn=>ctL n b.its) (nums r).length).length),(9,.nils),(12,.ptr 12 0),(14,.ptr 14 0)],[(12,.box (isa a)),(14,.box (isa b)),(113,.row 3 ((dfN (nums r) (λn=>ctL n a.its) (λn=>ctL n b.its) (nums r).length).map dma))]⟩) (by ((try simp only[isa]);refine Ym.sub (by simp[lk,Ya,AV.keys,isa]) ?_;simp only[isa,Wkl,ZbI,and_true];(try simp[lk,Yc,Ya,AV.keys,isa]))) (Ym.trans (Ym.frz (λk=>k == 113) _) ?_));rw[hC];generalize dfN (nums r) (λn=>ctL n a.its) (λn=>ctL n b.its) (nums r).length=L at *;simp only[f4S,Yg,List.map_eq_nil_iff,z,if_false,if_true,W1c,dsN,List.range_zero,List.filter_nil]
   ((try simp only[Yi,frzA,frzO,frz,Yh,Yj,St.get,pu,isa]);refine Ym.sub (by simp[lk,Ya,AV.keys,Yi,frzA,frzO,frz,Yh,Yj,St.get,pu,isa]) ?_;simp only[Yi,frzA,frzO,frz,Yh,Yj,St.get,pu,isa,Wkl,and_true];(try simp[lk,Yc,Ya,AV.keys,Yi,frzA,frzO,frz,Yh,Yj,St.get,pu,isa]))
def ptP (r:Jr) (l:List (Int×Int)) (i:Nat):St:=if ptN (nums r) (mpG l) i=[] then ⟨[(37,.int .i64 i),(36,.int .i64 (nums r).length),(35,.vsl ((nums r).map ia)),(11,.ptr 11 0),(13,.nils)],[(11,.box [.mp 27]),(27,.mp (dpA l))]⟩
 else ⟨[(37,.int .i64 i),(36,.int .i64 (nums r).length),(35,.vsl ((nums r).map ia)),(11,.ptr 11 0),(13,.osl 52 (ptN (nums r) (mpG l) i).length)],[(11,.box [.mp 27]),(27,.mp (dpA l)),(52,.row 2 ((ptN (nums r) (mpG l) i).map ita))]⟩
def Zdz (hG:GC G) (r:Jr) (lt:List Int) (n:Int) (h:Wf r):PC prog G 18 [rega r,.vsl (lt.map ia),.int .i64 n] (.tup [.vsl ((exV r lt n).1.map ita),.int .i64 (exV r lt n).2]):=by
 by_cases e:askV r lt n=0
 case neg =>
  refine PC.nzR (v:=.tup [.nils,.int .i64 (askV r lt n)]) ?_ (by simp[nz,exV,e])
  (refine Z5T rfl λR hG hrd=>Qga ?_;subst hG)
  simp -implicitDefEqProofs[Z5R,Z5S,rega];refine Qco (Zbk hG r lt n h) ?_;simp -implicitDefEqProofs[takA,e]
 obtain ⟨ho,hlt,hn⟩:=ask_0 e;have hL:=Zaa ho;have hl:=Zab hL;have hp:=Zd6 (G:=G) r lt ho hlt 6 n 1 [] hn (ZaT ho hn).2;have hm:=ZaW (T:=tkV r lt) (D:=nums r) (λd hd=>let q:=ZaS (Zad hL (ZaQ hL hlt hd).1);⟨q.1,q.2.2.2⟩) (λd hd=>ZaR hL hlt hd) 6 n 1 [] hn;have e0:mpG []=λ_=>0:=by funext x;rfl
 have ev:exV r lt n=(ptN (nums r) (mpG (paM (tkV r lt) 6 n 1 [])) (nums r).length,0):=(by rw[exV,if_pos e,hm,e0]);rw[ev];generalize paM (tkV r lt) 6 n 1 []=l at *;refine PC.nzR (v:=.tup [if ptN (nums r) (mpG l) (nums r).length=[] then .nils else .vsl ((ptN (nums r) (mpG l) (nums r).length).map ita),.int .i64 0]) ?_ (by split <;> simp_all [nz])
 (refine Z5T rfl λR hG hrd=>Qga ?_;subst hG)
 simp -implicitDefEqProofs[Z5R,Z5S,rega];refine Qco (Zbk hG r lt n h) ?_;simp -implicitDefEqProofs[takA,e,Zd3];unfold byA;simp -implicitDefEqProofs;refine Yd.sem (Z1B.byref hp (λk=>k-1000) (by simp[exO]) (by simp[exO]) (by simp[exO,St.get,lk,ZcT,AObj.ren,AV.ren,ZcX,ZcU,byA];try simp[dpA]) (Zd4 _ _ _) (by simp[exO,Ya,AV.keys,lk]) rfl (by simp[AV.ren]) rfl rfl) ?_;simp -implicitDefEqProofs[Yl,exO,ZcT,AObj.ren,AV.ren,ZcX,ZcU,bkA];refine Z8h (ptP r l) (λ_=>True) (nums r).length ?_ trivial ?_ ?_
 . have e0:ptN (nums r) (mpG l) 0=[]:=rfl;simp only[ptP,e0,if_true]
   ((try simp only[byA]);refine Ym.sub (by simp[lk,Ya,AV.keys,byA]) ?_;simp only[byA,Wkl,ZcW,and_true];(try simp[lk,Yc,Ya,AV.keys,byA]))
 . intro i hi _;refine Qga ?_;have w1:i64.wrap ((i:Int)+1)=((i+1:Nat):Int):=Yf;have gd:=Z9C (nums r)[i] l;have hs:=ZaX (g:=mpG l) hi;have bl:=ZaY (nums r) (mpG l) i;have bb:((ptN (nums r) (mpG l) i).length+1)*16<=70368744177664:=(by omega);by_cases c:0<mpG l (nums r)[i]
   . have q:dpLk (nums r)[i] l=some (mpG l (nums r)[i]):=by
      unfold mpG dpG at c ⊢
      cases q:dpLk (nums r)[i] l <;> simp_all
     rw[q]at gd;rw[if_pos c]at hs;by_cases e:ptN (nums r) (mpG l) i=[]
     . rw[e]at hs;simp -implicitDefEqProofs[ptP,e,hi,ia,gd,c,w1,hs]
       ((try simp only[ita]);refine Ym.sub (by simp[lk,Ya,AV.keys,ita]) ?_;simp only[ita,Wkl,ZcW,Zb6,and_true];(try simp[lk,Yc,Ya,AV.keys,ita]))
     . simp -implicitDefEqProofs[ptP,e,hi,ia,gd,c,w1,hs,bb]
       ((try simp only[ita]);refine Ym.sub (by simp[lk,Ya,AV.keys,ita]) ?_;simp only[ita,Wkl,ZcW,Zb6,and_true];(try simp[lk,Yc,Ya,AV.keys,ita]))
   . rw[if_neg c]at hs;have q:(dpLk (nums r)[i] l).getD 0=mpG l (nums r)[i]:=rfl;generalize dpLk (nums r)[i] l=o at gd q;by_cases e:ptN (nums r) (mpG l) i=[] <;> cases o
     . rw[e]at hs;simp -implicitDefEqProofs[ptP,e,hi,ia,gd,w1,hs]
       ((try simp only[ita]);refine Ym.sub (by simp[lk,Ya,AV.keys,ita]) ?_;simp only[ita,Wkl,ZcW,Zb6,and_true];(try simp[lk,Yc,Ya,AV.keys,ita]))
     . rw[e]at hs;obtain rfl:_=mpG l (nums r)[i]:=q;simp -implicitDefEqProofs[ptP,e,hi,ia,gd,c,w1,hs]
       ((try simp only[ita]);refine Ym.sub (by simp[lk,Ya,AV.keys,ita]) ?_;simp only[ita,Wkl,ZcW,Zb6,and_true];(try simp[lk,Yc,Ya,AV.keys,ita]))
     . simp -implicitDefEqProofs[ptP,e,hi,ia,gd,w1,hs]
       ((try simp only[ita]);refine Ym.sub (by simp[lk,Ya,AV.keys,ita]) ?_;simp only[ita,Wkl,ZcW,Zb6,and_true];(try simp[lk,Yc,Ya,AV.keys,ita]))
     . obtain rfl:_=mpG l (nums r)[i]:=q;simp -implicitDefEqProofs[ptP,e,hi,ia,gd,c,w1,hs]
       ((try simp only[ita]);refine Ym.sub (by simp[lk,Ya,AV.keys,ita]) ?_;simp only[ita,Wkl,ZcW,Zb6,and_true];(try simp[lk,Yc,Ya,AV.keys,ita]))
 . intro _;refine Qga ?_;by_cases e:ptN (nums r) (mpG l) (nums r).length=[]
   . simp -implicitDefEqProofs[ptP,e];refine Qgr ?_;simp -implicitDefEqProofs[e]
   . have pu:((ptN (nums r) (mpG l) (nums r).length).map ita).all (λr=>r.all AV.pure)=true:=(by simp[ita,AV.pure]);simp -implicitDefEqProofs[ptP,e];refine Qgr ?_;simp -implicitDefEqProofs[e,pu]
def ZdA (ρ:Nat->Nat) (l:List Brn):(l.map bra).map (λr=>r.map (AV.ren ρ))=l.map bra:=by
 simp only[W10]
 congr 1;funext p;simp[bra,AV.ren]
def ZdB (ρ:Nat->Nat) (a:Brn):(bra a).map (AV.ren ρ)=bra a:=by simp[bra,AV.ren]
def ZdC (ρ:Nat->Nat):((λr:List AV=>r.map (AV.ren ρ)) ∘ bra)=bra:=by funext a;exact ZdB ρ a
def ZdD (ok:Nat->Bool) (st:St) (l:List Brn):frzO ok st (.row 4 (l.map bra)) = .row 4 (l.map bra):=by
 simp only[frzO,W10]
 congr 2;funext p;simp[bra,frzA,frz,AV.keys]
def ZdE (st:St) {ok:Nat->Bool} {k n:Nat} (h:ok k=false):frzO ok st (.box [.osl k n]) = .box [.osl k n]:=by simp[frzO,frzA,frz,h]
def grO (K:Nat) (r:Jr) (lt:List Int) (l:List Brn):List (Nat×AObj) :=
 [(1009,.box [byA r lt]),(1011,.box [.osl K l.length]),(1012,.box [.func (.func 64) [] [.ptr 1011 0,.ptr 1009 0,.ptr 1012 0]]),(K,.row 4 (l.map bra))]
def grZ (r:Jr) (lt:List Int):List (Nat×AObj) :=
 [(1009,.box [byA r lt]),(1011,.box [.nils]),(1012,.box [.func (.func 64) [] [.ptr 1011 0,.ptr 1009 0,.ptr 1012 0]])]
def grS (K:Nat) (r:Jr) (lt:List Int) (dep:Int) (x:Iss) (l:List Brn) (i:Nat):St:=⟨[(31,.int .i64 i),(30,.int .i64 x.its.length),(29,.vsl (x.its.map ita)),(0,.int .i64 dep),(4,.ptr 1012 0)],grO K r lt l⟩
def ZdF (r:Jr) (lt:List Int) (l:List Brn):∀ p∈grO 1027 r lt l,Yc (grO 1027 r lt l) p.2=true:=by
 simp only[grO,W0g,W0Q,or_false,W1H,forall_eq,Zb5,and_true];simp[lk,Yc,Ya,AV.keys,Zd2]
def ZdG (r:Jr) (lt:List Int):∀ p∈grZ r lt,Yc (grZ r lt) p.2=true:=by
 simp only[grZ,W0g,W0Q,or_false,W1H,forall_eq];simp[lk,Yc,Ya,AV.keys,Zd2]
def ZdH (r:Jr) (lt:List Int) (ho:openV r=0) (hlt:ltB r lt=true):∀ (k:Nat) (n dep c:Int) (l:List Brn),n∈nums r->dpN r n<=k->0<=dep->dep+k<=1000->l.length<=501 ->
  PB prog G 64 (grO 1027 r lt l) [.int .i64 dep,.agg [.int .i64 n,.int .i64 c],.ptr 1011 0,.ptr 1009 0,.ptr 1012 0] (.tup []) (grO 1027 r lt (grV (tkV r lt) k dep n c l))
 |0,n,_,_,_,hn,hd,_,_,_=>(Zb2 ho hn hd).elim
 | k + 1,n,dep,c,l,hn,hd,hd0,hd1,h5=>by
   have hL:=Zaa ho;have wd:i64.wrap (dep+1)=dep+1:=Yf;have hrec:=λy (hy:y∈(tkV r lt n).its)=>λl h5=>ZdH r lt ho hlt k y.1 (dep+1) y.2 l (Zb3 ho hlt hn hd hy).1 (Zb3 ho hlt hn hd hy).2 (by omega) (by omega) h5
   have gb:=Zba isA n (byN r lt (nums r).length);rw[Zbi hn]at gb;have h8:=tk_8 ho hlt n hn;have hxd:=(ZaQ hL hlt hn).2;rw[grV];by_cases c5:500<l.length
   . have c5':(500:Int)<l.length:=(by omega);rw[if_pos c5]
     (refine Z62 (W0C rfl) λR hG hrd=>Qga ?_;subst hG)
     simp -implicitDefEqProofs[Z60,Z61,grO,c5',FinB,Yi,newK,ZdD,ZcZ,ZdE,Zd1]
   have c5':¬(500:Int)<l.length:=(by omega);rw[if_neg c5];generalize tkV r lt n=x at *;subst hxd;obtain ⟨l1,hl1⟩:=Qex (l++[⟨dep,x.d,x.l,c⟩]);have hl1m:l1.map bra=l.map bra++[[.int .i64 dep,.int .i64 x.d,.int .i64 x.l,.int .i64 c]]:=(by rw[hl1,W0r];rfl);have hl1l:l1.length=l.length+1:=(by rw[hl1];simp);have b5:(l.length+1)*32<=70368744177664:=(by omega);rw[<- hl1]
   have fl5:∀ (its:List (Int×Int)) (l:List Brn),l.length<=501->(its.foldl (λl y=>grV (tkV r lt) k (dep+1) y.1 y.2 l) l).length<=501:=by
    intro its
    induction its with
    |nil=>intro l h;exact h
    |cons y its ih=>intro l h;exact ih _ (Zb0 k _ _ _ _ h)
   (refine Z62 (W0C rfl) λR hG hrd=>Qga ?_;subst hG)
   have key:∀ (st:St),Ym st (grS 1027 r lt dep x l1 0)->AR prog R (Zd5 Z60) st (RetP prog R [KF.bk 0] (FinB [] (.tup []) (grO 1027 r lt (x.its.foldl (λl y=>grV (tkV r lt) k (dep+1) y.1 y.2 l) l1)))):=by
    intro st hw;refine Z8h (λi=>grS 1027 r lt dep x ((x.its.take i).foldl (λl y=>grV (tkV r lt) k (dep+1) y.1 y.2 l) l1) i) (λ_=>True) x.its.length (by simpa using hw) trivial ?_ ?_
    . intro i hi _;refine Qga ?_;have w1:i64.wrap ((i:Int)+1)=((i+1:Nat):Int):=Yf;have ft:=Z9U (λl (y:Int×Int)=>grV (tkV r lt) k (dep+1) y.1 y.2 l) l1 x.its i hi;have hr:=hrec x.its[i] (W0e hi) ((x.its.take i).foldl (λl y=>grV (tkV r lt) k (dep+1) y.1 y.2 l) l1) (fl5 _ _ (by omega));generalize (x.its.take i).foldl (λl y=>grV (tkV r lt) k (dep+1) y.1 y.2 l) l1=l2 at *;simp -implicitDefEqProofs[Zd5,Z60,grS,grO,hi,ita,wd];refine Yd.sem (Z1B.byref hr id (by simp[grO]) (by simp[grO]) (by simp[grO,St.get,lk,AObj.ren,AV.ren,ZcX,ZdA,ZdB]) (ZdF _ _ _) (by simp[grO,Ya,AV.keys,lk]) rfl (by simp[AV.ren]) rfl rfl) ?_;simp -implicitDefEqProofs[Yl,grO,AObj.ren,AV.ren,ZcX,ZdA,ZdB,w1]
      ((try simp only[grS,grO,byA,ft,ZdB]);refine Ym.sub (by simp[lk,Ya,AV.keys,grS,grO,byA,ft,ZdB]) ?_;simp only[grS,grO,byA,ft,ZdB,Wkl,Zb5,and_true];(try simp[lk,Yc,Ya,AV.keys,grS,grO,byA,ft,ZdB]))
    . intro _;refine Qga ?_;simp -implicitDefEqProofs[Zd5,Z60,grS,grO];refine Qgr ?_;simp -implicitDefEqProofs[FinB,Yi,newK,ZdD,ZcZ,ZdE,Zd1,grO]
   simp -implicitDefEqProofs[Z60,Z61,grO,byA,gb,isA,isa,c5',b5];exact key _ (by simp only[<- hl1m];((try simp only[grS,grO,byA,hl1l]);refine Ym.sub (by simp[lk,Ya,AV.keys,grS,grO,byA,hl1l]) ?_;simp only[grS,grO,byA,hl1l,Wkl,Zb5,and_true];(try simp[lk,Yc,Ya,AV.keys,grS,grO,byA,hl1l])))
def okT:Nat->Bool:=λk=>decide (k<1000)&&decide (k≠27)
def ZdI (r:Jr) (lt:List Int) (ho:openV r=0) (hlt:ltB r lt=true) (k:Nat) (n dep c:Int) (hn:n∈nums r) (hd:dpN r n<=k+1) (hd0:0<=dep) (hd1:dep+(k+1:Nat)<=1000) :
  PB prog G 64 (grZ r lt) [.int .i64 dep,.agg [.int .i64 n,.int .i64 c],.ptr 1011 0,.ptr 1009 0,.ptr 1012 0] (.tup []) (grO 27 r lt (grV (tkV r lt) (k+1) dep n c [])):=by
 have hL:=Zaa ho;have wd:i64.wrap (dep+1)=dep+1:=Yf;have hrec:=λy (hy:y∈(tkV r lt n).its)=>λl h5=>ZdH (G:=G) r lt ho hlt k y.1 (dep+1) y.2 l (Zb3 ho hlt hn hd hy).1 (Zb3 ho hlt hn hd hy).2 (by omega) (by omega) h5
 have gb:=Zba isA n (byN r lt (nums r).length);rw[Zbi hn]at gb;have h8:=tk_8 ho hlt n hn;have hxd:=(ZaQ hL hlt hn).2;rw[grV,if_neg (by simp),W18];generalize tkV r lt n=x at *;subst hxd;obtain ⟨l1,hl1⟩ : ∃ l1:List Brn,l1=[⟨dep,x.d,x.l,c⟩]:=⟨_,rfl⟩;have hl1m:l1.map bra=[[.int .i64 dep,.int .i64 x.d,.int .i64 x.l,.int .i64 c]]:=(by rw[hl1];rfl);have hl1l:l1.length=1:=(by rw[hl1];simp);rw[<- hl1]
 have fl5:∀ (its:List (Int×Int)) (l:List Brn),l.length<=501->(its.foldl (λl y=>grV (tkV r lt) k (dep+1) y.1 y.2 l) l).length<=501:=by
  intro its
  induction its with
  |nil=>intro l h;exact h
  |cons y its ih=>intro l h;exact ih _ (Zb0 k _ _ _ _ h)
 refine Z5i okT (by intro k hk;simp[okT]at hk;omega) Tryd.func64 rfl (by kernel_rfl) (rc:=Z60) (by kernel_rfl) (rs:=Z61) (by kernel_rfl) (W0C rfl) λR _ hG hrd=>Qga ?_
 subst hG
 have key:∀ (st:St),Ym st (grS 27 r lt dep x l1 0)->AR prog R (Zd5 Z60) st (RetP prog R [KF.bk 0] (FinO okT [] (.tup []) (grO 27 r lt (x.its.foldl (λl y=>grV (tkV r lt) k (dep+1) y.1 y.2 l) l1)))):=by
  intro st hw;refine Z8h (λi=>grS 27 r lt dep x ((x.its.take i).foldl (λl y=>grV (tkV r lt) k (dep+1) y.1 y.2 l) l1) i) (λ_=>True) x.its.length (by simpa using hw) trivial ?_ ?_
  . intro i hi _;refine Qga ?_;have w1:i64.wrap ((i:Int)+1)=((i+1:Nat):Int):=Yf;have ft:=Z9U (λl (y:Int×Int)=>grV (tkV r lt) k (dep+1) y.1 y.2 l) l1 x.its i hi;have hr:=hrec x.its[i] (W0e hi) ((x.its.take i).foldl (λl y=>grV (tkV r lt) k (dep+1) y.1 y.2 l) l1) (fl5 _ _ (by omega));generalize (x.its.take i).foldl (λl y=>grV (tkV r lt) k (dep+1) y.1 y.2 l) l1=l2 at *;simp -implicitDefEqProofs[Zd5,Z60,grS,grO,hi,ita,wd];refine Yd.sem (Z1B.byref hr (λk=>if k=1027 then 27 else k) (by simp[grO]) (by simp[grO]) (by simp[grO,St.get,lk,AObj.ren,AV.ren,ZcX,ZdA,ZdB]) (ZdF _ _ _) (by simp[grO,Ya,AV.keys,lk]) rfl (by simp[AV.ren]) rfl rfl) ?_;simp -implicitDefEqProofs[Yl,grO,AObj.ren,AV.ren,ZcX,ZdA,ZdB,w1]
    ((try simp only[grS,grO,byA,ft,ZdB]);refine Ym.sub (by simp[lk,Ya,AV.keys,grS,grO,byA,ft,ZdB]) ?_;simp only[grS,grO,byA,ft,ZdB,Wkl,Zb5,and_true];(try simp[lk,Yc,Ya,AV.keys,grS,grO,byA,ft,ZdB]))
  . intro _;refine Qga ?_;simp -implicitDefEqProofs[Zd5,Z60,grS,grO];refine Qgr ?_;simp -implicitDefEqProofs[FinO,Yi,okT,ZdD,ZcZ,ZdE,Zd1,grO]
 simp -implicitDefEqProofs[Z60,Z61,grZ,byA,gb,isA,isa];exact key _ (by simp only[<- hl1m];((try simp only[grS,grO,byA,hl1l]);refine Ym.sub (by simp[lk,Ya,AV.keys,grS,grO,byA,hl1l]) ?_;simp only[grS,grO,byA,hl1l,Wkl,Zb5,and_true];(try simp[lk,Yc,Ya,AV.keys,grS,grO,byA,hl1l])))
def ZdJ (hG:GC G) (r:Jr) (lt:List Int) (n:Int) (h:Wf r):PC prog G 30 [rega r,.vsl (lt.map ia),.int .i64 n] (.tup [.vsl ((trE r lt n).1.map bra),.int .i64 (trE r lt n).2]):=by
 by_cases e:askV r lt n=0
 case neg =>
  refine PC.nzR (v:=.tup [.nils,.int .i64 (askV r lt n)]) ?_ (by simp[nz,trE,e])
  (refine Z5Z rfl λR hG hrd=>Qga ?_;subst hG)
  simp -implicitDefEqProofs[Z5X,Z5Y,rega];refine Qco (Zbk hG r lt n h) ?_;simp -implicitDefEqProofs[takA,e]
 obtain ⟨ho,hlt,hn⟩:=ask_0 e;have hp:=ZdI (G:=G) r lt ho hlt 5 n 0 1 hn (ZaT ho hn).2 (W1R _) (by omega);obtain ⟨g1,g2⟩:=Zb1 (T:=tkV r lt) 6 0 n 1 [];have g3:=ZaZ (T:=tkV r lt) 6 0 n 1;rw[W18,g3]at g1 g2;by_cases c:500<brN (tkV r lt) 6 n
 . have c':=g2 c;refine PC.nzR (v:=.tup [.nils,.int .i64 4]) ?_ (by simp[nz,trE,e,c]);generalize grV (tkV r lt) 6 0 n 1 []=l at *;have c2:(500:Int)<l.length:=by omega
   (refine Z5Z rfl λR hG hrd=>Qga ?_;subst hG)
   simp -implicitDefEqProofs[Z5X,Z5Y,rega];refine Qco (Zbk hG r lt n h) ?_;simp -implicitDefEqProofs[takA,e,Zd3];unfold byA;simp -implicitDefEqProofs;refine Yd.sem (Z1B.refn hp (λk=>if 1000<=k then k-1000 else k) (by simp[grZ]) (by simp[grO]) (by simp[grZ,St.get,lk,AObj.ren,AV.ren,ZcX,byA]) (ZdG _ _) (by simp[grZ,Ya,AV.keys,lk]) (by simp[grZ,grO,isK,lk]) (by simp[grZ,grO,isK,lk,St.get]) (by simp[AV.ren]) rfl rfl) ?_;simp -implicitDefEqProofs[Yl,grO,AObj.ren,AV.ren,ZcX,ZdA,ZdB,c2]
 . have c':=g1 (by omega);have ev:trE r lt n=(grV (tkV r lt) 6 0 n 1 [],0):=(by rw[trE,if_pos e,if_neg c,c']);rw[ev];have lb:(grV (tkV r lt) 6 0 n 1 []).length<=500:=(by rw[c',g3];omega);generalize grV (tkV r lt) 6 0 n 1 []=l at *;have c2:¬(500:Int)<l.length:=(by omega);have pu:=(Zb4 l).2.2
   (refine Z5Z rfl λR hG hrd=>Qga ?_;subst hG)
   simp -implicitDefEqProofs[Z5X,Z5Y,rega];refine Qco (Zbk hG r lt n h) ?_;simp -implicitDefEqProofs[takA,e,Zd3];unfold byA;simp -implicitDefEqProofs;refine Yd.sem (Z1B.refn hp (λk=>if 1000<=k then k-1000 else k) (by simp[grZ]) (by simp[grO]) (by simp[grZ,St.get,lk,AObj.ren,AV.ren,ZcX,byA]) (ZdG _ _) (by simp[grZ,Ya,AV.keys,lk]) (by simp[grZ,grO,isK,lk]) (by simp[grZ,grO,isK,lk,St.get]) (by simp[AV.ren]) rfl rfl) ?_;simp -implicitDefEqProofs[Yl,grO,AObj.ren,AV.ren,ZcX,ZdA,ZdB,ZdC,c2,pu]
section
open Qq Go.Proofs.Tryd
end
open Go.ChangeShapes Go.WideShapes Go.ChangeAt Go.WideMaps Go.WideElems Go.RowKit Go.Deep
def own:ownKnob prog.godebug=none:=by kernel_rfl
def ZdM:laidOutB prog=true:=by kernel_rfl
def ZdN:prog.globalNamed "blueline/sheet.checks" = some 0:=by kernel_rfl
def ZdO:(prog.globals[0]?).map (·.type)=some 131:=by kernel_rfl
def laid2:List (String×DataW Unit):=[("blueline/sheet.checks",Rows.laid_blueline_sheet_checks)]
def ZdP (os:Os) (args:Array Value):laidMetH prog laid2 ((World.doorLaid prog 41 os).forCall (λ_ _=>0) ⟨#[],args,[]⟩).memory :=
 laidMetH_of_parts3 (fuel:=8) (laidMet_of_run' 8 (by kernel_rfl) (by kernel_rfl)) (by kernel_rfl) (by kernel_rfl)
def cF:prog.cellsOf 129=1:=by kernel_rfl
def ZdQ:prog.cellsOf 130=1:=by kernel_rfl
def ChkB (W:World):Prop:=∃ t fr,W.heap[0]? = some (.cells #[.func (.func 122) #[] #[],.func (.func 123) #[] #[],.func (.func 124) #[] #[],.func (.func 125) #[] #[]] t fr)
def list4 {α:Type} {l:List α} (h:l.length=4):∃ c0 c1 c2 c3,l=[c0,c1,c2,c3]:=by
 match l,h with
 |[c0,c1,c2,c3],_=>exact ⟨c0,c1,c2,c3,rfl⟩
def ZdR {W:World} {fuel:Nat} {c:Value} {y:DataW (List UInt8)×List MemPlace} {b:UInt8} {s:List UInt8} {f0:FuncId} (hone:((List.range prog.funcs.size).filter λf=>(prog.funcs[f]?).any (·.name.toUTF8.data.toList == b::s))=[f0])
  (h:DataW.trod (funcToken prog) prog W 0 (λ_=>true) true fuel 130 [c]=some y) (hy:y.1 = .agg [.held (b::s)]):c = .func (.func f0) #[] #[]:=by
 obtain ⟨y0,n,rfl,-,h0⟩:=trod_struct1 Tryd.underlying130 h;simp only[W1J]at h0;rw[cF]at h0;simp only[DataW.agg.injEq,W22,and_true]at hy;exact func_of_trod (q:=y0.2) Tryd.underlying129 hone (by rw[<- hy];simpa using h0)
set_option maxRecDepth 100000 in
def ZdS {W:World} (h:laidMetH prog laid2 W):ChkB W:=by
 obtain ⟨g,t,cs,fuel,p,hg,ht,hv,hd⟩:=h.funcs (W0B.2 rfl);obtain rfl:=W1G (ZdN.symm.trans hg);obtain rfl:=W1G (ZdO.symm.trans ht);have hd':DataW.trod (funcToken prog) prog W 0 (λ_=>true) true fuel 131 cs.toList=some (.agg [.agg [.held [98,108,117,101,108,105,110,101,47,115,104,101,101,116,46,99,104,101,99,107,115,36,49]],.agg [.held [98,108,117,101,108,105,110,101,47,115,104,101,101,116,46,99,104,101,99,107,115,36,50]],.agg [.held [98,108,117,101,108,105,110,101,47,115,104,101,101,116,46,99,104,101,99,107,115,36,51]],.agg [.held [98,108,117,101,108,105,110,101,47,115,104,101,101,116,46,99,104,101,99,107,115,36,52]]],p):=hd;obtain ⟨xs,m,rfl,hx,hlen,hn,hel⟩:=DataW.trod_array Tryd.underlying131 hd';have hlen4:cs.toList.length=4:=hlen.trans (by kernel_rfl);obtain ⟨c0,c1,c2,c3,hcs⟩:=list4 hlen4;rw[hcs]at hel;have e0:=hel 0 (by decide);have e1:=hel 1 (by decide);have e2:=hel 2 (by decide);have e3:=hel 3 (by decide);rw[ZdQ]at e0 e1 e2 e3
 match xs,hn,hx,e0,e1,e2,e3 with
 | [x0,x1,x2,x3],_,hx,e0,e1,e2,e3 =>
   simp only[W06]at hx;have hx:=hx.1;simp only[W0F,W1c,DataW.agg.injEq,W22]at hx;obtain ⟨hx0,hx1,hx2,hx3,-⟩:=hx;have g0:=ZdR (f0:=122) (by kernel_rfl) e0 hx0.symm;have g1:=ZdR (f0:=123) (by kernel_rfl) e1 hx1.symm;have g2:=ZdR (f0:=124) (by kernel_rfl) e2 hx2.symm;have g3:=ZdR (f0:=125) (by kernel_rfl) e3 hx3.symm;have hcs2:cs = #[c0,c1,c2,c3]:=(by rw[<- Array.toArray_toList (xs:=cs),hcs]);rw[g0,g1,g2,g3]at hcs2;simp only[World.var?,ZdN,W1n]at hv
   split at hv
   . rename_i cs' t fr heq;injection hv with hv
     exact ⟨t,fr,by rw[heq,hv,hcs2]⟩
   . cases hv
def G2:Nat->Option (List AV):=λg=>if g=0 then some [.func (.func 122) [] [],.func (.func 123) [] [],.func (.func 124) [] [],.func (.func 125) [] []] else none
def gc_of:GC G2:=rfl
def gr_of {W:World} (h:ChkB W):GR G2 noM W:=by
 obtain ⟨t,fr,hb⟩:=h;intro g cs hg;simp only[G2]at hg
 split at hg <;> simp only[W00,reduceCtorEq]at hg
 rename_i e;subst e;subst hg;refine .vptr _ 0 0 0 (λj=>((#[.func (.func 122) #[] #[],.func (.func 123) #[] #[],.func (.func 124) #[] #[],.func (.func 125) #[] #[]]:Array Value)[j]?).getD undef) (W0c.1 hb).1 id ?_ ?_
 . intro j hj;have hj':j<4:=(by simpa using hj);simp only[World.cell?,hb]
   match j,hj' with
   |0,_=>rfl
   |1,_=>rfl
   |2,_=>rfl
   |3,_=>rfl
 . intro j x hx;have hfn:∀ fn:Fn,PV noM W (.func fn [] []) (.func fn #[] #[]):=λfn=>.func fn [] [] #[] #[] rfl rfl (by simp) (by simp)
   match j,hx with
   |0,hx=>cases hx;exact hfn _
   |1,hx=>cases hx;exact hfn _
   |2,hx=>cases hx;exact hfn _
   |3,hx=>cases hx;exact hfn _
def ZdT {P:Program} {G:Jg} {f:FuncId} {args:List AV} {W:World} {vs:Array Value} (h:PC P G f args (.bool true)) (hG:GR G noM W) (hs:vs.size=args.length)
  (hv:∀ (i:Nat) (x:AV) (u:Value),args[i]? = some x->vs[i]? = some u->PV noM W x u):Calls P f vs W λe W'=>e = .returned (.bool true)/\Ext W W' :=
 (h.2 noM W vs (λ_ h=>h.elim) hG hs hv).mono λe W' ⟨v,h1,h2,h3⟩=>by
  cases h2
  exact ⟨h1,h3⟩
def okN (x:Iss):Prop:=1<=x.d/\x.d<=9999/\1<=x.l/\x.l<=8
def cmpN (x y:Iss):Int:=if x.d-y.d=0 then x.l-y.l else x.d-y.d
def or_pc (a b:Int):PC prog G 40 [.vsl [[.int .i64 a],[.int .i64 b]]] (.int .i64 (if a=0 then b else a)):=by
 (refine Zc3 rfl λR hG hrd=>Qga ?_;subst hG)
 simp -implicitDefEqProofs[Zc1,Zc2];refine Z8h (λi=>⟨[(8,.int .i64 i),(7,.int .i64 2),(6,.vsl [[.int .i64 a],[.int .i64 b]]),(3,.int .i64 0)],[]⟩) (λi=>(0<i->a=0)/\(1<i->b=0)) 2 (by (first|exact Wka|exact Wkb)) (by simp) ?_ ?_
 . intro i hi he;refine Qga ?_
   match i,hi,he with
   | 0,_,_ =>
     have w1:i64.wrap 1=1:=rfl;by_cases h:a=0
     . simp -implicitDefEqProofs[h,w1]
       (first|exact Wka|exact Wkb)
     . simp -implicitDefEqProofs[h];refine Qgr ?_;simp -implicitDefEqProofs[h]
   | 1,_,he =>
     have h0:=he.1 (by omega);have w1:i64.wrap 2=2:=rfl;by_cases h:b=0
     . simp -implicitDefEqProofs[h,w1];exact ⟨(by (first|exact Wka|exact Wkb)),h0⟩
     . simp -implicitDefEqProofs[h];refine Qgr ?_;simp -implicitDefEqProofs[h,h0]
 . rintro ⟨h0,h1⟩;refine Qga ?_;have e0:=h0 (by omega);have e1:=h1 (by omega);simp -implicitDefEqProofs;refine Qgr ?_;simp -implicitDefEqProofs[e0,e1]
def ZdU (x y:Iss) (hx:okN x) (hy:okN y):PC prog G 39 [.agg (isa x),.agg (isa y)] (.int .i64 (cmpN x y)):=by
 (refine ZbX rfl λR hG hrd=>Qga ?_;subst hG)
 obtain ⟨x1,x2,x3,x4⟩:=hx;obtain ⟨y1,y2,y3,y4⟩:=hy;have w1:i64.wrap (x.d-y.d)=x.d-y.d:=Yf;have w2:i64.wrap (x.l-y.l)=x.l-y.l:=Yf;simp -implicitDefEqProofs[ZbV,ZbW,isa,w1,w2];refine Qco (or_pc (x.d-y.d) (x.l-y.l)) ?_;simp -implicitDefEqProofs[cmpN]
def ZdV (x y:Iss):PC prog G 42 [.agg (isa x),.agg (isa y)] (.bool (decide (x.d=y.d/\x.l=y.l))):=by
 (refine Zc0 rfl λR hG hrd=>Qga ?_;subst hG)
 have e1:isa x=[.int .i64 x.d,.int .i64 x.l,.int .u8 x.k,.vsl (x.its.map ita),.vsl (x.dms.map dma)]:=rfl;have e2:isa y=[.int .i64 y.d,.int .i64 y.l,.int .u8 y.k,.vsl (y.its.map ita),.vsl (y.dms.map dma)]:=rfl;simp -implicitDefEqProofs[ZbY,ZbZ,e1,e2];refine Qco (Z8X x) ?_;simp -implicitDefEqProofs;refine Qco (Z8X y) ?_;simp -implicitDefEqProofs
 trace_state
 rfl
def ccA (a b:Jr):AV:=.vsl [[.vsl (a.map isa)],[.vsl (b.map isa)]]
def ccR (a b:Jr) (i:Nat):List (List AV):=if i=0 then [] else if i=1 then a.map isa else (a++b).map isa
def ZdW (l:Jr):(l.map isa).all (λr=>r.length == 5)=true:=by simp[isa]
def ZdX (l:Jr):(l.map isa).all (λr=>r.all AV.one)=true:=by simp[isa,AV.one]
def ZdY (l:Jr):(l.map isa).all (λr=>r.all AV.pure)=true:=by simp[isa,AV.pure]
def ZdZ (l:Jr) (o:List (Nat×AObj)):Yc o (.row 5 (l.map isa))=true:=by
 simp only[Yc,W03,W0i];rintro x ⟨y,-,rfl⟩ v hv;simp only[isa,W0g,W0Q,or_false]at hv;rcases hv with rfl|rfl|rfl|rfl|rfl <;> simp[Ya,AV.keys]
def Ze0 (a b:Jr) (h0:a≠[]) (hb0:b≠[]) (ha:a.length<=400) (hb:b.length<=400):PC prog G 36 [ccA a b] (.vsl ((a++b).map isa)):=by
 (refine ZbL rfl λR hG hrd=>Qga ?_;subst hG)
 simp -implicitDefEqProofs[ZbJ,ZbK,ccA];refine Z8h (λi=>⟨[(11,.int .i64 i),(10,.int .i64 2),(9,ccA a b),(0,ccA a b),(3,.int .i64 (if i=0 then 0 else if i=1 then a.length else a.length+b.length:Nat))],[]⟩) (λi=>True) 2 (by simp only[ccA];(first|exact Wka|exact Wkb)) trivial ?_ ?_
 . intro i hi _;refine Qga ?_
   match i,hi with
   | 0,_ =>
     have w1:i64.wrap 1=1:=rfl;have w2:i64.wrap (a.length:Int)=a.length:=Yf;have k2:¬(a.length:Int)<0:=(by omega);simp -implicitDefEqProofs[ccA,w1,w2,k2]
     (first|exact Wka|exact Wkb)
   | 1,_ =>
     have w1:i64.wrap 2=2:=rfl;have w2:i64.wrap ((a.length:Int)+b.length)=((a.length+b.length:Nat):Int):=Yf;have k2:¬((a.length:Int)+b.length)<0:=(by omega);simp -implicitDefEqProofs[ccA,w1,w2,k2]
     (first|exact Wka|exact Wkb)
 . intro _;refine Qga ?_;have hp:0<a.length:=List.length_pos_iff.2 h0;simp -implicitDefEqProofs[ccA];refine Qgr ?_;have gp:=ZcS (G:=R.G) (a.length+b.length) (by omega) (by omega);rw[Int.natCast_add]at gp;simp -implicitDefEqProofs;refine Z2S.new gp (by simp[AV.pure]) (by rfl) ?_;simp -implicitDefEqProofs;refine Z8h (λi=>⟨[(27,.int .i64 i),(26,.int .i64 2),(25,ccA a b),(6,.osl 24 (ccR a b i).length)],[(24,.row 5 (ccR a b i))]⟩) (λi=>True) 2 (by simp only[ccA,ccR];(first|exact Wka|exact Wkb)) trivial ?_ ?_
   . intro i hi _;refine Qga ?_;have f1:=ZdW a;have f2:=ZdW b;have o1:=ZdX a;have o2:=ZdX b;have p1:=ZdY a;have p2:=ZdY b
     match i,hi with
     | 0,_ =>
       have w1:i64.wrap 1=1:=rfl;have b1:a.length*72<=70368744177664:=(by omega);simp -implicitDefEqProofs[ccA,ccR,w1,b1,f1,o1,p1,h0];refine Ym.sub (by simp[lk,Ya,AV.keys]) ?_;simp only[W0g,W0Q,or_false,W1H,forall_eq,ZdZ,and_true];simp[lk]
     | 1,_ =>
       have w1:i64.wrap 2=2:=rfl;have b1:(a.length+b.length)*72<=70368744177664:=(by omega);simp -implicitDefEqProofs[ccA,ccR,w1,b1,f2,o2,p2,hb0];have ik:=ZdZ (a++b);simp only[W0r]at ik;refine Ym.sub (by simp[lk,Ya,AV.keys]) ?_;simp only[W0g,W0Q,or_false,W1H,forall_eq,ik,and_true];simp[lk]
   . intro _;refine Qga ?_;simp -implicitDefEqProofs[ccA,ccR];refine Qgr ?_;have p1:=ZdY a;have p2:=ZdY b;simp -implicitDefEqProofs[p1,p2]
def kyN (x:Iss):Int:=x.d*16+x.l
def Ze1 {x y:Iss} (hx:okN x) (hy:okN y):cmpN x y<0↔kyN x<kyN y:=by
 obtain ⟨x1,x2,x3,x4⟩:=hx;obtain ⟨y1,y2,y3,y4⟩:=hy;unfold cmpN kyN
 split <;> omega
def Ze2 {x y:Iss} (hx:okN x) (hy:okN y):kyN x=kyN y↔(x.d=y.d/\x.l=y.l):=by
 obtain ⟨x1,x2,x3,x4⟩:=hx;obtain ⟨y1,y2,y3,y4⟩:=hy;unfold kyN;omega
def leN (x y:Iss):Bool:=decide (kyN x<=kyN y)
def sortN (l:Jr):List Iss:=l.mergeSort leN
def SrtN (l:Jr):Prop:=l.Pairwise λx y=>kyN x<=kyN y
def InjN (l:Jr):Prop:=∀ x∈l,∀ y∈l,kyN x=kyN y->x=y
def Ze3 (l:Jr):(sortN l).Perm l:=List.mergeSort_perm l _
def Ze4 (l:Jr):SrtN (sortN l):=by
 have:=List.pairwise_mergeSort (le:=leN) (λa b c=>by simp[leN];omega) (λa b=>by simp[leN];omega) l;exact this.imp (by simp[leN])
def InjN.perm {a b:Jr} (h:InjN a) (p:a.Perm b):InjN b:=λx hx y hy=>h x (p.mem_iff.2 hx) y (p.mem_iff.2 hy)
def InjN.sub {a b:Jr} (h:InjN a) (s:∀ x∈b,x∈a):InjN b:=λx hx y hy=>h x (s x hx) y (s y hy)
def Ze5 {a b:Jr} (hi:InjN a) (p:a.Perm b) (ha:SrtN a) (hb:SrtN b):a=b :=
 List.Perm.eq_of_pairwise (le:=λx y=>kyN x<=kyN y) (λx y hx hy h1 h2=>hi x hx y (p.mem_iff.2 hy) (by omega)) ha hb p
def Ze6 {l s:Jr} (hi:InjN l) (p:s.Perm l) (hs:SrtN s):sortN l=s :=
 Ze5 (hi.perm (Ze3 l).symm) ((Ze3 l).trans p.symm) (Ze4 l) hs
def Ze7 (l:Jr):(sortN l).length=l.length:=(Ze3 l).length_eq
def Ze8 {l:Jr} {x:Iss}:x∈sortN l↔x∈l:=(Ze3 l).mem_iff
def srtS (l:Jr) (a b:Nat):List Iss:=l.take a++(sortN ((l.take b).drop a)++l.drop b)
def Ze9 {l:Jr} {a b:Nat} (h1:a<=b) (h2:b<=a+1):srtS l a b=l:=by
 have e:sortN ((l.take b).drop a)=(l.take b).drop a:=by
  generalize hq:(l.take b).drop a=q;have hl:q.length<=1:=by rw[<- hq];simp;omega
  match q,hl with
  |[],_=>simp[sortN]
  |[x],_=>simp[sortN]
 have e2:l.take a=(l.take b).take a:=(by rw[List.take_take,Nat.min_eq_left h1]);rw[srtS,e,<- W0U,e2,W11,W11]
def mvS (l:Jr) (a i p:Nat):List Iss :=
 l.take a++((sortN ((l.take i).drop a)).take p++(l.getD i default::((sortN ((l.take i).drop a)).drop p++l.drop (i+1))))
def Zea {l:Jr} {a i:Nat} (h:i<=l.length):(sortN ((l.take i).drop a)).length=i-a:=by rw[Ze7];simp;omega
def Zeb {l:Jr} {a i:Nat} (h1:a<=i) (h2:i<l.length):srtS l a i=mvS l a i (i-a):=by
 have e:=Zea (l:=l) (a:=a) (i:=i) (by omega);rw[mvS,srtS,W0x h2];generalize sortN ((l.take i).drop a)=s at *;rw[W0J (by omega:s.length<=i-a),W1i (by omega:s.length<=i-a)];simp[W0j,h2]
def Zec {l:Jr} {a i p:Nat} (h1:a<=i) (h2:i<l.length) (h3:p<=i-a):(mvS l a i p).length=l.length:=by
 have e:=Zea (l:=l) (a:=a) (i:=i) (by omega);simp[mvS,e];omega
def Zed {α:Type} (D C:List α) (y x:α) (n:Nat) (h:n=D.length):((D++y::x::C).set (n+1) y).set n x=D++x::y::C:=by
 subst h;rw[W1V _ _ (by omega),W1V _ _ (by omega)];simp
def Zee {l:Jr} {a i p:Nat} (h1:a<=i) (h2:i<l.length) (h3:p+1<=i-a) :
  ∃ y,(sortN ((l.take i).drop a))[p]? = some y/\(mvS l a i (p+1))[a+p+1]? = some l[i]/\(mvS l a i (p+1))[a+p]? = some y/\((mvS l a i (p+1)).set (a+p+1) y).set (a+p) l[i]=mvS l a i p/\y∈l:=by
 have e:=Zea (l:=l) (a:=a) (i:=i) (by omega);have hm:∀ y∈sortN ((l.take i).drop a),y∈l:=λy hy=>W1q (W1L (Ze8.1 hy))
 unfold mvS;generalize sortN ((l.take i).drop a)=s at *;have hp:p<s.length:=(by omega);have ta:(l.take a).length=a:=(by simp;omega);have e1:s.take (p+1)=s.take p++[s[p]]:=W08 hp;have e2:s.drop p=s[p]::s.drop (p+1):=W0x hp;have e3:l.getD i default=l[i]:=(by simp[W0j,h2]);have tp:(s.take p).length=p:=(by simp;omega);refine ⟨s[p],by simp[hp],?_,?_,?_,hm _ (W0e hp)⟩
 . rw[e1,e3,W0o (by omega),ta,W0o (by simp;omega)];have:a+p+1-a-(s.take p++[s[p]]).length=0:=(by simp;omega);rw[this];rfl
 . rw[e1,W0o (by omega),ta,W0U,W0o (by omega),tp];have:a+p-a-p=0:=(by omega);rw[this];rfl
 . rw[e1,e2,e3,W0U];have q:=Zed (l.take a++s.take p) (s.drop (p+1)++l.drop (i+1)) s[p] l[i] (a+p) (by simp;omega);simp only[W0U,W1d,W18]at q ⊢;exact q
def Zef {l:Jr} {a i p:Nat} (hi:InjN l) (h1:a<=i) (h2:i<l.length) (h3:p<=i-a)
  (hd:∀ y∈(sortN ((l.take i).drop a)).drop p,kyN l[i]<kyN y) (hc:∀ q,p=q+1->∀ y,(sortN ((l.take i).drop a))[q]? = some y->¬kyN l[i]<kyN y):mvS l a i p=srtS l a (i+1):=by
 have e:=Zea (l:=l) (a:=a) (i:=i) (by omega);have e3:l.getD i default=l[i]:=by simp[W0j,h2]
 have e4:(l.take (i+1)).drop a=(l.take i).drop a++[l[i]]:=by
  rw[W08 h2,List.drop_append_of_le_length (by simp;omega)]
 have hs:=Ze4 ((l.take i).drop a);have hp:=Ze3 ((l.take i).drop a);have hm:∀ x∈(l.take (i+1)).drop a,x∈l:=λy hy=>W1q (W1L hy)
 rw[srtS,mvS,e3];rw[Ze6 (s:=(sortN ((l.take i).drop a)).take p++l[i]::(sortN ((l.take i).drop a)).drop p) (hi.sub hm)]
 . simp[W0U]
 . rw[e4];refine List.perm_middle.trans ?_;rw[W11];exact (List.perm_cons _).2 hp |>.trans (List.perm_append_singleton _ _).symm
 . generalize sortN ((l.take i).drop a)=s at *;have hs2:=hs;unfold SrtN at hs ⊢;rw[<- W11 p s,W1W]at hs;obtain ⟨t1,t2,t3⟩:=hs;rw[W1W];refine ⟨t1,W1k.2 ⟨λy hy=>by have:=hd y hy;omega,t2⟩,λu hu v hv=>?_⟩;rcases W0g.1 hv with rfl|hv
   . match p,hc,h3 with
     |0,_,_=>simp at hu
     | q + 1,hc,h3 =>
       have hq:q<s.length:=(by omega);have hc2:=hc q rfl s[q] (by simp[hq]);obtain ⟨j,hj,rfl⟩:=W0k hu;rw[W1O];have hjq:j<=q:=(by simp at hj;omega);rcases W0q j q with hl|hg
       . have:=W0Y.1 hs2 j q (by omega) hq hl;omega
       . have:j=q:=(by omega);subst this;omega
   . exact t3 u hu v hv
def Zeg (ok:Nat->Bool) (st:St) (l:Jr):frzO ok st (.row 5 (l.map isa)) = .row 5 (l.map isa):=by
 simp only[frzO,W10]
 congr 2
 funext p;simp[isa,frzA,frz,AV.keys]
def fM1:AV:=.func (.func 39) [] []
def Zeh (l:Jr) (a b:Nat) (hv:∀ x∈l,okN x) (hin:InjN l) (h1:a<=b) (h2:b<=l.length) (h3:l.length<=1000) :
  PB prog G 83 [(1000,.row 5 (l.map isa))] [.osl 1000 l.length,.int .i64 a,.int .i64 b,fM1] (.tup []) [(1000,.row 5 ((srtS l a b).map isa))]:=by
 (refine ZbU (W0C rfl) λR hG hrd=>Qga ?_;subst hG)
 have w1:i64.wrap ((a:Int)+1)=a+1:=Yf;simp -implicitDefEqProofs[ZbS,ZbT,fM1,w1];refine Z8h (λi=>⟨[(8,.int .i64 ((a:Int)+1+i)),(0,.osl 1000 l.length),(1,.int .i64 a),(2,.int .i64 b),(3,fM1)],[(1000,.row 5 ((srtS l a (a+1+i)).map isa))]⟩) (λi=>True) (b-(a+1)) ?_ trivial ?_ ?_
 . rw[Ze9 (by omega) (by omega)];refine Ym.sub (by simp[lk,Ya,AV.keys,fM1]) ?_;simp only[W0g,W0Q,or_false,W1H,forall_eq,ZdZ,and_true];simp[lk]
 . intro i hi _;refine Qga ?_;have k1:(a:Int)+1+i<b:=(by omega);simp -implicitDefEqProofs[fM1,k1];have hI:a+1+i<l.length:=(by omega);have z:=Zeb (l:=l) (a:=a) (i:=a+1+i) (by omega) hI;have z0:a+1+i-a=i+1:=(by omega);rw[z0]at z;rw[z];have hx:=hv _ (W0e hI);have ex:isa l[a+1+i]=[.int .i64 l[a+1+i].d,.int .i64 l[a+1+i].l,.int .u8 l[a+1+i].k,.vsl (l[a+1+i].its.map ita),.vsl (l[a+1+i].dms.map dma)]:=rfl;have hat:=λp (hp:p+1<=a+1+i-a)=>Zee (l:=l) (a:=a) (i:=a+1+i) (p:=p) (by omega) hI hp
   have hend:=λp=>Zef (l:=l) (a:=a) (i:=a+1+i) (p:=p) hin (by omega) hI
   have hln:=λp (hp:p<=a+1+i-a)=>Zec (l:=l) (a:=a) (i:=a+1+i) (p:=p) (by omega) hI hp
   have hsl:=Zea (l:=l) (a:=a) (i:=a+1+i) (by omega);generalize hsg:sortN ((l.take (a+1+i)).drop a)=s at *;generalize hxx:l[a+1+i]=x at *
   refine Z1Q (λp:Nat=>⟨[(9,.int .i64 ((a:Int)+p)),(8,.int .i64 ((a:Int)+1+i)),(0,.osl 1000 l.length),(1,.int .i64 a),(2,.int .i64 b),(3,.func (.func 39) [] [])],[(1000,.row 5 ((mvS l a (a+1+i) p).map isa))]⟩)
    (λp=>p<=i+1/\∀ y∈s.drop p,kyN x<kyN y) (λp=>p) (i+1) ?_ ⟨W0f _,λy hy=>by rw[W1i (by omega)]at hy;cases hy⟩ ?_
   . have e9:(a:Int)+1+i=(a:Int)+(i+1:Nat):=(by omega);rw[e9];refine Ym.sub (by simp[lk,Ya,AV.keys]) ?_;simp only[W0g,W0Q,or_false,W1H,forall_eq,ZdZ,and_true];simp[lk]
   . rintro p ⟨hp,hd⟩;refine Qga ?_
     cases p with
     | zero =>
       have k2:¬(a:Int)<a:=(by omega);simp -implicitDefEqProofs;refine ⟨rfl,?_⟩;refine Qgr ?_;have w3:i64.wrap ((a:Int)+1+i+1)=(a:Int)+1+(i+1):=(by rw[Yf (by omega) (by omega)];omega);have he:=hend 0 (W1e _) hd (λq hq=>by omega);have he2:a+1+i+1=a+1+(i+1):=(by omega);rw[he2]at he;simp -implicitDefEqProofs[w3];refine Ym.sub (by simp[lk,Ya,AV.keys]) ?_;simp only[W0g,W0Q,or_false,W1H,forall_eq,ZdZ,and_true];simp[lk,he]
     | succ p =>
       obtain ⟨y,hy0,hy1,hy2,hy3,hy4⟩:=hat p (by omega);have ey:isa y=[.int .i64 y.d,.int .i64 y.l,.int .u8 y.k,.vsl (y.its.map ita),.vsl (y.dms.map dma)]:=rfl;have hl2:=hln (p+1) (by omega);have k2:(a:Int)<(a:Int)+(p+1):=(by omega);have k3:((a:Int)+(p+1)).toNat=a+p+1:=(by omega);have w2:i64.wrap ((a:Int)+(p+1)-1)=(a:Int)+p:=(by rw[Yf (by omega) (by omega)];omega);have k4:((a:Int)+p).toNat=a+p:=(by omega);have k5:a+p+1<l.length:=(by omega);have k6:a+p<l.length:=(by omega);have k7:(0:Int)<=(a:Int)+(p+1):=(by omega);have k8:(0:Int)<=(a:Int)+p:=(by omega);have he:=hend (p+1) (by omega) hd;generalize mvS l a (a+1+i) (p+1)=Q at *;obtain ⟨q1,g1⟩:=W02.1 hy1;obtain ⟨q2,g2⟩:=W02.1 hy2;have hcl:=Ze1 hx (hv y hy4);simp -implicitDefEqProofs[k2,k3,w2,k4,k5,k6,k7,k8,g1,g2,hl2,ex,ey];refine Ye.of (ZdU x y hx (hv y hy4)) (by simp[AV.pure]) ?_;by_cases hlt:cmpN x y<0
       . simp -implicitDefEqProofs[hlt,k3,w2,k4,k5,k6,k7,k8,g1,g2,hl2,ex,ey];refine ⟨rfl,rfl,p,?_,⟨by omega,λu hu=>?_⟩,Nat.lt_succ_self _⟩
         . rw[<- ex,<- ey,<- W29,<- W29,hy3];refine Ym.sub (by simp[lk,Ya,AV.keys]) ?_;simp only[W0g,W0Q,or_false,W1H,forall_eq,ZdZ,and_true];simp[lk]
         . obtain ⟨hps,gs⟩:=W02.1 hy0;rw[W0x hps,gs]at hu;rcases W0g.1 hu with rfl|hu
           . exact hcl.1 hlt
           . exact hd u hu
       . simp -implicitDefEqProofs[hlt];refine ⟨rfl,?_⟩;refine Qgr ?_;have w3:i64.wrap ((a:Int)+1+i+1)=(a:Int)+1+(i+1):=by rw[Yf (by omega) (by omega)];omega
         have he:=he (λq hq u hu hk=>by
          have:q=p:=(by omega);subst this;rw[hy0]at hu
          cases hu
          exact hlt (hcl.2 hk))
         have he2:a+1+i+1=a+1+(i+1):=(by omega);rw[he2]at he;simp -implicitDefEqProofs[w3];refine Ym.sub (by simp[lk,Ya,AV.keys]) ?_;simp only[W0g,W0Q,or_false,W1H,forall_eq,ZdZ,and_true];simp[lk,he]
 . intro _;refine Qga ?_;have k1:¬(a:Int)+1+(b-(a+1):Nat)<b:=(by omega);simp -implicitDefEqProofs[fM1,k1];refine Qgr ?_
   have e:srtS l a (a+1+(b-(a+1)))=srtS l a b:=by
    rcases W0q a b with h|h
    . congr 1;omega
    . rw[Ze9 (by omega) (by omega),Ze9 (by omega) (by omega)]
   rw[e];refine ⟨[],rfl,rfl,?_⟩;simp[Yi,newK,Zeg]
def Zei (l:Jr):srtS l 0 l.length=sortN l:=by simp[srtS]
def Zej (ρ:Nat->Nat) (l:Jr):AObj.ren ρ (.row 5 (l.map isa)) = .row 5 (l.map isa):=by
 simp only[AObj.ren,W10]
 congr 2
 funext p;simp[isa,AV.ren]
def Zek (l:Jr) (hv:∀ x∈l,okN x) (hin:InjN l) (h3:l.length<20) :
  PB prog G 69 [(1000,.row 5 (l.map isa))] [.osl 1000 l.length,.int .i64 l.length,fM1] (.tup []) [(1000,.row 5 ((sortN l).map isa))]:=by
 (refine ZbR (W0C rfl) λR hG hrd=>Qga ?_;subst hG)
 have k1:¬(20:Int)<=l.length:=(by omega);have k2:¬(20:Int)<l.length:=(by omega);have hp:=Zeh (G:=R.G) l 0 l.length hv hin (W1e _) (W0f _) (by omega);rw[Zei]at hp;simp -implicitDefEqProofs[ZbP,ZbQ,fM1];refine Z8h (λi=>⟨[(8,.int .i64 20),(7,.int .i64 0),(6,.int .i64 20),(0,.osl 1000 l.length),(1,.int .i64 l.length),(2,fM1)],[(1000,.row 5 (l.map isa))]⟩) (λ_=>True) 0 ?_ trivial (λi hi=>by omega) λ_=>?_
 . refine Ym.sub (by simp[lk,Ya,AV.keys,fM1]) ?_;simp only[W0g,W0Q,or_false,W1H,forall_eq,ZdZ,and_true];simp[lk]
 refine Qga ?_;simp -implicitDefEqProofs[fM1,k1];refine Qgr ?_;simp -implicitDefEqProofs;refine Yd.sem (Z1B.byref hp id (by simp) (by simp) (by simp[St.get,lk,Zej]) (by simp[ZdZ]) (by simp[Ya,AV.keys,lk,fM1]) rfl (by simp[AV.ren,fM1]) rfl rfl) ?_;simp -implicitDefEqProofs[Yl,Zej];refine Z8h (λi=>⟨[(6,.int .i64 20),(1,.int .i64 l.length)],[(1000,.row 5 ((sortN l).map isa))]⟩) (λ_=>True) 0 ?_ trivial (λi hi=>by omega) λ_=>?_
 . refine Ym.sub (by simp[lk,Ya,AV.keys,fM1]) ?_;simp only[W0g,W0Q,or_false,W1H,forall_eq,ZdZ,and_true];simp[lk]
 refine Qga ?_;simp -implicitDefEqProofs[k2];refine Qgr ?_;refine ⟨[],rfl,rfl,?_⟩;simp[Yi,newK,Zeg]
def Zel (l:Jr) (hv:∀ x∈l,okN x) (hin:InjN l) (h3:l.length<20) :
  PB prog G 38 [(1000,.row 5 (l.map isa))] [.osl 1000 l.length,fM1] (.tup []) [(1000,.row 5 ((sortN l).map isa))]:=by
 (refine ZbO (W0C rfl) λR hG hrd=>Qga ?_;subst hG)
 simp -implicitDefEqProofs[ZbM,ZbN,fM1];refine Yd.sem (Z1B.byref (Zek l hv hin h3) id (by simp) (by simp) (by simp[St.get,lk,Zej]) (by simp[ZdZ]) (by simp[Ya,AV.keys,lk,fM1]) rfl (by simp[AV.ren,fM1]) rfl rfl) ?_;simp -implicitDefEqProofs[Yl,Zej];refine ⟨[],rfl,rfl,?_⟩;simp[Yi,newK,Zeg]
def smN (x y:Iss):Bool:=decide (x.d=y.d/\x.l=y.l)
def kN (l:Jr):Nat->List Iss
 |0=>[]
 |p+1=>if p≠0/\smN (l.getD p default) (l.getD (p-1) default)=true then kN l p else kN l p++[l.getD p default]
def Zem (l:Jr):∀ p,(kN l p).length<=p
 |0=>W0f _
 | p+1=>by
   have:=Zem l p;rw[kN];split <;> simp <;> omega
def noD (l:Jr) (p:Nat):Prop:=∀ j,0<j->j<p->smN (l.getD j default) (l.getD (j-1) default)=false
def Zen {l:Jr}:∀ {p:Nat},noD l p->p<=l.length->kN l p=l.take p
 |0,_,_=>rfl
 | p + 1,h,hp=>by
   rw[kN,Zen (p:=p) (λj h1 h2=>h j h1 (by omega)) (by omega),W08 (by omega)];have e:l.getD p default=l[p]:=by simp[W0j,show p<l.length by omega]
   split
   . rename_i h2;rw[h p (by omega) (by omega)]at h2;exact absurd h2.2 (by simp)
   . rw[e]
def cpS (l:Jr) (p:Nat):List Iss:=kN l p++l.drop (kN l p).length
def Zeo {l:Jr} {p:Nat} (h:p<=l.length):(cpS l p).length=l.length:=by
 have:=Zem l p;simp[cpS];omega
def Zep {l:Jr} {p j:Nat} (hp:p<l.length) (h1:(kN l p).length<=j) (h2:j<=p):(cpS l p)[j]? = some (l.getD j default):=by
 rw[cpS,W0o h1,W13];have:(kN l p).length+(j-(kN l p).length)=j:=(by omega);rw[this];simp[W0j,show j<l.length by omega]
def Zeq {l:Jr} {p:Nat} (hp:p<l.length) (h:¬(p≠0/\smN (l.getD p default) (l.getD (p-1) default)=true)):(cpS l p).set (kN l p).length (l.getD p default)=cpS l (p+1):=by
 have hl:=Zem l p;have e:kN l (p+1)=kN l p++[l.getD p default]:=(by rw[kN,if_neg h]);rw[cpS,cpS,e,W1V _ _ (by omega),Nat.sub_self,W0x (by omega:(kN l p).length<l.length)];simp only[List.set_cons_zero,W0s,List.length_singleton,W0U,List.singleton_append]
def Zer {l:Jr} {p:Nat} (h:p≠0/\smN (l.getD p default) (l.getD (p-1) default)=true):cpS l (p+1)=cpS l p/\kN l (p+1)=kN l p:=by
 have e:kN l (p+1)=kN l p:=(by rw[kN,if_pos h]);exact ⟨by rw[cpS,cpS,e],e⟩
def cmpct (l:Jr):List Iss:=kN l l.length
def zrI:List AV:=[.int .i64 0,.int .i64 0,.int .u8 0,.nils,.nils]
def cmpO (l:Jr):List (List AV):=(cmpct l).map isa++List.replicate (l.length-(cmpct l).length) zrI
def cmpV (k:Nat) (l:Jr):AV:=if (cmpct l).length=l.length then .osl k l.length else .oss k l.length 0 (cmpct l).length
def fM2:AV:=.func (.func 42) [] []
def kN_lt {l:Jr} {k:Nat} (hk0:k≠0) (hd:smN (l.getD k default) (l.getD (k-1) default)=true):∀ p,k<p->(kN l p).length<p:=by
 intro p hp
 induction p with
 |zero=>omega
 | succ p ih =>
   by_cases h:p=k
   . subst h;have:=Zem l p;rw[kN,if_pos ⟨hk0,hd⟩];omega
   . have:=ih (by omega);rw[kN];split <;> simp <;> omega
def Zes {l:Jr} {p:Nat} (h:p<l.length):l.getD p default=l[p]:=by simp[W0j,h]
def Zet {l:Jr} (h:noD l l.length):cmpct l=l:=by rw[cmpct,Zen h (W0f _),W0v]
def Zeu (ok:Nat->Bool) (st:St) (l:Jr):frzO ok st (.row 5 (cmpO l)) = .row 5 (cmpO l):=by
 have h:=Zeg ok st (cmpct l);simp only[frzO,AObj.row.injEq,true_and]at h ⊢;rw[cmpO,W0r,h];simp[zrI,frzA,frz,AV.keys]
def Zev (l:Jr) (h3:l.length<=1000) :
  PB prog G 41 [(1000,.row 5 (l.map isa))] [.osl 1000 l.length,fM2] (cmpV 1000 l) [(1000,.row 5 (cmpO l))]:=by
 (refine Zc6 (W0C rfl) λR hG hrd=>Qga ?_;subst hG)
 simp -implicitDefEqProofs[Zc4,Zc5,fM2];by_cases hs:(l.length:Int)<2
 . have e:cmpct l=l:=Zet λj h1 h2=>by omega
   simp -implicitDefEqProofs[hs];refine ⟨[.osl 1000 l.length],?_,?_,?_⟩
   . simp[Z29,evRes,Yi,newK,frzA,frz,AV.keys,lk,St.tmp,Zc5]
   . simp[cmpV,e,tupV]
   . simp[Yi,newK,Zeg,cmpO,e]
 simp -implicitDefEqProofs[hs];refine Z8h (λi=>⟨[(5,.int .i64 ((i:Int)+1)),(0,.osl 1000 l.length),(1,fM2)],[(1000,.row 5 (l.map isa))]⟩) (λi=>noD l (i+1)) (l.length-1) ?_ (λj h1 h2=>by omega) ?_ ?_
 . refine Ym.sub (by simp[lk,Ya,AV.keys,fM2]) ?_;simp only[W0g,W0Q,or_false,W1H,forall_eq,ZdZ,and_true];simp[lk]
 . intro i hi hn;refine Qga ?_;have k1:(i:Int)+1<l.length:=(by omega);have k2:((i:Int)+1).toNat=i+1:=(by omega);have k3:(0:Int)<=(i:Int)+1:=(by omega);have k4:i+1<l.length:=(by omega);have k5:i<l.length:=(by omega);have w1:i64.wrap (i:Int)=i:=Yf;have w2:i64.wrap ((i:Int)+1+1)=(i:Int)+1+1:=Yf;have ex:∀ x,isa x=[.int .i64 x.d,.int .i64 x.l,.int .u8 x.k,.vsl (x.its.map ita),.vsl (x.dms.map dma)]:=λx=>rfl
   simp -implicitDefEqProofs[fM2,k1,k2,k3,k4,k5,w1,ex];refine Ye.of (ZdV l[i+1] l[i]) (by simp[AV.pure,isa]) ?_;have hsm:smN (l.getD (i+1) default) (l.getD i default)=decide (l[i+1].d=l[i].d/\l[i+1].l=l[i].l):=(by rw[Zes k4,Zes k5];rfl);by_cases hd:l[i+1].d=l[i].d/\l[i+1].l=l[i].l
   . simp -implicitDefEqProofs [hd];refine ⟨rfl,?_⟩;rw[W0M hd]at hsm;have hs2:i+1≠0/\smN (l.getD (i+1) default) (l.getD (i+1-1) default)=true:=⟨by omega,hsm⟩;have hk:=Zen hn (by omega);have hk1:(kN l (i+1)).length=i+1:=(by rw[hk];simp;omega);obtain ⟨c1,c2⟩:=Zer hs2;have c3:cpS l (i+1)=l:=(by rw[cpS,hk1,hk,W11]);have hkl:=λp=>kN_lt (l:=l) (k:=i+1) (by omega) hsm p
     have k6:i+1<=l.length:=(by omega);simp -implicitDefEqProofs[k2,k3,k6];refine Z8h (λj=>⟨[(7,.int .i64 ((j:Int)+1)),(6,.oss 1000 l.length (i+1) l.length),(5,.int .i64 (kN l (i+1+1+j)).length),(0,.osl 1000 l.length),(1,.func (.func 42) [] [])],[(1000,.row 5 ((cpS l (i+1+1+j)).map isa))]⟩) (λ_=>True) (l.length-(i+1+1)) ?_ trivial ?_ ?_
     . have z1:cpS l (i+1+1+0)=l:=(by rw[W1Q,c1,c3]);have z2:(kN l (i+1+1+0)).length=i+1:=(by rw[W1Q,c2,hk1]);rw[z1,z2];refine Ym.sub (by simp[lk,Ya,AV.keys]) ?_;simp only[W0g,W0Q,or_false,W1H,forall_eq,ZdZ,and_true];simp[lk]
     . intro j hj _;refine Qga ?_;have hq:i+1+1+j<l.length:=(by omega);have hq2:i+1+j<l.length:=(by omega);have hml:=hkl (i+1+1+j) (by omega);have hcl:=Zeo (l:=l) (p:=i+1+1+j) (by omega);have a1:=Zep (j:=i+1+1+j) hq (by omega) (by omega);have a2:=Zep (j:=i+1+j) hq (by omega) (by omega);rw[Zes hq]at a1;rw[Zes hq2]at a2;have hkeep:=Zeq hq;have hskip:=Zer (l:=l) (p:=i+1+1+j);have e3:i+1+1+j-1=i+1+j:=(by omega);have hkk:kN l (i+1+1+j+1)=kN l (i+1+1+j+1):=rfl
       conv at hkk=>rhs;rw[kN]
       have hsm2:smN (l.getD (i+1+1+j) default) (l.getD (i+1+j) default)=decide (l[i+1+1+j].d=l[i+1+j].d/\l[i+1+1+j].l=l[i+1+j].l):=(by rw[Zes hq,Zes hq2];rfl);rw[e3,hsm2,Zes hq]at hkeep hkk;rw[e3,hsm2]at hskip;have e4:i+1+1+(j+1)=i+1+1+j+1:=(by omega);have m1:(j:Int)+1<((l.length-(i+1):Nat):Int):=(by omega);have m2:((j:Int)+1).toNat=j+1:=(by omega);have m3:(0:Int)<=(j:Int)+1:=(by omega);have m4:j+1<l.length-(i+1):=(by omega);have m5:j<l.length-(i+1):=(by omega);have m6:i+1+(j+1)=i+1+1+j:=(by omega);have u1:i64.wrap (j:Int)=j:=Yf;have u2:i64.wrap ((j:Int)+1+1)=(j:Int)+1+1:=Yf;have u3:i64.wrap (((kN l (i+1+1+j)).length:Int)+1)=(kN l (i+1+1+j)).length+1:=Yf;have m7:(kN l (i+1+1+j)).length<l.length:=(by omega);have hpl:=Zem l (i+1+1+j);generalize cpS l (i+1+1+j)=Q at *;obtain ⟨q1,g1⟩:=W02.1 a1;obtain ⟨q2,g2⟩:=W02.1 a2;generalize l[i+1+1+j]=x at *;generalize l[i+1+j]=y at *;have ex1:=ex x;have ey1:=ex y;simp -implicitDefEqProofs[m1,m2,m3,m4,m5,m6,u1,u2,hq,hq2,g1,g2,hcl,ex1,ey1];refine Ye.of (ZdV x y) (by simp[AV.pure,isa]) ?_;by_cases hd2:x.d=y.d/\x.l=y.l
       . obtain ⟨f1,f2⟩:=hskip ⟨by omega,W0M hd2⟩;simp -implicitDefEqProofs[hd2,u2];refine ⟨rfl,?_⟩;rw[e4,f1,f2];refine Ym.sub (by simp[lk,Ya,AV.keys]) ?_;simp only[W0g,W0Q,or_false,W1H,forall_eq,ZdZ,and_true];simp[lk]
       . have hn2:¬(i+1+1+j≠0/\decide (x.d=y.d/\x.l=y.l)=true):=by
          rintro ⟨-,h⟩;exact hd2 (W0X h)
         have f1:=hkeep hn2;rw[if_neg hn2]at hkk;have il:∀ z:Iss,(isa z).length=5:=λz=>rfl
         have id5:∀ z:Iss,(isa z).drop 5=[]:=λz=>rfl
         have m8:(((kN l (i+1+1+j)).length:Int)+1)=((kN l (i+1+1+j+1)).length:Nat):=(by rw[hkk];simp);simp -implicitDefEqProofs[hd2,m1,m2,m3,m4,m5,m6,u1,u2,u3,hq,hq2,g1,g2,hcl,ex1,ey1,m7,il,id5];refine ⟨rfl,?_⟩;rw[<- ex1,<- W29,f1,m8,e4];refine Ym.sub (by simp[lk,Ya,AV.keys]) ?_;simp only[W0g,W0Q,or_false,W1H,forall_eq,ZdZ,and_true];simp[lk]
     . intro _;refine Qga ?_;have n1:¬(((l.length-(i+1+1):Nat):Int)+1<((l.length-(i+1):Nat):Int)):=(by omega);have e5:i+1+1+(l.length-(i+1+1))=l.length:=(by omega);rw[e5];have hml:=hkl l.length (by omega);have hcl:=Zeo (l:=l) (p:=l.length) (W0f _);have n2:(kN l l.length).length<=l.length:=(by omega);simp -implicitDefEqProofs[n1,hcl];refine Qgr ?_;simp -implicitDefEqProofs[hcl,n2];refine Qgr ?_
       have t1:List.take (kN l l.length).length ((cpS l l.length).map isa)=(cmpct l).map isa:=by
        rw[<- List.map_take,cpS,List.take_left'];rfl;rfl
       have t2:List.drop l.length ((cpS l l.length).map isa)=[]:=W1i (by simp[hcl]);rw[t1,t2,W1B];have hne:¬(cmpct l).length=l.length:=(by rw[cmpct];omega);refine ⟨[.oss 1000 l.length 0 (kN l l.length).length],?_,?_,?_⟩
       . simp[Z29,evRes,Yi,newK,frzA,frz,AV.keys,lk,St.tmp]
       . rw[cmpV,if_neg hne];rfl
       . have hz:List.map isa (cmpct l)++List.replicate (l.length-(kN l l.length).length) [AV.int .i64 0,AV.int .i64 0,AV.int .u8 0,AV.nils,AV.nils]=cmpO l:=rfl;rw[hz];simp[Yi,newK,Zeu]
   . rw [W0S hd]at hsm;simp -implicitDefEqProofs[hd,w2];refine ⟨rfl,?_,λj h1 h2=>?_⟩
     . ((try simp only[fM2]);refine Ym.sub (by simp[lk,Ya,AV.keys,fM2]) ?_;simp only[fM2,Wkl,ZdZ,and_true];(try simp[lk,Yc,Ya,AV.keys,fM2]))
     . rcases W0q j (i+1) with h|h
       . exact hn j h1 h
       . have:j=i+1:=(by omega);subst this;exact hsm
 . intro hn;refine Qga ?_;have k1:¬((l.length-1:Nat):Int)+1<l.length:=(by omega);have el:l.length-1+1=l.length:=(by omega);rw[el]at hn;have e:cmpct l=l:=Zet hn;simp -implicitDefEqProofs[k1,fM2];refine Qgr ?_;simp -implicitDefEqProofs;refine ⟨[.osl 1000 l.length],?_,?_,?_⟩
   . simp[Z29,evRes,Yi,newK,frzA,frz,AV.keys,lk,St.tmp,Zc5]
   . simp[cmpV,e,tupV]
   . simp[Yi,newK,Zeg,cmpO,e]
def Zew (a b:List (Int×Int)) (ha:Sml a):PC prog G 97 [.vsl (a.map ita),.vsl (b.map ita)] (.bool (decide (a=b))):=by
 (refine Zcu rfl λR hG hrd=>Qga ?_;subst hG)
 by_cases hl:a.length=b.length
 . have hl':(a.length:Int)=b.length:=(by omega);simp -implicitDefEqProofs[Zcs,Zct,hl'];refine Z8h (λi=>⟨[(13,.int .i64 i),(12,.int .i64 a.length),(0,.vsl (a.map ita)),(1,.vsl (b.map ita))],[]⟩) (λi=>∀ j (h:j<a.length),j<i->a[j]=b[j]) a.length (by rw[hl'];(first|exact Wka|exact Wkb)) (by simp) ?_ ?_
   . intro i hi he;refine Qga ?_;unfold Sml at ha;have hi2:i<b.length:=(by omega);have w1:i64.wrap ((i:Int)+1)=((i+1:Nat):Int):=Yf;simp -implicitDefEqProofs[hi,hi2,ita];refine ⟨rfl,?_⟩;by_cases h2:a[i]=b[i]
     . simp -implicitDefEqProofs[h2,w1];refine ⟨(by (first|exact Wka|exact Wkb)),λj h1 h3=>?_⟩;by_cases e:j=i
       . subst e;exact h2
       . exact he j h1 (by omega)
     . have h3:¬a=b:=λe=>h2 (by subst e;rfl)
       rw[Z8l h2];simp -implicitDefEqProofs;refine Qgr ?_;simp -implicitDefEqProofs[h3]
   . intro he;refine Qga ?_;have h3:a=b:=W1D hl λj h1 h2=>he j h1 h1
     simp -implicitDefEqProofs;refine Qgr ?_;simp -implicitDefEqProofs[h3]
 . have hl':¬(a.length:Int)=b.length:=(by omega);have h3:¬a=b:=λe=>hl (by rw[e])
   simp -implicitDefEqProofs[Zcs,Zct,hl',h3]
def Zex (a b:List Dm) (ha:Sml a):PC prog G 82 [.vsl (a.map dma),.vsl (b.map dma)] (.bool (decide (a=b))):=by
 (refine Zcr rfl λR hG hrd=>Qga ?_;subst hG)
 by_cases hl:a.length=b.length
 . have hl':(a.length:Int)=b.length:=(by omega);simp -implicitDefEqProofs[Zcp,Zcq,hl'];refine Z8h (λi=>⟨[(13,.int .i64 i),(12,.int .i64 a.length),(0,.vsl (a.map dma)),(1,.vsl (b.map dma))],[]⟩) (λi=>∀ j (h:j<a.length),j<i->a[j]=b[j]) a.length (by rw[hl'];(first|exact Wka|exact Wkb)) (by simp) ?_ ?_
   . intro i hi he;refine Qga ?_;unfold Sml at ha;have hi2:i<b.length:=(by omega);have w1:i64.wrap ((i:Int)+1)=((i+1:Nat):Int):=Yf;simp -implicitDefEqProofs[hi,hi2,dma];refine ⟨rfl,?_⟩;by_cases h2:a[i]=b[i]
     . simp -implicitDefEqProofs[h2,w1];refine ⟨(by (first|exact Wka|exact Wkb)),λj h1 h3=>?_⟩;by_cases e:j=i
       . subst e;exact h2
       . exact he j h1 (by omega)
     . have h3:¬a=b:=λe=>h2 (by subst e;rfl)
       rw[dm_ne h2];simp -implicitDefEqProofs;refine Qgr ?_;simp -implicitDefEqProofs[h3]
   . intro he;refine Qga ?_;have h3:a=b:=W1D hl λj h1 h2=>he j h1 h1
     simp -implicitDefEqProofs;refine Qgr ?_;simp -implicitDefEqProofs[h3]
 . have hl':¬(a.length:Int)=b.length:=(by omega);have h3:¬a=b:=λe=>hl (by rw[e])
   simp -implicitDefEqProofs[Zcp,Zcq,hl',h3]
def Zey (x y:Iss) (h:Sml x.dms):PC prog G 81 [.vptr (isa x) 0,.vptr (isa y) 0] (.bool (decide (x.dms=y.dms))):=by
 (refine Zcl rfl λR hG hrd=>Qga ?_;subst hG)
 simp -implicitDefEqProofs[Zcj,Zck,isa];refine Qco (Zex x.dms y.dms h) ?_;simp -implicitDefEqProofs
def Zez (a b:List (Int×Int)) (x y:Iss) (h1:Sml a) (h2:Sml x.dms):PC prog G 80 [.vsl (a.map ita),.vsl (b.map ita),.func (.func 81) [] [.vptr (isa x) 0,.vptr (isa y) 0]] (.bool (decide (a=b)&&decide (x.dms=y.dms))):=by
 (refine Zco rfl λR hG hrd=>Qga ?_;subst hG)
 simp -implicitDefEqProofs[Zcm,Zcn];refine Qco (Zew a b h1) ?_;by_cases e:a=b
 . simp -implicitDefEqProofs[e];refine Yd.of (Zey x y h2) (by simp[AV.pure,isa]) ?_;simp -implicitDefEqProofs
 . simp -implicitDefEqProofs[e]
def ZeA (x y:Iss) (h1:Sml x.its) (h2:Sml x.dms):PC prog G 65 [.agg (isa x),.agg (isa y)] (.bool (decide (x=y))):=by
 (refine Zci rfl λR hG hrd=>Qga ?_;subst hG)
 have hd:decide (x=y)=(decide (x.d=y.d)&&decide (x.l=y.l)&&decide (x.k=y.k)&&(decide (x.its=y.its)&&decide (x.dms=y.dms))):=by
  rw[Bool.eq_iff_iff];simp only[W0b,W01]
  constructor
  . rintro rfl;simp
  . rintro ⟨⟨⟨e1,e2⟩,e3⟩,e4,e5⟩
    cases x;cases y;simp_all
 have ex:isa x=[.int .i64 x.d,.int .i64 x.l,.int .u8 x.k,.vsl (x.its.map ita),.vsl (x.dms.map dma)]:=rfl;have ey:isa y=[.int .i64 y.d,.int .i64 y.l,.int .u8 y.k,.vsl (y.its.map ita),.vsl (y.dms.map dma)]:=rfl;simp -implicitDefEqProofs[Zcg,Zch,ex,ey,hd];refine Qco (Z8X x) ?_;simp -implicitDefEqProofs;refine Qco (Z8X y) ?_
 cases e1:decide (x.d=y.d)
 . have e1':=of_decide_eq_false e1;simp -implicitDefEqProofs[e1'];exact rfl
 have e1':=W0X e1
 cases e2:decide (x.l=y.l)
 . have e2':=of_decide_eq_false e2;simp -implicitDefEqProofs[e1',e2'];exact rfl
 have e2':=W0X e2
 cases e3:decide (x.k=y.k)
 . have e3':=of_decide_eq_false e3;simp -implicitDefEqProofs[e1',e2',e3'];exact rfl
 have e3':=W0X e3;simp -implicitDefEqProofs[e1',e2',e3'];have al:=Zez (G:=R.G) x.its y.its x y h1 h2;rw[ex,ey,e1',e2',e3']at al;refine Ye.flat al (by simp[AV.flat]) (by simp) ?_;simp -implicitDefEqProofs;exact rfl
def clB (b:Jr) (x:Iss):Bool:=match findN x.d x.l b with
 |some y=>!decide (x=y)
 |none=>false
def clN (a b:Jr) (i:Nat):List (Int×Int):=((a.take i).filter (clB b)).map λx=>(x.d,x.l)
def ZeB {a b:Jr} {i:Nat} (h:i<a.length):clN a b (i+1)=if clB b a[i]=true then clN a b i++[(a[i].d,a[i].l)] else clN a b i:=by
 rw[clN,W08 h,W19,W0r]
 split
 . rename_i e;simp[clN,List.filter_cons,e]
 . rename_i e;simp[clN,List.filter_cons,e]
def ZeC (a b:Jr) (i:Nat):(clN a b i).length<=i:=by
 simp only[clN,W0N];exact W0O (W0D _ _) (by simp;omega)
def bothE (a b:Jr):Int:=if openV a=0 then openV b else openV a
def clE (a b:Jr):List (Int×Int):=if bothE a b=0 then clN a b a.length else []
def clS (a b:Jr) (i:Nat):St:=if clN a b i=[] then ⟨[(31,.int .i64 i),(30,.int .i64 a.length),(29,.vsl (a.map isa)),(8,bkA b (nums b)),(10,.nils)],[]⟩
 else ⟨[(31,.int .i64 i),(30,.int .i64 a.length),(29,.vsl (a.map isa)),(8,bkA b (nums b)),(10,.osl 53 (clN a b i).length)],[(53,.row 2 ((clN a b i).map ita))]⟩
def ZeD (hG:GC G) (a b:Jr) (ha:Wf a) (hb:Wf b):∃ bk,PC prog G 33 [rega a,rega b] (.tup [.vsl ((clE a b).map ita),bk,.int .i64 (bothE a b)]):=by
 by_cases k1:openV a=0
 case neg =>
  refine ⟨_,PC.nzR (v:=.tup [.nils,.nilp,.int .i64 (openV a)]) ?_ (by simp[nz,clE,bothE,k1];rfl)⟩
  (refine Zcf rfl λR hG hrd=>Qga ?_;subst hG)
  simp -implicitDefEqProofs[Zcd,Zce,rega];refine Qco (Zam hG a ha) ?_;simp -implicitDefEqProofs[k1]
 by_cases k2:openV b=0
 case neg =>
  refine ⟨_,PC.nzR (v:=.tup [.nils,.nilp,.int .i64 (openV b)]) ?_ (by simp[nz,clE,bothE,k1,k2];rfl)⟩
  (refine Zcf rfl λR hG hrd=>Qga ?_;subst hG)
  simp -implicitDefEqProofs[Zcd,Zce,rega];refine Qco (Zam hG a ha) ?_;simp -implicitDefEqProofs[k1];refine Qco (Za9 hG b hb) ?_;simp -implicitDefEqProofs[openA,k2]
 have hL:=Zaa k2;have hO:=Z8x hL;have ev:clE a b=clN a b a.length:=(by simp[clE,bothE,k1,k2]);have eb:bothE a b=0:=(by simp[bothE,k1,k2]);rw[ev,eb];refine ⟨bkA b (nums b),PC.nzR (v:=.tup [Yg ((clN a b a.length).map ita),bkA b (nums b),.int .i64 0]) ?_ (by simp[nz,ZbD,bkA])⟩
 (refine Zcf rfl λR hG hrd=>Qga ?_;subst hG)
 have hs:=ha.1.1;unfold Sml at hs;simp -implicitDefEqProofs[Zcd,Zce,rega];refine Qco (Zam hG a ha) ?_;simp -implicitDefEqProofs[k1];refine Qco (Za9 hG b hb) ?_;simp -implicitDefEqProofs[openA,k2];refine Z8h (clS a b) (λ_=>True) a.length ?_ trivial ?_ ?_
 . have e0:clN a b 0=[]:=rfl;simp only[clS,e0,if_true]
   (first|exact Ym.tm (by simp[lk,bkA,AV.keys])|exact Ym.sub (by simp[lk,Ya,AV.keys,bkA,AV.keys]) (by simp[lk,Yc,Ya,AV.keys,bkA,AV.keys]))
 . intro i hi _;refine Qga ?_;have w1:i64.wrap ((i:Int)+1)=((i+1:Nat):Int):=Yf;have hx:=ha.1.2 a[i] (W0e hi);have hs:=ZeB (b:=b) hi;have bl:=ZeC a b i;have bb:((clN a b i).length+1)*16<=70368744177664:=(by omega);have ex:isa a[i]=[.int .i64 a[i].d,.int .i64 a[i].l,.int .u8 a[i].k,.vsl (a[i].its.map ita),.vsl (a[i].dms.map dma)]:=rfl
   cases q:findN a[i].d a[i].l b with
   | none =>
     have qb:clB b a[i]=false:=(by simp[clB,q]);rw[if_neg (by simp[qb])]at hs;by_cases z:clN a b i=[]
     . rw[z]at hs;simp -implicitDefEqProofs[clS,z,hi,ex];refine Qco (Z8X a[i]) ?_;simp -implicitDefEqProofs[clS];refine Qco (Z9A b (nums b) a[i].d a[i].l (Zai hO) hb.1.1 (Zak hL)) ?_;simp -implicitDefEqProofs[clS,q,fndA,noIs,w1,hs]
       ((try simp only[ita,Zdb]);refine Ym.sub (by simp[lk,Ya,AV.keys,ita,Zdb]) ?_;simp only[ita,Zdb,Wkl,Zb6,and_true];(try simp[lk,Yc,Ya,AV.keys,ita,Zdb]))
     . simp -implicitDefEqProofs[clS,z,hi,ex];refine Qco (Z8X a[i]) ?_;simp -implicitDefEqProofs[clS];refine Qco (Z9A b (nums b) a[i].d a[i].l (Zai hO) hb.1.1 (Zak hL)) ?_;simp -implicitDefEqProofs[clS,q,fndA,noIs,w1,hs,z]
       ((try simp only[ita,Zdb]);refine Ym.sub (by simp[lk,Ya,AV.keys,ita,Zdb]) ?_;simp only[ita,Zdb,Wkl,Zb6,and_true];(try simp[lk,Yc,Ya,AV.keys,ita,Zdb]))
   | some y =>
     have ey:isa y=[.int .i64 y.d,.int .i64 y.l,.int .u8 y.k,.vsl (y.its.map ita),.vsl (y.dms.map dma)]:=rfl;have qb:clB b a[i] = !decide (a[i]=y):=(by simp[clB,q]);rw[qb]at hs
     cases q2:decide (a[i]=y)
     . simp only[q2,W1z,if_true]at hs;by_cases z:clN a b i=[]
       . rw[z]at hs;simp -implicitDefEqProofs[clS,z,hi,ex];refine Qco (Z8X a[i]) ?_;simp -implicitDefEqProofs[clS];refine Qco (Z9A b (nums b) a[i].d a[i].l (Zai hO) hb.1.1 (Zak hL)) ?_;simp -implicitDefEqProofs[clS,q,fndA,ey];refine Qco (ZeA a[i] y hx.1 hx.2) ?_;simp -implicitDefEqProofs[clS,q2];refine Qco (Z8X a[i]) ?_;simp -implicitDefEqProofs[clS,w1,hs]
         ((try simp only[ita,Zdb]);refine Ym.sub (by simp[lk,Ya,AV.keys,ita,Zdb]) ?_;simp only[ita,Zdb,Wkl,Zb6,and_true];(try simp[lk,Yc,Ya,AV.keys,ita,Zdb]))
       . simp -implicitDefEqProofs[clS,z,hi,ex];refine Qco (Z8X a[i]) ?_;simp -implicitDefEqProofs[clS];refine Qco (Z9A b (nums b) a[i].d a[i].l (Zai hO) hb.1.1 (Zak hL)) ?_;simp -implicitDefEqProofs[clS,q,fndA,ey];refine Qco (ZeA a[i] y hx.1 hx.2) ?_;simp -implicitDefEqProofs[clS,q2];refine Qco (Z8X a[i]) ?_;simp -implicitDefEqProofs[clS,w1,hs,z,bb]
         ((try simp only[ita,Zdb]);refine Ym.sub (by simp[lk,Ya,AV.keys,ita,Zdb]) ?_;simp only[ita,Zdb,Wkl,Zb6,and_true];(try simp[lk,Yc,Ya,AV.keys,ita,Zdb]))
     . simp only[q2,W17,W05,if_false]at hs;by_cases z:clN a b i=[]
       . rw[z]at hs;simp -implicitDefEqProofs[clS,z,hi,ex];refine Qco (Z8X a[i]) ?_;simp -implicitDefEqProofs[clS];refine Qco (Z9A b (nums b) a[i].d a[i].l (Zai hO) hb.1.1 (Zak hL)) ?_;simp -implicitDefEqProofs[clS,q,fndA,ey];refine Qco (ZeA a[i] y hx.1 hx.2) ?_;simp -implicitDefEqProofs[clS,q2,w1,hs]
         ((try simp only[ita,Zdb]);refine Ym.sub (by simp[lk,Ya,AV.keys,ita,Zdb]) ?_;simp only[ita,Zdb,Wkl,Zb6,and_true];(try simp[lk,Yc,Ya,AV.keys,ita,Zdb]))
       . simp -implicitDefEqProofs[clS,z,hi,ex];refine Qco (Z8X a[i]) ?_;simp -implicitDefEqProofs[clS];refine Qco (Z9A b (nums b) a[i].d a[i].l (Zai hO) hb.1.1 (Zak hL)) ?_;simp -implicitDefEqProofs[clS,q,fndA,ey];refine Qco (ZeA a[i] y hx.1 hx.2) ?_;simp -implicitDefEqProofs[clS,q2,w1,hs,z]
         ((try simp only[ita,Zdb]);refine Ym.sub (by simp[lk,Ya,AV.keys,ita,Zdb]) ?_;simp only[ita,Zdb,Wkl,Zb6,and_true];(try simp[lk,Yc,Ya,AV.keys,ita,Zdb]))
 . intro _;refine Qga ?_;by_cases z:clN a b a.length=[]
   . simp -implicitDefEqProofs[clS,z];refine Qgr ?_;simp -implicitDefEqProofs[z,Yg,bkA]
   . have pu:((clN a b a.length).map ita).all (λr=>r.all AV.pure)=true:=(by simp[ita,AV.pure]);simp -implicitDefEqProofs[clS,z];refine Qgr ?_;simp -implicitDefEqProofs[z,pu,Yg,bkA]
def mgL (a b:Jr):List Iss:=cmpct (sortN (a++b))
def mgE (a b:Jr):List Iss×Int:=if bothE a b=0 then if clN a b a.length=[] then if openV (mgL a b)=0 then (mgL a b,0) else ([],openV (mgL a b)) else ([],23) else ([],bothE a b)
def ZeE {x:Iss} (h:issB x=true):okN x:=by
 simp only[issB,headB,W01,inR,W0b]at h;obtain ⟨⟨⟨⟨⟨h1,h2⟩,-⟩,-⟩,-⟩,-⟩:=h;exact ⟨h1.1,h1.2,h2.1,h2.2⟩
def ZeF {r:Jr} (h:Z8s r=true):∀ x∈r,okN x:=λx hx=>by
 simp only[Z8s,W01]at h;exact ZeE (W03.1 h.1.1.1.2 x hx)
def ZeG {r:Jr} (h:Z8s r=true):InjN r:=λx hx y hy e=>by
 obtain ⟨e1,e2⟩:=(Ze2 (ZeF h x hx) (ZeF h y hy)).1 e;have f1:=Zak h x hx;have f2:=Zak h y hy;rw[e1,e2,f2]at f1;exact (W1G f1).symm
def ZeH {a b:Jr} (ha:Z8s a=true) (hb:Z8s b=true) (hc:clN a b a.length=[]):InjN (a++b):=by
 have hcl:∀ x∈a,clB b x=false:=λx hx=>by
  have:(a.take a.length).filter (clB b)=[]:=(by simpa [clN] using hc);rw[W0v,W27]at this;simpa using this x hx
 have hab:∀ x∈a,∀ y∈b,kyN x=kyN y->x=y:=λx hx y hy e=>by
  obtain ⟨e1,e2⟩:=(Ze2 (ZeF ha x hx) (ZeF hb y hy)).1 e;have f2:=Zak hb y hy;have:=hcl x hx;rw[clB,e1,e2,f2]at this;simpa using this
 intro x hx y hy e;rcases W0h.1 hx with hx|hx <;> rcases W0h.1 hy with hy|hy
 . exact ZeG ha x hx y hy e
 . exact hab x hx y hy e
 . exact (hab y hy x hx e.symm).symm
 . exact ZeG hb x hx y hy e
def ZeI {l:Jr} {x:Iss}:∀ {p:Nat},p<=l.length->x∈kN l p->x∈l
 |0,_,h=>by cases h
 | p + 1,hp,h=>by
   rw[kN]at h
   split at h
   . exact ZeI (by omega) h
   . rcases W0h.1 h with h|h
     . exact ZeI (by omega) h
     . rw[W0B]at h;rw[h,Zes (by omega:p<l.length)];exact W0e _
def ZeJ {a b:Jr} {x:Iss} (h:x∈mgL a b):x∈a++b:=Ze8.1 (ZeI (W0f _) h)
def ZeK (a b:Jr):(mgL a b).length<=a.length+b.length:=by
 have:=Zem (sortN (a++b)) (sortN (a++b)).length;rw[Ze7,W0s]at this;rw[mgL,cmpct,Ze7,W0s];exact this
def ZeL {a b:Jr} (ha:Wf a) (hb:Wf b) (h1:a.length<=400) (h2:b.length<=400):Wf (mgL a b):=by
 refine ⟨⟨?_,λx hx=>?_⟩,λx hx=>?_⟩
 . have:=ZeK a b;unfold Sml;omega
 . rcases W0h.1 (ZeJ hx) with h|h
   . exact ha.1.2 x h
   . exact hb.1.2 x h
 . rcases W0h.1 (ZeJ hx) with h|h
   . exact ha.2 x h
   . exact hb.2 x h
def ZeM (x:Iss) (h1:Sml x.its) (h2:Sml x.dms):PC prog G 37 [.agg (isa x)] (.agg (isa x)):=by
 have p1:(x.its.map ita).all (λr=>r.all AV.pure)=true:=(by simp[ita,AV.pure]);have p2:(x.dms.map dma).all (λr=>r.all AV.pure)=true:=by simp[dma,AV.pure]
 (refine Z7D rfl λR hG hrd=>Qga ?_;subst hG)
 by_cases e1:x.its=[] <;> by_cases e2:x.dms=[]
 . simp -implicitDefEqProofs[Z7B,Z7C,isa,e1,e2];refine Z2T.of Za3 (by simp) ?_;simp -implicitDefEqProofs;refine Z2T.of Za4 (by simp) ?_;simp -implicitDefEqProofs;exact rfl
 . simp -implicitDefEqProofs[Z7B,Z7C,isa,e1];refine Z2T.of Za3 (by simp) ?_;simp -implicitDefEqProofs;refine Z2T.new (Za2 _ e2 h2) (by simp) (by simp[lk,St.get]) ?_;simp -implicitDefEqProofs[p2];exact rfl
 . simp -implicitDefEqProofs[Z7B,Z7C,isa,e2];refine Z2T.new (Za1 _ e1 h1) (by simp) (by simp[lk,St.get]) ?_;simp -implicitDefEqProofs;refine Z2T.of Za4 (by simp) ?_;simp -implicitDefEqProofs[p1];exact rfl
 . simp -implicitDefEqProofs[Z7B,Z7C,isa];refine Z2T.new (Za1 _ e1 h1) (by simp) (by simp[lk,St.get]) ?_;simp -implicitDefEqProofs;refine Z2T.new (Za2 _ e2 h2) (by simp) (by simp[lk,St.get]) ?_;simp -implicitDefEqProofs[p1,p2];exact rfl
def fM (l:Jr) (i:Nat):St:=match i with
 |0=>⟨[(35,.int .i64 0),(34,.int .i64 l.length),(33,.vsl (l.map isa)),(9,.ptr 9 0),(4,.ptr 4 0)],[(9,.box [.nils]),(4,.box [.nils])]⟩
 |i+1=>⟨[(35,.int .i64 (i+1:Nat)),(34,.int .i64 l.length),(33,.vsl (l.map isa)),(9,.ptr 9 0),(4,.ptr 4 0)],[(9,.box [.osl 44 (i+1)]),(4,.box [.nils]),(44,.row 5 (twR l (i+1)))]⟩
def ZeN (hG:GC G) (a b:Jr) (ha:Wf a) (hb:Wf b) (hs:bothE a b=0->a.length+b.length<20):PC prog G 10 [rega a,rega b] (.tup [rega (mgE a b).1,.int .i64 (mgE a b).2]):=by
 obtain ⟨bk,hcl⟩:=ZeD hG a b ha hb;by_cases k0:bothE a b=0
 case neg =>
  refine PC.nzR (v:=.tup [.agg [.nils],.int .i64 (bothE a b)]) ?_ (by simp[nz,mgE,k0,rega])
  (refine Zc9 rfl λR hG hrd=>Qga ?_;subst hG)
  simp -implicitDefEqProofs[Zc7,Zc8,rega];rw[rega,rega]at hcl;refine Qco (hcl) ?_;simp -implicitDefEqProofs[k0]
 by_cases k1:clN a b a.length=[]
 case neg =>
  refine PC.nzR (v:=.tup [.agg [.nils],.int .i64 23]) ?_ (by simp[nz,mgE,k0,k1,rega]);have ev:clE a b=clN a b a.length:=(by simp[clE,k0]);have hl:0<(clN a b a.length).length:=List.length_pos_iff.2 k1
  (refine Zc9 rfl λR hG hrd=>Qga ?_;subst hG)
  simp -implicitDefEqProofs[Zc7,Zc8,rega];rw[rega,rega,ev]at hcl;refine Qco (hcl) ?_;simp -implicitDefEqProofs[k0,hl]
 have ev:clE a b=[]:=by simp[clE,k0,k1]
 have oa:openV a=0:=by
  unfold bothE at k0;split at k0
  . assumption
  . exact k0
 have ob:openV b=0:=(by simpa [bothE,oa] using k0);have la:=Zaa oa;have lb:=Zaa ob;have sa:=Zac la;have sb:=Zac lb;have na:a≠[]:=(by rintro rfl;simp at sa);have nb:b≠[]:=(by rintro rfl;simp at sb);have hwf:=ZeL ha hb (by omega) (by omega);have hsm:=hs k0;have hin:=ZeH la lb k1
 have hok:∀ x∈a++b,okN x:=λx hx=>by
  rcases W0h.1 hx with h|h
  . exact ZeF la x h
  . exact ZeF lb x h
 have hcc:=Ze0 (G:=G) a b na nb (by omega) (by omega)
 have hwx:∀ x∈a++b,Sml x.its/\Sml x.dms:=λx hx=>by
  rcases W0h.1 hx with h|h
  . exact ha.1.2 x h
  . exact hb.1.2 x h
 have hll:(a++b).length<20:=(by rw[W0s];exact hsm);have hl0:0<(a++b).length:=(by rw[W0s];omega);have hsp:=Zel (G:=G) (a++b) hok hin hll;have hcp:=Zev (G:=G) (sortN (a++b)) (by rw[Ze7];omega);have hck:=Zam hG (mgL a b) hwf;have hmv:mgE a b=if openV (mgL a b)=0 then (mgL a b,0) else ([],openV (mgL a b)):=by simp[mgE,k0,k1]
 have hcm:cmpct (sortN (a++b))=mgL a b:=rfl;have hmn:=ZeK a b;rw[hmv];rw[rega,rega,ev,k0]at hcl;refine PC.nzR (v:=.tup [.agg [if openV (mgL a b)=0 then .vsl ((mgL a b).map isa) else .nils],.int .i64 (openV (mgL a b))]) ?_ (by by_cases ko:openV (mgL a b)=0 <;> simp[nz,ko,rega])
 (refine Zc9 rfl λR hG hrd=>Qga ?_;subst hG)
 simp -implicitDefEqProofs[Zc7,Zc8,rega];refine Qco (hcl) ?_;simp -implicitDefEqProofs;unfold ccA at hcc;generalize a++b=l at *;refine Qco (hcc) ?_;simp -implicitDefEqProofs;refine Z8h (fM l) (λ_=>True) l.length (by simp only[fM];(first|exact Wka|exact Wkb)) trivial ?_ ?_
 . intro i hi _;refine Qga ?_;have hx:=hwx l[i] (W0e hi);have tk:=ZaH hi;have ln:=ZaG (Nat.le_of_lt hi);have cp:=ZeM (G:=R.G) l[i] hx.1 hx.2;have ex:isa l[i]=[.int .i64 l[i].d,.int .i64 l[i].l,.int .u8 l[i].k,.vsl (l[i].its.map ita),.vsl (l[i].dms.map dma)]:=rfl;rw[ex]at cp
   cases i with
   | zero =>
     have w1:i64.wrap 1=1:=rfl;have tk0:twR l 1=[[.int .i64 l[0].d,.int .i64 l[0].l,.int .u8 l[0].k,.vsl (l[0].its.map ita),.vsl (l[0].dms.map dma)]]:=(by rw[tk];simp[twR]);simp -implicitDefEqProofs[fM,hi,ex];refine Qco (cp) ?_;simp -implicitDefEqProofs[w1,fM];refine ⟨rfl,?_⟩;exact Ym.sub (by simp[lk,Ya,AV.keys]) (by simp[lk,Yc,Ya,AV.keys,tk0])
   | succ i =>
     have w1:i64.wrap ((i:Int)+1+1)=(i:Int)+1+1:=Yf;have k1:(i:Int)+1<l.length:=(by omega);have k2:((i:Int)+1).toNat=i+1:=(by omega);have k3:(0:Int)<=(i:Int)+1:=(by omega);have b2:(i+1+1)*72<=70368744177664:=(by omega);simp -implicitDefEqProofs[fM,hi,k1,k2,k3,ex];refine Qco (cp) ?_;simp -implicitDefEqProofs[w1,b2,ln];refine ⟨rfl,?_⟩;refine Ym.sub (by simp[lk,Ya,AV.keys]) ?_;simp only[W0g,W0Q,or_false,W1H,forall_eq,ZaI,and_true];simp[lk,Yc,Ya,AV.keys,tk]
 . intro _;refine Qga ?_;obtain ⟨n,hn⟩ : ∃ n,l.length=n+1:=⟨l.length-1,by omega⟩;have e1:twR l (n+1)=l.map isa:=(by rw[<- hn,ZaJ]);have k1:¬(n:Int)+1<n+1:=(by omega);rw[hn];rw[hn]at hsp;simp -implicitDefEqProofs[fM,hn,k1,e1];refine Qgr ?_;simp -implicitDefEqProofs;refine Yd.sem (Z1B.byref hsp (λ_=>44) (by simp) (by simp) (by simp[St.get,lk,Zej]) (by simp[ZdZ]) (by simp[Ya,AV.keys,lk,fM1]) rfl (by simp[AV.ren,fM1]) rfl rfl) ?_;simp -implicitDefEqProofs[Yl,Zej];have ls:(sortN l).length=n+1:=(by rw[Ze7,hn]);rw[ls]at hcp;refine Yd.sem (Z1B.byref hcp (λ_=>44) (by simp) (by simp) (by simp[St.get,lk,Zej]) (by simp[ZdZ]) (by simp[Ya,AV.keys,lk,fM2]) rfl (by simp[AV.ren,fM2]) rfl rfl) ?_;have hcv:cmpV 1000 (sortN l)=if (mgL a b).length=n+1 then .osl 1000 (n+1) else .oss 1000 (n+1) 0 (mgL a b).length:=by rw[cmpV,hcm,ls]
   have hco:cmpO (sortN l)=(mgL a b).map isa++List.replicate (n+1-(mgL a b).length) zrI:=(by rw[cmpO,hcm,ls]);rw[hcv,hco];generalize mgL a b=m at *;by_cases hm:m.length=n+1
   . have hr:List.replicate (n+1-m.length) zrI=[]:=(by rw[hm,Nat.sub_self];rfl);rw[if_pos hm,hr,W1B];have pu:=ZdY m;rw[rega]at hck;simp -implicitDefEqProofs[Yl,Zej,AV.ren];refine Yd.flat hck (by simp[AV.flat]) (by simp[pu,hm]) ?_;by_cases ko:openV m=0
     . simp -implicitDefEqProofs[ko,pu,hm]
     . simp -implicitDefEqProofs[ko]
   . rw[if_neg hm]
     have hml:m.length<=n+1:=by
      have:=Zem (sortN l) (sortN l).length;rw[<- hcm,<- ls];exact this
     have hRl:(m.map isa++List.replicate (n+1-m.length) zrI).length=n+1:=(by simp;omega);have hRt:(m.map isa++List.replicate (n+1-m.length) zrI).take m.length=m.map isa:=by rw[List.take_left'];simp
     have hRn:AObj.ren (λ_=>44) (.row 5 (m.map isa++List.replicate (n+1-m.length) zrI)) = .row 5 (m.map isa++List.replicate (n+1-m.length) zrI):=by
      have h:=Zej (λ_=>44) m;simp only[AObj.ren,AObj.row.injEq,true_and]at h ⊢;rw[W0r,h];simp[zrI,AV.ren]
     generalize m.map isa++List.replicate (n+1-m.length) zrI=RR at *;have pu:=ZdY m;rw[rega]at hck;simp -implicitDefEqProofs[Yl,hRn,AV.ren];refine Yd.flat hck (by simp[AV.flat]) (by simp[pu,hRl,hRt,hml]) ?_;by_cases ko:openV m=0
     . simp -implicitDefEqProofs[ko,pu,hRl,hRt,hml]
     . simp -implicitDefEqProofs[ko]
section
open Qq Go.Proofs.Tryd
end
def ok2 {a b:Jr} (ha:Z8s a=true) (hb:Z8s b=true):∀ x∈a++b,okN x:=λx hx=>(W0h.1 hx).elim (ZeF ha x) (ZeF hb x)
section
open Qq Go.Proofs.Tryd
end
def regL:List Iss:=[⟨10,1,1,[(20,2),(30,1)],[]⟩,⟨10,2,1,[(20,1),(30,2),(40,2)],[]⟩,⟨20,1,1,[(30,3),(50,1)],[]⟩,
 ⟨30,1,2,[],[⟨150,100,200⟩]⟩,⟨30,2,2,[],[⟨150,120,200⟩]⟩,⟨40,1,2,[],[]⟩,⟨50,1,3,[],[]⟩]
def ZeO:nums regL=[10,20,30,40,50]:=by decide
def ZeP:openV regL=0:=by decide +kernel
def ZeQ:exV regL [1,1,1,1,1] 10=([(30,7),(50,2)],0):=by decide +kernel
def ZeR:useE regL 30=([(10,1),(10,2),(20,1)],0):=by decide +kernel
def ZeS:abE regL [2,1,1,1,1] 40=([10],0):=by decide +kernel
def ZeT:difE regL 10 1 2=([⟨20,2,1⟩,⟨30,1,2⟩,⟨40,0,2⟩],[],0):=by decide +kernel
def ZeU:cntV regL 30=2:=by decide +kernel
def ZeV:dpG (dRun regL (nums regL).length).1 10=3:=by decide +kernel
def ZeW:Wf regL:=by
 refine ⟨⟨by unfold Sml;decide,?_⟩,by decide⟩;unfold Sml;decide
def ZeX:trE regL [1,1,2,1,1] 10=([⟨0,10,1,1⟩,⟨1,20,1,2⟩,⟨2,30,2,3⟩,⟨2,50,1,1⟩,⟨1,30,2,1⟩],0):=by decide +kernel
def regD:List Iss:=[⟨10,1,1,[(20,2),(30,1)],[]⟩,⟨10,1,1,[(20,2),(30,1)],[]⟩,⟨10,2,1,[(20,1),(30,2),(40,2)],[]⟩,⟨10,2,1,[(20,1),(30,2),(40,2)],[]⟩,⟨20,1,1,[(30,3),(50,1)],[]⟩,⟨20,1,1,[(30,3),(50,1)],[]⟩,
 ⟨30,1,2,[],[⟨150,100,200⟩]⟩,⟨30,1,2,[],[⟨150,100,200⟩]⟩,⟨30,2,2,[],[⟨150,120,200⟩]⟩,⟨30,2,2,[],[⟨150,120,200⟩]⟩,⟨40,1,2,[],[]⟩,⟨40,1,2,[],[]⟩,⟨50,1,3,[],[]⟩,⟨50,1,3,[],[]⟩]
def ZeY:clN regL regL regL.length=[]:=by decide +kernel
def ZeZ:sortN (regL++regL)=regD:=by
 have hL:=Zaa ZeP;refine Ze6 (ZeH hL hL ZeY) (by decide +kernel) ?_;unfold SrtN
 decide +kernel
def Zf0:mgE regL regL=(regL,0):=by
 have e:mgL regL regL=regL:=by
  rw[mgL,ZeZ]
  decide +kernel
 simp[mgE,bothE,ZeP,ZeY,e]
def Zf1:findN 30 2 regL=some ⟨30,2,2,[],[⟨150,120,200⟩]⟩:=by decide +kernel
def Zf2 (d c:Int):PC prog G 26 [.int .i64 d,.int .i64 c] (.agg [.int .i64 d,.int .i64 c]):=by
 (refine ZcM rfl λR hG hrd=>Qga ?_;subst hG)
 simp -implicitDefEqProofs[ZcK,ZcL]
def Zf3 (d l:Int) (its:List (Int×Int)):PC prog G 56 [.int .i64 d,.int .i64 l,.vsl (its.map ita)] (.agg (isa ⟨d,l,1,its,[]⟩)):=by
 refine PC.nzR (v:=.agg [.int .i64 d,.int .i64 l,.int .u8 1,.vsl (its.map ita),.nils]) ?_ (by simp[nz,isa])
 (refine ZcG rfl λR hG hrd=>Qga ?_;subst hG)
 simp -implicitDefEqProofs[ZcE,ZcF]
def Zf4 (d l k:Int) (dms:List Dm):PC prog G 57 [.int .i64 d,.int .i64 l,.int .u8 k,.vsl (dms.map dma)] (.agg (isa ⟨d,l,k,[],dms⟩)):=by
 refine PC.nzR (v:=.agg [.int .i64 d,.int .i64 l,.int .u8 k,.nils,.vsl (dms.map dma)]) ?_ (by simp[nz,isa])
 (refine ZcJ rfl λR hG hrd=>Qga ?_;subst hG)
 simp -implicitDefEqProofs[ZcH,ZcI]
def Zf5 (d l k:Int):PC prog G 57 [.int .i64 d,.int .i64 l,.int .u8 k,.nils] (.agg (isa ⟨d,l,k,[],[]⟩)):=by
 refine PC.nzR (v:=.agg [.int .i64 d,.int .i64 l,.int .u8 k,.nils,.nils]) ?_ (by simp[nz,isa])
 (refine ZcJ rfl λR hG hrd=>Qga ?_;subst hG)
 simp -implicitDefEqProofs[ZcH,ZcI]
def Zf6:PC prog G 23 [] (.vsl (([1,1,1,1,1]:List Int).map ia)):=by
 (refine ZcA rfl λR hG hrd=>Qga ?_;subst hG)
 simp -implicitDefEqProofs[Zcy,Zcz,ia];rfl
def Zf7:PC prog G 20 [] (.vsl (([2,1,1,1,1]:List Int).map ia)):=by
 (refine ZcD rfl λR hG hrd=>Qga ?_;subst hG)
 simp -implicitDefEqProofs[ZcB,ZcC,ia];rfl
def Zf8:PC prog G 19 [] (rega regL):=by
 (refine Zcx rfl λR hG hrd=>Qga ?_;subst hG)
 simp -implicitDefEqProofs[Zcv,Zcw];refine Qco (Zf2 20 2) ?_;simp -implicitDefEqProofs;refine Qco (Zf2 30 1) ?_;simp -implicitDefEqProofs;refine Qco (Zf3 10 1 [(20,2),(30,1)]) ?_;simp -implicitDefEqProofs[isa];refine Qco (Zf2 20 1) ?_;simp -implicitDefEqProofs;refine Qco (Zf2 30 2) ?_;simp -implicitDefEqProofs;refine Qco (Zf2 40 2) ?_;simp -implicitDefEqProofs;refine Qco (Zf3 10 2 [(20,1),(30,2),(40,2)]) ?_;simp -implicitDefEqProofs[isa];refine Qco (Zf2 30 3) ?_;simp -implicitDefEqProofs;refine Qco (Zf2 50 1) ?_;simp -implicitDefEqProofs;refine Qco (Zf3 20 1 [(30,3),(50,1)]) ?_;simp -implicitDefEqProofs[isa];refine Qco (Zf4 30 1 2 [⟨150,100,200⟩]) ?_;simp -implicitDefEqProofs[isa];refine Qco (Zf4 30 2 2 [⟨150,120,200⟩]) ?_;simp -implicitDefEqProofs[isa];refine Qco (Zf5 40 1 2) ?_;simp -implicitDefEqProofs[isa];refine Qco (Zf5 50 1 3) ?_;simp -implicitDefEqProofs[isa,rega,regL,ita,dma];rfl
def at_pc (hG:GC G) (r:Jr) (d l:Int) (h:Wf r):PC prog G 29 [rega r,.agg [.int .i64 d,.int .i64 l]] (.tup [.agg (isa (atP r d l).1),.int .i64 (atP r d l).2]):=by
 by_cases e:openV r=0
 case neg =>
  refine PC.nzR (v:=.tup [.agg [.int .i64 0,.int .i64 0,.int .u8 0,.nils,.nils],.int .i64 (openV r)]) ?_ (by simp[nz,atP,e,zI,isa])
  (refine Z7W rfl λR hG hrd=>Qga ?_;subst hG)
  simp -implicitDefEqProofs[Z7U,Z7V,rega];refine Qco (Za9 hG r h) ?_;simp -implicitDefEqProofs[openA,e]
 have hL:=Zaa e;have hO:=Z8x hL
 cases hf:findN d l r with
 | none =>
   refine PC.nzR (v:=.tup [.agg [.int .i64 0,.int .i64 0,.int .u8 0,.nils,.nils],.int .i64 6]) ?_ (by simp[nz,atP,e,hf,zI,isa])
   (refine Z7W rfl λR hG hrd=>Qga ?_;subst hG)
   simp -implicitDefEqProofs[Z7U,Z7V,rega];refine Qco (Za9 hG r h) ?_;simp -implicitDefEqProofs[openA,e];refine Qco (Z9A r (nums r) d l (Zai hO) h.1.1 (Zak hL)) ?_;simp -implicitDefEqProofs[hf,fndA,noIs]
 | some x =>
   have ev:atP r d l=(x,0):=(by simp[atP,e,hf]);have hx:=h.1.2 x (Z8I hf).1;have ex:isa x=[.int .i64 x.d,.int .i64 x.l,.int .u8 x.k,.vsl (x.its.map ita),.vsl (x.dms.map dma)]:=rfl;have cp:=ZeM (G:=G) x hx.1 hx.2;rw[ev];rw[ex]at cp
   (refine Z7W rfl λR hG hrd=>Qga ?_;subst hG)
   simp -implicitDefEqProofs[Z7U,Z7V,rega];refine Qco (Za9 hG r h) ?_;simp -implicitDefEqProofs[openA,e];refine Qco (Z9A r (nums r) d l (Zai hO) h.1.1 (Zak hL)) ?_;simp -implicitDefEqProofs[hf,fndA,ex];refine Qco (cp) ?_;simp -implicitDefEqProofs[ex]
attribute [local simp] Z8H
set_option maxRecDepth 100000 in
def Zf9 (hG:GC G):PC prog G 14 [] (.bool true):=by
 have hM:=ZeN hG regL regL ZeW ZeW (λ_=>by decide);rw[Zf0]at hM;have hA:=at_pc hG regL 30 2 ZeW;have eA:atP regL 30 2=(⟨30,2,2,[],[⟨150,120,200⟩]⟩,0):=(by simp[atP,ZeP,Zf1]);rw[eA]at hA;have k10:knV regL 10=0:=(by decide +kernel);have k30:knV regL 30=0:=(by decide +kernel);have hD:=Zan hG regL ZeW;rw[ZeP,if_pos rfl,ZeO]at hD;have hE:=Zdz hG regL [1,1,1,1,1] 10 ZeW;rw[ZeQ]at hE;have hT:=ZdJ hG regL [1,1,2,1,1] 10 ZeW;rw[ZeX]at hT;have hU:=Zdm hG regL 30 ZeW;rw[ZeR]at hU;have hB:=Zdn hG regL [2,1,1,1,1] 40 ZeW;rw[ZeS]at hB;have hF:=Zdy hG regL 10 1 2 ZeW;rw[ZeT]at hF;have hP:=Zap hG regL 10 ZeW;rw[k10,if_pos rfl,ZeV]at hP;have hL:=Zao hG regL 30 ZeW;rw[k30,if_pos rfl,ZeU]at hL;have r5:List.range 5=[0,1,2,3,4]:=rfl;have hR:=Zf8 (G:=G);have hR1:=Zf6 (G:=G);have hR2:=Zf7 (G:=G);simp only[W0F,W1c,ia,ita,bra,dma]at hD hE hT hU hB hF hR1 hR2
 (refine ZcP rfl λR hG hrd=>Qga ?_;subst hG)
 simp -implicitDefEqProofs[ZcN,ZcO];refine Qco (hR) ?_;simp -implicitDefEqProofs;refine Qco (hD) ?_;simp -implicitDefEqProofs;refine Qco (hR) ?_;simp -implicitDefEqProofs;refine Qco (hR1) ?_;simp -implicitDefEqProofs;refine Qco (hE) ?_;simp -implicitDefEqProofs;refine Qco (hR) ?_;simp -implicitDefEqProofs[r5];refine Qco (hT) ?_;simp -implicitDefEqProofs;refine Qco (hR) ?_;simp -implicitDefEqProofs;refine Qco (hU) ?_;simp -implicitDefEqProofs;refine Qco (hR) ?_;simp -implicitDefEqProofs;refine Qco (hR2) ?_;simp -implicitDefEqProofs;refine Qco (hB) ?_;simp -implicitDefEqProofs;refine Qco (hR) ?_;simp -implicitDefEqProofs;refine Qco (hF) ?_;simp -implicitDefEqProofs;refine Qco (hR) ?_;simp -implicitDefEqProofs;refine Qco (hP) ?_;simp -implicitDefEqProofs;refine Qco (hR) ?_;simp -implicitDefEqProofs;refine Qco (hL) ?_;simp -implicitDefEqProofs;refine Qco (hR) ?_;simp -implicitDefEqProofs;refine Qco (hA) ?_;simp -implicitDefEqProofs[isa,dma];refine Qco (hR) ?_;simp -implicitDefEqProofs;refine Qco (hR) ?_;simp -implicitDefEqProofs;simp only[rega]at hM;refine Qco (hM) ?_;have hI:=Z8i (G:=R.G) [10,20,30,40,50] [10,20,30,40,50] (by unfold Sml;decide);have hI1:=Z8i (G:=R.G) [10] [10] (by unfold Sml;decide);have hIt:=Z8m (G:=R.G) [(30,7),(50,2)] [(30,7),(50,2)] (by unfold Sml;decide);have hBr:=Zb8 (G:=R.G) [⟨0,10,1,1⟩,⟨1,20,1,2⟩,⟨2,30,2,3⟩,⟨2,50,1,1⟩,⟨1,30,2,1⟩] [⟨0,10,1,1⟩,⟨1,20,1,2⟩,⟨2,30,2,3⟩,⟨2,50,1,1⟩,⟨1,30,2,1⟩] (by unfold Sml;decide);have hRf:=Zbw (G:=R.G) [(10,1),(10,2),(20,1)] [(10,1),(10,2),(20,1)] (by unfold Sml;decide);have hCh:=Zbx (G:=R.G) [⟨20,2,1⟩,⟨30,1,2⟩,⟨40,0,2⟩] [⟨20,2,1⟩,⟨30,1,2⟩,⟨40,0,2⟩] (by unfold Sml;decide);have hSi:=Z8n (G:=R.G) ⟨30,2,2,[],[⟨150,120,200⟩]⟩ ⟨30,2,2,[],[⟨150,120,200⟩]⟩ (by unfold Sml;decide) (by unfold Sml;decide);have hSm:=Z8o (G:=R.G) regL regL ZeW.1;rw[W0M rfl]at hI hI1 hIt hBr hRf hCh hSi hSm;simp only[W0F,W1c,ia,ita,bra,dma,isa]at hI hI1 hIt hBr hRf hCh hSi;simp -implicitDefEqProofs[r5];refine Qco (hI) ?_;simp -implicitDefEqProofs;refine Qco (Zf2 30 7) ?_;simp -implicitDefEqProofs;refine Qco (Zf2 50 2) ?_;simp -implicitDefEqProofs;refine Qco (hIt) ?_;simp -implicitDefEqProofs;refine Qco (hBr) ?_;simp -implicitDefEqProofs;refine Qco (hRf) ?_;simp -implicitDefEqProofs;refine Qco (hI1) ?_;simp -implicitDefEqProofs;refine Qco (hCh) ?_;simp -implicitDefEqProofs;refine Qco (hR) ?_;have e0:rega regL = .agg [.vsl (regL.map isa)]:=rfl;have gl:regL.length=7:=rfl;have g4:regL[4]? = some ⟨30,2,2,[],[⟨150,120,200⟩]⟩:=rfl;have g4':∀ h:4<regL.length,regL[4]'h=⟨30,2,2,[],[⟨150,120,200⟩]⟩:=λ_=>rfl
 simp -implicitDefEqProofs[e0,gl,g4,g4',isa,dma];refine Qco (hSi) ?_;simp -implicitDefEqProofs;refine Qco (hR) ?_;rw[e0]at hSm ⊢;simp -implicitDefEqProofs;refine Ye.of hSm (by simp[AV.pure,isa]) ?_;simp -implicitDefEqProofs;exact rfl
def Zfa (hG:GC G) (a b:Jr) (ha:Wf a) (hb:Wf b):PC prog G 8 [rega a,rega b] (.tup [.vsl ((clE a b).map ita),.int .i64 (bothE a b)]):=by
 obtain ⟨bk,hcl⟩:=ZeD hG a b ha hb;rw[rega,rega]at hcl
 (refine Zcc rfl λR hG hrd=>Qga ?_;subst hG)
 simp -implicitDefEqProofs[Zca,Zcb,rega];refine Qco (hcl) ?_;simp -implicitDefEqProofs
def rgO:List (List AV):=[[.int .i64 30,.int .i64 3],[.int .i64 50,.int .i64 1]]
def rgZ (x:AV):List (List AV):=[[.int .i64 10,.int .i64 1,.int .u8 1,.vsl [[.int .i64 20,.int .i64 2],[.int .i64 30,.int .i64 1]],.vsl []],[.int .i64 10,.int .i64 2,.int .u8 1,.vsl [[.int .i64 20,.int .i64 1],[.int .i64 30,.int .i64 2],[.int .i64 40,.int .i64 2]],.vsl []],
 [.int .i64 20,.int .i64 1,.int .u8 1,x,.nils],
 [.int .i64 30,.int .i64 1,.int .u8 2,.vsl [],.vsl [[.int .i64 150,.int .i64 100,.int .i64 200]]],[.int .i64 30,.int .i64 2,.int .u8 2,.vsl [],.vsl [[.int .i64 150,.int .i64 120,.int .i64 200]]],[.int .i64 40,.int .i64 1,.int .u8 2,.vsl [],.vsl []],[.int .i64 50,.int .i64 1,.int .u8 3,.vsl [],.vsl []]]
def rgK:Nat->Bool:=λk=>decide (k<1000) && !decide (k=22) && !decide (k=12)
def exRd:List Iss:=[⟨10,1,1,[(20,2),(30,1)],[]⟩,⟨10,2,1,[(20,1),(30,2),(40,2)],[]⟩,⟨20,1,1,[(10,1),(30,3),(50,1)],[]⟩,
 ⟨30,1,2,[],[⟨150,100,200⟩]⟩,⟨30,2,2,[],[⟨150,120,200⟩]⟩,⟨40,1,2,[],[]⟩,⟨50,1,3,[],[]⟩]
def exOd:List Iss:=[⟨10,1,1,[(20,2),(30,1)],[]⟩,⟨10,2,1,[(20,1),(30,2),(40,2)],[]⟩,⟨20,1,1,[(30,3),(60,1)],[]⟩,
 ⟨30,1,2,[],[⟨150,100,200⟩]⟩,⟨30,2,2,[],[⟨150,120,200⟩]⟩,⟨40,1,2,[],[]⟩,⟨50,1,3,[],[]⟩]
def exSz:List Iss:=[⟨10,1,1,[(20,2),(30,1)],[]⟩,⟨10,2,1,[(20,1),(30,2),(40,2)],[]⟩,⟨20,1,1,[(30,3),(50,1)],[]⟩,
 ⟨30,1,2,[],[⟨150,100,200⟩]⟩,⟨30,2,2,[],[⟨150,120,200⟩]⟩,⟨40,1,2,[],[]⟩,⟨50,1,3,[],[⟨150,100,200⟩]⟩]
def Zfb:openV exRd=21:=by decide +kernel
def Zfc:openV exOd=20:=by decide +kernel
def Zfd:Wf exRd:=⟨⟨by unfold Sml;decide,by unfold Sml;decide⟩,by decide⟩
def Zfe:Wf exOd:=⟨⟨by unfold Sml;decide,by unfold Sml;decide⟩,by decide⟩
def Zff:Wf exSz:=⟨⟨by unfold Sml;decide,by unfold Sml;decide⟩,by decide⟩
def Zfg:exV regL [2,1,1,1,1] 10=([(30,5),(40,2),(50,1)],0):=by decide +kernel
def Zfh:dpG (dRun regL (nums regL).length).1 30=1:=by decide +kernel
def Zfi:abE regL [1,1,1,1,1] 40=([],0):=by decide +kernel
def Zfj:difE regL 30 1 2=([],[0],0):=by decide +kernel
def Zfk:clE regL exSz=[(50,1)]:=by decide +kernel
def Zfl:bothE regL exSz=0:=by decide +kernel
def Zfm:mgE regL exSz=([],23):=by
 have h:clN regL exSz regL.length=[(50,1)]:=(by decide +kernel);simp[mgE,Zfl,h]
def Zfn:knV regL 60=6:=by decide +kernel
def ex_at:atP regL 10 3=(zI,6):=by decide +kernel
def Zfo:exV regL [1,1,1,1] 60=([],22):=by decide +kernel
def Zfp:trE regL [1,1,1,1,1] 60=([],6):=by decide +kernel
def Zfq:difE regL 10 1 3=([],[],6):=by decide +kernel
def Zfr:useE exOd 10=([],20):=by decide +kernel
def Zfs:PB prog G 56 [(1000,.row 2 rgO)] [.int .i64 20,.int .i64 1,.osl 1000 2] (.agg [.int .i64 20,.int .i64 1,.int .u8 1,.osl 1000 2,.nils]) [(1000,.row 2 rgO)]:=by
 refine Z5i newK (by intro k hk;simpa [newK] using hk) Tryd.func56 rfl (by kernel_rfl) (rc:=ZcE) (by kernel_rfl) (rs:=ZcF) (by kernel_rfl) (W0C rfl) (λR _ hG hr=>Qga ?_);subst hG;simp -implicitDefEqProofs[ZcE,ZcF,rgO];simp -implicitDefEqProofs[FinO,Yi,newK,frzA,frzO,frz,AV.keys]
def Zft:PB prog G 19 [] [] (.agg [.osl 22 7]) [(12,.row 2 rgO),(22,.row 5 (rgZ (.osl 12 2)))]:=by
 have hA:=Zfs (G:=G);unfold rgO at hA;refine Z5i rgK (by intro k hk;simp[rgK]at hk;omega) Tryd.func19 rfl (by kernel_rfl) (rc:=Z5o) (by kernel_rfl) (rs:=Z5p) (by kernel_rfl) (W0C rfl) λR _ hG' hrd=>Qga ?_
 have r2:List.range 2=[0,1]:=rfl;have r3:List.range 3=[0,1,2]:=rfl;have r7:List.range 7=[0,1,2,3,4,5,6]:=rfl;subst hG';simp -implicitDefEqProofs[Z5o,Z5p];refine Qco (Zf2 20 2) ?_;simp -implicitDefEqProofs;refine Qco (Zf2 30 1) ?_;simp -implicitDefEqProofs;refine Qco (Zf3 10 1 [(20,2),(30,1)]) ?_;simp -implicitDefEqProofs[isa];refine Qco (Zf2 20 1) ?_;simp -implicitDefEqProofs;refine Qco (Zf2 30 2) ?_;simp -implicitDefEqProofs;refine Qco (Zf2 40 2) ?_;simp -implicitDefEqProofs;refine Qco (Zf3 10 2 [(20,1),(30,2),(40,2)]) ?_;simp -implicitDefEqProofs[isa];refine Qco (Zf2 30 3) ?_;simp -implicitDefEqProofs;refine Qco (Zf2 50 1) ?_;simp -implicitDefEqProofs[r2];refine Yd.sem (Z1B.byref hA (λ_=>12) (by simp) (by simp) (by simp[St.get,lk,AObj.ren,AV.ren]) (by simp[Yc,Ya,AV.keys]) (by simp[Ya,AV.keys,lk]) rfl (by simp[AV.ren]) rfl rfl) ?_;simp -implicitDefEqProofs[Yl,AObj.ren,AV.ren];refine Qco (Zf4 30 1 2 [⟨150,100,200⟩]) ?_;simp -implicitDefEqProofs[isa];refine Qco (Zf4 30 2 2 [⟨150,120,200⟩]) ?_;simp -implicitDefEqProofs[isa];refine Qco (Zf5 40 1 2) ?_;simp -implicitDefEqProofs[isa];refine Qco (Zf5 50 1 3) ?_;simp -implicitDefEqProofs[isa,ita,dma,r7,FinO,Yi,rgK,frzO,frzA,frz,AV.keys,rgZ,rgO]
def NsubQ:List (List AV)->List (List AV)->Prop
 |[],[]=>True
 |x::xs,y::ys=>NsubL x y/\NsubQ xs ys
 |_,_=>False
def NsubQ.len:∀ {xs ys:List (List AV)},NsubQ xs ys->xs.length=ys.length
 |[],[],_=>rfl
 |_::_,_::_,h=>by simp only[W1o,NsubQ.len h.2]
 |[],_::_,h=>h.elim
 |_::_,[],h=>h.elim
def NsubQ.at:∀ {xs ys:List (List AV)},NsubQ xs ys->∀ (i:Nat) (y:List AV),ys[i]? = some y->∃ x,xs[i]? = some x/\NsubL x y
 |[],[],_,i,y,h=>by simp at h
 | x::xs,y::ys,h,0,z,e=>by
   simp only[W23,W00]at e;subst e;exact ⟨x,rfl,h.1⟩
 | x::xs,y::ys,h,i+1,z,e=>by
   simp only[List.getElem?_cons_succ]at e;obtain ⟨w,h1,h2⟩:=NsubQ.at h.2 i z e;exact ⟨w,by simpa using h1,h2⟩
 |[],_::_,h,_,_,_=>h.elim
 |_::_,[],h,_,_,_=>h.elim
def Nsub.vslQ {xs ys:List (List AV)} (h:NsubQ xs ys):Nsub (.vsl xs) (.vsl ys):=λM W u hu=>by
 have hl:=h.len
 cases hu with
 | vsl _ a cap sz b o f hcap hmax ha hn hs hc hr =>
   rw[hl];refine .vsl ys a cap sz b o f (by omega) hmax (λe=>ha λe2=>e ?_) (λe=>⟨?_,(hn e).2⟩) (λr hr=>?_) (λi j hi hj=>hc i j (by omega) hj) λi j ρ x hρ hx=>?_
   . rw[e2]at hl;exact List.eq_nil_of_length_eq_zero hl.symm
   . have:=(hn e).1;rw[this]at hl;exact List.eq_nil_of_length_eq_zero hl.symm
   . obtain ⟨i,hi,rfl⟩:=W0k hr;obtain ⟨x,hx,h2⟩:=h.at i _ (W07 hi);rw[<- h2.len];exact hs x (W0d hx)
   . obtain ⟨y,hy,h2⟩:=h.at i ρ hρ;obtain ⟨z,hz,h3⟩:=h2.at j x hx;exact h3 _ _ _ (hr i j y z hy hz)
def rgY (x y:AV):List (List AV):=[[.int .i64 10,.int .i64 1,.int .u8 1,.vsl [[.int .i64 20,.int .i64 2],[.int .i64 30,.int .i64 1]],.vsl []],[.int .i64 10,.int .i64 2,.int .u8 1,.vsl [[.int .i64 20,.int .i64 1],[.int .i64 30,.int .i64 2],[.int .i64 40,.int .i64 2]],.vsl []],
 [.int .i64 20,.int .i64 1,.int .u8 1,x,.nils],
 [.int .i64 30,.int .i64 1,.int .u8 2,.vsl [],.vsl [[.int .i64 150,.int .i64 100,.int .i64 200]]],[.int .i64 30,.int .i64 2,.int .u8 2,.vsl [],.vsl [[.int .i64 150,.int .i64 120,.int .i64 200]]],[.int .i64 40,.int .i64 1,.int .u8 2,.vsl [],.vsl []],[.int .i64 50,.int .i64 1,.int .u8 3,.vsl [],y]]
def ygR:List (List AV):=rgY (.vsl [[.int .i64 10,.int .i64 1],[.int .i64 30,.int .i64 3],[.int .i64 50,.int .i64 1]]) (.vsl [])
def ygO:List (List AV):=rgY (.vsl [[.int .i64 30,.int .i64 3],[.int .i64 60,.int .i64 1]]) (.vsl [])
def ygS:List (List AV):=rgY (.vsl [[.int .i64 30,.int .i64 3],[.int .i64 50,.int .i64 1]]) (.vsl [[.int .i64 150,.int .i64 100,.int .i64 200]])
def Zfu:NsubQ ygR (exRd.map isa):=⟨⟨.rfl',.rfl',.rfl',.rfl',.rfl',trivial⟩,⟨.rfl',.rfl',.rfl',.rfl',.rfl',trivial⟩,⟨.rfl',.rfl',.rfl',.rfl',.nils,trivial⟩,⟨.rfl',.rfl',.rfl',.rfl',.rfl',trivial⟩,⟨.rfl',.rfl',.rfl',.rfl',.rfl',trivial⟩,⟨.rfl',.rfl',.rfl',.rfl',.rfl',trivial⟩,⟨.rfl',.rfl',.rfl',.rfl',.rfl',trivial⟩,trivial⟩
def Zfv:NsubQ ygO (exOd.map isa):=⟨⟨.rfl',.rfl',.rfl',.rfl',.rfl',trivial⟩,⟨.rfl',.rfl',.rfl',.rfl',.rfl',trivial⟩,⟨.rfl',.rfl',.rfl',.rfl',.nils,trivial⟩,⟨.rfl',.rfl',.rfl',.rfl',.rfl',trivial⟩,⟨.rfl',.rfl',.rfl',.rfl',.rfl',trivial⟩,⟨.rfl',.rfl',.rfl',.rfl',.rfl',trivial⟩,⟨.rfl',.rfl',.rfl',.rfl',.rfl',trivial⟩,trivial⟩
def Zfw:NsubQ ygS (exSz.map isa):=⟨⟨.rfl',.rfl',.rfl',.rfl',.rfl',trivial⟩,⟨.rfl',.rfl',.rfl',.rfl',.rfl',trivial⟩,⟨.rfl',.rfl',.rfl',.rfl',.nils,trivial⟩,⟨.rfl',.rfl',.rfl',.rfl',.rfl',trivial⟩,⟨.rfl',.rfl',.rfl',.rfl',.rfl',trivial⟩,⟨.rfl',.rfl',.rfl',.rfl',.rfl',trivial⟩,⟨.rfl',.rfl',.rfl',.rfl',.rfl',trivial⟩,trivial⟩
set_option maxRecDepth 100000 in
def Zfx (hG:GC G):PC prog G 5 [] (.bool true):=by
 have hA:=Zf9 hG;have hR:=Zf8 (G:=G);rw[rega]at hR;have hR1:=Zf6 (G:=G);have hR2:=Zf7 (G:=G);have hE:=Zdz hG regL [2,1,1,1,1] 10 ZeW;rw[Zfg,rega]at hE;have k30:knV regL 30=0:=(by decide +kernel);have hP:=Zap hG regL 30 ZeW;rw[k30,if_pos rfl,Zfh,rega]at hP;have hB:=Zdn hG regL [1,1,1,1,1] 40 ZeW;rw[Zfi,rega]at hB;have hF:=Zdy hG regL 30 1 2 ZeW;rw[Zfj,rega]at hF;have hIt:=Z8m (G:=G) [(30,5),(40,2),(50,1)] [(30,5),(40,2),(50,1)] (by unfold Sml;decide);have hI:=Z8i (G:=G) [0] [0] (by unfold Sml;decide);have hRf:=Zbw (G:=G) [(50,1)] [(50,1)] (by unfold Sml;decide);rw[W0M rfl]at hIt hI hRf;have hO:=Zft (G:=G);have hCl:=Zfa hG regL exSz ZeW Zff;rw[Zfk,Zfl,rega,rega]at hCl;have hCl:=PC.sub hCl (xs:=[.agg [.vsl (regL.map isa)],.agg [.vsl ygS]]) ⟨.rfl',.agg ⟨.vslQ Zfw,trivial⟩,trivial⟩;have hM:=ZeN hG regL exSz ZeW Zff (λ_=>by decide);rw[Zfm,rega,rega,rega]at hM;have hM:=PC.sub hM (xs:=[.agg [.vsl (regL.map isa)],.agg [.vsl ygS]]) ⟨.rfl',.agg ⟨.vslQ Zfw,trivial⟩,trivial⟩;have hLa:=Zao hG regL 60 ZeW;rw[Zfn,if_neg (by decide),rega]at hLa;have hAt:=at_pc hG regL 10 3 ZeW;rw[ex_at,rega]at hAt;have hE4:=Zdz hG regL [1,1,1,1] 60 ZeW;rw[Zfo,rega]at hE4;have hT:=ZdJ hG regL [1,1,1,1,1] 60 ZeW;rw[Zfp,rega]at hT;have hF3:=Zdy hG regL 10 1 3 ZeW;rw[Zfq,rega]at hF3;have hU:=Zdm hG exOd 10 Zfe;rw[Zfr,rega]at hU;have hU:=PC.sub hU (xs:=[.agg [.vsl ygO],.int .i64 10]) ⟨.agg ⟨.vslQ Zfv,trivial⟩,.rfl',trivial⟩;have hCr:=Zam hG exRd Zfd;rw[Zfb,rega]at hCr;have hCr:=PC.sub hCr (xs:=[.agg [.vsl ygR]]) ⟨.agg ⟨.vslQ Zfu,trivial⟩,trivial⟩;have hCo:=Zam hG exOd Zfe;rw[Zfc,rega]at hCo;have hCo:=PC.sub hCo (xs:=[.agg [.vsl ygO]]) ⟨.agg ⟨.vslQ Zfv,trivial⟩,trivial⟩;have pL:((regL.map isa).all λr=>r.all AV.pure)=true:=(by simp[isa,AV.pure]);have pR:(ygR.all λr=>r.all AV.pure)=true:=(by simp[ygR,rgY,AV.pure]);have pO:(ygO.all λr=>r.all AV.pure)=true:=(by simp[ygO,rgY,AV.pure]);have pS:(ygS.all λr=>r.all AV.pure)=true:=(by simp[ygS,rgY,AV.pure]);have eR:ygR=rgY (.vsl [[.int .i64 10,.int .i64 1],[.int .i64 30,.int .i64 3],[.int .i64 50,.int .i64 1]]) (.vsl []):=rfl;have eO:ygO=rgY (.vsl [[.int .i64 30,.int .i64 3],[.int .i64 60,.int .i64 1]]) (.vsl []):=rfl;have eS:ygS=rgY (.vsl [[.int .i64 30,.int .i64 3],[.int .i64 50,.int .i64 1]]) (.vsl [[.int .i64 150,.int .i64 100,.int .i64 200]]):=rfl;have r2:List.range 2=[0,1]:=rfl;have r3:List.range 3=[0,1,2]:=rfl;simp only[W0F,W1c,ia,ita,bra,dma]at hE hB hF hIt hI hRf hR1 hR2 hCl hE4 hT hF3 hU;rw[show isa zI=[.int .i64 0,.int .i64 0,.int .u8 0,.vsl [],.vsl []] from rfl]at hAt;have i1:=Zf2 (G:=G) 30 5;have i2:=Zf2 (G:=G) 40 2;have i3:=Zf2 (G:=G) 50 1;have i4:=Zf2 (G:=G) 10 1;generalize regL.map isa=L at *;generalize ygR=YR at *;generalize ygO=YO at *;generalize ygS=YS at *;refine Z5n rfl λR hG' hrd=>Yb mixed 41 ?_
 subst hG';simp -implicitDefEqProofs[Z5l,Z5m];refine Qco (hA) ?_;simp -implicitDefEqProofs;refine Qco (hR) ?_;simp -implicitDefEqProofs;refine Qco (hR2) ?_;simp -implicitDefEqProofs;refine Yd.of hE (by simp[AV.pure,pL]) ?_;simp -implicitDefEqProofs;refine Qco (hR) ?_;simp -implicitDefEqProofs;refine Yd.of hP (by simp[AV.pure,pL]) ?_;simp -implicitDefEqProofs;refine Qco (hR) ?_;simp -implicitDefEqProofs;refine Qco (hR1) ?_;simp -implicitDefEqProofs;refine Yd.of hB (by simp[AV.pure,pL]) ?_;simp -implicitDefEqProofs;refine Qco (hR) ?_;simp -implicitDefEqProofs;refine Yd.of hF (by simp[AV.pure,pL]) ?_;simp -implicitDefEqProofs;refine Qco (i1) ?_;simp -implicitDefEqProofs;refine Qco (i2) ?_;simp -implicitDefEqProofs;refine Qco (i3) ?_;simp -implicitDefEqProofs[r3];refine Qco (hIt) ?_;simp -implicitDefEqProofs;refine Qco (hI) ?_;simp -implicitDefEqProofs;refine Yd.sem (Z1B.objs hO (λk=>k+700) (by simp) (by simp[St.get,lk]) (by simp) rfl rfl) ?_;simp -implicitDefEqProofs[Yl,AObj.ren,AV.ren,rgO,rgZ];refine Yd.sem (Z1B.objs hO (λk=>k+800) (by simp) (by simp[St.get,lk]) (by simp) rfl rfl) ?_;simp -implicitDefEqProofs[Yl,AObj.ren,AV.ren,rgO,rgZ];refine Yd.sem (Z1B.objs hO (λk=>k+900) (by simp) (by simp[St.get,lk]) (by simp) rfl rfl) ?_;simp -implicitDefEqProofs[Yl,AObj.ren,AV.ren,rgO,rgZ];refine Qco (i4) ?_;simp -implicitDefEqProofs;refine ⟨rfl,?_⟩;refine GO0 (Z2Q (st':=⟨[(10,.ptr 10 0),(11,.ptr 11 0),(12,.ptr 12 0)],[(10,.box [.vsl YR]),(11,.box [.vsl YO]),(12,.box [.vsl YS])]⟩) (Ym.trans (Ym.frz (λk=>k == 722||k == 712||k == 822||k == 812||k == 922||k == 912||k == 106) _) ?_) ?_)
 . rw[eR,eO,eS];simp only[rgY]
   ((try simp only[Yi,frzA,frzO,frz,Yh,Yj,St.get,AV.pure]);refine Ym.sub (by simp[lk,Ya,AV.keys,Yi,frzA,frzO,frz,Yh,Yj,St.get,AV.pure]) ?_;simp only[Yi,frzA,frzO,frz,Yh,Yj,St.get,AV.pure,Wkl,and_true];(try simp[lk,Yc,Ya,AV.keys,Yi,frzA,frzO,frz,Yh,Yj,St.get,AV.pure]))
 . refine Qga ?_;simp -implicitDefEqProofs;refine Qco (hR) ?_;simp -implicitDefEqProofs;refine Ye.of hCl (by simp[AV.pure,pL,pS]) ?_;simp -implicitDefEqProofs;refine ⟨rfl,?_⟩;refine Qco (hR) ?_;simp -implicitDefEqProofs;refine Ye.of hM (by simp[AV.pure,pL,pS]) ?_;simp -implicitDefEqProofs;refine ⟨rfl,?_⟩;refine Qco (hR) ?_;simp -implicitDefEqProofs;refine Yd.of hLa (by simp[AV.pure,pL]) ?_;simp -implicitDefEqProofs;refine Qco (hR) ?_;simp -implicitDefEqProofs;refine Yd.of hAt (by simp[AV.pure,pL]) ?_;simp -implicitDefEqProofs;refine Qco (hR) ?_;simp -implicitDefEqProofs;refine Qco (hR1) ?_;simp -implicitDefEqProofs;refine Yd.of hE4 (by simp[AV.pure,pL]) ?_;simp -implicitDefEqProofs;refine Qco (hR) ?_;simp -implicitDefEqProofs;refine Qco (hR1) ?_;simp -implicitDefEqProofs;refine Yd.of hT (by simp[AV.pure,pL]) ?_;simp -implicitDefEqProofs;refine Qco (hR) ?_;simp -implicitDefEqProofs;refine Yd.of hF3 (by simp[AV.pure,pL]) ?_;simp -implicitDefEqProofs;refine Yd.of hU (by simp[AV.pure,pO]) ?_;simp -implicitDefEqProofs;refine Yd.of hCr (by simp[AV.pure,pR]) ?_;simp -implicitDefEqProofs;refine Yd.of hCo (by simp[AV.pure,pO]) ?_;simp -implicitDefEqProofs;refine Qco (hRf) ?_;simp -implicitDefEqProofs;refine Qgr ?_;simp -implicitDefEqProofs
end Go.Proofs.YthlcppdbldkldaaDoor
