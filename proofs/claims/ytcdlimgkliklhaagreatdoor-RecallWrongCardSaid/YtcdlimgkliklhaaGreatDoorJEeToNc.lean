/-
  Books: whether there is a drawing; issues; the last letter; an issue, by the abstract machine.
-/
import Derived.Test.YtcdlimgkliklhaaGreatDoorJRcjToEd
set_option linter.all false
set_option maxHeartbeats 8000000
namespace Go.Proofs.YtcdlimgkliklhaaGreatDoor
open Tryz (prog)
open IntKind (i64)
open Go.RowKit
variable {G:Jg}
def bkA (r:Jr) (ds:List Int):AV:=.vptr [.vsl (r.map isa),.vsl (ds.map ia)] 0
def Z9Q (r:Jr) (ds:List Int):(bkA r ds).pure=true:=by simp[bkA,AV.pure]
attribute [simp] Z9Q
def Z9R (r:Jr) (ds:List Int) (n:Int) (hs:ds.Pairwise (· <= ·)) (hl:Sml ds):PC prog G 197 [bkA r ds,.int .i64 n] (.bool (decide (n∈ds))):=by
 (refine Z6L rfl λR hG hrd=>Qga ?_;subst hG)
 simp -implicitDefEqProofs[Z6J,Z6K,bkA];refine Qco (Z9x ds n hs hl) ?_;simp -implicitDefEqProofs[]
def Z9S (r:Jr) (ds:List Int) (y:Int×Int) (hs:ds.Pairwise (· <= ·)) (hl:Sml ds):PC prog G 196 [.agg [.int .i64 y.1,.int .i64 y.2],.vptr [bkA r ds] 0] (.bool (!decide (y.1∈ds))):=by
 (refine Z6I rfl λR hG hrd=>Qga ?_;subst hG)
 simp -implicitDefEqProofs[Z6G,Z6H];refine Qco (Z9R r ds y.1 hs hl) ?_;simp -implicitDefEqProofs[]
def Z9T (r:Jr) (ds:List Int) (n:Int):PC prog G 211 [bkA r ds,.int .i64 n] (.func (.func 215) [] [.vptr [bkA r ds] 0,.vptr [.int .i64 n] 0]):=by
 (refine Z76 rfl λR hG hrd=>Qga ?_;subst hG)
 simp -implicitDefEqProofs[Z74,Z75,bkA]
def cntV (r:Jr) (n:Int):Int:=((r.filter (λx=>decide (x.d=n))).length:Nat)
def Z9U (r:Jr) (ds:List Int) (d l:Int) (hs:(r.map (·.d)).Pairwise (· <= ·)) (hl:Sml r) (hu:∀ y∈r,findN y.d y.l r=some y):PC prog G 249 [bkA r ds,.agg [.int .i64 d,.int .i64 l]] (fndA (findN d l r)):=by
 (refine Z7c rfl λR hG hrd=>Qga ?_;subst hG)
 simp -implicitDefEqProofs[Z7a,Z7b];refine Qco (Z9T r ds d) ?_;simp -implicitDefEqProofs[]
 refine Z59 hrd (Z9P r d (.vsl (ds.map ia)) hs hl) (by simp[evA,St.tmp,lk,bkA]) (by simp[AV.pure]) (λk=>k-1000) [(3,.ptr 1003 0),(4,.ptr 1004 0),(5,.ptr 1005 0)] (λ_=>[(1003,.box [.int .i64 d,.int .i64 l]),(1004,.box [.int .i64 0,.int .i64 0,.int .u8 0,.nils,.nils]),(1005,.box [.bool false])])
  [1003,1004,1005] (λk=>∀ j,j<k->∀ y,(r.filter (λx=>decide (x.d=d)))[j]? = some y->y.l≠l) (by simp) (λ_=>rfl) (by simp) (by simp) (by simp[Yl,St.set,putO,AObj.ren,AV.ren]) (by simp[Yc,Ya,AV.keys]) (by simp[lk,AV.ren,AV.keys]) ?_ ?_
 . intro k x hx hI R' hG hN
   obtain ⟨y,hy,rfl⟩ : ∃ y,(r.filter (λx=>decide (x.d=d)))[k]? = some y/\x = .agg (isa y):=by
    simp only[elsOf,W09,W04]at hx;obtain ⟨y,h1,h2⟩:=hx;exact ⟨y,h1,h2.symm⟩
   have hym:=W0G.1 (W0d hy);have hyd:y.d=d:=W0X hym.2;refine Qga ?_;simp -implicitDefEqProofs[isa];intro R'' hG'' hN'';refine Qga ?_;simp -implicitDefEqProofs[];refine Qco (Z9i y) ?_;simp -implicitDefEqProofs[];refine ⟨rfl,?_⟩;by_cases e:y.l=l
   . simp -implicitDefEqProofs[hyd,e,RndB,Yi,newK,frzO,frzA,frz,AV.keys,Yl,AObj.ren,AV.ren];refine Qgr ?_
     have hf:findN d l r=some y:=by
      have:=hu y hym.1;rw[hyd,e]at this;exact this
     simp -implicitDefEqProofs[hf,fndA,isa,hyd,e]
   . simp -implicitDefEqProofs[hyd,e,RndB,Yi,newK,frzO,frzA,frz,AV.keys];intro j hj z hz;by_cases e2:j=k
     . subst e2;rw[hy]at hz;cases hz;exact e
     . exact hI j (by omega) z hz
 . intro hI
   have hn:findN d l r=none:=by
    cases hf:findN d l r with
    |none=>rfl
    | some y =>
      obtain ⟨h1,h2,h3⟩:=Z91 hf;obtain ⟨j,hj,he⟩:=W0k (show y∈r.filter (λx=>decide (x.d=d)) from W0G.2 ⟨h1,W0M h2⟩);exact absurd h3 (hI j (by simp[elsOf];exact hj) y (by rw[W07 hj,he]))
   simp -implicitDefEqProofs[Yl,AObj.ren,AV.ren];refine Qgr ?_;simp -implicitDefEqProofs[hn,fndA,noIs]
def dpA (dp:List (Int×Int)):List (AV×AV):=dp.map λp=>(.int .i64 p.1,.int .i64 p.2)
def lfA (lf:List Int):List (AV×AV):=lf.map λn=>(.int .i64 n,.bool true)
def dpLk (n:Int):List (Int×Int)->Option Int
 |[]=>none
 |p::r=>if n=p.1 then some p.2 else dpLk n r
def dpG (dp:List (Int×Int)) (n:Int):Int:=(dpLk n dp).getD 0
def Z9V (n:Int):∀ dp:List (Int×Int),∃ o:Option Nat,(KK.i .i64).find (.int .i64 n) (dpA dp)=some o/\match o with
  |some j=>∃ v,dp[j]? = some (n,v)/\dpLk n dp=some v
  |none=>dpLk n dp=none/\∀ p∈dp,p.1≠n
 |[]=>⟨none,rfl,rfl,by simp⟩
 | p :: r=>by
   obtain ⟨o,h1,h2⟩:=Z9V n r;by_cases e:n=p.1
   . refine ⟨some 0,by simp[dpA,KK.find,KK.eq,e],p.2,by simp[e],by simp[dpLk,e]⟩
   . refine ⟨o.map (· + 1),?_,?_⟩
     . simp only[dpA,W0F,KK.find,KK.eq,and_self,if_true,e,W1x];rw[show r.map (λp=>(AV.int .i64 p.1,AV.int .i64 p.2))=dpA r from rfl,h1];rfl
     . cases o with
       |none=>exact ⟨by simp only[dpLk,e,if_false];exact h2.1,λq hq=>by
        rcases W0g.1 hq with rfl|hq
        . exact λh=>e h.symm
        . exact h2.2 q hq⟩
       | some j =>
         obtain ⟨v,h3,h4⟩:=h2;exact ⟨v,by simpa using h3,by simp only[dpLk,e,if_false];exact h4⟩
def Z9W (n:Int) (dp:List (Int×Int)):(KK.i .i64).get (.int .i64 n) (dpA dp)=some ((dpLk n dp).map λv=>.int .i64 v):=by
 obtain ⟨o,h1,h2⟩:=Z9V n dp;have hi:(KK.i .i64).is (.int .i64 n)=true:=(by simp[KK.is]);unfold KK.get;rw[if_pos hi,h1]
 cases o with
 |none=>simp[h2.1]
 |some j=>obtain ⟨v,h3,h4⟩:=h2;simp[dpA,h3,h4]
def Z9X {n:Int} (v:Int) {dp:List (Int×Int)} (h:n ∉ dp.map (·.1)):(KK.i .i64).put (.int .i64 n) (.int .i64 v) (dpA dp)=some (dpA (dp++[(n,v)])):=by
 obtain ⟨o,h1,h2⟩:=Z9V n dp;have hi:(KK.i .i64).is (.int .i64 n)=true:=(by simp[KK.is]);unfold KK.put;rw[if_pos hi,h1]
 cases o with
 |none=>simp[dpA]
 | some j =>
   obtain ⟨w,h3,h4⟩:=h2;exact absurd (W0i.2 ⟨_,W0d h3,rfl⟩) h
def Z9Y (n:Int):∀ lf:List Int,∃ o:Option Nat,(KK.i .i64).find (.int .i64 n) (lfA lf)=some o/\match o with
  |some j=>lf[j]? = some n/\n∈lf/\lf.eraseIdx j=lf.erase n
  |none=>n ∉ lf
 |[]=>⟨none,rfl,by simp⟩
 | x :: r=>by
   obtain ⟨o,h1,h2⟩:=Z9Y n r;by_cases e:n=x
   . subst e;exact ⟨some 0,by simp[lfA,KK.find,KK.eq],by simp⟩
   . refine ⟨o.map (· + 1),?_,?_⟩
     . simp only[lfA,W0F,KK.find,KK.eq,and_self,if_true,e,W1x];rw[show r.map (λn=>(AV.int .i64 n,AV.bool true))=lfA r from rfl,h1];rfl
     . cases o with
       |none=>simp only[Option.map_none,W0g,not_or];exact ⟨e,h2⟩
       | some j =>
         obtain ⟨h3,h4,h5⟩:=h2;refine ⟨by simpa using h3,W0z _ h4,?_⟩;simp only[List.eraseIdx_cons_succ,h5];rw[List.erase_cons_tail];simpa using λq=>e q.symm
def Z9Z (n:Int) (lf:List Int):(KK.i .i64).get (.int .i64 n) (lfA lf)=some (if n∈lf then some (.bool true) else none):=by
 obtain ⟨o,h1,h2⟩:=Z9Y n lf;have hi:(KK.i .i64).is (.int .i64 n)=true:=(by simp[KK.is]);unfold KK.get;rw[if_pos hi,h1]
 cases o with
 | none => have h2:n ∉ lf:=h2
           simp[h2]
 |some j=>obtain ⟨h3,h4,h5⟩:=h2;simp[lfA,h3,h4]
def Za0 {n:Int} {lf:List Int} (h:n ∉ lf):(KK.i .i64).put (.int .i64 n) (.bool true) (lfA lf)=some (lfA (lf++[n])):=by
 obtain ⟨o,h1,h2⟩:=Z9Y n lf;have hi:(KK.i .i64).is (.int .i64 n)=true:=(by simp[KK.is]);unfold KK.put;rw[if_pos hi,h1]
 cases o with
 |none=>simp[lfA]
 |some j=>exact absurd h2.2.1 h
def Za1 {α β:Type} (f:α->β):∀ (l:List α) (j:Nat),(l.map f).eraseIdx j=(l.eraseIdx j).map f
 |[],_=>by simp
 |x::l,0=>by simp
 |x::l,j+1=>by simp[Za1 f l j]
def Za2 {n:Int} {lf:List Int} (h:n∈lf):(KK.i .i64).del (.int .i64 n) (lfA lf)=some (lfA (lf.erase n)):=by
 obtain ⟨o,h1,h2⟩:=Z9Y n lf;have hi:(KK.i .i64).is (.int .i64 n)=true:=(by simp[KK.is]);unfold KK.del;rw[if_pos hi,h1]
 cases o with
 |none=>exact absurd h h2
 | some j =>
   obtain ⟨h3,h4,h5⟩:=h2;simp only[lfA,<- h5];rw[Za1]
def rdIt (lf:List Int) (b:Bool) (its:List (Int×Int)):Bool:=its.foldl (λb y=>b && !decide (y.1∈lf)) b
def msIt (dp:List (Int×Int)) (m:Int) (its:List (Int×Int)):Int:=its.foldl (λm y=>max m (dpG dp y.1)) m
def rdN (lf:List Int) (b:Bool) (l:Jr):Bool:=l.foldl (λb x=>rdIt lf b x.its) b
def msN (dp:List (Int×Int)) (m:Int) (l:Jr):Int:=l.foldl (λm x=>msIt dp m x.its) m
def issOf (r:Jr) (n:Int):List Iss:=r.filter (λx=>decide (x.d=n))
def dStep (r:Jr) (s:List (Int×Int)×List Int) (n:Int):List (Int×Int)×List Int :=
 if rdN s.2 (decide (n∈s.2)) (issOf r n)=true then (s.1++[(n,msN s.1 0 (issOf r n)+1)],s.2.erase n) else s
def dPass (r:Jr) (s:List (Int×Int)×List Int):List (Int×Int)×List Int:=(nums r).foldl (dStep r) s
def dRun (r:Jr):Nat->List (Int×Int)×List Int
 |0=>([],nums r)
 |k+1=>dPass r (dRun r k)
def Za3 (lf:List Int) (b:Bool) (its:List (Int×Int)) (k:Nat) (h:k<its.length):rdIt lf b (its.take (k+1))=(rdIt lf b (its.take k) && !decide (its[k].1∈lf)):=by
 rw[W08 h,rdIt,W1q];rfl
def Za4 (dp:List (Int×Int)) (m:Int) (its:List (Int×Int)) (k:Nat) (h:k<its.length):msIt dp m (its.take (k+1))=max (msIt dp m (its.take k)) (dpG dp its[k].1):=by
 rw[W08 h,msIt,W1q];rfl
def Za5 (lf:List Int) (b:Bool) (l:Jr) (k:Nat) (h:k<l.length):rdN lf b (l.take (k+1))=rdIt lf (rdN lf b (l.take k)) l[k].its:=by
 rw[W08 h,rdN,W1q];rfl
def Za6 (dp:List (Int×Int)) (m:Int) (l:Jr) (k:Nat) (h:k<l.length):msN dp m (l.take (k+1))=msIt dp (msN dp m (l.take k)) l[k].its:=by
 rw[W08 h,msN,W1q];rfl
def Za7 (lf:List Int):∀ its:List (Int×Int),rdIt lf false its=false
 |[]=>rfl
 |y::its=>by simp only[rdIt,W2e,W1K];exact Za7 lf its
def Za8 (lf:List Int):∀ l:List Iss,rdN lf false l=false
 |[]=>rfl
 |x::l=>by simp only[rdN,W2e,Za7];exact Za8 lf l
def Za9 {lf:List Int} {n:Int} {l:Jr} (h:rdN lf (decide (n∈lf)) l=true):n∈lf:=by
 by_cases e:n∈lf
 . exact e
 . rw[W0S e,Za8]at h;cases h
structure DInv (r:Jr) (s:List (Int×Int)×List Int):Prop where
 perm:(s.1.map (·.1)++s.2).Perm (nums r)
 bd:∀ p∈s.1,1<=p.2/\p.2<=(s.1.length:Nat)
def Zaa {n v:Int}:∀ {dp:List (Int×Int)},dpLk n dp=some v->(n,v)∈dp
 | p::r,h=>by
   simp only[dpLk]at h
   split at h
   . rename_i e;cases h;rw[e];exact W0H ..
   . exact W0z _ (Zaa h)
def Zab {r:Jr} {s:List (Int×Int)×List Int} (h:DInv r s) (n:Int):0<=dpG s.1 n/\dpG s.1 n<=(s.1.length:Nat):=by
 unfold dpG
 cases e:dpLk n s.1 with
 |none=>simp
 |some v=>have:=h.bd _ (Zaa e);simp only[W0P];omega
def Zac {r:Jr} {s:List (Int×Int)×List Int} (h:DInv r s):∀ (its:List (Int×Int)) (m:Int),0<=m->m<=(s.1.length:Nat)->0<=msIt s.1 m its/\msIt s.1 m its<=(s.1.length:Nat)
 |[],m,h1,h2=>⟨h1,h2⟩
 | y::its,m,h1,h2=>by
   have:=Zab h y.1;exact Zac h its (max m (dpG s.1 y.1)) (by omega) (by omega)
def Zad {r:Jr} {s:List (Int×Int)×List Int} (h:DInv r s):∀ (l:Jr) (m:Int),0<=m->m<=(s.1.length:Nat)->0<=msN s.1 m l/\msN s.1 m l<=(s.1.length:Nat)
 |[],m,h1,h2=>⟨h1,h2⟩
 | x::l,m,h1,h2=>by
   have:=Zac h x.its m h1 h2;exact Zad h l (msIt s.1 m x.its) this.1 this.2
def DInv.len {r:Jr} {s:List (Int×Int)×List Int} (h:DInv r s):s.1.length+s.2.length=(nums r).length:=by
 have:=h.perm.length_eq;simpa using this
def DInv.step {r:Jr} {s:List (Int×Int)×List Int} (h:DInv r s) (n:Int):DInv r (dStep r s n):=by
 unfold dStep
 split
 . rename_i hb;have hm:=Za9 hb;have hbd:=Zad h (issOf r n) 0 (W1Y _) (by omega);refine ⟨?_,λp hp=>?_⟩
   . refine List.Perm.trans ?_ h.perm;simp only[W0r,W0F,W1d,W0U,W1e,W18];exact (List.perm_cons_erase hm).symm.append_left _
   . simp only[W0s,W1p,W1U];rcases W0h.1 hp with hp|hp
     . have:=h.bd p hp;omega
     . simp only[W0B]at hp;subst hp;simp only;omega
 . exact h
def DInv.fold {r:Jr}:∀ (l:List Int) {s:List (Int×Int)×List Int},DInv r s->DInv r (l.foldl (dStep r) s)
 |[],s,h=>h
 |n::l,s,h=>DInv.fold l (h.step n)
def DInv.run (r:Jr):∀ k,DInv r (dRun r k)
 |0=>⟨by simp[dRun],by simp[dRun]⟩
 |k+1=>(DInv.run r k).fold (nums r)
def Zae {α β:Type} (f:β->α->β) (s:β) (l:List α) (k:Nat) (h:k<l.length):(l.take (k+1)).foldl f s=f ((l.take k).foldl f s) l[k]:=by
 rw[W08 h,W1q];rfl
set_option maxRecDepth 8000 in
def Zaf (r:Jr) (hw:Wf r) (hO:Ord r) (hn:(nums r).length<=20):PC prog G 198 [bkA r (nums r)] (.tup [.vmap (dpA (dRun r (nums r).length).1),.bool (decide (0<(dRun r (nums r).length).2.length))]):=by
 (refine Z7f rfl λR hG hrd=>Qga ?_;subst hG)
 have hs:(r.map (·.d)).Pairwise (· <= ·):=by
  rw[W2o,W0Y];intro i j hi hj hij;have:=hO.mono (Nat.le_of_lt hij) hj
  rwa [at_eq hi,at_eq hj]at this
 have hl:=hw.1.1;have hnd:=Z8M hO;simp -implicitDefEqProofs[Z7d,Z7e,bkA];refine Z8g (λi=>⟨[(22,.int .i64 i),(21,.int .i64 (nums r).length),(20,.vsl ((nums r).map ia)),(5,.ptr 5 0),(4,.ptr 4 0),(0,bkA r (nums r))],[(15,.mp []),(4,.box [.mp 15]),(16,.mp (lfA ((nums r).take i))),(5,.box [.mp 16])]⟩) (λ_=>True) (nums r).length (by (first|exact Ym.tm (by simp[lk,lfA,bkA])|exact Ym.sub (by simp[lk,Ya,AV.keys,lfA,bkA]) (by simp[lk,Yc,Ya,AV.keys,lfA,bkA]))) trivial ?_ ?_
 . intro i hi _;refine Qga ?_;have w1:i64.wrap ((i:Int)+1)=((i+1:Nat):Int):=Yf
   have hni:(nums r)[i] ∉ (nums r).take i:=by
    intro hm;obtain ⟨j,hj,e⟩:=W0k hm;simp only[W15]at hj;simp only[W1V]at e;have:=(List.getElem_inj hnd).1 e;omega
   have hp:=Za0 hni;rw[<- W08 hi]at hp;simp -implicitDefEqProofs[hi,w1,ia,hp];exact (by (first|exact Ym.tm (by simp[lk,bkA])|exact Ym.sub (by simp[lk,Ya,AV.keys,bkA]) (by simp[lk,Yc,Ya,AV.keys,bkA])))
 . intro _;refine Qga ?_;simp -implicitDefEqProofs[];refine Qgr ?_;simp -implicitDefEqProofs[bkA];refine Z8g (λk=>⟨[(34,.int .i64 k),(33,.int .i64 (nums r).length),(5,.ptr 5 0),(4,.ptr 4 0),(0,bkA r (nums r))],[(15,.mp (dpA (dRun r k).1)),(4,.box [.mp 15]),(16,.mp (lfA (dRun r k).2)),(5,.box [.mp 16])]⟩) (λ_=>True) (nums r).length (by (first|exact Ym.tm (by simp[lk,dRun,dpA,bkA])|exact Ym.sub (by simp[lk,Ya,AV.keys,dRun,dpA,bkA]) (by simp[lk,Yc,Ya,AV.keys,dRun,dpA,bkA]))) trivial ?_ ?_
   . intro k hk _;refine Qga ?_;have w1:i64.wrap ((k:Int)+1)=((k+1:Nat):Int):=Yf;simp -implicitDefEqProofs[hk,bkA]
     refine Z8g (λi=>⟨[(41,.int .i64 i),(40,.int .i64 (nums r).length),(39,.vsl ((nums r).map ia)),(34,.int .i64 k),(33,.int .i64 (nums r).length),(5,.ptr 5 0),(4,.ptr 4 0),(0,bkA r (nums r))],
      [(15,.mp (dpA (((nums r).take i).foldl (dStep r) (dRun r k)).1)),(4,.box [.mp 15]),(16,.mp (lfA (((nums r).take i).foldl (dStep r) (dRun r k)).2)),(5,.box [.mp 16])]⟩) (λ_=>True) (nums r).length (by (first|exact Ym.tm (by simp[lk,bkA])|exact Ym.sub (by simp[lk,Ya,AV.keys,bkA]) (by simp[lk,Yc,Ya,AV.keys,bkA]))) trivial ?_ ?_
     . intro i hi _;refine Qga ?_;have w2:i64.wrap ((i:Int)+1)=((i+1:Nat):Int):=Yf;obtain ⟨s,hsd⟩:=Qex (((nums r).take i).foldl (dStep r) (dRun r k));have hI:DInv r s:=(by rw[hsd];exact (DInv.run r k).fold _);have hst:=Zae (dStep r) (dRun r k) (nums r) i hi;rw[<- hsd]at hst ⊢;obtain ⟨n,hne⟩:=Qex ((nums r)[i]);rw[<- hne]at hst;have hgl:=Z9Z n s.2
       cases hm:decide (n∈s.2)
       . have hm':¬n∈s.2:=of_decide_eq_false hm;rw[if_neg hm']at hgl;simp -implicitDefEqProofs[hi,ia,<- hne,hgl];refine ⟨rfl,?_⟩;refine Qco (Z9T r (nums r) n) ?_;simp -implicitDefEqProofs[]
         refine Z59 hrd (Z9P r n (.vsl ((nums r).map ia)) hs hl) (by simp[evA,St.tmp,lk,bkA]) (by simp[AV.pure]) (λk=>k-1000) [(4,.ptr 1004 0),(5,.ptr 1005 0),(10,.ptr 1010 0),(11,.ptr 1011 0)]
          (λq=>[(1015,.mp (dpA s.1)),(1004,.box [.mp 1015]),(1016,.mp (lfA s.2)),(1005,.box [.mp 1016]),(1010,.box [.int .i64 (msN s.1 0 ((issOf r n).take q))]),(1011,.box [.bool (rdN s.2 false ((issOf r n).take q))])])
          [1015,1004,1016,1005,1010,1011] (λ_=>True) trivial (λ_=>rfl) (by simp) (by simp) (by simp[Yl,St.set,putO,AObj.ren,AV.ren,dpA,lfA,msN,rdN,W0y]) (by simp[Yc,Ya,AV.keys,dpA,lfA,lk]) (by simp[lk,AV.ren,AV.keys]) ?_ ?_
         . intro q x hx _ R' hG hN
           obtain ⟨y,hq,hy,rfl⟩ : ∃ y,∃ hq:q<(issOf r n).length,(issOf r n)[q]=y/\x = .agg (isa y):=by
            simp only[elsOf,W09,W04]at hx;obtain ⟨y,h1,h2⟩:=hx;obtain ⟨h3,h4⟩:=W02.1 h1;exact ⟨y,h3,h4,h2.symm⟩
           have hyr:y∈r:=(by rw[<- hy];exact (W0G.1 (W0e hq)).1);have hyl:=(hw.1.2 y hyr).1;unfold Sml at hyl;have tm:=Za6 s.1 0 (issOf r n) q hq;have tr:=Za5 s.2 false (issOf r n) q hq;rw[hy]at tm tr;generalize msN s.1 0 ((issOf r n).take q)=m0 at tm ⊢;generalize rdN s.2 false ((issOf r n).take q)=b0 at tr ⊢;refine Qga ?_;simp -implicitDefEqProofs[isa];intro R'' hG'' hN'';refine Qga ?_;simp -implicitDefEqProofs[]
           refine Z8g (λm=>⟨[(55,.int .i64 m),(54,.int .i64 y.its.length),(53,.vsl (y.its.map ita)),(12,.ptr 12 0),(4,.ptr 1004 0),(5,.ptr 1005 0),(10,.ptr 1010 0),(11,.ptr 1011 0)],
            [(1015,.mp (dpA s.1)),(1004,.box [.mp 1015]),(1016,.mp (lfA s.2)),(1005,.box [.mp 1016]),(1010,.box [.int .i64 (msIt s.1 m0 (y.its.take m))]),(1011,.box [.bool (rdIt s.2 b0 (y.its.take m))]),(12,.box (isa y))]⟩) (λ_=>True) y.its.length (by (first|exact Ym.tm (by simp[lk,isa,dpA,lfA,msIt,rdIt])|exact Ym.sub (by simp[lk,Ya,AV.keys,isa,dpA,lfA,msIt,rdIt]) (by simp[lk,Yc,Ya,AV.keys,isa,dpA,lfA,msIt,rdIt]))) trivial ?_ ?_
           . intro m hm _;refine Qga ?_;have w3:i64.wrap ((m:Int)+1)=((m+1:Nat):Int):=Yf;have um:=Za4 s.1 m0 y.its m hm;have ur:=Za3 s.2 b0 y.its m hm;generalize msIt s.1 m0 (y.its.take m)=m1 at um ⊢;generalize rdIt s.2 b0 (y.its.take m)=b1 at ur ⊢;have gd:=Z9W y.its[m].1 s.1;have gl:=Z9Z y.its[m].1 s.2;have wkE:∀ c1 c2:Prop,c1->c2->c1/\c2:=λ_ _ a b=>⟨a,b⟩
             cases b1
             . simp only[W1K]at ur
               cases hk1:dpLk y.its[m].1 s.1 with
               | none =>
                 rw[hk1]at gd;simp only[dpG,hk1,W21]at um;simp -implicitDefEqProofs[hm,ita,w3,gd];exact Ym.sub (by simp[lk,Ya,AV.keys]) (by simp[lk,Yc,Ya,AV.keys,dpA,lfA,um,ur,isa])
               | some v =>
                 rw[hk1]at gd;simp only[dpG,hk1,W0P]at um;simp -implicitDefEqProofs[hm,ita,w3,gd];exact Ym.sub (by simp[lk,Ya,AV.keys]) (by simp[lk,Yc,Ya,AV.keys,dpA,lfA,um,ur,isa])
             . by_cases hin:y.its[m].1∈s.2
               . rw[if_pos hin]at gl;simp only[hin,W1i,W17,W2a]at ur
                 cases hk1:dpLk y.its[m].1 s.1 with
                 | none =>
                   rw[hk1]at gd;simp only[dpG,hk1,W21]at um;simp -implicitDefEqProofs[hm,ita,w3,gd,gl];exact Ym.sub (by simp[lk,Ya,AV.keys]) (by simp[lk,Yc,Ya,AV.keys,dpA,lfA,um,ur,isa])
                 | some v =>
                   rw[hk1]at gd;simp only[dpG,hk1,W0P]at um;simp -implicitDefEqProofs[hm,ita,w3,gd,gl];exact Ym.sub (by simp[lk,Ya,AV.keys]) (by simp[lk,Yc,Ya,AV.keys,dpA,lfA,um,ur,isa])
               . rw[if_neg hin]at gl;simp only[hin,W1x,W1E,W2c]at ur
                 cases hk1:dpLk y.its[m].1 s.1 with
                 | none =>
                   rw[hk1]at gd;simp only[dpG,hk1,W21]at um;simp -implicitDefEqProofs[hm,ita,w3,gd,gl];exact Ym.sub (by simp[lk,Ya,AV.keys]) (by simp[lk,Yc,Ya,AV.keys,dpA,lfA,um,ur,isa])
                 | some v =>
                   rw[hk1]at gd;simp only[dpG,hk1,W0P]at um;simp -implicitDefEqProofs[hm,ita,w3,gd,gl];exact Ym.sub (by simp[lk,Ya,AV.keys]) (by simp[lk,Yc,Ya,AV.keys,dpA,lfA,um,ur,isa])
           . intro _;refine Qga ?_;simp -implicitDefEqProofs[];refine Qgr ?_;simp -implicitDefEqProofs[RndB,Yi,newK,frzO,frzA,frz,AV.keys,tm,tr,dpA,lfA,W0y]
             try trivial
         . intro _;have hel:(elsOf r n).length=(issOf r n).length:=(by simp[elsOf,issOf]);have etk:(issOf r n).take (issOf r n).length=issOf r n:=W0J (W0f _);have hbd:=Zad hI (issOf r n) 0 (W1Y _) (by omega);have hlen:=hI.len;have w4:i64.wrap (msN s.1 0 (issOf r n)+1)=msN s.1 0 (issOf r n)+1:=Yf;have rdpA:∀ dp,AObj.ren (λk=>k-1000) (.mp (dpA dp)) = .mp (dpA dp):=λdp=>by simp[AObj.ren,dpA,AV.ren,W0y]
           have rlfA:∀ lf,AObj.ren (λk=>k-1000) (.mp (lfA lf)) = .mp (lfA lf):=λlf=>by simp[AObj.ren,lfA,AV.ren,W0y]
           have rbx:∀ cs,AObj.ren (λk=>k-1000) (.box cs) = .box (cs.map (AV.ren λk=>k-1000)):=λ_=>rfl
           cases hrd2:rdN s.2 false (issOf r n)
           . have hst2:dStep r s n=s:=(by simp[dStep,hm,hrd2]);rw[hst2]at hst;simp -implicitDefEqProofs[Yl,rdpA,rlfA,rbx,AV.ren,hel,etk,hrd2];refine Qgr ?_;simp -implicitDefEqProofs[w2];rw[hst];exact Ym.sub (by simp[lk,Ya,AV.keys,bkA]) (by simp[lk,Yc,Ya,AV.keys,dpA,lfA])
           . have hmem:n∈s.2:=Za9 (by rw[hm];exact hrd2);have hst2:dStep r s n=(s.1++[(n,msN s.1 0 (issOf r n)+1)],s.2.erase n):=(by simp[dStep,hm,hrd2]);rw[hst2]at hst
             have hnk:n ∉ s.1.map (·.1):=λhin=>by
              have:=(List.nodup_append.1 (hI.perm.nodup_iff.2 hnd)).2.2 n hin n hmem;exact this rfl
             have pd:=Z9X (msN s.1 0 (issOf r n)+1) hnk;have dl:=Za2 hmem;simp -implicitDefEqProofs[Yl,rdpA,rlfA,rbx,AV.ren,hel,etk,hrd2];refine Qgr ?_;simp -implicitDefEqProofs[w2,w4,pd,dl];rw[hst];exact Ym.sub (by simp[lk,Ya,AV.keys,bkA]) (by simp[lk,Yc,Ya,AV.keys,dpA,lfA])
       . have hm':n∈s.2:=W0X hm;rw[if_pos hm']at hgl;simp -implicitDefEqProofs[hi,ia,<- hne,hgl];refine ⟨rfl,?_⟩;refine Qco (Z9T r (nums r) n) ?_;simp -implicitDefEqProofs[]
         refine Z59 hrd (Z9P r n (.vsl ((nums r).map ia)) hs hl) (by simp[evA,St.tmp,lk,bkA]) (by simp[AV.pure]) (λk=>k-1000) [(4,.ptr 1004 0),(5,.ptr 1005 0),(10,.ptr 1010 0),(11,.ptr 1011 0)]
          (λq=>[(1015,.mp (dpA s.1)),(1004,.box [.mp 1015]),(1016,.mp (lfA s.2)),(1005,.box [.mp 1016]),(1010,.box [.int .i64 (msN s.1 0 ((issOf r n).take q))]),(1011,.box [.bool (rdN s.2 true ((issOf r n).take q))])])
          [1015,1004,1016,1005,1010,1011] (λ_=>True) trivial (λ_=>rfl) (by simp) (by simp) (by simp[Yl,St.set,putO,AObj.ren,AV.ren,dpA,lfA,msN,rdN,W0y]) (by simp[Yc,Ya,AV.keys,dpA,lfA,lk]) (by simp[lk,AV.ren,AV.keys]) ?_ ?_
         . intro q x hx _ R' hG hN
           obtain ⟨y,hq,hy,rfl⟩ : ∃ y,∃ hq:q<(issOf r n).length,(issOf r n)[q]=y/\x = .agg (isa y):=by
            simp only[elsOf,W09,W04]at hx;obtain ⟨y,h1,h2⟩:=hx;obtain ⟨h3,h4⟩:=W02.1 h1;exact ⟨y,h3,h4,h2.symm⟩
           have hyr:y∈r:=(by rw[<- hy];exact (W0G.1 (W0e hq)).1);have hyl:=(hw.1.2 y hyr).1;unfold Sml at hyl;have tm:=Za6 s.1 0 (issOf r n) q hq;have tr:=Za5 s.2 true (issOf r n) q hq;rw[hy]at tm tr;generalize msN s.1 0 ((issOf r n).take q)=m0 at tm ⊢;generalize rdN s.2 true ((issOf r n).take q)=b0 at tr ⊢;refine Qga ?_;simp -implicitDefEqProofs[isa];intro R'' hG'' hN'';refine Qga ?_;simp -implicitDefEqProofs[]
           refine Z8g (λm=>⟨[(55,.int .i64 m),(54,.int .i64 y.its.length),(53,.vsl (y.its.map ita)),(12,.ptr 12 0),(4,.ptr 1004 0),(5,.ptr 1005 0),(10,.ptr 1010 0),(11,.ptr 1011 0)],
            [(1015,.mp (dpA s.1)),(1004,.box [.mp 1015]),(1016,.mp (lfA s.2)),(1005,.box [.mp 1016]),(1010,.box [.int .i64 (msIt s.1 m0 (y.its.take m))]),(1011,.box [.bool (rdIt s.2 b0 (y.its.take m))]),(12,.box (isa y))]⟩) (λ_=>True) y.its.length (by (first|exact Ym.tm (by simp[lk,isa,dpA,lfA,msIt,rdIt])|exact Ym.sub (by simp[lk,Ya,AV.keys,isa,dpA,lfA,msIt,rdIt]) (by simp[lk,Yc,Ya,AV.keys,isa,dpA,lfA,msIt,rdIt]))) trivial ?_ ?_
           . intro m hm _;refine Qga ?_;have w3:i64.wrap ((m:Int)+1)=((m+1:Nat):Int):=Yf;have um:=Za4 s.1 m0 y.its m hm;have ur:=Za3 s.2 b0 y.its m hm;generalize msIt s.1 m0 (y.its.take m)=m1 at um ⊢;generalize rdIt s.2 b0 (y.its.take m)=b1 at ur ⊢;have gd:=Z9W y.its[m].1 s.1;have gl:=Z9Z y.its[m].1 s.2;have wkE:∀ c1 c2:Prop,c1->c2->c1/\c2:=λ_ _ a b=>⟨a,b⟩
             cases b1
             . simp only[W1K]at ur
               cases hk1:dpLk y.its[m].1 s.1 with
               | none =>
                 rw[hk1]at gd;simp only[dpG,hk1,W21]at um;simp -implicitDefEqProofs[hm,ita,w3,gd];exact Ym.sub (by simp[lk,Ya,AV.keys]) (by simp[lk,Yc,Ya,AV.keys,dpA,lfA,um,ur,isa])
               | some v =>
                 rw[hk1]at gd;simp only[dpG,hk1,W0P]at um;simp -implicitDefEqProofs[hm,ita,w3,gd];exact Ym.sub (by simp[lk,Ya,AV.keys]) (by simp[lk,Yc,Ya,AV.keys,dpA,lfA,um,ur,isa])
             . by_cases hin:y.its[m].1∈s.2
               . rw[if_pos hin]at gl;simp only[hin,W1i,W17,W2a]at ur
                 cases hk1:dpLk y.its[m].1 s.1 with
                 | none =>
                   rw[hk1]at gd;simp only[dpG,hk1,W21]at um;simp -implicitDefEqProofs[hm,ita,w3,gd,gl];exact Ym.sub (by simp[lk,Ya,AV.keys]) (by simp[lk,Yc,Ya,AV.keys,dpA,lfA,um,ur,isa])
                 | some v =>
                   rw[hk1]at gd;simp only[dpG,hk1,W0P]at um;simp -implicitDefEqProofs[hm,ita,w3,gd,gl];exact Ym.sub (by simp[lk,Ya,AV.keys]) (by simp[lk,Yc,Ya,AV.keys,dpA,lfA,um,ur,isa])
               . rw[if_neg hin]at gl;simp only[hin,W1x,W1E,W2c]at ur
                 cases hk1:dpLk y.its[m].1 s.1 with
                 | none =>
                   rw[hk1]at gd;simp only[dpG,hk1,W21]at um;simp -implicitDefEqProofs[hm,ita,w3,gd,gl];exact Ym.sub (by simp[lk,Ya,AV.keys]) (by simp[lk,Yc,Ya,AV.keys,dpA,lfA,um,ur,isa])
                 | some v =>
                   rw[hk1]at gd;simp only[dpG,hk1,W0P]at um;simp -implicitDefEqProofs[hm,ita,w3,gd,gl];exact Ym.sub (by simp[lk,Ya,AV.keys]) (by simp[lk,Yc,Ya,AV.keys,dpA,lfA,um,ur,isa])
           . intro _;refine Qga ?_;simp -implicitDefEqProofs[];refine Qgr ?_;simp -implicitDefEqProofs[RndB,Yi,newK,frzO,frzA,frz,AV.keys,tm,tr,dpA,lfA,W0y]
             try trivial
         . intro _;have hel:(elsOf r n).length=(issOf r n).length:=(by simp[elsOf,issOf]);have etk:(issOf r n).take (issOf r n).length=issOf r n:=W0J (W0f _);have hbd:=Zad hI (issOf r n) 0 (W1Y _) (by omega);have hlen:=hI.len;have w4:i64.wrap (msN s.1 0 (issOf r n)+1)=msN s.1 0 (issOf r n)+1:=Yf;have rdpA:∀ dp,AObj.ren (λk=>k-1000) (.mp (dpA dp)) = .mp (dpA dp):=λdp=>by simp[AObj.ren,dpA,AV.ren,W0y]
           have rlfA:∀ lf,AObj.ren (λk=>k-1000) (.mp (lfA lf)) = .mp (lfA lf):=λlf=>by simp[AObj.ren,lfA,AV.ren,W0y]
           have rbx:∀ cs,AObj.ren (λk=>k-1000) (.box cs) = .box (cs.map (AV.ren λk=>k-1000)):=λ_=>rfl
           cases hrd2:rdN s.2 true (issOf r n)
           . have hst2:dStep r s n=s:=(by simp[dStep,hm,hrd2]);rw[hst2]at hst;simp -implicitDefEqProofs[Yl,rdpA,rlfA,rbx,AV.ren,hel,etk,hrd2];refine Qgr ?_;simp -implicitDefEqProofs[w2];rw[hst];exact Ym.sub (by simp[lk,Ya,AV.keys,bkA]) (by simp[lk,Yc,Ya,AV.keys,dpA,lfA])
           . have hmem:n∈s.2:=Za9 (by rw[hm];exact hrd2);have hst2:dStep r s n=(s.1++[(n,msN s.1 0 (issOf r n)+1)],s.2.erase n):=(by simp[dStep,hm,hrd2]);rw[hst2]at hst
             have hnk:n ∉ s.1.map (·.1):=λhin=>by
              have:=(List.nodup_append.1 (hI.perm.nodup_iff.2 hnd)).2.2 n hin n hmem;exact this rfl
             have pd:=Z9X (msN s.1 0 (issOf r n)+1) hnk;have dl:=Za2 hmem;simp -implicitDefEqProofs[Yl,rdpA,rlfA,rbx,AV.ren,hel,etk,hrd2];refine Qgr ?_;simp -implicitDefEqProofs[w2,w4,pd,dl];rw[hst];exact Ym.sub (by simp[lk,Ya,AV.keys,bkA]) (by simp[lk,Yc,Ya,AV.keys,dpA,lfA])
     . intro _;refine Qga ?_;have etk:(nums r).take (nums r).length=nums r:=W0J (W0f _);simp -implicitDefEqProofs[];refine Qgr ?_;have e:(nums r).foldl (dStep r) (dRun r k)=dRun r (k+1):=rfl;simp -implicitDefEqProofs[w1,e];exact Ym.sub (by simp[lk,Ya,AV.keys,bkA]) (by simp[lk,Yc,Ya,AV.keys,dpA,lfA])
   . intro _;refine Qga ?_;simp -implicitDefEqProofs[];refine Qgr ?_;have hla:(lfA (dRun r (nums r).length).2).length=(dRun r (nums r).length).2.length:=(by simp[lfA]);have hpu:(dpA (dRun r (nums r).length).1).all (λp=>p.1.pure&&p.2.pure)=true:=(by simp[dpA,AV.pure]);simp -implicitDefEqProofs[hla,hpu]
def FinZ (rs:List RRes) (v:AV):Exit->St->Prop
 |.normal,st | .ret,st=>∃ xs ys,Z29 st rs=some xs/\Yj (snap st) xs=some ys/\v=nz (tupV ys)
 |_,_=>False
def Zag {P:Program} {G:Jg} {f:FuncId} {fn:Func} {c:Code} {rc:RCode} {rs:List RRes} {args:List AV} {v:AV} (hf:P.funcs[f]? = some fn) (hb:fn.body=some c) (he:entB P f=true)
  (hc:Z1A P fn.ntmps c rc=true) (hrs:allB2 (okRes P) fn.results.toList rs=true) (hn:args.length<=fn.ntmps)
  (h:∀ R:Run,R.N=fn.ntmps->R.G=G->R.Top->AR P R rc (Z2a args) (FinZ rs v)):PC P G f args v:=by
 refine ⟨he,λM W vs hM hG hsz hvs=>?_⟩;refine callsIn_wide.1 (callsIn_of_wp_marks (F:=FW none) (n:=1) hf hb trivial ?_)
 let R:Run:={ G:=G,M:=M,X:=λ_=>False,W0:=W,N:=fn.ntmps,E0:={ M:=M,loc:=λ_=>none,row:=λ_=>none } }
 have h0:SK R (Z2a args) { tmps:=vs++Array.replicate (fn.ntmps-vs.size) Go.undef,defers:=[] } W (λ_=>none):=by
  have hGM:∀ b,b<W.heap.size->¬M b->¬((Z2a args).env M (λ_=>none)).M b/\W.heap[b]? = W.heap[b]?:=λb _ h1=>⟨(by rintro (h2 | ⟨k,s,h2⟩) <;> first|exact h1 h2|cases h2),rfl⟩
  refine ⟨.nil _ _ _ _,by show (vs++_).size=fn.ntmps;simp;omega,λn x hx=>?_,(λk o ho=>by simp[Z2a,St.get,lk]at ho),(λk p hk=>by cases hk),(λk k' b s s' hk=>by cases hk),hM,λ_ _ h=>h,Kp.refl _ _,hG.mono hGM (W0f _),⟨W0f _,hGM,λk p hk=>(by cases hk),λk sz m hk=>(by cases hk)⟩,λ_ _=>⟨rfl,rfl⟩⟩;simp only[Z2a,St.tmp,Z2b,W1f,if_true,W1W]at hx;show VR _ W x ((vs++Array.replicate (fn.ntmps-vs.size) Go.undef).getD n Go.undef);rw[W0a,W0W];have c1:n<args.length:=(W02.1 hx).1;rw[if_pos (by omega)];have:vs[n]? = some vs[n]:=(by simp);rw[this];exact .pv ((hvs n x _ hx this).mono hGM (W0f _))
 refine wpIn_mono (h R rfl rfl ⟨rfl,rfl⟩ c hc 1 _ W ⟨_,h0⟩) ?_
 have key:∀ (a':Act) (W':World) (st':St),(∃ xs ys,Z29 st' rs=some xs/\Yj (snap st') xs=some ys/\v=nz (tupV ys))->SR R st' a' W' ->
   ∃ u,(results fn a'.tmps).run P W' = .ok u W'/\∃ u',Ending.returned u = .returned u'/\PV M W' v u'/\Ext W W':=by
  rintro a' W' st' ⟨xs,ys,h1,h2,rfl⟩ ⟨κ,hk⟩;obtain ⟨us,h3,h4⟩:=Z2d (P:=P) hk hrs h1;obtain ⟨h5,h6⟩:=Z1R h2;have hE:Ext W W':=⟨hk.kp.os,hk.kp.tape,hk.kp.output,hk.kp.size,λi hi=>hk.kp.block i hi (λh=>h)⟩
  have hp:∀ (i:Nat) (y:AV) (u:Value),ys[i]? = some y->us[i]? = some u->PV M W' y u:=λi y u hy hu=>by
   obtain ⟨x,h7,h8⟩:=h6 i y hy;exact Z1T hk (h4.2 i x u h7 hu) h8
  have hl:us.length=ys.length:=(by have:=h4.1;omega);refine ⟨(if h:us.toArray.size=1 then us.toArray[0] else .tuple us.toArray),?_,_,rfl,PV.nz ?_,hE⟩
  . unfold results;rw[Sem.run_bind]
    have:(fn.results.mapM λrv=>(match rv with
     |.tmp t=>pure (a'.tmps.getD t Go.undef)
     |.cell p t=>do loadVar t (<- asAddr (a'.tmps.getD p Go.undef)):Sem Value)).run P W' = .ok us.toArray W':=by
     rw[W1R,Sem.run_map];exact congrArg (λz=>Result.andThen z (λa w'=>Result.ok a.toArray w')) h3
    erw [this]
    rfl
  . match ys,us,hl,hp with
    |[],[],_,_=>exact .tup [] _ rfl (by simp)
    |[y],[u],_,hp=>exact hp 0 y u rfl rfl
    | y::y2::ys,u::u2::us,hl,hp =>
      rw[dif_neg (by simp)];exact .tup _ _ (by simpa using hl) (λi x w hx hw=>hp i x w hx (by simpa using hw))
 rintro e a' W' ⟨st',h1,κ,h2⟩
 cases e <;> try (exact h1.elim)
 all_goals
  refine h2.leave (by simp) rfl λa2 W2 ht hs2=>?_
  have:=key a2 W2 st' h1 ⟨κ,hs2⟩;rw[ht]at this;exact this
def Zah (l:List (Int×Int)):∀ r∈l.map ita,∀ x∈r,x.flat=true:=by
 intro r hr x hx;obtain ⟨p,-,rfl⟩:=W0i.1 hr;simp only[ita,W0g,W0Q,or_false]at hx;rcases hx with rfl|rfl <;> simp[AV.flat]
def Zai (l:List (Int×Int)):∀ r∈l.map ita,∀ x∈r,x.pure=true:=by
 intro r hr x hx;obtain ⟨p,-,rfl⟩:=W0i.1 hr;simp only[ita,W0g,W0Q,or_false]at hx;rcases hx with rfl|rfl <;> simp[AV.pure]
def Zaj (l:List Dm):∀ r∈l.map dma,∀ x∈r,x.flat=true:=by
 intro r hr x hx;obtain ⟨p,-,rfl⟩:=W0i.1 hr;simp only[dma,W0g,W0Q,or_false]at hx;rcases hx with rfl|rfl|rfl <;> simp[AV.flat]
def Zak (l:List Dm):∀ r∈l.map dma,∀ x∈r,x.pure=true:=by
 intro r hr x hx;obtain ⟨p,-,rfl⟩:=W0i.1 hr;simp only[dma,W0g,W0Q,or_false]at hx;rcases hx with rfl|rfl|rfl <;> simp[AV.pure]
def Zal (l:List (Int×Int)) (hne:l≠[]) (hl:Sml l):PN prog G 121 [.vsl (l.map ita)] 2 (l.map ita):=by
 refine PN_of (Zah l) (Zai l) Tryz.func121 rfl (by kernel_rfl) (rc:=Z7j) (by kernel_rfl) (rs:=Z7k) (by kernel_rfl) (W0C rfl) λR _ hG hrd=>Qga ?_
 unfold Sml at hl;have b1:l.length*16<=70368744177664:=(by omega);have h0:¬l.length=0:=λe=>hne (W0l.1 e)
 have k1:(l.map ita).all (λr=>r.length == 2)=true:=(by simp[ita]);have k2:(l.map ita).all (λr=>r.all AV.one)=true:=(by simp[ita,AV.one]);have k5:(l.map ita).all (λr=>r.all AV.pure)=true:=(by simp[ita,AV.pure]);simp -implicitDefEqProofs[Z7j,Z7k,h0,hne,b1,k1,k2,k5,FinN]
def Zam (l:List Dm) (hne:l≠[]) (hl:Sml l):PN prog G 122 [.vsl (l.map dma)] 3 (l.map dma):=by
 refine PN_of (Zaj l) (Zak l) Tryz.func122 rfl (by kernel_rfl) (rc:=Z7m) (by kernel_rfl) (rs:=Z7n) (by kernel_rfl) (W0C rfl) λR _ hG hrd=>Qga ?_
 unfold Sml at hl;have b1:l.length*24<=70368744177664:=(by omega);have h0:¬l.length=0:=λe=>hne (W0l.1 e)
 have k1:(l.map dma).all (λr=>r.length == 3)=true:=(by simp[dma]);have k2:(l.map dma).all (λr=>r.all AV.one)=true:=(by simp[dma,AV.one]);have k5:(l.map dma).all (λr=>r.all AV.pure)=true:=(by simp[dma,AV.pure]);simp -implicitDefEqProofs[Z7m,Z7n,h0,hne,b1,k1,k2,k5,FinN]
def Zan:PC prog G 121 [.vsl []] (.vsl []):=by
 refine Zag Tryz.func121 rfl (by kernel_rfl) (rc:=Z7j) (by kernel_rfl) (rs:=Z7k) (by kernel_rfl) (W0C rfl) λR _ hG hrd=>Qga ?_
 simp -implicitDefEqProofs[Z7j,Z7k,FinZ,nz]
def Zao:PC prog G 122 [.vsl []] (.vsl []):=by
 refine Zag Tryz.func122 rfl (by kernel_rfl) (rc:=Z7m) (by kernel_rfl) (rs:=Z7n) (by kernel_rfl) (W0C rfl) λR _ hG hrd=>Qga ?_
 simp -implicitDefEqProofs[Z7m,Z7n,FinZ,nz]
def GC (G:Jg):Prop:=G 2=some [.func (.func 260) [] [],.func (.func 261) [] [],.func (.func 262) [] [],.func (.func 263) [] []]
def ckN (x:Iss):Nat->Bool
 |0=>ck1 x
 |1=>ck2 x
 |2=>ck3 x
 |_=>ck4 x
def Zap {x:Iss} (h:∀ j,j<4->ckN x j=true):issB x=true:=by
 rw[Z9j,show ck1 x=true from h 0 (by omega),show ck2 x=true from h 1 (by omega),show ck3 x=true from h 2 (by omega),show ck4 x=true from h 3 (by omega)];rfl
def Zaq {x:Iss} {j:Nat} (hj:j<4) (h:ckN x j=false):issB x=false:=by
 rw[Z9j];have:j=0∨j=1∨j=2∨j=3:=(by omega);rcases this with rfl|rfl|rfl|rfl <;> simp only[ckN]at h <;> simp[h]
def openV (r:Jr):Int:=if Z8B r=true then
    if 0<(dRun r (nums r).length).2.length then 21 else if (∃ p∈(dRun r (nums r).length).1,6<p.2) then 20 else 0
 else 20
def openA (r:Jr):AV:=.tup [if openV r=0 then bkA r (nums r) else .nilp,.int .i64 (openV r)]
def Zar {r:Jr} (h:Z8B r=false):openA r = .tup [.nilp,.int .i64 20]:=by simp[openA,openV,h]
def opS (r:Jr):Nat->St
 |0=>⟨[(28,.int .i64 0),(27,.int .i64 r.length),(26,.vsl (r.map isa)),(1,.ptr 1 0),(4,.ptr 4 0)],[(1,.box [.vsl (r.map isa)]),(4,.box [.ptr 18 0]),(18,.box [.vsl (r.map isa),.nils])]⟩
 |i+1=>⟨[(28,.int .i64 (i+1:Nat)),(27,.int .i64 r.length),(26,.vsl (r.map isa)),(1,.ptr 1 0),(4,.ptr 4 0)],[(1,.box [.vsl (r.map isa)]),(4,.box [.ptr 18 0]),(18,.box [.vsl (r.map isa),.osl 85 (numsN r (i+1)).length]),(85,.row 1 ((numsN r (i+1)).map ia))]⟩
def opT (r:Jr) (k:Nat):St:=⟨[(98,.int .i64 k),(97,.int .i64 r.length),(96,.vsl (r.map isa)),(4,.vptr [bkA r (nums r)] 0)],[]⟩
def opJ (r:Jr) (i:Nat) (x:Iss) (j:Nat):St:=⟨[(34,.int .i64 j),(33,.agg [.func (.func 260) [] [],.func (.func 261) [] [],.func (.func 262) [] [],.func (.func 263) [] []]),(5,.int .i64 i),(6,.ptr 6 0)]++(opS r i).t,(opS r i).o++[(6,.box (isa x))]⟩
def Zas {x:Iss} {j:Nat} (hc:∀ k,k<j->ckN x k=true) (h:ckN x j=true):∀ k,k<j+1->ckN x k=true:=λk hk=>by
 by_cases e:k=j
 . rw[e];exact h
 . exact hc k (by omega)
set_option maxRecDepth 4000 in
def Zat (hG:GC G) (r:Jr) (h:Wf r):PC prog G 168 [rega r] (openA r):=by
 (refine Z5Q rfl λR hG hrd=>Qga ?_;subst hG)
 unfold GC at hG;have hs:=h.1.1;unfold Sml at hs;simp -implicitDefEqProofs[Z5O,Z5P,rega];refine Yd.flat (Z9g 1 60 r.length) (by simp[AV.flat]) (by simp) ?_
 cases q1:inR r.length 1 60
 . simp -implicitDefEqProofs[Zar (r:=r) (by simp[Z8B,q1])]
 have q1':1<=r.length/\r.length<=60:=by
  have:=W0X q1;omega
 simp -implicitDefEqProofs[];refine Z8g (opS r) (λi=>∀ j (h:j<r.length),j<i->issB r[j]=true/\ordB r j=true) r.length (by simp only[opS];(first|exact Wka|exact Wkb)) (by simp) ?_ ?_
 . intro i hi he;refine Qga ?_;have w1:i64.wrap ((i:Int)+1)=((i+1:Nat):Int):=Yf;have a1:=at_eq hi;have hx:=h.1.2 r[i] (W0e hi);have hk:=h.2 r[i] (W0e hi);have a1:=at_eq hi
   cases i with
   | zero =>
     simp -implicitDefEqProofs[opS,hi,isa,hG];refine Z8g (opJ r (0) r[0]) (λj=>∀ k,k<j->ckN r[0] k=true) 4 (by simp only[opJ,opS];(first|exact Ym.tm (by simp[lk,isa,ia])|exact Ym.sub (by simp[lk,Ya,AV.keys,isa,ia]) (by simp[lk,Yc,Ya,AV.keys,isa,ia]))) (by simp) ?_ ?_
     . intro j hj hc;refine Qga ?_;rcases (show j=0∨j=1∨j=2∨j=3 by omega) with rfl|rfl|rfl|rfl
       . have v0:i64.wrap 1=1:=rfl;simp -implicitDefEqProofs[opJ,opS,isa];refine Qco (Z9k r[0]) ?_
         cases q:ck1 r[0]
         . simp -implicitDefEqProofs[];refine Qgr ?_;simp -implicitDefEqProofs[];refine Qgr ?_;simp -implicitDefEqProofs[Zar (Z8C hi (Zaq (j:=0) (by omega) q))]
         . simp -implicitDefEqProofs[v0]
           first|exact ⟨(by (first|exact Ym.tm (by simp[lk,opJ,opS,isa,ia])|exact Ym.sub (by simp[lk,Ya,AV.keys,opJ,opS,isa,ia]) (by simp[lk,Yc,Ya,AV.keys,opJ,opS,isa,ia]))),Zas hc q⟩|exact ⟨(by (first|exact Ym.tm (by simp[lk,opJ,opS,isa,ia])|exact Ym.sub (by simp[lk,Ya,AV.keys,opJ,opS,isa,ia]) (by simp[lk,Yc,Ya,AV.keys,opJ,opS,isa,ia]))),q⟩
       . have v1:i64.wrap 2=2:=rfl;simp -implicitDefEqProofs[opJ,opS,isa];refine Qco (Z9l r[0] hk) ?_
         cases q:ck2 r[0]
         . simp -implicitDefEqProofs[];refine Qgr ?_;simp -implicitDefEqProofs[];refine Qgr ?_;simp -implicitDefEqProofs[Zar (Z8C hi (Zaq (j:=1) (by omega) q))]
         . simp -implicitDefEqProofs[v1]
           first|exact ⟨(by (first|exact Ym.tm (by simp[lk,opJ,opS,isa,ia])|exact Ym.sub (by simp[lk,Ya,AV.keys,opJ,opS,isa,ia]) (by simp[lk,Yc,Ya,AV.keys,opJ,opS,isa,ia]))),Zas hc q⟩|exact ⟨(by (first|exact Ym.tm (by simp[lk,opJ,opS,isa,ia])|exact Ym.sub (by simp[lk,Ya,AV.keys,opJ,opS,isa,ia]) (by simp[lk,Yc,Ya,AV.keys,opJ,opS,isa,ia]))),q⟩
       . have v2:i64.wrap 3=3:=rfl;simp -implicitDefEqProofs[opJ,opS,isa];refine Qco (Z9m r[0] hx.1) ?_
         cases q:ck3 r[0]
         . simp -implicitDefEqProofs[];refine Qgr ?_;simp -implicitDefEqProofs[];refine Qgr ?_;simp -implicitDefEqProofs[Zar (Z8C hi (Zaq (j:=2) (by omega) q))]
         . simp -implicitDefEqProofs[v2]
           first|exact ⟨(by (first|exact Ym.tm (by simp[lk,opJ,opS,isa,ia])|exact Ym.sub (by simp[lk,Ya,AV.keys,opJ,opS,isa,ia]) (by simp[lk,Yc,Ya,AV.keys,opJ,opS,isa,ia]))),Zas hc q⟩|exact ⟨(by (first|exact Ym.tm (by simp[lk,opJ,opS,isa,ia])|exact Ym.sub (by simp[lk,Ya,AV.keys,opJ,opS,isa,ia]) (by simp[lk,Yc,Ya,AV.keys,opJ,opS,isa,ia]))),q⟩
       . have v3:i64.wrap 4=4:=rfl;simp -implicitDefEqProofs[opJ,opS,isa];refine Qco (Z9o r[0] hx.2) ?_
         cases q:ck4 r[0]
         . simp -implicitDefEqProofs[];refine Qgr ?_;simp -implicitDefEqProofs[];refine Qgr ?_;simp -implicitDefEqProofs[Zar (Z8C hi (Zaq (j:=3) (by omega) q))]
         . simp -implicitDefEqProofs[v3]
           first|exact ⟨(by (first|exact Ym.tm (by simp[lk,opJ,opS,isa,ia])|exact Ym.sub (by simp[lk,Ya,AV.keys,opJ,opS,isa,ia]) (by simp[lk,Yc,Ya,AV.keys,opJ,opS,isa,ia]))),Zas hc q⟩|exact ⟨(by (first|exact Ym.tm (by simp[lk,opJ,opS,isa,ia])|exact Ym.sub (by simp[lk,Ya,AV.keys,opJ,opS,isa,ia]) (by simp[lk,Yc,Ya,AV.keys,opJ,opS,isa,ia]))),q⟩
     . intro hc;refine Qga ?_;have p1:issB r[0]=true:=Zap hc;simp -implicitDefEqProofs[opJ,opS,isa];refine Qgr ?_;by_cases p3:r[0].l=1
       . have hn:numsN r 1=[r[0].d]:=(by simp[numsN,newB,a1]);have ok:ordB r 0=true:=(by simp[ordB,a1,p3]);have w0:i64.wrap 1=1:=rfl;simp -implicitDefEqProofs[p3,w0];exact ⟨rfl,(by (first|exact Ym.tm (by simp[lk,opS,hn,ia])|exact Ym.sub (by simp[lk,Ya,AV.keys,opS,hn,ia]) (by simp[lk,Yc,Ya,AV.keys,opS,hn,ia]))),λj q1 q2=>by subst q2;exact ⟨p1,ok⟩⟩
       . simp -implicitDefEqProofs[p3];refine Qgr ?_;simp -implicitDefEqProofs[Zar (Z8D hi (by simp[ordB,a1,p3]))]
   | succ i =>
     have k1:(i:Int)+1<r.length:=(by omega);have k2:((i:Int)+1).toNat=i+1:=(by omega);have k3:(0:Int)<=(i:Int)+1:=(by omega);simp -implicitDefEqProofs[opS,hi,isa,hG,k1,k2,k3];refine Z8g (opJ r (i+1) r[i+1]) (λj=>∀ k,k<j->ckN r[i+1] k=true) 4 (by simp only[opJ,opS];(first|exact Ym.tm (by simp[lk,isa,ia])|exact Ym.sub (by simp[lk,Ya,AV.keys,isa,ia]) (by simp[lk,Yc,Ya,AV.keys,isa,ia]))) (by simp) ?_ ?_
     . intro j hj hc;refine Qga ?_;rcases (show j=0∨j=1∨j=2∨j=3 by omega) with rfl|rfl|rfl|rfl
       . have v0:i64.wrap 1=1:=rfl;simp -implicitDefEqProofs[opJ,opS,isa];refine Qco (Z9k r[i+1]) ?_
         cases q:ck1 r[i+1]
         . simp -implicitDefEqProofs[];refine Qgr ?_;simp -implicitDefEqProofs[];refine Qgr ?_;simp -implicitDefEqProofs[Zar (Z8C hi (Zaq (j:=0) (by omega) q))]
         . simp -implicitDefEqProofs[v0]
           first|exact ⟨(by (first|exact Ym.tm (by simp[lk,opJ,opS,isa,ia])|exact Ym.sub (by simp[lk,Ya,AV.keys,opJ,opS,isa,ia]) (by simp[lk,Yc,Ya,AV.keys,opJ,opS,isa,ia]))),Zas hc q⟩|exact ⟨(by (first|exact Ym.tm (by simp[lk,opJ,opS,isa,ia])|exact Ym.sub (by simp[lk,Ya,AV.keys,opJ,opS,isa,ia]) (by simp[lk,Yc,Ya,AV.keys,opJ,opS,isa,ia]))),q⟩
       . have v1:i64.wrap 2=2:=rfl;simp -implicitDefEqProofs[opJ,opS,isa];refine Qco (Z9l r[i+1] hk) ?_
         cases q:ck2 r[i+1]
         . simp -implicitDefEqProofs[];refine Qgr ?_;simp -implicitDefEqProofs[];refine Qgr ?_;simp -implicitDefEqProofs[Zar (Z8C hi (Zaq (j:=1) (by omega) q))]
         . simp -implicitDefEqProofs[v1]
           first|exact ⟨(by (first|exact Ym.tm (by simp[lk,opJ,opS,isa,ia])|exact Ym.sub (by simp[lk,Ya,AV.keys,opJ,opS,isa,ia]) (by simp[lk,Yc,Ya,AV.keys,opJ,opS,isa,ia]))),Zas hc q⟩|exact ⟨(by (first|exact Ym.tm (by simp[lk,opJ,opS,isa,ia])|exact Ym.sub (by simp[lk,Ya,AV.keys,opJ,opS,isa,ia]) (by simp[lk,Yc,Ya,AV.keys,opJ,opS,isa,ia]))),q⟩
       . have v2:i64.wrap 3=3:=rfl;simp -implicitDefEqProofs[opJ,opS,isa];refine Qco (Z9m r[i+1] hx.1) ?_
         cases q:ck3 r[i+1]
         . simp -implicitDefEqProofs[];refine Qgr ?_;simp -implicitDefEqProofs[];refine Qgr ?_;simp -implicitDefEqProofs[Zar (Z8C hi (Zaq (j:=2) (by omega) q))]
         . simp -implicitDefEqProofs[v2]
           first|exact ⟨(by (first|exact Ym.tm (by simp[lk,opJ,opS,isa,ia])|exact Ym.sub (by simp[lk,Ya,AV.keys,opJ,opS,isa,ia]) (by simp[lk,Yc,Ya,AV.keys,opJ,opS,isa,ia]))),Zas hc q⟩|exact ⟨(by (first|exact Ym.tm (by simp[lk,opJ,opS,isa,ia])|exact Ym.sub (by simp[lk,Ya,AV.keys,opJ,opS,isa,ia]) (by simp[lk,Yc,Ya,AV.keys,opJ,opS,isa,ia]))),q⟩
       . have v3:i64.wrap 4=4:=rfl;simp -implicitDefEqProofs[opJ,opS,isa];refine Qco (Z9o r[i+1] hx.2) ?_
         cases q:ck4 r[i+1]
         . simp -implicitDefEqProofs[];refine Qgr ?_;simp -implicitDefEqProofs[];refine Qgr ?_;simp -implicitDefEqProofs[Zar (Z8C hi (Zaq (j:=3) (by omega) q))]
         . simp -implicitDefEqProofs[v3]
           first|exact ⟨(by (first|exact Ym.tm (by simp[lk,opJ,opS,isa,ia])|exact Ym.sub (by simp[lk,Ya,AV.keys,opJ,opS,isa,ia]) (by simp[lk,Yc,Ya,AV.keys,opJ,opS,isa,ia]))),Zas hc q⟩|exact ⟨(by (first|exact Ym.tm (by simp[lk,opJ,opS,isa,ia])|exact Ym.sub (by simp[lk,Ya,AV.keys,opJ,opS,isa,ia]) (by simp[lk,Yc,Ya,AV.keys,opJ,opS,isa,ia]))),q⟩
     . intro hc;refine Qga ?_;have p1:issB r[i+1]=true:=Zap hc;simp -implicitDefEqProofs[opJ,opS,isa];refine Qgr ?_;have w2:i64.wrap (i:Int)=(i:Int):=Yf;have w3:i64.wrap ((i:Int)+1+1)=(i:Int)+1+1:=Yf;have k3:(0:Int)<(i:Int)+1:=(by omega);have hi2:i<r.length:=(by omega);have a2:=at_eq hi2;have bl:=(he i hi2 (by omega)).1;simp only[issB,headB,W01,inR,W0b]at bl;have w4:i64.wrap (r[i].l+1)=r[i].l+1:=Yf;have b1:=Z8r r (i+1);have b2:((numsN r (i+1)).length+1)*8<=70368744177664:=by omega
       have go:ordB r (i+1)=true->∀ j (h:j<r.length),j<i+1+1->issB r[j]=true/\ordB r j=true:=λg2 j q1 q2=>by
        by_cases e:j=i+1
        . subst e;exact ⟨p1,g2⟩
        . exact he j q1 (by omega)
       by_cases p3:r[i].d=r[i+1].d
       . have hn:numsN r (i+1+1)=numsN r (i+1):=(by rw[numsN];simp[newB,a1,a2,p3]);by_cases p5:r[i+1].l=r[i].l+1
         case neg =>
          have p5':¬r[i].l+1=r[i+1].l:=λe=>p5 e.symm
          simp -implicitDefEqProofs[k3,w2,w4,hi2,isa,p3,p5'];refine Qgr ?_;simp -implicitDefEqProofs[Zar (Z8D hi (by simp[ordB,a1,a2,p3,p5]))]
         by_cases p6:r[i].k=r[i+1].k
         . have ok:ordB r (i+1)=true:=(by simp[ordB,a1,a2,p3,p5,p6]);simp -implicitDefEqProofs[k3,w2,w3,w4,hi2,isa,p3,p5,p6];exact ⟨(by (first|exact Ym.tm (by simp[lk,opS,hn,ia])|exact Ym.sub (by simp[lk,Ya,AV.keys,opS,hn,ia]) (by simp[lk,Yc,Ya,AV.keys,opS,hn,ia]))),go ok⟩
         . have p6':¬r[i+1].k=r[i].k:=λe=>p6 e.symm
           simp -implicitDefEqProofs[k3,w2,w4,hi2,isa,p3,p5,p6];refine Qgr ?_;simp -implicitDefEqProofs[Zar (Z8D hi (by simp[ordB,a1,a2,p3,p5,p6']))]
       by_cases p4:r[i+1].d<r[i].d
       . simp -implicitDefEqProofs[k3,w2,hi2,isa,p3,p4];refine Qgr ?_;simp -implicitDefEqProofs[Zar (Z8D hi (by simp[ordB,a1,a2,p4]))]
       have p7:r[i].d<r[i+1].d:=(by omega);have hn:numsN r (i+1+1)=numsN r (i+1)++[r[i+1].d]:=(by rw[numsN];simp[newB,a1,a2,p3]);by_cases p5:r[i+1].l=1
       . have ok:ordB r (i+1)=true:=(by simp[ordB,a1,a2,p4,p7,p5]);simp -implicitDefEqProofs[k3,w2,w3,hi2,isa,p3,p4,p5,b2];exact ⟨rfl,(by (first|exact Ym.tm (by simp[lk,opS,hn,ia])|exact Ym.sub (by simp[lk,Ya,AV.keys,opS,hn,ia]) (by simp[lk,Yc,Ya,AV.keys,opS,hn,ia]))),go ok⟩
       . simp -implicitDefEqProofs[k3,w2,hi2,isa,p3,p4,p5];refine Qgr ?_;simp -implicitDefEqProofs[Zar (Z8D hi (by simp[ordB,a1,a2,p4,p7,p5]))]
 . intro he;refine Qga ?_;obtain ⟨n,hn⟩ : ∃ n,r.length=n+1:=⟨r.length-1,by omega⟩;have e:numsN r (n+1)=nums r:=by rw[nums,hn]
   have g1:r.all issB=true:=W03.2 λx hx=>by
    obtain ⟨j,hj,rfl⟩:=W0k hx;exact (he j hj hj).1
   have g2:(List.range r.length).all (ordB r)=true:=Z8y.2 λj hj=>(he j hj hj).2
   have hO:Ord r:=λi hi=>by
    have:=(he (i+1) hi (by omega)).2;simp only[ordB]at this
    split at this
    . cases this
    . omega
   have hns:Sml (nums r):=(by have:=Z8H r;unfold Sml;omega);have hsn:(nums r).Pairwise (· <= ·):=(Z8L hO).imp λh=>Int.le_of_lt h
   have k1:¬(n:Int)+1<r.length:=(by omega);rw[hn];simp -implicitDefEqProofs[opS,k1,e];refine Qgr ?_;simp -implicitDefEqProofs[];by_cases c20:20<(nums r).length
   . have c20':(20:Int)<(nums r).length:=(by omega);simp -implicitDefEqProofs[c20',Zar (r:=r) (by simp[Z8B];omega)]
   have c20':¬(20:Int)<(nums r).length:=(by omega);have pu:((nums r).map ia).all (λx=>x.all AV.pure)=true:=(by simp[ia,AV.pure]);have pw:(r.map isa).all (λx=>x.all AV.pure)=true:=(by simp[isa,AV.pure]);simp -implicitDefEqProofs[c20'];refine Z8g (opT r) (λi=>∀ j (h:j<r.length),j<i->ItsIn r r[j]) r.length (Ym.trans (Ym.frz newK _ (λk hk=>by simp[newK];omega)) ?_) (by simp) ?_ ?_
   . simp only[opT,bkA,Yi];refine Ym.sub (by simp[lk,Ya,AV.keys,Yi,newK,frzA,frz,Yh,Yj,St.get,pu,pw]) (by simp) (by simp[newK])
   . intro i hi hc;refine Qga ?_;have w1:i64.wrap ((i:Int)+1)=((i+1:Nat):Int):=Yf;have hx:=h.1.2 r[i] (W0e hi);simp -implicitDefEqProofs[opT,hi,isa];refine Qco (Z9a 196 [.vptr [bkA r (nums r)] 0] (λy=>!decide (y.1∈nums r)) r[i].its (by simp[AV.pure]) hx.1 (λy _=>Z9S r (nums r) y hsn hns)) ?_
     cases q:r[i].its.any λy=>!decide (y.1∈nums r)
     . simp -implicitDefEqProofs[w1];refine ⟨(by (first|exact Ym.tm (by simp[lk,opT])|exact Ym.sub (by simp[lk,Ya,AV.keys,opT]) (by simp[lk,Yc,Ya,AV.keys,opT]))),λj q1 q2=>?_⟩;by_cases e2:j=i
       . subst e2;intro y hy;have:=W26.1 q y hy;simpa using this
       . exact hc j q1 (by omega)
     . simp -implicitDefEqProofs[];refine Qgr ?_;obtain ⟨y,hy,hy2⟩:=W14.1 q;obtain ⟨k,hk,rfl⟩:=W0k hy;simp -implicitDefEqProofs[Zar (Z8E hi hk (by simpa using hy2))]
   . intro hc;refine Qga ?_
     have g3:inB r=true:=W03.2 λx hx=>by
      obtain ⟨j,hj,rfl⟩:=W0k hx;exact W03.2 λy hy=>W0M (hc j hj hj y hy)
     have hL:Z8B r=true:=by
      simp only[Z8B,q1,g1,g2,g3,W1k,W2c,W0b];omega
     simp -implicitDefEqProofs[opT];refine Qgr ?_;simp -implicitDefEqProofs[];refine Qco (Zaf r h hO (by omega)) ?_;simp -implicitDefEqProofs[];by_cases c21:0<(dRun r (nums r).length).2.length
     . have v:openA r = .tup [.nilp,.int .i64 21]:=(by simp[openA,openV,hL,c21]);simp -implicitDefEqProofs[c21,v]
     simp -implicitDefEqProofs[c21];refine Z5h (kvs:=(dRun r (nums r).length).1) rfl (by simp[opnT,St.tmp,lk]) ?_ ?_
     . intro h6;refine Qgr ?_;have n6:¬ ∃ p∈(dRun r (nums r).length).1,6<p.2:=λ⟨p,hp,hp6⟩=>by have:=h6 p hp;omega
       have v:openA r = .tup [bkA r (nums r),.int .i64 0]:=by
        unfold openA openV;rw[if_pos hL,if_neg c21,if_neg n6];simp
       simp -implicitDefEqProofs[v,bkA]
     . intro h6;refine Qga ?_
       have v:openA r = .tup [.nilp,.int .i64 20]:=by
        unfold openA openV;rw[if_pos hL,if_neg c21,if_pos h6];simp
       simp -implicitDefEqProofs[Z5a,v];refine Qgr ?_;simp -implicitDefEqProofs[]
def Zau {r:Jr} (h:openV r=0):Z8B r=true:=by
 unfold openV at h
 split at h
 . assumption
 . cases h
def Zav {r:Jr} (h:Z8B r=true):1<=r.length/\r.length<=60:=by
 simp only[Z8B,W01,W0b,inR]at h;have:=h.1.1.1.1;omega
def Zaw {r:Jr} (h:Z8B r=true) {i:Nat} (hi:i<r.length):ordB r i=true:=by
 simp only[Z8B,W01]at h;exact Z8y.1 h.1.1.2 i hi
def Zax {r:Jr} (h:Z8B r=true) {x:Iss} (hx:x∈r):ItsIn r x:=λy hy=>by
 simp only[Z8B,W01,inB]at h;exact W0X (W03.1 (W03.1 h.1.2 x hx) y hy)
def Zay {r:Jr} (h:Sml r):Sml (nums r):=by have:=Z8H r;unfold Sml at *;omega
def Zaz {r:Jr} (hO:Ord r):(r.map (·.d)).Pairwise (· <= ·):=by
 rw[W2o,W0Y];intro i j hi hj hij;have:=hO.mono (Nat.le_of_lt hij) hj
 rwa [at_eq hi,at_eq hj]at this
def Lx (x y:Iss):Prop:=x.d<y.d∨(x.d=y.d/\x.l<y.l)
def ZaA {r:Jr} (h:Z8B r=true):∀ {i j:Nat},i<j->j<r.length->Lx (at' r i) (at' r j):=by
 intro i j hij hj
 induction j with
 |zero=>omega
 | succ j ih =>
   have step:Lx (at' r j) (at' r (j+1)):=by
    have:=Zaw h hj;simp only[ordB]at this
    split at this
    . cases this
    . split at this
      . rename_i h2;exact .inl h2
      . simp only[W01,W0b]at this;exact .inr ⟨by omega,by omega⟩
   by_cases e:i=j
   . subst e;exact step
   . have:=ih (by omega) (by omega);unfold Lx at *;omega
def ZaB {r:Jr} (h:Z8B r=true):∀ y∈r,findN y.d y.l r=some y:=λy hy=>by
 obtain ⟨i,hi,rfl⟩:=W0k hy;refine Z8t hi rfl rfl λj hj hij=>?_
 have:=ZaA h hij hi;rw[at_eq hj,at_eq hi]at this;unfold Lx at this;omega
def ZaC (hG:GC G) (r:Jr) (h:Wf r):PC prog G 131 [rega r] (.tup [.vsl ((if openV r=0 then nums r else []).map ia),.int .i64 (openV r)]):=by
 by_cases e:openV r=0
 . (refine Z7r rfl λR hG hrd=>Qga ?_;subst hG)
   simp -implicitDefEqProofs[Z7p,Z7q,rega];refine Qco (Zat hG r h) ?_;simp -implicitDefEqProofs[openA,e,bkA]
 . refine PC.nzR (v:=.tup [.nils,.int .i64 (openV r)]) ?_ (by simp[nz,e])
   (refine Z7r rfl λR hG hrd=>Qga ?_;subst hG)
   simp -implicitDefEqProofs[Z7p,Z7q,rega];refine Qco (Zat hG r h) ?_;simp -implicitDefEqProofs[openA,e]
def atP (r:Jr) (d l:Int):Iss×Int:=if openV r=0 then match findN d l r with
    |some x=>(x,0)
    |none=>(zI,6)
 else (zI,openV r)
def chL (l:Jr):List Int:=l.flatMap λx=>x.its.map (·.1)
def ZaD (x:Iss) (l:Jr):chL (x::l)=x.its.map (·.1)++chL l:=rfl
def C (r:Jr) (n:Int):List Int:=chL (issOf r n)
def dvL (f:Int->Int) (m:Int) (l:Jr):Int:=l.foldl (λm x=>dvIt f (max m 1) x.its) m
def ZaE (r:Jr) (f:Int->Int) (n:Int):∀ i,i<=r.length->dvN r f n i=dvL f 0 (issOf (r.take i) n)
 |0,_=>by simp[dvN,issOf,dvL]
 | i+1,hi=>by
   have hlt:i<r.length:=(by omega);have ih:=ZaE r f n i (by omega);rw[W08 hlt,issOf,W1a,dvN,at_eq hlt];by_cases e:r[i].d=n
   . rw[if_pos e,ih,W2j (by simpa using e),dvL,dvL,W1q];rfl
   . rw[if_neg e,ih,W2k (by simpa using e),List.filter_nil,W1G];rfl
def ZaF (f:Int->Int):∀ (its:List (Int×Int)) (m:Int),m<=dvIt f m its/\(∀ y∈its,1+f y.1<=dvIt f m its)/\(dvIt f m its=m∨∃ y∈its,dvIt f m its=1+f y.1)
 |[],m=>⟨W1Y _,by simp,.inl rfl⟩
 | y :: its,m=>by
   obtain ⟨h1,h2,h3⟩:=ZaF f its (max m (1+f y.1));have e:dvIt f m (y::its)=dvIt f (max m (1+f y.1)) its:=rfl;rw[e];refine ⟨by omega,λz hz=>?_,?_⟩
   . rcases W0g.1 hz with rfl|hz
     . omega
     . exact h2 z hz
   . rcases h3 with h3 | ⟨z,hz,h3⟩
     . rcases Int.le_total m (1+f y.1) with hm|hm
       . exact .inr ⟨y,W0H ..,by omega⟩
       . exact .inl (by omega)
     . exact .inr ⟨z,W0z _ hz,h3⟩
def ZaG (f:Int->Int):∀ (l:Jr) (m:Int),m<=dvL f m l/\(l≠[]->1<=dvL f m l)/\(∀ c∈chL l,1+f c<=dvL f m l)/\(dvL f m l=m∨dvL f m l=1∨∃ c∈chL l,dvL f m l=1+f c)
 |[],m=>⟨W1Y _,by simp,by simp[chL],.inl rfl⟩
 | x :: l,m=>by
   obtain ⟨h1,h2,h3⟩:=ZaF f x.its (max m 1);obtain ⟨g1,g2,g3,g4⟩:=ZaG f l (dvIt f (max m 1) x.its);have e:dvL f m (x::l)=dvL f (dvIt f (max m 1) x.its) l:=rfl;rw[e];have q1:m<=max m 1:=Int.le_max_left ..;have q2:1<=max m 1:=Int.le_max_right ..;refine ⟨Int.le_trans q1 (Int.le_trans h1 g1),λ_=>Int.le_trans q2 (Int.le_trans h1 g1),λc hc=>?_,?_⟩
   . rw[ZaD]at hc;rcases W0h.1 hc with hc|hc
     . obtain ⟨y,hy,rfl⟩:=W0i.1 hc;exact Int.le_trans (h2 y hy) g1
     . exact g3 c hc
   . rcases g4 with g4|g4 | ⟨c,hc,g4⟩
     . rcases h3 with h3 | ⟨y,hy,h3⟩
       . rcases Int.le_total m 1 with hm|hm
         . exact .inr (.inl (by omega))
         . exact .inl (by omega)
       . exact .inr (.inr ⟨y.1,by rw[ZaD];exact W0h.2 (.inl (W0i.2 ⟨y,hy,rfl⟩)),by omega⟩)
     . exact .inr (.inl g4)
     . exact .inr (.inr ⟨c,by rw[ZaD];exact W0h.2 (.inr hc),g4⟩)
section
variable {r:Jr}
def ZaH (hO:Ord r) {n:Int} (hn:n∈nums r):issOf r n≠[]:=by
 obtain ⟨i,hi,rfl⟩:=Z8N hO hn;exact List.ne_nil_of_mem (a:=r[i]) (W0G.2 ⟨W0e hi,by simp⟩)
def Dv_eq (r:Jr) (k:Nat) (n:Int):Dv r (k+1) n=dvL (Dv r k) 0 (issOf r n):=by
 rw[Dv,ZaE r _ n _ (W0f _),W0v]
def Dv_ch (k:Nat) (n:Int) {c:Int} (hc:c∈C r n):1+Dv r k c<=Dv r (k+1) n:=by
 rw[Dv_eq];exact (ZaG _ _ _).2.2.1 c hc
def ZaI (hO:Ord r) (k:Nat) {n:Int} (hn:n∈nums r):1<=Dv r (k+1) n:=by
 rw[Dv_eq];exact (ZaG _ _ _).2.1 (ZaH hO hn)
def Dv_or (hO:Ord r) (k:Nat) {n:Int} (hn:n∈nums r):Dv r (k+1) n=1∨∃ c∈C r n,Dv r (k+1) n=1+Dv r k c:=by
 have h1:=ZaI hO k hn;rw[Dv_eq]at *;rcases (ZaG (Dv r k) (issOf r n) 0).2.2.2 with h|h|h
 . omega
 . exact .inl h
 . exact .inr h
def C_in (hin:∀ x∈r,ItsIn r x) {n c:Int} (hc:c∈C r n):c∈nums r:=by
 obtain ⟨x,hx,hc⟩:=W0u.1 hc;obtain ⟨y,hy,rfl⟩:=W0i.1 hc;exact hin x (W0G.1 hx).1 y hy
def ZaJ (lf:List Int):∀ (its:List (Int×Int)) (b:Bool),rdIt lf b its=true↔b=true/\∀ y∈its,y.1 ∉ lf
 |[],b=>by simp[rdIt]
 | y::its,b=>by
   have e:rdIt lf b (y::its)=rdIt lf (b && !decide (y.1∈lf)) its:=rfl;rw[e,ZaJ lf its];simp[and_assoc]
def ZaK (lf:List Int):∀ (l:Jr) (b:Bool),rdN lf b l=true↔b=true/\∀ c∈chL l,c ∉ lf
 |[],b=>by simp[rdN,chL]
 | x :: l,b=>by
   have e:rdN lf b (x::l)=rdN lf (rdIt lf b x.its) l:=rfl;rw[e,ZaK lf l,ZaJ,ZaD];simp only[W0h,W0i]
   constructor
   . rintro ⟨⟨h1,h2⟩,h3⟩;refine ⟨h1,λc hc=>?_⟩;rcases hc with ⟨y,hy,rfl⟩|hc
     . exact h2 y hy
     . exact h3 c hc
   . rintro ⟨h1,h2⟩;exact ⟨⟨h1,λy hy=>h2 _ (.inl ⟨y,hy,rfl⟩)⟩,λc hc=>h2 c (.inr hc)⟩
def ZaL (dp:List (Int×Int)):∀ (its:List (Int×Int)) (m:Int),m<=msIt dp m its/\(∀ y∈its,dpG dp y.1<=msIt dp m its)/\(msIt dp m its=m∨∃ y∈its,msIt dp m its=dpG dp y.1)
 |[],m=>⟨W1Y _,by simp,.inl rfl⟩
 | y :: its,m=>by
   obtain ⟨h1,h2,h3⟩:=ZaL dp its (max m (dpG dp y.1));have e:msIt dp m (y::its)=msIt dp (max m (dpG dp y.1)) its:=rfl;rw[e];refine ⟨by omega,λz hz=>?_,?_⟩
   . rcases W0g.1 hz with rfl|hz
     . omega
     . exact h2 z hz
   . rcases h3 with h3 | ⟨z,hz,h3⟩
     . rcases Int.le_total m (dpG dp y.1) with hm|hm
       . exact .inr ⟨y,W0H ..,by omega⟩
       . exact .inl (by omega)
     . exact .inr ⟨z,W0z _ hz,h3⟩
def ZaM (dp:List (Int×Int)):∀ (l:Jr) (m:Int),m<=msN dp m l/\(∀ c∈chL l,dpG dp c<=msN dp m l)/\(msN dp m l=m∨∃ c∈chL l,msN dp m l=dpG dp c)
 |[],m=>⟨W1Y _,by simp[chL],.inl rfl⟩
 | x :: l,m=>by
   obtain ⟨h1,h2,h3⟩:=ZaL dp x.its m;obtain ⟨g1,g2,g3⟩:=ZaM dp l (msIt dp m x.its);have e:msN dp m (x::l)=msN dp (msIt dp m x.its) l:=rfl;rw[e];refine ⟨by omega,λc hc=>?_,?_⟩
   . rw[ZaD]at hc;rcases W0h.1 hc with hc|hc
     . obtain ⟨y,hy,rfl⟩:=W0i.1 hc;have:=h2 y hy;omega
     . exact g2 c hc
   . rcases g3 with g3 | ⟨c,hc,g3⟩
     . rcases h3 with h3 | ⟨y,hy,h3⟩
       . exact .inl (by omega)
       . exact .inr ⟨y.1,by rw[ZaD];exact W0h.2 (.inl (W0i.2 ⟨y,hy,rfl⟩)),by omega⟩
     . exact .inr ⟨c,by rw[ZaD];exact W0h.2 (.inr hc),g3⟩
def ZaN {n:Int}:∀ {dp:List (Int×Int)},n∈dp.map (·.1)->∃ v,dpLk n dp=some v
 |[],h=>by simp at h
 | p :: dp,h=>by
   simp only[dpLk]
   split
   . exact ⟨_,rfl⟩
   . rename_i e;simp only[W0F,W0g]at h;exact ZaN (h.resolve_left λe2=>e (by rw[e2]))
def AInv (r:Jr) (s:List (Int×Int)×List Int):Prop:=∀ p∈s.1,∀ j:Nat,p.2<=j->Dv r j p.1=p.2
def AInv.step (hO:Ord r) (hin:∀ x∈r,ItsIn r x) {s:List (Int×Int)×List Int} (hd:DInv r s) (h:AInv r s) {n:Int} (hn:n∈nums r):AInv r (dStep r s n):=by
 unfold dStep
 split
 . rename_i hb;obtain ⟨h1,h2⟩:=(ZaK _ _ _).1 hb
   have kids:∀ c∈C r n,(c,dpG s.1 c)∈s.1:=λc hc=>by
    have hc1:c∈s.1.map (·.1)++s.2:=hd.perm.mem_iff.2 (C_in hin hc);have hc2:c∈s.1.map (·.1):=(W0h.1 hc1).resolve_right (h2 c hc);obtain ⟨v,hv⟩:=ZaN hc2;have:=Zaa hv
    rwa [show dpG s.1 c=v by simp[dpG,hv]]
   obtain ⟨m1,m2,m3⟩:=ZaM s.1 (issOf r n) 0;intro p hp j hj;rcases W0h.1 hp with hp|hp
   . exact h p hp j hj
   . simp only[W0B]at hp;subst hp;simp only at hj ⊢;obtain ⟨j,rfl⟩ : ∃ j',j=j'+1:=⟨j-1,by omega⟩
     have same:∀ c∈C r n,Dv r j c=dpG s.1 c:=λc hc=>by
      have:=m2 c hc;exact h _ (kids c hc) j (by simp only;omega)
     have o1:=ZaI hO j hn
     apply Int.le_antisymm
     . rcases Dv_or hO j hn with e | ⟨c,hc,e⟩
       . omega
       . have:=m2 c hc;have:=same c hc;omega
     . rcases m3 with e | ⟨c,hc,e⟩
       . omega
       . have:=Dv_ch (r:=r) j n hc;have:=same c hc;omega
 . exact h
def AInv.fold (hO:Ord r) (hin:∀ x∈r,ItsIn r x):∀ (l:List Int) {s:List (Int×Int)×List Int},(∀ n∈l,n∈nums r)->DInv r s->AInv r s->AInv r (l.foldl (dStep r) s)
 |[],s,_,_,h=>h
 |n::l,s,hl,hd,h=>AInv.fold hO hin l (λm hm=>hl m (W0z _ hm)) (hd.step n) (h.step hO hin hd (hl n (W0H ..)))
def AInv.run (hO:Ord r) (hin:∀ x∈r,ItsIn r x):∀ k,AInv r (dRun r k)
 |0=>by intro p hp;simp[dRun]at hp
 |k+1=>AInv.fold hO hin (nums r) (λ_ h=>h) (DInv.run r k) (AInv.run hO hin k)
def Stuck (r:Jr) (L:List Int):Prop:=∀ n∈L,∃ c∈C r n,c∈L
def ZaO {s:List (Int×Int)×List Int} {n:Int} (h:¬rdN s.2 (decide (n∈s.2)) (issOf r n)=true):dStep r s n=s/\(n∈s.2->∃ c∈C r n,c∈s.2):=by
 refine ⟨by unfold dStep;rw[if_neg h],λhn=>?_⟩;rw[ZaK]at h;by_cases e:∃ c∈C r n,c∈s.2
 . exact e
 . exact absurd ⟨W0M hn,λc hc h2=>e ⟨c,hc,h2⟩⟩ h
def ZaP (s:List (Int×Int)×List Int) (n:Int):(dStep r s n).2.length<=s.2.length:=by
 unfold dStep
 split
 . exact List.length_erase_le
 . exact W0f _
def ZaQ:∀ (l:List Int) (s:List (Int×Int)×List Int),(l.foldl (dStep r) s).2.length<=s.2.length
 |[],s=>W0f _
 |n::l,s=>W0O (ZaQ l _) (ZaP s n)
def ZaR:∀ (l:List Int) (s:List (Int×Int)×List Int),(l.foldl (dStep r) s).2.length<s.2.length∨(l.foldl (dStep r) s=s/\∀ n∈l,n∈s.2->∃ c∈C r n,c∈s.2)
 |[],s=>.inr ⟨rfl,by simp⟩
 | n :: l,s=>by
   by_cases e:rdN s.2 (decide (n∈s.2)) (issOf r n)=true
   . refine .inl (Nat.lt_of_le_of_lt (ZaQ l _) ?_);have hm:=Za9 e;unfold dStep;rw[if_pos e];have:=List.length_erase_of_mem hm;have:=List.length_pos_of_mem hm;simp only;omega
   . obtain ⟨h1,h2⟩:=ZaO e;rw[W2e,h1];rcases ZaR l s with h | ⟨h3,h4⟩
     . exact .inl h
     . refine .inr ⟨h3,λm hm=>?_⟩;rcases W0g.1 hm with rfl|hm
       . exact h2
       . exact h4 m hm
def ZaS:∀ (l:List Int) {s:List (Int×Int)×List Int},Stuck r s.2->l.foldl (dStep r) s=s
 |[],s,_=>rfl
 | n::l,s,h=>by
   have:¬rdN s.2 (decide (n∈s.2)) (issOf r n)=true:=λe=>by
    have hm:=Za9 e;obtain ⟨c,hc,h2⟩:=h n hm;exact ((ZaK _ _ _).1 e).2 c hc h2
   rw[W2e,(ZaO this).1];exact ZaS l h
def ZaT (r:Jr):∀ k,(dRun r k).2.length+k<=(nums r).length∨Stuck r (dRun r k).2
 |0=>.inl (by simp[dRun])
 | k + 1=>by
   have hsub:∀ n∈(dRun r k).2,n∈nums r:=λn hn=>(DInv.run r k).perm.mem_iff.1 (W0h.2 (.inr hn))
   rcases ZaT r k with h|h
   . rcases ZaR (r:=r) (nums r) (dRun r k) with h2 | ⟨h2,h3⟩
     . exact .inl (by simp only[dRun,dPass];omega)
     . refine .inr ?_;simp only[dRun,dPass];rw[h2];exact λn hn=>h3 n (hsub n hn) hn
   . refine .inr ?_;simp only[dRun,dPass];rw[ZaS (nums r) h];exact h
def ZaU {L:List Int} (h:Stuck r L):∀ (k:Nat) (n:Int),n∈L->(k:Int)<=Dv r k n
 |0,n,_=>by simp[Dv]
 | k+1,n,hn=>by
   obtain ⟨c,hc,h2⟩:=h n hn;have:=ZaU h k c h2;have:=Dv_ch (r:=r) k n hc;omega
def ZaV (g:Int->Int) (K:Int):∀ (l:List Int) (m:Int),K<l.foldl (λm n=>max m (g n)) m↔K<m∨∃ n∈l,K<g n
 |[],m=>by simp
 | n::l,m=>by
   rw[W2e,ZaV g K l];simp only[W0g,exists_eq_or_imp];rw[<- or_assoc];refine or_congr_left ?_;omega
def ZaW {l:List Int} {g:Int->Int} {K:Int} (hK:0<=K):K<mostV l g↔∃ n∈l,K<g n:=by
 rw[mostV,ZaV]
 constructor
 . rintro (h|h)
   . omega
   . exact h
 . exact .inr
def dp_Dv (hL:Z8B r=true) (h:(dRun r (nums r).length).2.length=0) {n:Int} (hn:n∈nums r):(n,dpG (dRun r (nums r).length).1 n)∈(dRun r (nums r).length).1/\Dv r ((nums r).length+1) n=dpG (dRun r (nums r).length).1 n:=by
 have hd:=DInv.run r (nums r).length;have h0:(dRun r (nums r).length).2=[]:=W0l.1 h
 have h1:n∈(dRun r (nums r).length).1.map (·.1):=by
  have:=hd.perm.mem_iff.2 hn
  rwa [h0,W1G]at this
 obtain ⟨v,hv⟩:=ZaN h1;have hm:=Zaa hv;have e:dpG (dRun r (nums r).length).1 n=v:=(by simp[dpG,hv]);rw[e];refine ⟨hm,?_⟩;have hb:=hd.bd _ hm;have hl:=hd.len;exact AInv.run (Z8J hL) (λx hx=>Zax hL hx) _ _ hm _ (by simp only at hb ⊢;omega)
def ZaX (r:Jr):openV r=chkV r:=by
 unfold openV chkV
 cases hL:Z8B r
 . rfl
 . simp only [if_true];by_cases h:0<(dRun r (nums r).length).2.length
   . rw[if_pos h];have hs:Stuck r (dRun r (nums r).length).2:=(ZaT r (nums r).length).resolve_left (by omega);obtain ⟨n,hn⟩:=List.exists_mem_of_length_pos h;have hn2:n∈nums r:=(DInv.run r _).perm.mem_iff.1 (W0h.2 (.inr hn));have:=ZaU hs ((nums r).length+1) n hn;rw[if_pos ((ZaW (by omega)).2 ⟨n,hn2,by omega⟩)]
   . rw [if_neg h];have h0:(dRun r (nums r).length).2.length=0:=(by omega);have hd:=DInv.run r (nums r).length;have hl:=hd.len
     have e1:(∃ p∈(dRun r (nums r).length).1,6<p.2)↔6<mostV (nums r) (Dv r ((nums r).length+1)):=by
      rw[ZaW (by omega)]
      constructor
      . rintro ⟨p,hp,h6⟩;have hn:p.1∈nums r:=hd.perm.mem_iff.1 (W0h.2 (.inl (W0i.2 ⟨p,hp,rfl⟩)));refine ⟨p.1,hn,?_⟩;have hb:=hd.bd _ hp;rw[AInv.run (Z8J hL) (λx hx=>Zax hL hx) _ _ hp _ (by omega)];exact h6
      . rintro ⟨n,hn,h6⟩;obtain ⟨h1,h2⟩:=dp_Dv hL h0 hn;rw[h2]at h6;exact ⟨_,h1,h6⟩
     have e2:¬((nums r).length:Int)<mostV (nums r) (Dv r ((nums r).length+1)):=by
      rw[ZaW (by omega)];rintro ⟨n,hn,h6⟩;obtain ⟨h1,h2⟩:=dp_Dv hL h0 hn;have:=hd.bd _ h1;rw[h2]at h6;simp only at this;omega
     rw[if_neg e2];by_cases c:6<mostV (nums r) (Dv r ((nums r).length+1))
     . rw[if_pos c,if_pos (e1.2 c)]
     . rw[if_neg c,if_neg λe=>c (e1.1 e)]
def ZaY {i:Nat} (hi:i<r.length) (n:Int):issOf (r.take (i+1)) n=if r[i].d=n then issOf (r.take i) n++[r[i]] else issOf (r.take i) n:=by
 rw[W08 hi,issOf,W1a]
 split
 . rename_i e;rw[W2j (by simpa using e)];rfl
 . rename_i e;rw[W2k (by simpa using e),List.filter_nil,W1G];rfl
def ZaZ (hL:Z8B r=true):∀ (i:Nat) (hi:i<r.length),r[i].l=((issOf (r.take (i+1)) r[i].d).length:Nat)
 | 0,hi=>by
   have h0:=Zaw hL hi;simp only[ordB,W0b,at_eq hi]at h0;rw[h0,ZaY hi,if_pos rfl];simp[issOf]
 | j + 1,hi=>by
   have hj:j<r.length:=(by omega);have h0:=Zaw hL hi;have ih:=ZaZ hL j hj;have hO:=Z8J hL;rw[ZaY hi,if_pos rfl];simp only[ordB,at_eq hi,at_eq hj]at h0
   split at h0
   . cases h0
   . split at h0
     . rename_i h1 h2
       have e:issOf (r.take (j+1)) r[j+1].d=[]:=by
        rw[issOf,W2n];intro x hx;obtain ⟨k,hk,rfl⟩:=W0k hx;simp only[W15]at hk;have:=hO.mono (i:=k) (j:=j) (by omega) hj;rw[at_eq (show k<r.length by omega),at_eq hj]at this;simp only[W1V,W0b];omega
       rw[e];simpa using h0
     . rename_i h1 h2;simp only[W01,W0b]at h0;have e:r[j+1].d=r[j].d:=(by omega);rw[e,h0.1,ih];simp
def Zb0 (hL:Z8B r=true) (n:Int):∀ i,i<=r.length->lastN r n i=((issOf (r.take i) n).length:Nat)
 |0,_=>by simp[lastN,issOf]
 | i + 1,hi=>by
   have hlt:i<r.length:=(by omega);have ih:=Zb0 hL n i (by omega);rw[lastN,at_eq hlt,ZaY hlt]
   split
   . rename_i e;have:=ZaZ hL i hlt;rw[e,ZaY hlt,if_pos e]at this;rw[ih,this];simp only[W0s,W1p,W1U];omega
   . exact ih
def Zb1 (hL:Z8B r=true) (n:Int):lastV r n=cntV r n:=by
 rw[lastV,Zb0 hL n _ (W0f _),W0v];rfl
end
def twR (r:Jr) (i:Nat):List (List AV):=(r.take i).map isa
def Zb2 {r:Jr} {i:Nat} (h:i<=r.length):(twR r i).length=i:=by simp[twR];omega
def Zb3 {r:Jr} {i:Nat} (h:i<r.length):twR r (i+1)=twR r i++[[.int .i64 r[i].d,.int .i64 r[i].l,.int .u8 r[i].k,.vsl (r[i].its.map ita),.vsl (r[i].dms.map dma)]]:=by
 rw[twR,W08 h,W0r];rfl
def Zb4 {r:Jr} {i:Nat} (o:List (Nat×AObj)):Yc o (.row 5 (twR r i))=true:=by
 simp only[Yc,W03,twR,W0i];rintro x ⟨y,-,rfl⟩ v hv;simp only[isa,W0g,W0Q,or_false]at hv;rcases hv with rfl|rfl|rfl|rfl|rfl <;> simp[Ya,AV.keys]
def Zb5 (r:Jr):twR r r.length=r.map isa:=by rw[twR,W0v]
def twS (r:Jr):Nat->St
 |0=>⟨[(4,.int .i64 0),(3,.ptr 3 0),(1,.ptr 1 0),(2,.ptr 2 0)],[(1,.box [.vsl (r.map isa)]),(2,.box [.nils]),(3,.box [.nils])]⟩
 |i+1=>⟨[(4,.int .i64 (i+1:Nat)),(3,.ptr 3 0),(1,.ptr 1 0),(2,.ptr 2 0)],[(1,.box [.vsl (r.map isa)]),(2,.box [.nils]),(3,.box [.osl 21 (i+1)]),(21,.row 5 (twR r (i+1)))]⟩
def Zb6 (r:Jr) (h:SmlR r):PC prog G 126 [rega r] (rega r):=by
 by_cases h0:r=[]
 . subst h0;refine PC.nzR (v:=.agg [.nils]) ?_ (by simp[nz,rega])
   (refine Z87 rfl λR hG hrd=>Qga ?_;subst hG)
   simp -implicitDefEqProofs[Z85,Z86,rega];refine Z8g (twS []) (λ_=>True) 0 (by simp only[twS];(first|exact Wka|exact Wkb)) trivial (λi hi=>by omega) λ_=>?_
   refine Qga ?_;simp -implicitDefEqProofs[twS];refine Qgr ?_;simp -implicitDefEqProofs[]
 . (refine Z87 rfl λR hG hrd=>Qga ?_;subst hG)
   have hs:=h.1;unfold Sml at hs;simp -implicitDefEqProofs[Z85,Z86,rega];refine Z8g (twS r) (λ_=>True) r.length (by simp only[twS];(first|exact Wka|exact Wkb)) trivial ?_ ?_
   . intro i hi _;refine Qga ?_;have hx:=h.2 r[i] (W0e hi);have tk:=Zb3 hi;have ln:=Zb2 (Nat.le_of_lt hi)
     cases i with
     | zero =>
       have w1:i64.wrap 1=1:=rfl;simp -implicitDefEqProofs[twS,hi,isa];refine Qco (Z8v r[0] hx.1 hx.2) ?_;simp -implicitDefEqProofs[w1,isa];refine ⟨rfl,?_⟩;have tk0:twR r 1=[[.int .i64 r[0].d,.int .i64 r[0].l,.int .u8 r[0].k,.vsl (r[0].its.map ita),.vsl (r[0].dms.map dma)]]:=(by rw[tk];simp[twR]);simp only[twS];exact Ym.sub (by simp[lk,Ya,AV.keys]) (by simp[lk,Yc,Ya,AV.keys,tk0])
     | succ i =>
       have w1:i64.wrap ((i:Int)+1+1)=(i:Int)+1+1:=Yf;have k1:(i:Int)+1<r.length:=(by omega);have k2:((i:Int)+1).toNat=i+1:=(by omega);have k3:(0:Int)<=(i:Int)+1:=(by omega);have b2:(i+1+1)*72<=70368744177664:=(by omega);simp -implicitDefEqProofs[twS,hi,k1,k2,k3,isa];refine Qco (Z8v r[i+1] hx.1 hx.2) ?_;simp -implicitDefEqProofs[w1,ln,b2,isa];refine ⟨rfl,?_⟩;simp only[twS];refine Ym.sub (by simp[lk,Ya,AV.keys]) ?_;simp only[W0g,W0Q,or_false,W1M,forall_eq,Zb4,and_true];simp[lk,Yc,Ya,AV.keys,tk]
   . intro _;refine Qga ?_
     obtain ⟨n,hn⟩ : ∃ n,r.length=n+1:=⟨r.length-1,by
      have:r.length≠0:=(by simpa using h0);omega⟩
     have k1:¬(n:Int)+1<n+1:=(by omega);have e1:twR r (n+1)=r.map isa:=(by rw[<- hn,Zb5]);have pu:(r.map isa).all (λx=>x.all AV.pure)=true:=(by simp[isa,AV.pure]);rw[hn];simp -implicitDefEqProofs[twS,hn,k1,e1,pu];refine Qgr ?_;simp -implicitDefEqProofs[pu,e1,hn]
section
variable {r:Jr}
def Zb7 (hL:Z8B r=true) (n:Int):∀ (i:Nat),i<=r.length->∀ k:Nat,1<=k->k<=(issOf (r.take i) n).length->∃ j,∃ h:j<r.length,r[j].d=n/\r[j].l=k
 |0,_,k,h1,h2=>by simp[issOf]at h2;omega
 | i + 1,hi,k,h1,h2=>by
   have hlt:i<r.length:=(by omega);by_cases c:k<=(issOf (r.take i) n).length
   . exact Zb7 hL n i (by omega) k h1 c
   . have hl:=ZaZ hL i hlt;rw[ZaY hlt]at h2
     split at h2
     . rename_i e;simp only[W0s,W1p,W1U]at h2;refine ⟨i,hlt,e,?_⟩;rw[hl,e,ZaY hlt,if_pos e];simp only[W0s,W1p,W1U];omega
     . omega
def Zb8 (hL:Z8B r=true) {x:Iss} (hx:x∈r):1<=x.l/\x.l<=cntV r x.d:=by
 obtain ⟨i,hi,rfl⟩:=W0k hx;have h1:=ZaZ hL i hi;have h2:(issOf (r.take (i+1)) r[i].d).length<=(issOf r r[i].d).length:=((List.take_sublist (i+1) r).filter _).length_le;have h3:0<(issOf (r.take (i+1)) r[i].d).length:=(by rw[ZaY hi,if_pos rfl];simp);have h4:cntV r r[i].d=((issOf r r[i].d).length:Nat):=rfl;omega
def Zb9 (hL:Z8B r=true) {x:Iss} (hx:x∈r):findN x.d x.l r=some x:=ZaB hL x hx
def Zba (hL:Z8B r=true) (n l:Int):(findN n l r).isSome=true↔inR l 1 (lastV r n)=true:=by
 rw[inR,W0b,Zb1 hL]
 constructor
 . intro h;obtain ⟨x,hx⟩:=W0t.1 h;obtain ⟨h1,rfl,rfl⟩:=Z91 hx;exact Zb8 hL h1
 . rintro ⟨h1,h2⟩;have h3:cntV r n=((issOf r n).length:Nat):=rfl;obtain ⟨j,hj,rfl,e⟩:=Zb7 hL n r.length (W0f _) l.toNat (by omega) (by rw[W0v];omega);have:=Zb9 hL (W0e hj);rw[e,show ((l.toNat:Nat):Int)=l by omega]at this;rw[this];rfl
end
structure Nte where
 nu:Int
 dy:Int
 sg:Int
 dr:Int
 lt:Int
 fr:Int
 tu:Int
 ca:Int
 up:Bool
 wy:Int
 deriving DecidableEq,Inhabited
def na (x:Nte):List AV:=[.int .i64 x.nu,.int .i64 x.dy,.int .u8 x.sg,.int .i64 x.dr,.int .i64 x.lt,.int .i64 x.fr,.int .i64 x.tu,.int .i64 x.ca,.bool x.up,.int .u8 x.wy]
def nAt (l:List Nte) (i:Nat):Nte:=l.getD i default
def Zbb {l:List Nte} {i:Nat} (h:i<l.length):nAt l i=l[i]:=by simp[nAt,W0j,h]
def cN1 (x:Nte):Bool:=inR x.nu 1 9999&&inR x.dy 0 14610
def cN2 (x:Nte):Bool:=decide (x.sg<=2)&&decide (x.wy<=3)
def cN3 (x:Nte):Bool:=inR x.fr 1 999&&inR x.tu 1 999&&decide (x.fr<=x.tu)
def cN4 (r:Jr) (x:Nte):Bool:=if x.dr=0/\x.lt=0 then !decide (x.ca=0) else (findN x.dr x.lt r).isSome
def cN5 (x:Nte):Bool:=decide (2<=x.lt)||(!x.up&&decide (x.wy=0))
def cN6 (l:List Nte) (i:Nat) (x:Nte):Bool:=decide (x.ca=0)||(l.take i).any λy=>decide (y.nu=x.ca)
def cN7 (l:List Nte) (i:Nat) (x:Nte):Bool:=!(l.take i).any λy=>decide (y.nu=x.nu)
def cN8 (l:List Nte):Nat->Nte->Bool
 |0,_=>true
 |i+1,x=>decide ((nAt l i).dy<x.dy)||(decide ((nAt l i).dy=x.dy)&&decide ((nAt l i).nu<x.nu))
def noteB (r:Jr) (l:List Nte) (i:Nat):Bool:=cN1 (nAt l i)&&cN2 (nAt l i)&&cN3 (nAt l i)&&cN4 r (nAt l i)&&cN5 (nAt l i)&&cN6 l i (nAt l i)&&cN7 l i (nAt l i)&&cN8 l i (nAt l i)
def opN (l:List Nte) (i:Nat):List Nte:=(l.take i).filter λx=>decide (x.sg=1)
def Zbc {l:List Nte} {i:Nat} (h:i<l.length):opN l (i+1)=if l[i].sg=1 then opN l i++[l[i]] else opN l i:=by
 unfold opN;rw[W08 h,W1a]
 split
 . rename_i e;rw[W2j (by simpa using e)];rfl
 . rename_i e;rw[W2k (by simpa using e)];simp
def Zbd (l:List Nte) (i:Nat):(opN l i).length<=i:=W0O (W0D _ _) (by simp;omega)
def Zbe (r:Jr) (l:List Nte):Bool:=decide (l.length<=12)&&(List.range l.length).all (noteB r l)&&decide ((opN l l.length).length<=5)
def chN (r:Jr) (l:List Nte):Int:=if openV r=0 then if Zbe r l=true then 0 else 30 else openV r
def opU (l:List Nte):List Int:=(opN l l.length).map (·.nu)
def truB (l:List Nte) (s:List Int):Bool:=(List.range s.length).all λi=>decide (s.getD i 0∈opU l)&&(i == 0||decide (s.getD (i-1) 0<s.getD i 0))
def asN (r:Jr) (l:List Nte) (s:List Int) (m:Int):Int:=if chN r l=0 then if truB l s=true then if inR m 1 999=true then 0 else 2 else 31 else chN r l
def bsF (s w:List Int) (m:Int) (x:Nte):Bool:=(decide (x.sg=2)||decide (x.nu∈s)) && !decide (x.nu∈w)&&inR m x.fr x.tu
def gcL {α:Type} (p:α->Bool) (h:α->α->Bool):List α->List Bool
 |[]=>[]
 |x::l=>(p x && !((l.zip (gcL p h l)).any λq=>q.2&&h x q.1))::gcL p h l
section
variable {α:Type} {p:α->Bool} {h:α->α->Bool} {l:List α}
def Zbf:∀ l:List α,(gcL p h l).length=l.length
 |[]=>rfl
 |x::l=>by simp[gcL,Zbf l]
def Zbg:∀ (l:List α) (i:Nat),(gcL p h l).drop i=gcL p h (l.drop i)
 |[],i=>by simp[gcL]
 |x::l,0=>rfl
 |x::l,i+1=>by simp only[gcL,W1D];exact Zbg l i
def gcB (p:α->Bool) (h:α->α->Bool) (l:List α) (i:Nat):Bool:=(gcL p h l).getD i false
def gwB (p:α->Bool) (h:α->α->Bool) (l:List α) (x:α) (i k:Nat):Bool:=p x && !((((l.zip (gcL p h l)).take k).drop (i+1)).any λq=>q.2&&h x q.1)
def Zbh {i:Nat} (hi:i<l.length):gcB p h l i=gwB p h l l[i] i l.length:=by
 have e1:l.drop i=l[i]::l.drop (i+1):=W0x hi;have e2:=Zbg (p:=p) (h:=h) l i;have e4:=Zbg (p:=p) (h:=h) l (i+1);rw[e1,gcL]at e2
 have e3:(gcL p h l)[i]? = some (p l[i] && !(((l.drop (i+1)).zip (gcL p h (l.drop (i+1)))).any λq=>q.2&&h l[i] q.1)):=by
  have:=congrArg (λq=>q[0]?) e2;simp only[W13,W1X,W2i]at this;exact this
 have e5:((l.zip (gcL p h l)).take l.length).drop (i+1)=(l.drop (i+1)).zip (gcL p h (l.drop (i+1))):=by
  rw[W0J (by simp[Zbf])];show List.drop (i+1) (List.zipWith Prod.mk l (gcL p h l))=List.zipWith Prod.mk (l.drop (i+1)) (gcL p h (l.drop (i+1)));rw[List.drop_zipWith,e4]
 rw[gcB,W0j,e3,W0P,gwB,e5]
def Zbi {x:α} {i:Nat}:gwB p h l x i (i+1)=p x:=by
 rw[gwB,W1j (by simp;omega)];simp
def Zbj {x:α} {i k:Nat} (hi:i<k) (hk:k<l.length):gwB p h l x i (k+1)=(gwB p h l x i k && !(gcB p h l k&&h x l[k])):=by
 have hz:k<(l.zip (gcL p h l)).length:=(by simp[Zbf,hk]);have hf:k<(gcL p h l).length:=by rw[Zbf];exact hk
 have e:(l.zip (gcL p h l))[k]=(l[k],gcB p h l k):=by
  rw[List.getElem_zip]
  congr 1
  rw[gcB,W0j,W07 hf];rfl
 rw[gwB,gwB,W08 hz,List.drop_append_of_le_length (by simp[Zbf];omega),W2g,e];simp only[List.any_cons,List.any_nil,Bool.or_false,Bool.not_or,Bool.and_assoc]
end
def fB (s w:List Int) (m:Int) (l:List Nte) (i:Nat):Bool:=gcB (bsF s w m) (λx y=>decide (y.ca=x.nu)) l i
def WfN (l:List Nte):Prop:=Sml l/\∀ x∈l,0<=x.sg/\x.sg<=255/\0<=x.wy/\x.wy<=255
abbrev Jl:=List Nte
def sortI (l:List Int):List Int:=l.mergeSort λa b=>decide (a<=b)
def SrtI (l:List Int):Prop:=l.Pairwise λx y=>x<=y
def Zbk (l:List Int):(sortI l).Perm l:=List.mergeSort_perm l _
def Zbl (l:List Int):SrtI (sortI l):=by
 have:=List.pairwise_mergeSort (le:=λa b:Int=>decide (a<=b)) (λa b c=>by simp;omega) (λa b=>by simp;omega) l;exact this.imp (by simp)
def Zbm {a b:List Int} (p:a.Perm b) (ha:SrtI a) (hb:SrtI b):a=b :=
 List.Perm.eq_of_pairwise (le:=λx y:Int=>x<=y) (λx y _ _ h1 h2=>by omega) ha hb p
def Zbn {l s:List Int} (p:s.Perm l) (hs:SrtI s):sortI l=s:=Zbm ((Zbk l).trans p.symm) (Zbl l) hs
def Zbo (l:List Int):(sortI l).length=l.length:=(Zbk l).length_eq
def Zbp {l:List Int} {x:Int}:x∈sortI l↔x∈l:=(Zbk l).mem_iff
def srtI (l:List Int) (a b:Nat):List Int:=l.take a++(sortI ((l.take b).drop a)++l.drop b)
def Zbq {l:List Int} {a b:Nat} (h1:a<=b) (h2:b<=a+1):srtI l a b=l:=by
 have e:sortI ((l.take b).drop a)=(l.take b).drop a:=by
  generalize hq:(l.take b).drop a=q;have hl:q.length<=1:=by rw[<- hq];simp;omega
  match q,hl with
  |[],_=>simp[sortI]
  |[x],_=>simp[sortI]
 have e2:l.take a=(l.take b).take a:=(by rw[List.take_take,Nat.min_eq_left h1]);rw[srtI,e,<- W0U,e2,W11,W11]
def mvI (l:List Int) (a i p:Nat):List Int :=
 l.take a++((sortI ((l.take i).drop a)).take p++(l.getD i 0::((sortI ((l.take i).drop a)).drop p++l.drop (i+1))))
def Zbr {l:List Int} {a i:Nat} (h:i<=l.length):(sortI ((l.take i).drop a)).length=i-a:=by rw[Zbo];simp;omega
def Zbs {l:List Int} {a i:Nat} (h1:a<=i) (h2:i<l.length):srtI l a i=mvI l a i (i-a):=by
 have e:=Zbr (l:=l) (a:=a) (i:=i) (by omega);rw[mvI,srtI,W0x h2];generalize sortI ((l.take i).drop a)=s at *;rw[W0J (by omega:s.length<=i-a),W1j (by omega:s.length<=i-a)];simp[W0j,h2]
def Zbt {l:List Int} {a i p:Nat} (h1:a<=i) (h2:i<l.length) (h3:p<=i-a):(mvI l a i p).length=l.length:=by
 have e:=Zbr (l:=l) (a:=a) (i:=i) (by omega);simp[mvI,e];omega
def Zbu {α:Type} (D C:List α) (y x:α) (n:Nat) (h:n=D.length):((D++y::x::C).set (n+1) y).set n x=D++x::y::C:=by
 subst h;rw[W24 _ _ (by omega),W24 _ _ (by omega)];simp
def Zbv {l:List Int} {a i p:Nat} (h1:a<=i) (h2:i<l.length) (h3:p+1<=i-a) :
  ∃ y,(sortI ((l.take i).drop a))[p]? = some y/\(mvI l a i (p+1))[a+p+1]? = some l[i]/\(mvI l a i (p+1))[a+p]? = some y/\((mvI l a i (p+1)).set (a+p+1) y).set (a+p) l[i]=mvI l a i p/\y∈l:=by
 have e:=Zbr (l:=l) (a:=a) (i:=i) (by omega);have hm:∀ y∈sortI ((l.take i).drop a),y∈l:=λy hy=>W1r (W1S (Zbp.1 hy))
 unfold mvI;generalize sortI ((l.take i).drop a)=s at *;have hp:p<s.length:=(by omega);have ta:(l.take a).length=a:=(by simp;omega);have e1:s.take (p+1)=s.take p++[s[p]]:=W08 hp;have e2:s.drop p=s[p]::s.drop (p+1):=W0x hp;have e3:l.getD i 0=l[i]:=(by simp[W0j,h2]);have tp:(s.take p).length=p:=(by simp;omega);refine ⟨s[p],by simp[hp],?_,?_,?_,hm _ (W0e hp)⟩
 . rw[e1,e3,W0o (by omega),ta,W0o (by simp;omega)];have:a+p+1-a-(s.take p++[s[p]]).length=0:=(by simp;omega);rw[this];rfl
 . rw[e1,W0o (by omega),ta,W0U,W0o (by omega),tp];have:a+p-a-p=0:=(by omega);rw[this];rfl
 . rw[e1,e2,e3,W0U];have q:=Zbu (l.take a++s.take p) (s.drop (p+1)++l.drop (i+1)) s[p] l[i] (a+p) (by simp;omega);simp only[W0U,W1e,W18]at q ⊢;exact q
def Zbw {l:List Int} {a i p:Nat} (h1:a<=i) (h2:i<l.length) (h3:p<=i-a)
  (hd:∀ y∈(sortI ((l.take i).drop a)).drop p,l[i]<y) (hc:∀ q,p=q+1->∀ y,(sortI ((l.take i).drop a))[q]? = some y->¬l[i]<y):mvI l a i p=srtI l a (i+1):=by
 have e:=Zbr (l:=l) (a:=a) (i:=i) (by omega);have e3:l.getD i 0=l[i]:=by simp[W0j,h2]
 have e4:(l.take (i+1)).drop a=(l.take i).drop a++[l[i]]:=by
  rw[W08 h2,List.drop_append_of_le_length (by simp;omega)]
 have hs:=Zbl ((l.take i).drop a);have hp:=Zbk ((l.take i).drop a);rw[srtI,mvI,e3];rw[Zbn (l:=(l.take (i+1)).drop a) (s:=(sortI ((l.take i).drop a)).take p++l[i]::(sortI ((l.take i).drop a)).drop p) ]
 . simp[W0U]
 . rw[e4];refine List.perm_middle.trans ?_;rw[W11];exact (List.perm_cons _).2 hp |>.trans (List.perm_append_singleton _ _).symm
 . generalize sortI ((l.take i).drop a)=s at *;have hs2:=hs;unfold SrtI at hs ⊢;rw[<- W11 p s,W28]at hs;obtain ⟨t1,t2,t3⟩:=hs;rw[W28];refine ⟨t1,W1l.2 ⟨λy hy=>by have:=hd y hy;omega,t2⟩,λu hu v hv=>?_⟩;rcases W0g.1 hv with rfl|hv
   . match p,hc,h3 with
     |0,_,_=>simp at hu
     | q + 1,hc,h3 =>
       have hq:q<s.length:=(by omega);have hc2:=hc q rfl s[q] (by simp[hq]);obtain ⟨j,hj,rfl⟩:=W0k hu;rw[W1V];have hjq:j<=q:=(by simp at hj;omega);rcases W0q j q with hl|hg
       . have:=W0Y.1 hs2 j q (by omega) hq hl;omega
       . have:j=q:=(by omega);subst this;omega
   . exact t3 u hu v hv
structure Hld where
 id:Int
 fr:Int
 to:Int
 ds:List Int
structure Prt where
 no:Int
 dy:Int
 ho:Int
 dw:Int
 lt:Int
 bk:Int
 lo:Int
deriving DecidableEq
def hoa (h:Hld):List AV:=[.int .i64 h.id,.int .i64 h.fr,.int .i64 h.to,.vsl (h.ds.map ia)]
def ptA (x:Prt):List AV:=[.int .i64 x.no,.int .i64 x.dy,.int .i64 x.ho,.int .i64 x.dw,.int .i64 x.lt,.int .i64 x.bk,.int .u8 x.lo]
def outB (x:Prt) (day:Int):Bool:=decide (x.dy<=day)&&(decide (x.bk = -1)||decide (day<x.bk)) && !decide (x.lo=2)
def Zbx {a b:List Int} (ha:a.Pairwise (· < ·)) (hb:b.Pairwise (· < ·)) (h:∀ x,x∈a↔x∈b):a=b:=by
 have na:a.Nodup:=ha.imp λh=>Int.ne_of_lt h
 have nb:b.Nodup:=hb.imp λh=>Int.ne_of_lt h
 exact List.Perm.eq_of_pairwise (le:=λx y:Int=>x<y) (λx y _ _ h1 h2=>by omega) ha hb ((List.perm_ext_iff_of_nodup na nb).2 h)
def cmpG (p:Int):List Int->List Int
 |[]=>[]
 |x::t=>if x=p then cmpG p t else x::cmpG x t
def cmpI:List Int->List Int
 |[]=>[]
 |a::t=>a::cmpG a t
def Zby:∀ (l:List Int) (p:Int),SrtI (p::l)->(cmpG p l).Pairwise (· < ·)/\(∀ x∈cmpG p l,p<x)/\∀ x,x∈cmpG p l↔x∈l/\x≠p
 |[],p,_=>by simp[cmpG]
 | a :: t, p,h=>by
   have h1:SrtI (a::t):=(W1l.1 h).2;have h2:p<=a:=(W1l.1 h).1 a (W0H ..);unfold cmpG;by_cases e:a=p
   . rw[if_pos e];subst e;obtain ⟨g1,g2,g3⟩:=Zby t a h1;refine ⟨g1,g2,λx=>?_⟩;rw[g3]
     constructor
     . rintro ⟨q1,q2⟩;exact ⟨W0z _ q1,q2⟩
     . rintro ⟨q1,q2⟩;rcases W0g.1 q1 with q|q
       . exact absurd q q2
       . exact ⟨q,q2⟩
   . rw [if_neg e];obtain ⟨g1,g2,g3⟩:=Zby t a h1;have h3:p<a:=(by omega);refine ⟨W1l.2 ⟨λy hy=>g2 y hy,g1⟩,λx hx=>?_,λx=>?_⟩
     . rcases W0g.1 hx with rfl|hx
       . exact h3
       . have:=g2 x hx;omega
     . rw [W0g,W0g,g3]
       constructor
       . rintro (rfl | ⟨q1,q2⟩)
         . exact ⟨.inl rfl,e⟩
         . refine ⟨.inr q1,λq=>?_⟩;subst q;have:=(W1l.1 h1).1 x q1;omega
       . rintro ⟨q|q,q2⟩
         . exact .inl q
         . by_cases q3:x=a
           . exact .inl q3
           . exact .inr ⟨q,q3⟩
def Zbz {l:List Int} (h:SrtI l):(cmpI l).Pairwise (· < ·):=by
 cases l with
 |nil=>exact .nil
 |cons a t=>exact W1l.2 ⟨(Zby t a h).2.1,(Zby t a h).1⟩
def ZbA {l:List Int} (h:SrtI l) {x:Int}:x∈cmpI l↔x∈l:=by
 cases l with
 |nil=>rfl
 | cons a t =>
   show x∈a::cmpG a t↔_;rw[W0g,W0g,(Zby t a h).2.2];by_cases e:x=a <;> simp[e]
def setI (l:List Int):List Int:=cmpI (sortI l)
def ZbB (l:List Int):(setI l).Pairwise (· < ·):=Zbz (Zbl l)
def ZbC {l:List Int} {x:Int}:x∈setI l↔x∈l:=(ZbA (Zbl l)).trans Zbp
def ZbD {l s:List Int} (hs:s.Pairwise (· < ·)) (h:∀ x,x∈s↔x∈l):setI l=s:=Zbx (ZbB l) hs λx=>ZbC.trans (h x).symm
def r9:List Int:=[0,1,2,3,4,5,6,7,8]
def ZbE {x:Int}:x∈r9↔0<=x/\x<=8:=by simp[r9];omega
def r9_lt:r9.Pairwise (· < ·):=by decide
def ZbF {l:List Int} (h:l.Pairwise (· < ·)) {s:Int} (hs:s∈l):l.drop (l.idxOf s)=s::l.filter λx=>decide (s<x):=by
 induction l with
 |nil=>cases hs
 | cons a t ih =>
   rw[W1l]at h;by_cases e:a=s
   . subst e;have q:t.filter (λx=>decide (a<x))=t:=List.filter_eq_self.2 λx hx=>by simpa using h.1 x hx
     simp[q]
   . have hs2:s∈t:=by
      rcases W0g.1 hs with q|q
      . exact absurd q.symm e
      . exact q
     have q:=h.1 s hs2;have e2:(a == s)=false:=(by simpa using e);rw[List.idxOf_cons,e2];simp only[cond_false,W1D];rw[ih h.2 hs2,List.filter_cons,if_neg (by simp;omega)]
def ZbG {pp:List Int} {su:Int} (hp:∀ x∈pp,0<=x/\x<=8):(setI (pp++[su])).drop ((setI (pp++[su])).idxOf su)=su::r9.filter λn=>decide (su<n)&&pp.contains n:=by
 have hm:su∈setI (pp++[su]):=ZbC.2 (by simp);rw[ZbF (ZbB _) hm]
 congr 1
 refine Zbx ((ZbB _).filter _) (r9_lt.filter _) λx=>?_
 simp only[W0G,ZbC,W0h,W0B,W0b,W01,W0w,ZbE]
 constructor
 . rintro ⟨q|q,q2⟩
   . exact ⟨hp x q,q2,q⟩
   . omega
 . rintro ⟨-,q2,q⟩;exact ⟨.inl q,q2⟩
abbrev Jh:=List Hld
abbrev Jp:=List Prt
def clP (x y:Prt):Bool:=decide (x.ho=y.ho)||decide (x.dw=y.dw)
def apD:List Prt->Nat->List Prt->Option (List Prt)
 |_,0,tk=>some tk
 |[],_+1,_=>none
 | x::t,m+1,tk=>if tk.any (clP x)=true then apD t (m+1) tk else match apD t m (tk++[x]) with
   |some o=>some o
   |none=>apD t (m+1) tk
def frP (x y:Prt):Prop:=clP x y=false
def ZbH (x y:Prt):clP x y=clP y x:=by simp[clP,eq_comm]
def MfP (l:Jp) (m:Nat) (tk M:Jp):Prop:=M.Sublist l/\M.length=m/\M.Pairwise frP/\∀ x∈M,∀ y∈tk,frP x y
def ZbI:∀ {l:Jp} {m:Nat} {tk o:Jp},apD l m tk=some o->∃ M,o=tk++M/\MfP l m tk M
 | l,0,tk,o,h=>by
   have h:some tk=some o:=by cases l <;> exact h
   cases h
   exact ⟨[],by simp,List.nil_sublist _,rfl,.nil,by simp⟩
 |[],m+1,tk,o,h=>by cases h
 | x :: t,m+1,tk,o,h=>by
   unfold apD at h;by_cases e:tk.any (clP x)=true
   . rw[if_pos e]at h;obtain ⟨M,h1,h2,h3⟩:=ZbI h;exact ⟨M,h1,h2.cons _,h3⟩
   . rw [if_neg e]at h
     have free:∀ y∈tk,clP x y=false:=by
      intro y hy
      cases q:clP x y with
      |false=>rfl
      |true=>exact absurd (W14.2 ⟨y,hy,q⟩) e
     cases q:apD t m (tk++[x]) with
     | some o' =>
       rw[q]at h
       cases h
       obtain ⟨M,h1,h2,h3,h4,h5⟩:=ZbI q;refine ⟨x::M,by rw[h1];simp,h2.cons_cons _,by simp[h3],W1l.2 ⟨λy hy=>?_,h4⟩,?_⟩
       . have:=h5 y hy x (by simp);exact (ZbH x y).trans this
       . intro z hz y hy;rcases W0g.1 hz with rfl|hz
         . exact free y hy
         . exact h5 z hz y (W0h.2 (.inl hy))
     | none =>
       rw[q]at h;obtain ⟨M,h1,h2,h3⟩:=ZbI h;exact ⟨M,h1,h2.cons _,h3⟩
def ZbJ:∀ {l:Jp} {m:Nat} {tk M:Jp},MfP l m tk M->∃ o,apD l m tk=some o
 |l,0,tk,M,_=>by cases l <;> exact ⟨tk,rfl⟩
 | [],m+1,tk,M,h=>by
   obtain ⟨h1,h2,-⟩:=h
   cases h1
   cases h2
 | x :: t,m+1,tk,M,h=>by
   obtain ⟨h1,h2,h3,h4⟩:=h;unfold apD;by_cases e:tk.any (clP x)=true
   . rw[if_pos e];obtain ⟨y,hy,q⟩:=W14.1 e
     cases h1 with
     |cons _ h1=>exact ZbJ ⟨h1,h2,h3,h4⟩
     | cons_cons _ h1 =>
       have:=h4 x (by simp) y hy;rw[frP,q]at this
       cases this
   . rw [if_neg e]
     cases q:apD t m (tk++[x]) with
     |some o=>exact ⟨o,rfl⟩
     | none =>
       cases h1 with
       |cons _ h1=>exact ZbJ ⟨h1,h2,h3,h4⟩
       | @cons_cons M' _ _ h1 =>
         obtain ⟨o,ho⟩:=ZbJ (l:=t) (m:=m) (tk:=tk++[x]) (M:=M') ⟨h1,by simpa using h2,(W1l.1 h3).2,λz hz y hy=>by
          rcases W0h.1 hy with hy|hy
          . exact h4 z (W0z _ hz) y hy
          . obtain rfl:=W0B.1 hy;exact (ZbH z y).trans ((W1l.1 h3).1 z hz)⟩
         rw[q]at ho
         cases ho
def cvB (E:List (Int×Int)) (A B:Int->Bool):Prop:=∀ e∈E,(A e.1||B e.2)=true
def szC (HL DL:List Int) (A B:Int->Bool):Nat:=HL.countP A+DL.countP B
def lbC (HL DL:List Int) (E:List (Int×Int)) (k:Nat):Prop:=∀ A B,cvB E A B->k<=szC HL DL A B
def aptP (x y:Int×Int):Prop:=x.1≠y.1/\x.2≠y.2
def ZbK (L:List Int) (A B:Int->Bool):L.countP (λx=>A x&&B x)+L.countP (λx=>A x||B x)=L.countP A+L.countP B:=by
 induction L with
 |nil=>rfl
 | cons a t ih =>
   simp only[List.countP_cons]
   cases A a <;> cases B a <;> simp <;> omega
def ZbL {L:List Int} (hn:L.Nodup) (u:Int) (A:Int->Bool):L.countP (λx=>A x||x == u)<=L.countP A+1:=by
 induction L with
 |nil=>simp
 | cons a t ih =>
   rw[List.nodup_cons]at hn;simp only[List.countP_cons];by_cases e:a=u
   . subst e
     have h0:t.countP (λx=>A x||x == a)=t.countP A:=by
      apply List.countP_congr
      intro x hx;have:x≠a:=λh=>hn.1 (h ▸ hx)
      simp[this]
     rw[h0]
     cases A a <;> simp
   . have:=ih hn.2;have e2:(a == u)=false:=(by simpa using e);rw[e2,Bool.or_false];omega
def ZbM {L:List Int} (hn:L.Nodup) (M:List Int):L.countP (λx=>M.contains x)<=M.length:=by
 induction M with
 |nil=>simp
 | cons a t ih =>
   have:=ZbL hn a (λx=>t.contains x)
   have e:L.countP (λx=>(a::t).contains x)=L.countP (λx=>t.contains x||x == a):=by
    apply List.countP_congr
    intro x _;simp[or_comm]
   rw[e,List.length_cons];omega
def ZbN {E:List (Int×Int)} {A B:Int->Bool}:cvB (E.map Prod.swap) B A↔cvB E A B:=by
 simp only[cvB,List.mem_map]
 constructor
 . intro h e he;have:=h e.swap ⟨e,he,rfl⟩;rw[Bool.or_comm];exact this
 . rintro h e ⟨e',he,rfl⟩;have:=h e' he;rw[Bool.or_comm];exact this
def ZbO {E:List (Int×Int)} {i j:Nat} (h:i≠j) {x:Int×Int} (hx:E[j]? = some x):x∈E.eraseIdx i:=by
 rw[List.mem_eraseIdx_iff_getElem?];exact ⟨j,Ne.symm h,hx⟩
def ZbP {α β:Type} (f:α->β) (E:List α) (i:Nat):(E.map f).eraseIdx i=(E.eraseIdx i).map f:=by
 induction E generalizing i with
 |nil=>simp
 |cons a t ih=>cases i <;> simp[ih]
def ZbQ {HL DL:List Int} (hH:HL.Nodup) {E:List (Int×Int)} {k:Nat} (h:lbC HL DL E k) (hc:∀ i,i<E.length->¬lbC HL DL (E.eraseIdx i) k)
  {i j:Nat} (hij:i<j) {x y:Int×Int} (hx:E[i]? = some x) (hy:E[j]? = some y):x.1≠y.1:=by
 intro e;have hi:i<E.length:=(List.getElem?_eq_some_iff.1 hx).1;have hj:j<E.length:=(List.getElem?_eq_some_iff.1 hy).1;have c1:=hc i hi;have c2:=hc j hj;simp only[lbC,Classical.not_forall,Nat.not_le]at c1 c2;obtain ⟨A,B,h1,h2⟩:=c1;obtain ⟨A',B',h3,h4⟩:=c2
 have all {z:Int×Int} (hz:z∈E) {m:Nat} {w:Int×Int} (hw:E[m]? = some w):z=w∨z∈E.eraseIdx m:=by
  obtain ⟨n,hn⟩:=List.mem_iff_getElem?.1 hz;by_cases q:m=n
  . subst q;rw[hw]at hn;exact .inl (Option.some.inj hn).symm
  . exact .inr (ZbO q hn)
 have nx:(A x.1||B x.2)=false:=by
  by_cases q:(A x.1||B x.2)=true
  . exfalso
    have:cvB E A B:=λz hz=>by
     rcases all hz hx with rfl|hz
     . exact q
     . exact h1 z hz
    have:=h A B this;omega
  . simpa using q
 have ny:(A' y.1||B' y.2)=false:=by
  by_cases q:(A' y.1||B' y.2)=true
  . exfalso
    have:cvB E A' B':=λz hz=>by
     rcases all hz hy with rfl|hz
     . exact q
     . exact h3 z hz
    have:=h A' B' this;omega
  . simpa using q
 have px:(A' x.1||B' x.2)=true:=h3 x (ZbO (by omega) hx);have py:(A y.1||B y.2)=true:=h1 y (ZbO (by omega) hy);rw[Bool.or_eq_false_iff]at nx ny;rw[e,ny.1,Bool.false_or]at px;rw[<- e,nx.1,Bool.false_or]at py
 have k1:cvB E (λz=>A z&&A' z) (λz=>B z||B' z):=λz hz=>by
  rcases all hz hx with rfl|hz1
  . simp[px]
  . rcases all hz hy with rfl|hz2
    . simp[py]
    . have g1:=h1 z hz1;have g2:=h3 z hz2
      revert g1 g2
      dsimp only
      cases A z.1 <;> cases A' z.1 <;> cases B z.2 <;> cases B' z.2 <;> simp
 have k2:cvB E (λz=>(A z||A' z)||z == x.1) (λz=>B z&&B' z):=λz hz=>by
  rcases all hz hx with rfl|hz1
  . simp
  . rcases all hz hy with rfl|hz2
    . simp[e]
    . have g1:=h1 z hz1;have g2:=h3 z hz2
      revert g1 g2
      dsimp only
      cases A z.1 <;> cases A' z.1 <;> cases B z.2 <;> cases B' z.2 <;> simp
 have l1:=h _ _ k1;have l2:=h _ _ k2;have s1:=ZbK HL A A';have s2:=ZbK DL B B';have s3:=ZbL hH x.1 (λz=>A z||A' z);simp only[szC]at *;omega
def ZbR {HL DL:List Int} {E:List (Int×Int)} {k:Nat}:lbC DL HL (E.map Prod.swap) k↔lbC HL DL E k:=by
 simp only[lbC,szC]
 constructor
 . intro h A B c;have:=h B A (ZbN.2 c);omega
 . intro h B A c;have:=h A B (ZbN.1 c);omega
def konig {HL DL:List Int} (hH:HL.Nodup) (hD:DL.Nodup):∀ (n:Nat) (E:List (Int×Int)),E.length=n->∀ k,lbC HL DL E k->∃ M:List (Int×Int),M.Sublist E/\k<=M.length/\M.Pairwise aptP:=by
 intro n
 induction n with
 | zero =>
   intro E hE k h;obtain rfl:=List.eq_nil_of_length_eq_zero hE;have:=h (λ_=>false) (λ_=>false) (by intro e he;cases he);exact ⟨[],.refl _,by simpa [szC] using this,.nil⟩
 | succ n ih =>
   intro E hE k h;by_cases q:∃ i,i<E.length/\lbC HL DL (E.eraseIdx i) k
   . obtain ⟨i,hi,hl⟩:=q;obtain ⟨M,h1,h2,h3⟩:=ih (E.eraseIdx i) (by rw[List.length_eraseIdx_of_lt hi];omega) k hl;exact ⟨M,h1.trans (List.eraseIdx_sublist ..),h2,h3⟩
   . have hc:∀ i,i<E.length->¬lbC HL DL (E.eraseIdx i) k:=λi hi hl=>q ⟨i,hi,hl⟩
     have hc':∀ i,i<(E.map Prod.swap).length->¬lbC DL HL ((E.map Prod.swap).eraseIdx i) k:=λi hi hl=>by
      rw[ZbP]at hl;exact hc i (by simpa using hi) (ZbR.1 hl)
     refine ⟨E,.refl _,?_,?_⟩
     . have:=h (λx=>(E.map Prod.fst).contains x) (λ_=>false) (λe he=>by
        simp only[Bool.or_false,List.contains_iff_mem];exact List.mem_map.2 ⟨e,he,rfl⟩)
       have h2:=ZbM hH (E.map Prod.fst);have z:DL.countP (λ_=>false)=0:=(by simp);simp only[szC,z,List.length_map]at this h2;omega
     . rw[List.pairwise_iff_getElem];intro i j hi hj hij;refine ⟨ZbQ hH h hc hij (List.getElem?_eq_getElem hi) (List.getElem?_eq_getElem hj),?_⟩;have:=ZbQ hD (ZbR.2 h) hc' hij (x:=E[i].swap) (y:=E[j].swap) (by simp[hi]) (by simp[hj]);exact this
def bitL (ids:List Int) (s:Nat):List Int:=((List.range ids.length).filter λi=>s.testBit i).map λi=>ids.getD i 0
def ndL (dl:List Int) (l:Jp) (a:List Int):List Int:=dl.filter λd=>l.any λx=>decide (x.dw=d) && !a.contains x.ho
def plN (ids dl:List Int) (l:Jp) (s:Nat):List Int×List Int:=(bitL ids s,ndL dl l (bitL ids s))
def lexB:List Int->List Int->Bool
 |a::s,b::t=>if a=b then lexB s t else decide (a<b)
 |_,_=>false
def bfr (a b:List Int):Bool:=if a.length=b.length then lexB a b else decide (a.length<b.length)
def szP (p:List Int×List Int):Nat:=p.1.length+p.2.length
def btB (p q:List Int×List Int):Bool:=decide (szP p<szP q)||(decide (szP p=szP q)&&bfr p.1 q.1)
def caN (ids dl:List Int) (l:Jp):Nat->List Int×List Int
 |0=>plN ids dl l 0
 |s+1=>if btB (plN ids dl l (s+1)) (caN ids dl l s)=true then plN ids dl l (s+1) else caN ids dl l s
def caE (ids dl:List Int) (l:Jp):List Int×List Int:=caN ids dl l (2 ^ ids.length-1)
def ZbS:∀ {a b c:List Int},lexB a b=true->lexB b c=true->lexB a c=true
 | a :: s,b::t,c::u,h1,h2=>by
   simp only[lexB]at *;by_cases e1:a=b
   . subst e1;rw[if_pos rfl]at h1;by_cases e2:a=c
     . subst e2;rw[if_pos rfl]at *;exact ZbS h1 h2
     . rw[if_neg e2]at *;exact h2
   . rw[if_neg e1]at h1;by_cases e2:b=c
     . subst e2;rw[if_neg e1];exact h1
     . rw[if_neg e2]at h2;simp only[W0b]at h1 h2;rw[if_neg (by omega)];simp;omega
 |[],_,_,h1,_=>by cases h1
 |_::_,[],_,h1,_=>by cases h1
 |_::_,_::_,[],_,h2=>by cases h2
def ZbT {a b c:List Int} (h1:bfr a b=true) (h2:bfr b c=true):bfr a c=true:=by
 unfold bfr at *;by_cases e1:a.length=b.length
 . rw[if_pos e1]at h1;by_cases e2:b.length=c.length
   . rw[if_pos e2]at h2;rw[if_pos (e1.trans e2)];exact ZbS h1 h2
   . rw[if_neg e2]at h2;rw[if_neg (by omega),e1];exact h2
 . rw[if_neg e1]at h1;by_cases e2:b.length=c.length
   . rw[if_pos e2]at h2;rw[if_neg (by omega),<- e2];exact h1
   . rw[if_neg e2]at h2;simp only[W0b]at h1 h2;rw[if_neg (by omega)];simp;omega
def ZbU {p q u:List Int×List Int} (h1:btB p q=true) (h2:btB q u=true):btB p u=true:=by
 simp only[btB,W0T,W01,W0b]at *;rcases h1 with h1 | ⟨h1,g1⟩ <;> rcases h2 with h2 | ⟨h2,g2⟩
 . left;omega
 . left;omega
 . left;omega
 . right;exact ⟨by omega,ZbT g1 g2⟩
def ZbV:∀ a:List Int,lexB a a=false
 |[]=>rfl
 |a::t=>by simp only[lexB,if_true];exact ZbV t
def ZbW (p:List Int×List Int):btB p p=false:=by simp[btB,bfr,ZbV]
def ZbX (ids dl:List Int) (l:Jp):∀ n s,s<=n->btB (plN ids dl l s) (caN ids dl l n)=false
 | 0,s,h=>by
   obtain rfl:s=0:=(by omega);exact ZbW _
 | n + 1,s,h=>by
   unfold caN;by_cases e:btB (plN ids dl l (n+1)) (caN ids dl l n)=true
   . rw[if_pos e];by_cases q:s=n+1
     . subst q;exact ZbW _
     . have ih:=ZbX ids dl l n s (by omega)
       cases g:btB (plN ids dl l s) (plN ids dl l (n+1)) with
       |false=>rfl
       |true=>rw[ZbU g e]at ih;cases ih
   . rw[if_neg e];by_cases q:s=n+1
     . subst q;simpa using e
     . exact ZbX ids dl l n s (by omega)
def ZbY (ids dl:List Int) (l:Jp):∀ n,∃ s,s<=n/\caN ids dl l n=plN ids dl l s
 |0=>⟨0,W0f _,rfl⟩
 | n + 1=>by
   unfold caN
   split
   . exact ⟨n+1,W0f _,rfl⟩
   . obtain ⟨s,h1,h2⟩:=ZbY ids dl l n;exact ⟨s,by omega,h2⟩
def ZbZ (ids dl:List Int) (l:Jp) {s:Nat} (h:s<2 ^ ids.length):btB (plN ids dl l s) (caE ids dl l)=false:=ZbX ids dl l _ s (by omega)
def Zc0 (ids dl:List Int) (l:Jp):∃ s,s<2 ^ ids.length/\caE ids dl l=plN ids dl l s:=by
 obtain ⟨s,h1,h2⟩:=ZbY ids dl l (2 ^ ids.length-1);have:=Nat.two_pow_pos ids.length;exact ⟨s,by omega,h2⟩
def Zc1 {p q:List Int×List Int} (h:btB p q=false):szP q<=szP p:=by
 simp only[btB,W1T,W1b]at h;omega
def nuB (A:Int->Bool):List Int->Nat
 |[]=>0
 |a::t=>2*nuB A t+(if A a=true then 1 else 0)
def Zc2 (A:Int->Bool):∀ ids,nuB A ids<2 ^ ids.length
 |[]=>by simp[nuB]
 | a::t=>by
   have:=Zc2 A t;simp only[nuB,W1p,Nat.pow_succ]
   split <;> omega
def Zc3 (A:Int->Bool):∀ (ids:List Int) (i:Nat) (h:i<ids.length),(nuB A ids).testBit i=A ids[i]
 | a::t,0,h=>by
   simp only[nuB,Nat.testBit_zero,List.getElem_cons_zero]
   cases A a <;> simp <;> omega
 | a::t,i+1,h=>by
   have ih:=Zc3 A t i (by simpa using h);rw[List.getElem_cons_succ,<- ih,nuB,Nat.testBit_succ]
   congr 1
   split <;> omega
def Zc4 (ids:List Int) (A:Int->Bool):((List.range ids.length).filter λi=>A (ids.getD i 0)).map (λi=>ids.getD i 0)=ids.filter A:=by
 have e:(List.range ids.length).map (λi=>ids.getD i 0)=ids:=by
  apply W1I
  . simp
  . intro i h1 h2;simp[W0j,W07 h2]
 have e2:=List.filter_map (f:=λi=>ids.getD i 0) (p:=A) (l:=List.range ids.length);rw[e]at e2;exact e2.symm
def Zc5 (A:Int->Bool) (ids:List Int):bitL ids (nuB A ids)=ids.filter A:=by
 rw[<- Zc4 ids A];unfold bitL
 congr 1
 apply List.filter_congr
 intro i hi;have hi2:i<ids.length:=(by simpa using hi);rw[Zc3 A ids i hi2,W0j,W07 hi2];rfl
def prE (l:Jp):List (Int×Int):=l.map λx=>(x.ho,x.dw)
def Zc6 {ids dl:List Int} {l:Jp} (hi:∀ x∈l,x.ho∈ids):lbC ids dl (prE l) (szP (caE ids dl l)):=by
 intro A B h;have hin:∀ x∈l,x.ho∈ids:=hi;have h1:=Zc1 (ZbZ ids dl l (Zc2 A ids))
 have h2:(ndL dl l (ids.filter A)).length<=dl.countP B:=by
  unfold ndL;rw[<- W1c];refine List.countP_mono_left λd hd q=>?_
  obtain ⟨x,hx,q2⟩:=W14.1 q;clear q;simp only[W01,W0b,W1C,List.contains_eq_mem,W0G,W1b,not_and]at q2;have:=h (x.ho,x.dw) (W0i.2 ⟨x,hx,rfl⟩);obtain ⟨rfl,q⟩:=q2;rcases Bool.or_eq_true_iff.1 this with g|g
  . exact absurd g (q (hin x hx))
  . exact g
 have h3:(ids.filter A).length=ids.countP A:=(W1c ..).symm;simp only[plN,szP,Zc5]at *;unfold szC;omega
def Zc7 {α β:Type} (f:α->β):∀ {l:List α} {M:List β},M.Sublist (l.map f)->∃ M':List α,M'.Sublist l/\M'.map f=M
 |[],M,h=>by cases h;exact ⟨[],.slnil,rfl⟩
 | a :: t,M,h=>by
   rw[W0F]at h
   cases h with
   | cons _ h =>
     obtain ⟨M',h1,h2⟩:=Zc7 f h;exact ⟨M',h1.cons _,h2⟩
   | cons_cons _ h =>
     obtain ⟨M',h1,h2⟩:=Zc7 f h;exact ⟨a::M',h1.cons_cons _,by rw[W0F,h2]⟩
def Zc8 {ids dl:List Int} {l:Jp} (hn:ids.Nodup) (hd:dl.Nodup) (hi:∀ x∈l,x.ho∈ids):∃ o,apD l (szP (caE ids dl l)) []=some o/\MfP l (szP (caE ids dl l)) [] o:=by
 obtain ⟨M,h1,h2,h3⟩:=konig hn hd _ (prE l) rfl _ (Zc6 (dl:=dl) hi);obtain ⟨M',h4,rfl⟩:=Zc7 _ h1
 have h5:MfP l (szP (caE ids dl l)) [] (M'.take (szP (caE ids dl l))):=by
  refine ⟨(List.take_sublist _ _).trans h4,by simp only[W0N]at h2;simp;omega,?_,by simp⟩;refine List.Pairwise.sublist (List.take_sublist _ _) ?_;rw[W2o]at h3;exact h3.imp λh=>by simpa [frP,clP,aptP] using h
 obtain ⟨o,ho⟩:=ZbJ h5;obtain ⟨N,e,h6⟩:=ZbI ho;rw[W18]at e;subst e;exact ⟨_,ho,h6⟩
section
open Qq Tryz
def Zc9:RCode :=
 S [r 0 [w 6 (.alloc [O,O,.int .u8 0,O,O,O,O,O,.bool false,.int .u8 0])],S [r 1 [m 9 0,w 10 (.nilck (.t 9)),f 11 0 10,f 12 1 11,l 13 12,e 14 13,k 15 .sub 14 I,m 7 15],.block 0 (.loop (S [S [r 2 [m 16 7,k 17 .geq 16 O],.cond (.t 17) .skip (.exit 0)],.block 1 (S [r 4 [m 20 0,w 21 (.nilck (.t 20)),f 22 0 21,f 23 1 22,l 24 23,m 25 7,i 26 10 24 25,L 27 10 26,w 8 (.alloc [O,O,.int .u8 0,O,O,O,O,O,.bool false,.int .u8 0]),s 10 8 27],r 5 [f 28 3 8,l 29 28,m 30 2,o 31 .eql 29 30,m 32 31,g 32 true (m 33 1),g 32 true (m 34 7),g 32 true (w 35 (.callv (.t 33) [.t 34])),v 36 32 35],K 36 6 [L 37 10 8,s 10 6 37]]),r 3 [m 18 7,k 19 .sub 18 I,m 7 19]]))],r 7 [w 38 (.build [O,O,.int .u8 0,O,O,O,O,O,.bool false,.int .u8 0] [(4,1,.c I)]),s 10 6 38],.ret]
def Zca:List RRes:=[.c 6 true 10]
def Zcb {G:Jg} {objs objs':List (Nat×AObj)} {args:List AV} {v:AV} (hn:args.length<=f113.ntmps) (h:∀ R:Run,R.G=G->R.Top->AR prog R Zc9 ⟨iniT 0 args,objs⟩ (FinB Zca v objs')):PB prog G 113 objs args v objs' :=
 PB_of func113 rfl (by kernel_rfl) (rc:=Zc9) (by kernel_rfl) (rs:=Zca) (by kernel_rfl) hn (λR _ hG hr=>h R hG hr)
end
section
open Qq Tryz
def Zcc:RCode :=
 S [r 0 [n 6 (.bool false)],r 1 [m 7 0,m 8 1,o 9 .geq 7 8,m 10 9,g 10 true (m 11 0),g 10 true (m 12 2),g 10 true (o 13 .leq 11 12),v 14 10 13,m 6 14],.ret]
def Zcd:List RRes:=[.t 6]
def Zce:PCt prog 176 f176 Zcc Zcd:=pcT func176 rfl
def Zcf:RCode :=
 S [r 0 [b 2 0,n 4 (.bool false)],r 1 [f 12 1 2,l 13 12,m 14 1,i 15 10 13 14,L 16 10 15,w 5 (.alloc [O,O,.int .u8 0,O,O,O,O,O,.bool false,.int .u8 0]),s 10 5 16],S [r 2 [f 17 0 5,l 18 17,w 19 (.call 176 [.t 18,.c I,.c (.int .i64 9999)]),t 20 19,m 21 20,g 21 false (f 22 1 5),g 21 false (l 23 22),g 21 false (w 24 (.call 176 [.t 23,.c O,.c (.int .i64 14610)])),g 21 false (t 25 24),u 26 21 25,m 27 26,g 27 false (f 28 2 5),g 27 false (l 29 28),g 27 false (k 30 .gtr 29 (.int .u8 2)),u 31 27 30,m 32 31,g 32 false (f 33 5 5),g 32 false (l 34 33),g 32 false (f 35 6 5),g 32 false (l 36 35),g 32 false (w 37 (.call 176 [.t 34,.c I,.t 36])),g 32 false (t 38 37),u 39 32 38,m 40 39,g 40 false (f 41 6 5),g 40 false (l 42 41),g 40 false (k 43 .gtr 42 (.int .i64 999)),u 44 40 43,m 45 44,g 45 false (f 46 9 5),g 45 false (l 47 46),g 45 false (k 48 .gtr 47 (.int .u8 3)),u 49 45 48],K 49 3 [n 4 (.bool false)]],S [r 4 [f 50 3 5,l 51 50,k 52 .eql 51 O,m 53 52,g 53 true (f 54 4 5),g 53 true (l 55 54),g 53 true (k 56 .eql 55 O),v 57 53 56],.cond (.t 57) (S [r 5 [f 58 7 5,l 59 58,k 60 .eql 59 O],K 60 6 [n 4 (.bool false)]]) (S [r 7 [f 62 0 2,L 63 1 62,f 64 3 5,l 65 64,f 66 4 5,l 67 66,w 68 (.build [O,O] [(0,1,.t 65),(1,1,.t 67)]),c 69 172 [63,68],m 61 69,x 70 0 61,x 71 1 61,w 6 (.alloc [O,O,.int .u8 0,.nils,.nils]),s 5 6 70,m 7 71],r 8 [m 72 7,t 73 72],K 73 9 [n 4 (.bool false)]])],S [r 10 [f 74 4 5,l 75 74,k 76 .lss 75 (.int .i64 2),m 77 76,g 77 true (f 78 8 5),g 77 true (l 79 78),g 77 true (m 80 79),g 80 false (f 81 9 5),g 80 false (l 82 81),g 80 false (k 83 .gtr 82 (.int .u8 0)),g 77 true (u 84 80 83),v 85 77 84],K 85 11 [n 4 (.bool false)]],r 12 [f 86 7 5,l 87 86,k 88 .eql 87 O,m 8 88],S [r 13 [n 9 O],.block 0 (.loop (S [S [r 14 [m 89 9,m 90 1,o 91 .lss 89 90],.cond (.t 91) .skip (.exit 0)],.block 1 (S [r 16 [f 94 1 2,l 95 94,m 96 9,i 97 10 95 96,L 98 10 97,w 10 (.alloc [O,O,.int .u8 0,O,O,O,O,O,.bool false,.int .u8 0]),s 10 10 98],S [r 17 [f 99 0 10,l 100 99,f 101 0 5,l 102 101,o 103 .eql 100 102],K 103 18 [n 4 (.bool false)]],r 19 [m 104 8,m 105 104,g 105 false (f 106 0 10),g 105 false (l 107 106),g 105 false (f 108 7 5),g 105 false (l 109 108),g 105 false (o 110 .eql 107 109),u 111 105 110,m 8 111]]),r 15 [m 92 9,k 93 .add 92 I,m 9 93]]))],S [r 20 [m 112 1,k 113 .eql 112 O],K 113 21 [m 114 8,m 4 114]],r 22 [f 115 1 2,l 116 115,m 117 1,k 118 .sub 117 I,i 119 10 116 118,L 120 10 119,w 11 (.alloc [O,O,.int .u8 0,O,O,O,O,O,.bool false,.int .u8 0]),s 10 11 120],r 23 [m 121 8,m 122 121,g 122 true (f 123 1 11),g 122 true (l 124 123),g 122 true (f 125 1 5),g 122 true (l 126 125),g 122 true (o 127 .lss 124 126),g 122 true (m 128 127),g 128 false (f 129 1 11),g 128 false (l 130 129),g 128 false (f 131 1 5),g 128 false (l 132 131),g 128 false (o 133 .eql 130 132),g 128 false (m 134 133),g 134 true (f 135 0 11),g 134 true (l 136 135),g 134 true (f 137 0 5),g 134 true (l 138 137),g 134 true (o 139 .lss 136 138),g 128 false (v 140 134 139),g 122 true (u 141 128 140),v 142 122 141,m 4 142],.ret]
def Zcg:List RRes:=[.t 4]
def Zch:PCt prog 171 f171 Zcf Zcg:=pcT func171 rfl
def Zci:RCode :=
 S [r 0 [b 1 0,n 2 (.bool false)],S [r 1 [f 5 1 1,l 6 5,e 7 6,k 8 .gtr 7 (.int .i64 12)],K 8 2 [n 2 (.bool false)]],r 3 [n 3 O],S [r 4 [n 4 O],.block 0 (.loop (S [S [r 5 [m 9 4,f 10 1 1,l 11 10,e 12 11,o 13 .lss 9 12],.cond (.t 13) .skip (.exit 0)],.block 1 (S [S [r 7 [L 16 2 1,m 17 4,c 18 171 [16,17],t 19 18],K 19 8 [n 2 (.bool false)]],r 9 [f 20 1 1,l 21 20,m 22 4,i 23 10 21 22,f 24 2 23,l 25 24,k 26 .eql 25 (.int .u8 1)],.cond (.t 26) (r 10 [m 27 3,k 28 .add 27 I,m 3 28]) .skip]),r 6 [m 14 4,k 15 .add 14 I,m 4 15]]))],r 11 [m 29 3,k 30 .leq 29 (.int .i64 5),m 2 30],.ret]
def Zcj:List RRes:=[.t 2]
def Zck:PCt prog 134 f134 Zci Zcj:=pcT func134 rfl
def Zcl:RCode :=
 S [r 0 [b 1 0,n 2 O],S [r 1 [f 4 0 1,L 5 1 4,c 6 133 [5],m 3 6],r 2 [m 7 3,k 8 .neq 7 O],K 8 3 [m 9 3,m 2 9]],S [r 4 [L 10 2 1,c 11 134 [10],t 12 11],K 12 5 [n 2 (.int .i64 30)]],r 6 [n 2 O],.ret]
def Zcm:List RRes:=[.t 2]
def Zcn:PCt prog 77 f77 Zcl Zcm:=pcT func77 rfl
def Zco:RCode :=
 S [r 0 [b 1 0,w 2 (.alloc [.nils,.nils])],R 1 [f 3 0 1,a [0] (L 4 1 3),a [1] (c 5 126 [4]),w 6 (.bsl true 10 0 [] []),f 7 1 1,a [4] (l 8 7),a [3,5,2] (w 9 (.app 10 72 (.t 6) (.t 8))),a [2,6] (w 10 (.build [.nils,.nils] [(0,1,.t 5),(1,1,.t 9)])),a [7,6,0,1,2,3,4,5,6,7] (s 2 2 10)],.ret]
def Zcp:List RRes:=[.c 2 true 2]
def Zcq:PCt prog 68 f68 Zco Zcp:=pcT func68 rfl
def Zcr:RCode :=
 S [r 0 [b 1 0,n 2 (.bool false)],r 1 [f 3 0 1,L 4 1 3,c 5 125 [4],m 6 5,g 6 false (f 7 1 1),g 6 false (l 8 7),g 6 false (e 9 8),g 6 false (k 10 .gtr 9 (.int .i64 16)),u 11 6 10,m 2 11],.ret]
def Zcs:List RRes:=[.t 2]
def Zct:PCt prog 67 f67 Zcr Zcs:=pcT func67 rfl
end
def Zcu {α:Type} {l:List α} {k:Nat} (h:k<l.length) (p:α->Bool):(l.take (k+1)).any p=((l.take k).any p||p l[k]):=by
 rw[W08 h,W2g];simp
def Chk (S:St) (Q:Prop) (Φ:Exit->St->Prop):Exit->St->Prop
 |.normal,s=>Ym s S/\Q
 |.ret,s=>Φ .ret s
 |_,_=>False
section
variable {P:Program} {R:Run} {S s:St} {Q:Prop} {Φ:Exit->St->Prop}
def Zcv:Chk S Q Φ .normal s=(Ym s S/\Q):=rfl
def Zcw:Chk S Q Φ .ret s=Φ .ret s:=rfl
attribute [simp] Zcv Zcw
def Zcx {a b:RCode} {st S:St} {Φ:Exit->St->Prop} (h:AR P R a st λe s=>e = .normal/\Ym s S) (hb:AR P R b S Φ):AR P R (.seq a b) st Φ :=
 Z1M (Z2I h λe s hs=>by obtain ⟨rfl,hw⟩:=hs;exact Z2Q hw hb)
def Zcy {a b:RCode} {st S:St} {Q:Prop} {Φ:Exit->St->Prop} (h:AR P R a st (Chk S Q Φ)) (hb:Q->AR P R b S Φ):AR P R (.seq a b) st Φ :=
 Z1M (Z2I h λe s hs=>by
  cases e with
  |normal=>exact Z2Q hs.1 (hb hs.2)
  |ret=>exact hs
  |_=>exact hs.elim)
end
def Zcz (n lo hi:Int):PC prog G 176 [.int .i64 n,.int .i64 lo,.int .i64 hi] (.bool (inR n lo hi)):=by
 (refine Zce rfl λR hG hrd=>Qga ?_;subst hG)
 by_cases h1:lo<=n <;> by_cases h2:n<=hi <;> simp -implicitDefEqProofs[Zcc,Zcd,inR,h1,h2]
def ZcA (r:Jr) (l:Jl) (i:Nat) (hi:i<l.length) (hw:WfN l) (hr:SmlR r):PC prog G 171 [.agg [.vsl (r.map isa),.vsl (l.map na)],.int .i64 i] (.bool (noteB r l i)):=by
 have hl:=hw.1;unfold Sml at hl;have hb:=hw.2 l[i] (W0e hi);have hx:=Zbb hi;have hf:=Z8x (G:=G) r l[i].dr l[i].lt hr.1;rw[rega]at hf;obtain ⟨x,hxx⟩:=Qex (l[i]);rw[<- hxx]at hx hb hf;have hlx:l[i]=x:=hxx.symm;have hna:na x=[.int .i64 x.nu,.int .i64 x.dy,.int .u8 x.sg,.int .i64 x.dr,.int .i64 x.lt,.int .i64 x.fr,.int .i64 x.tu,.int .i64 x.ca,.bool x.up,.int .u8 x.wy]:=rfl;refine Zch rfl λR hG hrd=>?_
 subst hG;unfold Zcf;refine Zcx (S:=⟨[(1,.int .i64 i),(2,.ptr 2 0)],[(2,.box [.vsl (r.map isa),.vsl (l.map na)])]⟩) (Qga ?_) ?_
 . simp -implicitDefEqProofs[]
   (refine Wkc ?_;simp only[Wkl,and_true];(try simp[lk,Yc,Ya,AV.keys]))
 refine Zcx (S:=⟨[(1,.int .i64 i),(2,.ptr 2 0),(5,.ptr 5 0)],[(2,.box [.vsl (r.map isa),.vsl (l.map na)]),(5,.box (na x))]⟩) (Qga ?_) ?_
 . simp -implicitDefEqProofs[hi,hlx,hna]
   ((try simp only[hna]);refine Ym.sub (by simp[lk,Ya,AV.keys,hna]) ?_;simp only[hna,Wkl,and_true];(try simp[lk,Yc,Ya,AV.keys,hna]))
 have nf:∀ c:Bool,c=false->(c&&noteB r l i)=false:=λc h=>by rw[h];rfl
 refine Zcy (S:=⟨[(1,.int .i64 i),(2,.ptr 2 0),(5,.ptr 5 0)],[(2,.box [.vsl (r.map isa),.vsl (l.map na)]),(5,.box (na x))]⟩) (Q:=cN1 x=true/\cN2 x=true/\cN3 x=true) (Qga ?_) ?_
 . simp -implicitDefEqProofs[hna];refine Qco (Zcz x.nu 1 9999) ?_
   cases h1:inR x.nu 1 9999
   . have e:noteB r l i=false:=(by simp[noteB,hx,cN1,h1]);simp -implicitDefEqProofs[e,Zcg]
   simp -implicitDefEqProofs[];refine Qco (Zcz x.dy 0 14610) ?_
   cases h2:inR x.dy 0 14610
   . have e:noteB r l i=false:=(by simp[noteB,hx,cN1,h2]);simp -implicitDefEqProofs[e,Zcg]
   by_cases h3:2<x.sg
   . have e:noteB r l i=false:=by
      have:¬x.sg<=2:=(by omega);simp[noteB,hx,cN2,this]
     simp -implicitDefEqProofs[h3,e,Zcg]
   simp -implicitDefEqProofs[h3];refine Qco (Zcz x.fr 1 x.tu) ?_
   cases h4:inR x.fr 1 x.tu
   . have e:noteB r l i=false:=by
      have h4:=of_decide_eq_false h4
      have:cN3 x=false:=by
       cases q:cN3 x
       . rfl
       . simp only[cN3,inR,W01,W0b]at q;exact absurd ⟨q.1.1.1,q.2⟩ h4
      simp[noteB,hx,this]
     simp -implicitDefEqProofs[e,Zcg]
   by_cases h5:999<x.tu
   . have e:noteB r l i=false:=by
      have:cN3 x=false:=by
       cases q:cN3 x
       . rfl
       . simp only[cN3,inR,W01,W0b]at q;omega
      simp[noteB,hx,this]
     simp -implicitDefEqProofs[h5,e,Zcg]
   by_cases h6:3<x.wy
   . have e:noteB r l i=false:=by
      have:¬x.wy<=3:=(by omega);simp[noteB,hx,cN2,this]
     simp -implicitDefEqProofs[h5,h6,e,Zcg]
   simp -implicitDefEqProofs[h5,h6];refine ⟨?_,?_,?_,?_⟩
   . ((try simp only[hna]);refine Ym.sub (by simp[lk,Ya,AV.keys,hna]) ?_;simp only[hna,Wkl,and_true];(try simp[lk,Yc,Ya,AV.keys,hna]))
   . rw[cN1,h1,h2];rfl
   . have q1:x.sg<=2:=(by omega);have q2:x.wy<=3:=(by omega);simp[cN2,q1,q2]
   . have h4:=W0X h4;simp only[cN3,inR,W01,W0b];omega
 rintro ⟨k1,k2,k3⟩;refine Zcy (S:=⟨[(1,.int .i64 i),(2,.ptr 2 0),(5,.ptr 5 0)],[(2,.box [.vsl (r.map isa),.vsl (l.map na)]),(5,.box (na x))]⟩) (Q:=cN4 r x=true) (Qga ?_) ?_
 . by_cases hz:x.dr=0/\x.lt=0
   . by_cases hc:x.ca=0
     . have e:noteB r l i=false:=(by simp[noteB,hx,cN4,hz,hc]);simp -implicitDefEqProofs[hna,hz.1,hz.2,hc,e,Zcg]
     . simp -implicitDefEqProofs[hna,hz.1,hz.2,hc];refine ⟨?_,by simp[cN4,hz,hc]⟩
       ((try simp only[hna,hz.1,hz.2]);refine Ym.sub (by simp[lk,Ya,AV.keys,hna,hz.1,hz.2]) ?_;simp only[hna,hz.1,hz.2,Wkl,and_true];(try simp[lk,Yc,Ya,AV.keys,hna,hz.1,hz.2]))
   . have e4:cN4 r x=(findN x.dr x.lt r).isSome:=by simp[cN4,hz]
     have hA:∀ b:Bool,b=(decide (x.dr=0)&&decide (x.lt=0))->b=false:=λb e=>by
      rw[e];by_cases q:x.dr=0
      . simp[q,show ¬x.lt=0 from λh=>hz ⟨q,h⟩]
      . simp[q]
     by_cases q:x.dr=0
     case' pos =>
      have q2:¬x.lt=0:=λh=>hz ⟨q,h⟩
      simp -implicitDefEqProofs[hna,q,q2];rw[q]at hf
     case' neg=>simp -implicitDefEqProofs[hna,q]
     all_goals
      refine Qco (hf) ?_
      cases hq:findN x.dr x.lt r with
      | none =>
        have e:noteB r l i=false:=by simp[noteB,hx,e4,hq]
        first
         |simp -implicitDefEqProofs[hq,fndA,noIs,e,Zcg];done
         |(rw[q]at hq;simp -implicitDefEqProofs[hq,fndA,noIs,e,Zcg];done)
      | some y =>
        have ey:isa y=[.int .i64 y.d,.int .i64 y.l,.int .u8 y.k,.vsl (y.its.map ita),.vsl (y.dms.map dma)]:=rfl;have hq4:cN4 r x=true:=by rw[e4,hq];rfl
        first
         |(simp -implicitDefEqProofs[hq,fndA,ey];refine ⟨?_,hq4⟩;((try simp only[hna]);refine Ym.sub (by simp[lk,Ya,AV.keys,hna]) ?_;simp only[hna,Wkl,and_true];(try simp[lk,Yc,Ya,AV.keys,hna]));done)
         |(rw[q]at hq;simp -implicitDefEqProofs[hq,fndA,ey];refine ⟨?_,hq4⟩;((try simp only[hna,q]);refine Ym.sub (by simp[lk,Ya,AV.keys,hna,q]) ?_;simp only[hna,q,Wkl,and_true];(try simp[lk,Yc,Ya,AV.keys,hna,q]));done)
 intro k4;refine Zcy (S:=⟨[(1,.int .i64 i),(2,.ptr 2 0),(5,.ptr 5 0)],[(2,.box [.vsl (r.map isa),.vsl (l.map na)]),(5,.box (na x))]⟩) (Q:=cN5 x=true) (Qga ?_) ?_
 . by_cases q1:x.lt<2
   . have q1':¬2<=x.lt:=by omega
     cases q2:x.up
     . by_cases q3:0<x.wy
       . have e:noteB r l i=false:=by
          have:¬x.wy=0:=(by omega);simp[noteB,hx,cN5,q1',q2,this]
         simp -implicitDefEqProofs[hna,q1,q2,q3,e,Zcg]
       . simp -implicitDefEqProofs[hna,q1,q2,q3];refine ⟨?_,?_⟩
         . ((try simp only[hna,q2]);refine Ym.sub (by simp[lk,Ya,AV.keys,hna,q2]) ?_;simp only[hna,q2,Wkl,and_true];(try simp[lk,Yc,Ya,AV.keys,hna,q2]))
         . have:x.wy=0:=(by omega);simp[cN5,q2,this]
     . have e:noteB r l i=false:=(by simp[noteB,hx,cN5,q1',q2]);simp -implicitDefEqProofs[hna,q1,q2,e,Zcg]
   . have q1':2<=x.lt:=(by omega);simp -implicitDefEqProofs[hna,q1];refine ⟨?_,by simp[cN5,q1']⟩
     ((try simp only[hna]);refine Ym.sub (by simp[lk,Ya,AV.keys,hna]) ?_;simp only[hna,Wkl,and_true];(try simp[lk,Yc,Ya,AV.keys,hna]))
 intro k5;have en:noteB r l i=(cN6 l i x&&cN7 l i x&&cN8 l i x):=(by rw[noteB,hx,k1,k2,k3,k4,k5];rfl);rw[en];refine Qga ?_;simp -implicitDefEqProofs[hna]
 refine Z8g (λk=>⟨[(9,.int .i64 k),(8,.bool (decide (x.ca=0)||(l.take k).any λy=>decide (y.nu=x.ca))),(1,.int .i64 i),(2,.ptr 2 0),(5,.ptr 5 0)],[(2,.box [.vsl (r.map isa),.vsl (l.map na)]),(5,.box (na x))]⟩)
  (λk=>((l.take k).any λy=>decide (y.nu=x.nu))=false) i ?_ (by simp) ?_ ?_
 . ((try simp only[hna,W1g,List.any_nil,Bool.or_false]);refine Ym.sub (by simp[lk,Ya,AV.keys,hna,W1g,List.any_nil,Bool.or_false]) ?_;simp only[hna,W1g,List.any_nil,Bool.or_false,Wkl,and_true];(try simp[lk,Yc,Ya,AV.keys,hna,W1g,List.any_nil,Bool.or_false]))
 . intro k hk hI;refine Qga ?_;have hkl:k<l.length:=(by omega);have wk:i64.wrap ((k:Int)+1)=(k:Int)+1:=Yf;have a1:=Zcu hkl λy=>decide (y.nu=x.nu)
   have a2:=Zcu hkl λy=>decide (y.nu=x.ca)
   have hnk:na l[k]=[.int .i64 l[k].nu,.int .i64 l[k].dy,.int .u8 l[k].sg,.int .i64 l[k].dr,.int .i64 l[k].lt,.int .i64 l[k].fr,.int .i64 l[k].tu,.int .i64 l[k].ca,.bool l[k].up,.int .u8 l[k].wy]:=rfl;by_cases e:l[k].nu=x.nu
   . have h7:cN7 l i x=false:=by
      have:((l.take i).any λy=>decide (y.nu=x.nu))=true:=W14.2 ⟨l[k],by rw[W1Q];exact ⟨k,by omega,rfl⟩,by simp[e]⟩;rw[cN7,this];rfl
     simp -implicitDefEqProofs[hk,hkl,hna,hnk,e];refine Qgr ?_;simp -implicitDefEqProofs[h7,Zcg]
   . have hI2:((l.take (k+1)).any λy=>decide (y.nu=x.nu))=false:=by rw[a1,hI];simp[e]
     cases hB:(decide (x.ca=0)||(l.take k).any λy=>decide (y.nu=x.ca))
     . have hB2:(decide (x.ca=0)||(l.take (k+1)).any λy=>decide (y.nu=x.ca))=decide (l[k].nu=x.ca):=(by rw[a2,<- Bool.or_assoc,hB];simp);simp -implicitDefEqProofs[hk,hkl,hna,hnk,e,hB,wk];refine ⟨?_,by simpa using hI2⟩
       ((try simp only[hna,hB2]);refine Ym.sub (by simp[lk,Ya,AV.keys,hna,hB2]) ?_;simp only[hna,hB2,Wkl,and_true];(try simp[lk,Yc,Ya,AV.keys,hna,hB2]))
     . have hB2:(decide (x.ca=0)||(l.take (k+1)).any λy=>decide (y.nu=x.ca))=true:=(by rw[a2,<- Bool.or_assoc,hB];rfl);simp -implicitDefEqProofs[hk,hkl,hna,hnk,e,hB,wk];refine ⟨?_,by simpa using hI2⟩
       ((try simp only[hna,hB2]);refine Ym.sub (by simp[lk,Ya,AV.keys,hna,hB2]) ?_;simp only[hna,hB2,Wkl,and_true];(try simp[lk,Yc,Ya,AV.keys,hna,hB2]))
 . intro hI;refine Qga ?_;have h7:cN7 l i x=true:=(by rw[cN7,hI];rfl);have h6:(decide (x.ca=0)||(l.take i).any λy=>decide (y.nu=x.ca))=cN6 l i x:=rfl;rw[h6];simp -implicitDefEqProofs[hna];refine Qgr ?_
   cases i with
   |zero=>simp -implicitDefEqProofs[h7,cN8,Zcg]
   | succ k =>
     have hkl:k<l.length:=(by omega);have w1:i64.wrap ((k:Int)+1-1)=(k:Int):=(by rw[Yf (by omega) (by omega)];omega);have w2:i64.wrap (k:Int)=(k:Int):=Yf;have i0:¬(k:Int)+1=0:=(by omega);have ek:=Zbb hkl;have hnk:na l[k]=[.int .i64 l[k].nu,.int .i64 l[k].dy,.int .u8 l[k].sg,.int .i64 l[k].dr,.int .i64 l[k].lt,.int .i64 l[k].fr,.int .i64 l[k].tu,.int .i64 l[k].ca,.bool l[k].up,.int .u8 l[k].wy]:=rfl;have e8:cN8 l (k+1) x=(decide (l[k].dy<x.dy)||(decide (l[k].dy=x.dy)&&decide (l[k].nu<x.nu))):=(by rw[cN8,ek]);rw[e8]
     cases h6:cN6 l (k+1) x
     . simp -implicitDefEqProofs[h7,i0,w1,w2,hkl,hnk,hna,h6,Zcg]
     by_cases q1:l[k].dy<x.dy
     . simp -implicitDefEqProofs[h7,i0,w1,w2,hkl,hnk,hna,q1,h6,Zcg]
     by_cases q2:l[k].dy=x.dy
     . have q1':¬x.dy<x.dy:=(by omega);simp -implicitDefEqProofs[h7,i0,w1,w2,hkl,hnk,hna,q2,h6,Zcg]
     . simp -implicitDefEqProofs[h7,i0,w1,w2,hkl,hnk,hna,q1,q2,h6,Zcg]
def ZcB (r:Jr) (l:Jl) (hw:WfN l) (hr:SmlR r):PC prog G 134 [.agg [.vsl (r.map isa),.vsl (l.map na)]] (.bool (Zbe r l)):=by
 (refine Zck rfl λR hG hrd=>Qga ?_;subst hG)
 by_cases h0:12<l.length
 . have h0':(12:Int)<l.length:=by omega
   have e:Zbe r l=false:=by
    have:¬l.length<=12:=(by omega);simp[Zbe,this]
   simp -implicitDefEqProofs[Zci,Zcj,h0,h0',e]
 have h0':¬(12:Int)<l.length:=(by omega);simp -implicitDefEqProofs[Zci,Zcj,h0,h0'];refine Z8g (λi=>⟨[(4,.int .i64 i),(3,.int .i64 ((opN l i).length:Nat)),(1,.ptr 1 0)],[(1,.box [.vsl (r.map isa),.vsl (l.map na)])]⟩) (λi=>∀ j,j<i->noteB r l j=true) l.length (by (first|exact Ym.tm (by simp[lk,opN])|exact Ym.sub (by simp[lk,Ya,AV.keys,opN]) (by simp[lk,Yc,Ya,AV.keys,opN]))) (by simp) ?_ ?_
 . intro i hi he;refine Qga ?_;have wi:i64.wrap ((i:Int)+1)=(i:Int)+1:=Yf;have hn:=ZcA (G:=R.G) r l i hi hw hr;have sc:=Zbc hi;have ol:=Zbd l i;have wo:i64.wrap (((opN l i).length:Int)+1)=((opN l i).length:Int)+1:=Yf;simp -implicitDefEqProofs[hi];refine Qco (hn) ?_
   cases hb:noteB r l i
   . have e:Zbe r l=false:=by
      cases q:Zbe r l
      . rfl
      . simp only[Zbe,W01]at q;have:=Z8y.1 q.1.2 i hi;rw[hb]at this;cases this
     simp -implicitDefEqProofs[];refine Qgr ?_;simp -implicitDefEqProofs[e]
   . have he2:∀ j,j<i+1->noteB r l j=true:=λj hj=>by
      rcases W0q j i with h1|h1
      . exact he j h1
      . obtain rfl:j=i:=(by omega);exact hb
     by_cases q:l[i].sg=1
     . rw[if_pos q]at sc;simp -implicitDefEqProofs[hi,na,q,wo,wi];refine ⟨?_,he2⟩
       (first|exact Ym.tm (by simp[lk,sc])|exact Ym.sub (by simp[lk,Ya,AV.keys,sc]) (by simp[lk,Yc,Ya,AV.keys,sc]))
     . rw[if_neg q]at sc;simp -implicitDefEqProofs[hi,na,q,wi];refine ⟨?_,he2⟩
       (first|exact Ym.tm (by simp[lk,sc])|exact Ym.sub (by simp[lk,Ya,AV.keys,sc]) (by simp[lk,Yc,Ya,AV.keys,sc]))
 . intro he;refine Qga ?_
   have e:Zbe r l=decide ((opN l l.length).length<=5):=by
    have h1:(List.range l.length).all (noteB r l)=true:=Z8y.2 he;have h2:l.length<=12:=(by omega);simp[Zbe,h1,h2]
   have h5:decide (((opN l l.length).length:Int)<=5)=decide ((opN l l.length).length<=5):=decide_eq_decide.2 (by omega);simp -implicitDefEqProofs[];refine Qgr ?_;simp -implicitDefEqProofs[e,h5]
def ZcC (r:Jr) (l:Jl) (hw:WfN l) (hr:Wf r):PC prog G 77 [.agg [.vsl (r.map isa),.vsl (l.map na)]] (.int .i64 (chN r l)):=by
 have hc:=Z93 (G:=G) r hr;rw[<- ZaX,rega]at hc
 (refine Zcn rfl λR hG hrd=>Qga ?_;subst hG)
 simp -implicitDefEqProofs[Zcl,Zcm];refine Qco (hc) ?_;by_cases h:openV r=0
 . simp -implicitDefEqProofs[h];refine Qco (ZcB r l hw hr.1) ?_
   cases q:Zbe r l <;> simp -implicitDefEqProofs[chN,h,q]
 . simp -implicitDefEqProofs[chN,h]
end Go.Proofs.YtcdlimgkliklhaaGreatDoor
