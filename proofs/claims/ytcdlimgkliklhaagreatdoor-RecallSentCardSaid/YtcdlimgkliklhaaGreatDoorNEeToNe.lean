/-
  Books: whether there is a drawing; issues; the last letter; an issue, by the abstract machine.
-/
import Derived.Test.YtcdlimgkliklhaaGreatDoorNRcjToEd
set_option linter.all false
set_option maxHeartbeats 8000000
namespace Go.Proofs.YtcdlimgkliklhaaGreatDoor
open Tryz (prog)
open IntKind (i64)
open Go.RowKit
variable {G:Jg}
def bkA (r:Jr) (ds:List Int):AV:=.vptr [.vsl (r.map isa),.vsl (ds.map ia)] 0
def Z9J (r:Jr) (ds:List Int):(bkA r ds).pure=true:=by simp[bkA,AV.pure]
attribute [simp] Z9J
def Z9K (r:Jr) (ds:List Int) (n:Int) (hs:ds.Pairwise (· <= ·)) (hl:Sml ds):PC prog G 197 [bkA r ds,.int .i64 n] (.bool (decide (n∈ds))):=by
 (refine Z6L rfl λR hG hrd=>Qga ?_;subst hG)
 simp -implicitDefEqProofs[Z6J,Z6K,bkA];refine Qco (Z9q ds n hs hl) ?_;simp -implicitDefEqProofs
def Z9L (r:Jr) (ds:List Int) (y:Int×Int) (hs:ds.Pairwise (· <= ·)) (hl:Sml ds):PC prog G 196 [.agg [.int .i64 y.1,.int .i64 y.2],.vptr [bkA r ds] 0] (.bool (!decide (y.1∈ds))):=by
 (refine Z6I rfl λR hG hrd=>Qga ?_;subst hG)
 simp -implicitDefEqProofs[Z6G,Z6H];refine Qco (Z9K r ds y.1 hs hl) ?_;simp -implicitDefEqProofs
def Z9M (r:Jr) (ds:List Int) (n:Int):PC prog G 211 [bkA r ds,.int .i64 n] (.func (.func 215) [] [.vptr [bkA r ds] 0,.vptr [.int .i64 n] 0]):=by
 (refine Z76 rfl λR hG hrd=>Qga ?_;subst hG)
 simp -implicitDefEqProofs[Z74,Z75,bkA]
def cntV (r:Jr) (n:Int):Int:=((r.filter (λx=>decide (x.d=n))).length:Nat)
def Z9N (r:Jr) (ds:List Int) (d l:Int) (hs:(r.map (·.d)).Pairwise (· <= ·)) (hl:Sml r) (hu:∀ y∈r,findN y.d y.l r=some y):PC prog G 249 [bkA r ds,.agg [.int .i64 d,.int .i64 l]] (fndA (findN d l r)):=by
 (refine Z7c rfl λR hG hrd=>Qga ?_;subst hG)
 simp -implicitDefEqProofs[Z7a,Z7b];refine Qco (Z9M r ds d) ?_;simp -implicitDefEqProofs
 refine Z59 hrd (Z9I r d (.vsl (ds.map ia)) hs hl) (by simp[evA,St.tmp,lk,bkA]) (by simp[AV.pure]) (λk=>k-1000) [(3,.ptr 1003 0),(4,.ptr 1004 0),(5,.ptr 1005 0)] (λ_=>[(1003,.box [.int .i64 d,.int .i64 l]),(1004,.box [.int .i64 0,.int .i64 0,.int .u8 0,.nils,.nils]),(1005,.box [.bool false])])
  [1003,1004,1005] (λk=>∀ j,j<k->∀ y,(r.filter (λx=>decide (x.d=d)))[j]? = some y->y.l≠l) (by simp) (λ_=>rfl) (by simp) (by simp) (by simp[Yl,St.set,putO,AObj.ren,AV.ren]) (by simp[Yc,Ya,AV.keys]) (by simp[lk,AV.ren,AV.keys]) ?_ ?_
 . intro k x hx hI R' hG hN
   obtain ⟨y,hy,rfl⟩ : ∃ y,(r.filter (λx=>decide (x.d=d)))[k]? = some y/\x = .agg (isa y):=by
    simp only[elsOf,W09,W04]at hx;obtain ⟨y,h1,h2⟩:=hx;exact ⟨y,h1,h2.symm⟩
   have hym:=W0G.1 (W0d hy);have hyd:y.d=d:=W0X hym.2;refine Qga ?_;simp -implicitDefEqProofs[isa];intro R'' hG'' hN'';refine Qga ?_;simp -implicitDefEqProofs;refine Qco (Z9b y) ?_;simp -implicitDefEqProofs;refine ⟨rfl,?_⟩;by_cases e:y.l=l
   . simp -implicitDefEqProofs[hyd,e,RndB,Yi,newK,frzO,frzA,frz,AV.keys,Yl,AObj.ren,AV.ren];refine Qgr ?_
     have hf:findN d l r=some y:=by
      have:=hu y hym.1;rw[hyd,e]at this;exact this
     simp -implicitDefEqProofs[hf,fndA,isa,hyd,e]
   . simp -implicitDefEqProofs[hyd,e,RndB,Yi,newK,frzO,frzA,frz,AV.keys];intro j hj z hz;by_cases e2:j=k
     . subst e2;rw[hy]at hz;cases hz;exact e
     . exact hI j (by omega) z hz
 . intro hI
   have hn:findN d l r=none:=by
    cases hf:findN d l r with
    |none=>rfl
    | some y =>
      obtain ⟨h1,h2,h3⟩:=Z8U hf;obtain ⟨j,hj,he⟩:=W0k (show y∈r.filter (λx=>decide (x.d=d)) from W0G.2 ⟨h1,W0M h2⟩);exact absurd h3 (hI j (by simp[elsOf];exact hj) y (by rw[W07 hj,he]))
   simp -implicitDefEqProofs[Yl,AObj.ren,AV.ren];refine Qgr ?_;simp -implicitDefEqProofs[hn,fndA,noIs]
def dpA (dp:List (Int×Int)):List (AV×AV):=dp.map λp=>(.int .i64 p.1,.int .i64 p.2)
def lfA (lf:List Int):List (AV×AV):=lf.map λn=>(.int .i64 n,.bool true)
def dpLk (n:Int):List (Int×Int)->Option Int
 |[]=>none
 |p::r=>if n=p.1 then some p.2 else dpLk n r
def dpG (dp:List (Int×Int)) (n:Int):Int:=(dpLk n dp).getD 0
def Z9O (n:Int):∀ dp:List (Int×Int),∃ o:Option Nat,(KK.i .i64).find (.int .i64 n) (dpA dp)=some o/\match o with
  |some j=>∃ v,dp[j]? = some (n,v)/\dpLk n dp=some v
  |none=>dpLk n dp=none/\∀ p∈dp,p.1≠n
 |[]=>⟨none,rfl,rfl,by simp⟩
 | p :: r=>by
   obtain ⟨o,h1,h2⟩:=Z9O n r;by_cases e:n=p.1
   . refine ⟨some 0,by simp[dpA,KK.find,KK.eq,e],p.2,by simp[e],by simp[dpLk,e]⟩
   . refine ⟨o.map (· + 1),?_,?_⟩
     . simp only[dpA,W0F,KK.find,KK.eq,and_self,if_true,e,W1x];rw[show r.map (λp=>(AV.int .i64 p.1,AV.int .i64 p.2))=dpA r from rfl,h1];rfl
     . cases o with
       |none=>exact ⟨by simp only[dpLk,e,if_false];exact h2.1,λq hq=>by
        rcases W0g.1 hq with rfl|hq
        . exact λh=>e h.symm
        . exact h2.2 q hq⟩
       | some j =>
         obtain ⟨v,h3,h4⟩:=h2;exact ⟨v,by simpa using h3,by simp only[dpLk,e,if_false];exact h4⟩
def Z9P (n:Int) (dp:List (Int×Int)):(KK.i .i64).get (.int .i64 n) (dpA dp)=some ((dpLk n dp).map λv=>.int .i64 v):=by
 obtain ⟨o,h1,h2⟩:=Z9O n dp;have hi:(KK.i .i64).is (.int .i64 n)=true:=(by simp[KK.is]);unfold KK.get;rw[if_pos hi,h1]
 cases o with
 |none=>simp[h2.1]
 |some j=>obtain ⟨v,h3,h4⟩:=h2;simp[dpA,h3,h4]
def Z9Q {n:Int} (v:Int) {dp:List (Int×Int)} (h:n ∉ dp.map (·.1)):(KK.i .i64).put (.int .i64 n) (.int .i64 v) (dpA dp)=some (dpA (dp++[(n,v)])):=by
 obtain ⟨o,h1,h2⟩:=Z9O n dp;have hi:(KK.i .i64).is (.int .i64 n)=true:=(by simp[KK.is]);unfold KK.put;rw[if_pos hi,h1]
 cases o with
 |none=>simp[dpA]
 | some j =>
   obtain ⟨w,h3,h4⟩:=h2;exact absurd (W0i.2 ⟨_,W0d h3,rfl⟩) h
def Z9R (n:Int):∀ lf:List Int,∃ o:Option Nat,(KK.i .i64).find (.int .i64 n) (lfA lf)=some o/\match o with
  |some j=>lf[j]? = some n/\n∈lf/\lf.eraseIdx j=lf.erase n
  |none=>n ∉ lf
 |[]=>⟨none,rfl,by simp⟩
 | x :: r=>by
   obtain ⟨o,h1,h2⟩:=Z9R n r;by_cases e:n=x
   . subst e;exact ⟨some 0,by simp[lfA,KK.find,KK.eq],by simp⟩
   . refine ⟨o.map (· + 1),?_,?_⟩
     . simp only[lfA,W0F,KK.find,KK.eq,and_self,if_true,e,W1x];rw[show r.map (λn=>(AV.int .i64 n,AV.bool true))=lfA r from rfl,h1];rfl
     . cases o with
       |none=>simp only[Option.map_none,W0g,not_or];exact ⟨e,h2⟩
       | some j =>
         obtain ⟨h3,h4,h5⟩:=h2;refine ⟨by simpa using h3,W0z _ h4,?_⟩;simp only[List.eraseIdx_cons_succ,h5];rw[List.erase_cons_tail];simpa using λq=>e q.symm
def Z9S (n:Int) (lf:List Int):(KK.i .i64).get (.int .i64 n) (lfA lf)=some (if n∈lf then some (.bool true) else none):=by
 obtain ⟨o,h1,h2⟩:=Z9R n lf;have hi:(KK.i .i64).is (.int .i64 n)=true:=(by simp[KK.is]);unfold KK.get;rw[if_pos hi,h1]
 cases o with
 | none => have h2:n ∉ lf:=h2
           simp[h2]
 |some j=>obtain ⟨h3,h4,h5⟩:=h2;simp[lfA,h3,h4]
def Z9T {n:Int} {lf:List Int} (h:n ∉ lf):(KK.i .i64).put (.int .i64 n) (.bool true) (lfA lf)=some (lfA (lf++[n])):=by
 obtain ⟨o,h1,h2⟩:=Z9R n lf;have hi:(KK.i .i64).is (.int .i64 n)=true:=(by simp[KK.is]);unfold KK.put;rw[if_pos hi,h1]
 cases o with
 |none=>simp[lfA]
 |some j=>exact absurd h2.2.1 h
def Z9U {α β:Type} (f:α->β):∀ (l:List α) (j:Nat),(l.map f).eraseIdx j=(l.eraseIdx j).map f
 |[],_=>by simp
 |x::l,0=>by simp
 |x::l,j+1=>by simp[Z9U f l j]
def Z9V {n:Int} {lf:List Int} (h:n∈lf):(KK.i .i64).del (.int .i64 n) (lfA lf)=some (lfA (lf.erase n)):=by
 obtain ⟨o,h1,h2⟩:=Z9R n lf;have hi:(KK.i .i64).is (.int .i64 n)=true:=(by simp[KK.is]);unfold KK.del;rw[if_pos hi,h1]
 cases o with
 |none=>exact absurd h h2
 | some j =>
   obtain ⟨h3,h4,h5⟩:=h2;simp only[lfA,<- h5];rw[Z9U]
def rdIt (lf:List Int) (b:Bool) (its:List (Int×Int)):Bool:=its.foldl (λb y=>b && !decide (y.1∈lf)) b
def msIt (dp:List (Int×Int)) (m:Int) (its:List (Int×Int)):Int:=its.foldl (λm y=>max m (dpG dp y.1)) m
def rdN (lf:List Int) (b:Bool) (l:Jr):Bool:=l.foldl (λb x=>rdIt lf b x.its) b
def msN (dp:List (Int×Int)) (m:Int) (l:Jr):Int:=l.foldl (λm x=>msIt dp m x.its) m
def issOf (r:Jr) (n:Int):List Iss:=r.filter (λx=>decide (x.d=n))
def dStep (r:Jr) (s:List (Int×Int)×List Int) (n:Int):List (Int×Int)×List Int :=
 if rdN s.2 (decide (n∈s.2)) (issOf r n)=true then (s.1++[(n,msN s.1 0 (issOf r n)+1)],s.2.erase n) else s
def dPass (r:Jr) (s:List (Int×Int)×List Int):List (Int×Int)×List Int:=(nums r).foldl (dStep r) s
def dRun (r:Jr):Nat->List (Int×Int)×List Int
 |0=>([],nums r)
 |k+1=>dPass r (dRun r k)
def Z9W (lf:List Int) (b:Bool) (its:List (Int×Int)) (k:Nat) (h:k<its.length):rdIt lf b (its.take (k+1))=(rdIt lf b (its.take k) && !decide (its[k].1∈lf)):=by
 rw[W08 h,rdIt,W1q];rfl
def Z9X (dp:List (Int×Int)) (m:Int) (its:List (Int×Int)) (k:Nat) (h:k<its.length):msIt dp m (its.take (k+1))=max (msIt dp m (its.take k)) (dpG dp its[k].1):=by
 rw[W08 h,msIt,W1q];rfl
def Z9Y (lf:List Int) (b:Bool) (l:Jr) (k:Nat) (h:k<l.length):rdN lf b (l.take (k+1))=rdIt lf (rdN lf b (l.take k)) l[k].its:=by
 rw[W08 h,rdN,W1q];rfl
def Z9Z (dp:List (Int×Int)) (m:Int) (l:Jr) (k:Nat) (h:k<l.length):msN dp m (l.take (k+1))=msIt dp (msN dp m (l.take k)) l[k].its:=by
 rw[W08 h,msN,W1q];rfl
def Za0 (lf:List Int):∀ its:List (Int×Int),rdIt lf false its=false
 |[]=>rfl
 |y::its=>by simp only[rdIt,W2e,W1K];exact Za0 lf its
def Za1 (lf:List Int):∀ l:List Iss,rdN lf false l=false
 |[]=>rfl
 |x::l=>by simp only[rdN,W2e,Za0];exact Za1 lf l
def Za2 {lf:List Int} {n:Int} {l:Jr} (h:rdN lf (decide (n∈lf)) l=true):n∈lf:=by
 by_cases e:n∈lf
 . exact e
 . rw[W0S e,Za1]at h;cases h
structure DInv (r:Jr) (s:List (Int×Int)×List Int):Prop where
 perm:(s.1.map (·.1)++s.2).Perm (nums r)
 bd:∀ p∈s.1,1<=p.2/\p.2<=(s.1.length:Nat)
def Za3 {n v:Int}:∀ {dp:List (Int×Int)},dpLk n dp=some v->(n,v)∈dp
 | p::r,h=>by
   simp only[dpLk]at h
   split at h
   . rename_i e;cases h;rw[e];exact W0H ..
   . exact W0z _ (Za3 h)
def Za4 {r:Jr} {s:List (Int×Int)×List Int} (h:DInv r s) (n:Int):0<=dpG s.1 n/\dpG s.1 n<=(s.1.length:Nat):=by
 unfold dpG
 cases e:dpLk n s.1 with
 |none=>simp
 |some v=>have:=h.bd _ (Za3 e);simp only[W0P];omega
def Za5 {r:Jr} {s:List (Int×Int)×List Int} (h:DInv r s):∀ (its:List (Int×Int)) (m:Int),0<=m->m<=(s.1.length:Nat)->0<=msIt s.1 m its/\msIt s.1 m its<=(s.1.length:Nat)
 |[],m,h1,h2=>⟨h1,h2⟩
 | y::its,m,h1,h2=>by
   have:=Za4 h y.1;exact Za5 h its (max m (dpG s.1 y.1)) (by omega) (by omega)
def Za6 {r:Jr} {s:List (Int×Int)×List Int} (h:DInv r s):∀ (l:Jr) (m:Int),0<=m->m<=(s.1.length:Nat)->0<=msN s.1 m l/\msN s.1 m l<=(s.1.length:Nat)
 |[],m,h1,h2=>⟨h1,h2⟩
 | x::l,m,h1,h2=>by
   have:=Za5 h x.its m h1 h2;exact Za6 h l (msIt s.1 m x.its) this.1 this.2
def DInv.len {r:Jr} {s:List (Int×Int)×List Int} (h:DInv r s):s.1.length+s.2.length=(nums r).length:=by
 have:=h.perm.length_eq;simpa using this
def DInv.step {r:Jr} {s:List (Int×Int)×List Int} (h:DInv r s) (n:Int):DInv r (dStep r s n):=by
 unfold dStep
 split
 . rename_i hb;have hm:=Za2 hb;have hbd:=Za6 h (issOf r n) 0 (W1Y _) (by omega);refine ⟨?_,λp hp=>?_⟩
   . refine List.Perm.trans ?_ h.perm;simp only[W0r,W0F,W1d,W0U,W1e,W18];exact (List.perm_cons_erase hm).symm.append_left _
   . simp only[W0s,W1p,W1U];rcases W0h.1 hp with hp|hp
     . have:=h.bd p hp;omega
     . simp only[W0B]at hp;subst hp;simp only;omega
 . exact h
def DInv.fold {r:Jr}:∀ (l:List Int) {s:List (Int×Int)×List Int},DInv r s->DInv r (l.foldl (dStep r) s)
 |[],s,h=>h
 |n::l,s,h=>DInv.fold l (h.step n)
def DInv.run (r:Jr):∀ k,DInv r (dRun r k)
 |0=>⟨by simp[dRun],by simp[dRun]⟩
 |k+1=>(DInv.run r k).fold (nums r)
def Za7 {α β:Type} (f:β->α->β) (s:β) (l:List α) (k:Nat) (h:k<l.length):(l.take (k+1)).foldl f s=f ((l.take k).foldl f s) l[k]:=by
 rw[W08 h,W1q];rfl
set_option maxRecDepth 8000 in
def Za8 (r:Jr) (hw:Wf r) (hO:Ord r) (hn:(nums r).length<=20):PC prog G 198 [bkA r (nums r)] (.tup [.vmap (dpA (dRun r (nums r).length).1),.bool (decide (0<(dRun r (nums r).length).2.length))]):=by
 (refine Z7f rfl λR hG hrd=>Qga ?_;subst hG)
 have hs:(r.map (·.d)).Pairwise (· <= ·):=by
  rw[W2o,W0Y];intro i j hi hj hij;have:=hO.mono (Nat.le_of_lt hij) hj
  rwa [at_eq hi,at_eq hj]at this
 have hl:=hw.1.1;have hnd:=Z8F hO;simp -implicitDefEqProofs[Z7d,Z7e,bkA];refine Z8a (λi=>⟨[(22,.int .i64 i),(21,.int .i64 (nums r).length),(20,.vsl ((nums r).map ia)),(5,.ptr 5 0),(4,.ptr 4 0),(0,bkA r (nums r))],[(15,.mp []),(4,.box [.mp 15]),(16,.mp (lfA ((nums r).take i))),(5,.box [.mp 16])]⟩) (λ_=>True) (nums r).length (by (first|exact Ym.tm (by simp[lk,lfA,bkA])|exact Ym.sub (by simp[lk,Ya,AV.keys,lfA,bkA]) (by simp[lk,Yc,Ya,AV.keys,lfA,bkA]))) trivial ?_ ?_
 . intro i hi _;refine Qga ?_;have w1:i64.wrap ((i:Int)+1)=((i+1:Nat):Int):=Yf
   have hni:(nums r)[i] ∉ (nums r).take i:=by
    intro hm;obtain ⟨j,hj,e⟩:=W0k hm;simp only[W15]at hj;simp only[W1V]at e;have:=(List.getElem_inj hnd).1 e;omega
   have hp:=Z9T hni;rw[<- W08 hi]at hp;simp -implicitDefEqProofs[hi,w1,ia,hp];exact (by (first|exact Ym.tm (by simp[lk,bkA])|exact Ym.sub (by simp[lk,Ya,AV.keys,bkA]) (by simp[lk,Yc,Ya,AV.keys,bkA])))
 . intro _;refine Qga ?_;simp -implicitDefEqProofs;refine Qgr ?_;simp -implicitDefEqProofs[bkA];refine Z8a (λk=>⟨[(34,.int .i64 k),(33,.int .i64 (nums r).length),(5,.ptr 5 0),(4,.ptr 4 0),(0,bkA r (nums r))],[(15,.mp (dpA (dRun r k).1)),(4,.box [.mp 15]),(16,.mp (lfA (dRun r k).2)),(5,.box [.mp 16])]⟩) (λ_=>True) (nums r).length (by (first|exact Ym.tm (by simp[lk,dRun,dpA,bkA])|exact Ym.sub (by simp[lk,Ya,AV.keys,dRun,dpA,bkA]) (by simp[lk,Yc,Ya,AV.keys,dRun,dpA,bkA]))) trivial ?_ ?_
   . intro k hk _;refine Qga ?_;have w1:i64.wrap ((k:Int)+1)=((k+1:Nat):Int):=Yf;simp -implicitDefEqProofs[hk,bkA]
     refine Z8a (λi=>⟨[(41,.int .i64 i),(40,.int .i64 (nums r).length),(39,.vsl ((nums r).map ia)),(34,.int .i64 k),(33,.int .i64 (nums r).length),(5,.ptr 5 0),(4,.ptr 4 0),(0,bkA r (nums r))],
      [(15,.mp (dpA (((nums r).take i).foldl (dStep r) (dRun r k)).1)),(4,.box [.mp 15]),(16,.mp (lfA (((nums r).take i).foldl (dStep r) (dRun r k)).2)),(5,.box [.mp 16])]⟩) (λ_=>True) (nums r).length (by (first|exact Ym.tm (by simp[lk,bkA])|exact Ym.sub (by simp[lk,Ya,AV.keys,bkA]) (by simp[lk,Yc,Ya,AV.keys,bkA]))) trivial ?_ ?_
     . intro i hi _;refine Qga ?_;have w2:i64.wrap ((i:Int)+1)=((i+1:Nat):Int):=Yf;obtain ⟨s,hsd⟩:=Qex (((nums r).take i).foldl (dStep r) (dRun r k));have hI:DInv r s:=(by rw[hsd];exact (DInv.run r k).fold _);have hst:=Za7 (dStep r) (dRun r k) (nums r) i hi;rw[<- hsd]at hst ⊢;obtain ⟨n,hne⟩:=Qex ((nums r)[i]);rw[<- hne]at hst;have hgl:=Z9S n s.2
       cases hm:decide (n∈s.2)
       . have hm':¬n∈s.2:=of_decide_eq_false hm;rw[if_neg hm']at hgl;simp -implicitDefEqProofs[hi,ia,<- hne,hgl];refine ⟨rfl,?_⟩;refine Qco (Z9M r (nums r) n) ?_;simp -implicitDefEqProofs
         refine Z59 hrd (Z9I r n (.vsl ((nums r).map ia)) hs hl) (by simp[evA,St.tmp,lk,bkA]) (by simp[AV.pure]) (λk=>k-1000) [(4,.ptr 1004 0),(5,.ptr 1005 0),(10,.ptr 1010 0),(11,.ptr 1011 0)]
          (λq=>[(1015,.mp (dpA s.1)),(1004,.box [.mp 1015]),(1016,.mp (lfA s.2)),(1005,.box [.mp 1016]),(1010,.box [.int .i64 (msN s.1 0 ((issOf r n).take q))]),(1011,.box [.bool (rdN s.2 false ((issOf r n).take q))])])
          [1015,1004,1016,1005,1010,1011] (λ_=>True) trivial (λ_=>rfl) (by simp) (by simp) (by simp[Yl,St.set,putO,AObj.ren,AV.ren,dpA,lfA,msN,rdN,W0y]) (by simp[Yc,Ya,AV.keys,dpA,lfA,lk]) (by simp[lk,AV.ren,AV.keys]) ?_ ?_
         . intro q x hx _ R' hG hN
           obtain ⟨y,hq,hy,rfl⟩ : ∃ y,∃ hq:q<(issOf r n).length,(issOf r n)[q]=y/\x = .agg (isa y):=by
            simp only[elsOf,W09,W04]at hx;obtain ⟨y,h1,h2⟩:=hx;obtain ⟨h3,h4⟩:=W02.1 h1;exact ⟨y,h3,h4,h2.symm⟩
           have hyr:y∈r:=(by rw[<- hy];exact (W0G.1 (W0e hq)).1);have hyl:=(hw.1.2 y hyr).1;unfold Sml at hyl;have tm:=Z9Z s.1 0 (issOf r n) q hq;have tr:=Z9Y s.2 false (issOf r n) q hq;rw[hy]at tm tr;generalize msN s.1 0 ((issOf r n).take q)=m0 at tm ⊢;generalize rdN s.2 false ((issOf r n).take q)=b0 at tr ⊢;refine Qga ?_;simp -implicitDefEqProofs[isa];intro R'' hG'' hN'';refine Qga ?_;simp -implicitDefEqProofs
           refine Z8a (λm=>⟨[(55,.int .i64 m),(54,.int .i64 y.its.length),(53,.vsl (y.its.map ita)),(12,.ptr 12 0),(4,.ptr 1004 0),(5,.ptr 1005 0),(10,.ptr 1010 0),(11,.ptr 1011 0)],
            [(1015,.mp (dpA s.1)),(1004,.box [.mp 1015]),(1016,.mp (lfA s.2)),(1005,.box [.mp 1016]),(1010,.box [.int .i64 (msIt s.1 m0 (y.its.take m))]),(1011,.box [.bool (rdIt s.2 b0 (y.its.take m))]),(12,.box (isa y))]⟩) (λ_=>True) y.its.length (by (first|exact Ym.tm (by simp[lk,isa,dpA,lfA,msIt,rdIt])|exact Ym.sub (by simp[lk,Ya,AV.keys,isa,dpA,lfA,msIt,rdIt]) (by simp[lk,Yc,Ya,AV.keys,isa,dpA,lfA,msIt,rdIt]))) trivial ?_ ?_
           . intro m hm _;refine Qga ?_;have w3:i64.wrap ((m:Int)+1)=((m+1:Nat):Int):=Yf;have um:=Z9X s.1 m0 y.its m hm;have ur:=Z9W s.2 b0 y.its m hm;generalize msIt s.1 m0 (y.its.take m)=m1 at um ⊢;generalize rdIt s.2 b0 (y.its.take m)=b1 at ur ⊢;have gd:=Z9P y.its[m].1 s.1;have gl:=Z9S y.its[m].1 s.2;have wkE:∀ c1 c2:Prop,c1->c2->c1/\c2:=λ_ _ a b=>⟨a,b⟩
             cases b1
             . simp only[W1K]at ur
               cases hk1:dpLk y.its[m].1 s.1 with
               | none =>
                 rw[hk1]at gd;simp only[dpG,hk1,W21]at um;simp -implicitDefEqProofs[hm,ita,w3,gd];exact Ym.sub (by simp[lk,Ya,AV.keys]) (by simp[lk,Yc,Ya,AV.keys,dpA,lfA,um,ur,isa])
               | some v =>
                 rw[hk1]at gd;simp only[dpG,hk1,W0P]at um;simp -implicitDefEqProofs[hm,ita,w3,gd];exact Ym.sub (by simp[lk,Ya,AV.keys]) (by simp[lk,Yc,Ya,AV.keys,dpA,lfA,um,ur,isa])
             . by_cases hin:y.its[m].1∈s.2
               . rw[if_pos hin]at gl;simp only[hin,W1i,W17,W2a]at ur
                 cases hk1:dpLk y.its[m].1 s.1 with
                 | none =>
                   rw[hk1]at gd;simp only[dpG,hk1,W21]at um;simp -implicitDefEqProofs[hm,ita,w3,gd,gl];exact Ym.sub (by simp[lk,Ya,AV.keys]) (by simp[lk,Yc,Ya,AV.keys,dpA,lfA,um,ur,isa])
                 | some v =>
                   rw[hk1]at gd;simp only[dpG,hk1,W0P]at um;simp -implicitDefEqProofs[hm,ita,w3,gd,gl];exact Ym.sub (by simp[lk,Ya,AV.keys]) (by simp[lk,Yc,Ya,AV.keys,dpA,lfA,um,ur,isa])
               . rw[if_neg hin]at gl;simp only[hin,W1x,W1E,W2c]at ur
                 cases hk1:dpLk y.its[m].1 s.1 with
                 | none =>
                   rw[hk1]at gd;simp only[dpG,hk1,W21]at um;simp -implicitDefEqProofs[hm,ita,w3,gd,gl];exact Ym.sub (by simp[lk,Ya,AV.keys]) (by simp[lk,Yc,Ya,AV.keys,dpA,lfA,um,ur,isa])
                 | some v =>
                   rw[hk1]at gd;simp only[dpG,hk1,W0P]at um;simp -implicitDefEqProofs[hm,ita,w3,gd,gl];exact Ym.sub (by simp[lk,Ya,AV.keys]) (by simp[lk,Yc,Ya,AV.keys,dpA,lfA,um,ur,isa])
           . intro _;refine Qga ?_;simp -implicitDefEqProofs;refine Qgr ?_;simp -implicitDefEqProofs[RndB,Yi,newK,frzO,frzA,frz,AV.keys,tm,tr,dpA,lfA,W0y]
             try trivial
         . intro _;have hel:(elsOf r n).length=(issOf r n).length:=(by simp[elsOf,issOf]);have etk:(issOf r n).take (issOf r n).length=issOf r n:=W0J (W0f _);have hbd:=Za6 hI (issOf r n) 0 (W1Y _) (by omega);have hlen:=hI.len;have w4:i64.wrap (msN s.1 0 (issOf r n)+1)=msN s.1 0 (issOf r n)+1:=Yf;have rdpA:∀ dp,AObj.ren (λk=>k-1000) (.mp (dpA dp)) = .mp (dpA dp):=λdp=>by simp[AObj.ren,dpA,AV.ren,W0y]
           have rlfA:∀ lf,AObj.ren (λk=>k-1000) (.mp (lfA lf)) = .mp (lfA lf):=λlf=>by simp[AObj.ren,lfA,AV.ren,W0y]
           have rbx:∀ cs,AObj.ren (λk=>k-1000) (.box cs) = .box (cs.map (AV.ren λk=>k-1000)):=λ_=>rfl
           cases hrd2:rdN s.2 false (issOf r n)
           . have hst2:dStep r s n=s:=(by simp[dStep,hm,hrd2]);rw[hst2]at hst;simp -implicitDefEqProofs[Yl,rdpA,rlfA,rbx,AV.ren,hel,etk,hrd2];refine Qgr ?_;simp -implicitDefEqProofs[w2];rw[hst];exact Ym.sub (by simp[lk,Ya,AV.keys,bkA]) (by simp[lk,Yc,Ya,AV.keys,dpA,lfA])
           . have hmem:n∈s.2:=Za2 (by rw[hm];exact hrd2);have hst2:dStep r s n=(s.1++[(n,msN s.1 0 (issOf r n)+1)],s.2.erase n):=(by simp[dStep,hm,hrd2]);rw[hst2]at hst
             have hnk:n ∉ s.1.map (·.1):=λhin=>by
              have:=(List.nodup_append.1 (hI.perm.nodup_iff.2 hnd)).2.2 n hin n hmem;exact this rfl
             have pd:=Z9Q (msN s.1 0 (issOf r n)+1) hnk;have dl:=Z9V hmem;simp -implicitDefEqProofs[Yl,rdpA,rlfA,rbx,AV.ren,hel,etk,hrd2];refine Qgr ?_;simp -implicitDefEqProofs[w2,w4,pd,dl];rw[hst];exact Ym.sub (by simp[lk,Ya,AV.keys,bkA]) (by simp[lk,Yc,Ya,AV.keys,dpA,lfA])
       . have hm':n∈s.2:=W0X hm;rw[if_pos hm']at hgl;simp -implicitDefEqProofs[hi,ia,<- hne,hgl];refine ⟨rfl,?_⟩;refine Qco (Z9M r (nums r) n) ?_;simp -implicitDefEqProofs
         refine Z59 hrd (Z9I r n (.vsl ((nums r).map ia)) hs hl) (by simp[evA,St.tmp,lk,bkA]) (by simp[AV.pure]) (λk=>k-1000) [(4,.ptr 1004 0),(5,.ptr 1005 0),(10,.ptr 1010 0),(11,.ptr 1011 0)]
          (λq=>[(1015,.mp (dpA s.1)),(1004,.box [.mp 1015]),(1016,.mp (lfA s.2)),(1005,.box [.mp 1016]),(1010,.box [.int .i64 (msN s.1 0 ((issOf r n).take q))]),(1011,.box [.bool (rdN s.2 true ((issOf r n).take q))])])
          [1015,1004,1016,1005,1010,1011] (λ_=>True) trivial (λ_=>rfl) (by simp) (by simp) (by simp[Yl,St.set,putO,AObj.ren,AV.ren,dpA,lfA,msN,rdN,W0y]) (by simp[Yc,Ya,AV.keys,dpA,lfA,lk]) (by simp[lk,AV.ren,AV.keys]) ?_ ?_
         . intro q x hx _ R' hG hN
           obtain ⟨y,hq,hy,rfl⟩ : ∃ y,∃ hq:q<(issOf r n).length,(issOf r n)[q]=y/\x = .agg (isa y):=by
            simp only[elsOf,W09,W04]at hx;obtain ⟨y,h1,h2⟩:=hx;obtain ⟨h3,h4⟩:=W02.1 h1;exact ⟨y,h3,h4,h2.symm⟩
           have hyr:y∈r:=(by rw[<- hy];exact (W0G.1 (W0e hq)).1);have hyl:=(hw.1.2 y hyr).1;unfold Sml at hyl;have tm:=Z9Z s.1 0 (issOf r n) q hq;have tr:=Z9Y s.2 true (issOf r n) q hq;rw[hy]at tm tr;generalize msN s.1 0 ((issOf r n).take q)=m0 at tm ⊢;generalize rdN s.2 true ((issOf r n).take q)=b0 at tr ⊢;refine Qga ?_;simp -implicitDefEqProofs[isa];intro R'' hG'' hN'';refine Qga ?_;simp -implicitDefEqProofs
           refine Z8a (λm=>⟨[(55,.int .i64 m),(54,.int .i64 y.its.length),(53,.vsl (y.its.map ita)),(12,.ptr 12 0),(4,.ptr 1004 0),(5,.ptr 1005 0),(10,.ptr 1010 0),(11,.ptr 1011 0)],
            [(1015,.mp (dpA s.1)),(1004,.box [.mp 1015]),(1016,.mp (lfA s.2)),(1005,.box [.mp 1016]),(1010,.box [.int .i64 (msIt s.1 m0 (y.its.take m))]),(1011,.box [.bool (rdIt s.2 b0 (y.its.take m))]),(12,.box (isa y))]⟩) (λ_=>True) y.its.length (by (first|exact Ym.tm (by simp[lk,isa,dpA,lfA,msIt,rdIt])|exact Ym.sub (by simp[lk,Ya,AV.keys,isa,dpA,lfA,msIt,rdIt]) (by simp[lk,Yc,Ya,AV.keys,isa,dpA,lfA,msIt,rdIt]))) trivial ?_ ?_
           . intro m hm _;refine Qga ?_;have w3:i64.wrap ((m:Int)+1)=((m+1:Nat):Int):=Yf;have um:=Z9X s.1 m0 y.its m hm;have ur:=Z9W s.2 b0 y.its m hm;generalize msIt s.1 m0 (y.its.take m)=m1 at um ⊢;generalize rdIt s.2 b0 (y.its.take m)=b1 at ur ⊢;have gd:=Z9P y.its[m].1 s.1;have gl:=Z9S y.its[m].1 s.2;have wkE:∀ c1 c2:Prop,c1->c2->c1/\c2:=λ_ _ a b=>⟨a,b⟩
             cases b1
             . simp only[W1K]at ur
               cases hk1:dpLk y.its[m].1 s.1 with
               | none =>
                 rw[hk1]at gd;simp only[dpG,hk1,W21]at um;simp -implicitDefEqProofs[hm,ita,w3,gd];exact Ym.sub (by simp[lk,Ya,AV.keys]) (by simp[lk,Yc,Ya,AV.keys,dpA,lfA,um,ur,isa])
               | some v =>
                 rw[hk1]at gd;simp only[dpG,hk1,W0P]at um;simp -implicitDefEqProofs[hm,ita,w3,gd];exact Ym.sub (by simp[lk,Ya,AV.keys]) (by simp[lk,Yc,Ya,AV.keys,dpA,lfA,um,ur,isa])
             . by_cases hin:y.its[m].1∈s.2
               . rw[if_pos hin]at gl;simp only[hin,W1i,W17,W2a]at ur
                 cases hk1:dpLk y.its[m].1 s.1 with
                 | none =>
                   rw[hk1]at gd;simp only[dpG,hk1,W21]at um;simp -implicitDefEqProofs[hm,ita,w3,gd,gl];exact Ym.sub (by simp[lk,Ya,AV.keys]) (by simp[lk,Yc,Ya,AV.keys,dpA,lfA,um,ur,isa])
                 | some v =>
                   rw[hk1]at gd;simp only[dpG,hk1,W0P]at um;simp -implicitDefEqProofs[hm,ita,w3,gd,gl];exact Ym.sub (by simp[lk,Ya,AV.keys]) (by simp[lk,Yc,Ya,AV.keys,dpA,lfA,um,ur,isa])
               . rw[if_neg hin]at gl;simp only[hin,W1x,W1E,W2c]at ur
                 cases hk1:dpLk y.its[m].1 s.1 with
                 | none =>
                   rw[hk1]at gd;simp only[dpG,hk1,W21]at um;simp -implicitDefEqProofs[hm,ita,w3,gd,gl];exact Ym.sub (by simp[lk,Ya,AV.keys]) (by simp[lk,Yc,Ya,AV.keys,dpA,lfA,um,ur,isa])
                 | some v =>
                   rw[hk1]at gd;simp only[dpG,hk1,W0P]at um;simp -implicitDefEqProofs[hm,ita,w3,gd,gl];exact Ym.sub (by simp[lk,Ya,AV.keys]) (by simp[lk,Yc,Ya,AV.keys,dpA,lfA,um,ur,isa])
           . intro _;refine Qga ?_;simp -implicitDefEqProofs;refine Qgr ?_;simp -implicitDefEqProofs[RndB,Yi,newK,frzO,frzA,frz,AV.keys,tm,tr,dpA,lfA,W0y]
             try trivial
         . intro _;have hel:(elsOf r n).length=(issOf r n).length:=(by simp[elsOf,issOf]);have etk:(issOf r n).take (issOf r n).length=issOf r n:=W0J (W0f _);have hbd:=Za6 hI (issOf r n) 0 (W1Y _) (by omega);have hlen:=hI.len;have w4:i64.wrap (msN s.1 0 (issOf r n)+1)=msN s.1 0 (issOf r n)+1:=Yf;have rdpA:∀ dp,AObj.ren (λk=>k-1000) (.mp (dpA dp)) = .mp (dpA dp):=λdp=>by simp[AObj.ren,dpA,AV.ren,W0y]
           have rlfA:∀ lf,AObj.ren (λk=>k-1000) (.mp (lfA lf)) = .mp (lfA lf):=λlf=>by simp[AObj.ren,lfA,AV.ren,W0y]
           have rbx:∀ cs,AObj.ren (λk=>k-1000) (.box cs) = .box (cs.map (AV.ren λk=>k-1000)):=λ_=>rfl
           cases hrd2:rdN s.2 true (issOf r n)
           . have hst2:dStep r s n=s:=(by simp[dStep,hm,hrd2]);rw[hst2]at hst;simp -implicitDefEqProofs[Yl,rdpA,rlfA,rbx,AV.ren,hel,etk,hrd2];refine Qgr ?_;simp -implicitDefEqProofs[w2];rw[hst];exact Ym.sub (by simp[lk,Ya,AV.keys,bkA]) (by simp[lk,Yc,Ya,AV.keys,dpA,lfA])
           . have hmem:n∈s.2:=Za2 (by rw[hm];exact hrd2);have hst2:dStep r s n=(s.1++[(n,msN s.1 0 (issOf r n)+1)],s.2.erase n):=(by simp[dStep,hm,hrd2]);rw[hst2]at hst
             have hnk:n ∉ s.1.map (·.1):=λhin=>by
              have:=(List.nodup_append.1 (hI.perm.nodup_iff.2 hnd)).2.2 n hin n hmem;exact this rfl
             have pd:=Z9Q (msN s.1 0 (issOf r n)+1) hnk;have dl:=Z9V hmem;simp -implicitDefEqProofs[Yl,rdpA,rlfA,rbx,AV.ren,hel,etk,hrd2];refine Qgr ?_;simp -implicitDefEqProofs[w2,w4,pd,dl];rw[hst];exact Ym.sub (by simp[lk,Ya,AV.keys,bkA]) (by simp[lk,Yc,Ya,AV.keys,dpA,lfA])
     . intro _;refine Qga ?_;have etk:(nums r).take (nums r).length=nums r:=W0J (W0f _);simp -implicitDefEqProofs;refine Qgr ?_;have e:(nums r).foldl (dStep r) (dRun r k)=dRun r (k+1):=rfl;simp -implicitDefEqProofs[w1,e];exact Ym.sub (by simp[lk,Ya,AV.keys,bkA]) (by simp[lk,Yc,Ya,AV.keys,dpA,lfA])
   . intro _;refine Qga ?_;simp -implicitDefEqProofs;refine Qgr ?_;have hla:(lfA (dRun r (nums r).length).2).length=(dRun r (nums r).length).2.length:=(by simp[lfA]);have hpu:(dpA (dRun r (nums r).length).1).all (λp=>p.1.pure&&p.2.pure)=true:=(by simp[dpA,AV.pure]);simp -implicitDefEqProofs[hla,hpu]
def FinZ (rs:List RRes) (v:AV):Exit->St->Prop
 |.normal,st | .ret,st=>∃ xs ys,Z29 st rs=some xs/\Yj (snap st) xs=some ys/\v=nz (tupV ys)
 |_,_=>False
def Za9 {P:Program} {G:Jg} {f:FuncId} {fn:Func} {c:Code} {rc:RCode} {rs:List RRes} {args:List AV} {v:AV} (hf:P.funcs[f]? = some fn) (hb:fn.body=some c) (he:entB P f=true)
  (hc:Z1A P fn.ntmps c rc=true) (hrs:allB2 (okRes P) fn.results.toList rs=true) (hn:args.length<=fn.ntmps)
  (h:∀ R:Run,R.N=fn.ntmps->R.G=G->R.Top->AR P R rc (Z2a args) (FinZ rs v)):PC P G f args v:=by
 refine ⟨he,λM W vs hM hG hsz hvs=>?_⟩;refine callsIn_wide.1 (callsIn_of_wp_marks (F:=FW none) (n:=1) hf hb trivial ?_)
 let R:Run:={ G:=G,M:=M,X:=λ_=>False,W0:=W,N:=fn.ntmps,E0:={ M:=M,loc:=λ_=>none,row:=λ_=>none } }
 have h0:SK R (Z2a args) { tmps:=vs++Array.replicate (fn.ntmps-vs.size) Go.undef,defers:=[] } W (λ_=>none):=by
  have hGM:∀ b,b<W.heap.size->¬M b->¬((Z2a args).env M (λ_=>none)).M b/\W.heap[b]? = W.heap[b]?:=λb _ h1=>⟨(by rintro (h2 | ⟨k,s,h2⟩) <;> first|exact h1 h2|cases h2),rfl⟩
  refine ⟨.nil _ _ _ _,by show (vs++_).size=fn.ntmps;simp;omega,λn x hx=>?_,(λk o ho=>by simp[Z2a,St.get,lk]at ho),(λk p hk=>by cases hk),(λk k' b s s' hk=>by cases hk),hM,λ_ _ h=>h,Kp.refl _ _,hG.mono hGM (W0f _),⟨W0f _,hGM,λk p hk=>(by cases hk),λk sz m hk=>(by cases hk)⟩,λ_ _=>⟨rfl,rfl⟩⟩;simp only[Z2a,St.tmp,Z2b,W1f,if_true,W1W]at hx;show VR _ W x ((vs++Array.replicate (fn.ntmps-vs.size) Go.undef).getD n Go.undef);rw[W0a,W0W];have c1:n<args.length:=(W02.1 hx).1;rw[if_pos (by omega)];have:vs[n]? = some vs[n]:=(by simp);rw[this];exact .pv ((hvs n x _ hx this).mono hGM (W0f _))
 refine wpIn_mono (h R rfl rfl ⟨rfl,rfl⟩ c hc 1 _ W ⟨_,h0⟩) ?_
 have key:∀ (a':Act) (W':World) (st':St),(∃ xs ys,Z29 st' rs=some xs/\Yj (snap st') xs=some ys/\v=nz (tupV ys))->SR R st' a' W' ->
   ∃ u,(results fn a'.tmps).run P W' = .ok u W'/\∃ u',Ending.returned u = .returned u'/\PV M W' v u'/\Ext W W':=by
  rintro a' W' st' ⟨xs,ys,h1,h2,rfl⟩ ⟨κ,hk⟩;obtain ⟨us,h3,h4⟩:=Z2d (P:=P) hk hrs h1;obtain ⟨h5,h6⟩:=Z1R h2;have hE:Ext W W':=⟨hk.kp.os,hk.kp.tape,hk.kp.output,hk.kp.size,λi hi=>hk.kp.block i hi (λh=>h)⟩
  have hp:∀ (i:Nat) (y:AV) (u:Value),ys[i]? = some y->us[i]? = some u->PV M W' y u:=λi y u hy hu=>by
   obtain ⟨x,h7,h8⟩:=h6 i y hy;exact Z1T hk (h4.2 i x u h7 hu) h8
  have hl:us.length=ys.length:=(by have:=h4.1;omega);refine ⟨(if h:us.toArray.size=1 then us.toArray[0] else .tuple us.toArray),?_,_,rfl,PV.nz ?_,hE⟩
  . unfold results;rw[Sem.run_bind]
    have:(fn.results.mapM λrv=>(match rv with
     |.tmp t=>pure (a'.tmps.getD t Go.undef)
     |.cell p t=>do loadVar t (<- asAddr (a'.tmps.getD p Go.undef)):Sem Value)).run P W' = .ok us.toArray W':=by
     rw[W1R,Sem.run_map];exact congrArg (λz=>Result.andThen z (λa w'=>Result.ok a.toArray w')) h3
    erw [this]
    rfl
  . match ys,us,hl,hp with
    |[],[],_,_=>exact .tup [] _ rfl (by simp)
    |[y],[u],_,hp=>exact hp 0 y u rfl rfl
    | y::y2::ys,u::u2::us,hl,hp =>
      rw[dif_neg (by simp)];exact .tup _ _ (by simpa using hl) (λi x w hx hw=>hp i x w hx (by simpa using hw))
 rintro e a' W' ⟨st',h1,κ,h2⟩
 cases e <;> try (exact h1.elim)
 all_goals
  refine h2.leave (by simp) rfl λa2 W2 ht hs2=>?_
  have:=key a2 W2 st' h1 ⟨κ,hs2⟩;rw[ht]at this;exact this
def Zaa (l:List (Int×Int)):∀ r∈l.map ita,∀ x∈r,x.flat=true:=by
 intro r hr x hx;obtain ⟨p,-,rfl⟩:=W0i.1 hr;simp only[ita,W0g,W0Q,or_false]at hx;rcases hx with rfl|rfl <;> simp[AV.flat]
def Zab (l:List (Int×Int)):∀ r∈l.map ita,∀ x∈r,x.pure=true:=by
 intro r hr x hx;obtain ⟨p,-,rfl⟩:=W0i.1 hr;simp only[ita,W0g,W0Q,or_false]at hx;rcases hx with rfl|rfl <;> simp[AV.pure]
def Zac (l:List Dm):∀ r∈l.map dma,∀ x∈r,x.flat=true:=by
 intro r hr x hx;obtain ⟨p,-,rfl⟩:=W0i.1 hr;simp only[dma,W0g,W0Q,or_false]at hx;rcases hx with rfl|rfl|rfl <;> simp[AV.flat]
def Zad (l:List Dm):∀ r∈l.map dma,∀ x∈r,x.pure=true:=by
 intro r hr x hx;obtain ⟨p,-,rfl⟩:=W0i.1 hr;simp only[dma,W0g,W0Q,or_false]at hx;rcases hx with rfl|rfl|rfl <;> simp[AV.pure]
def Zae (l:List (Int×Int)) (hne:l≠[]) (hl:Sml l):PN prog G 121 [.vsl (l.map ita)] 2 (l.map ita):=by
 refine PN_of (Zaa l) (Zab l) Tryz.func121 rfl (by kernel_rfl) (rc:=Z7j) (by kernel_rfl) (rs:=Z7k) (by kernel_rfl) (W0C rfl) λR _ hG hrd=>Qga ?_
 unfold Sml at hl;have b1:l.length*16<=70368744177664:=(by omega);have h0:¬l.length=0:=λe=>hne (W0l.1 e)
 have k1:(l.map ita).all (λr=>r.length == 2)=true:=(by simp[ita]);have k2:(l.map ita).all (λr=>r.all AV.one)=true:=(by simp[ita,AV.one]);have k5:(l.map ita).all (λr=>r.all AV.pure)=true:=(by simp[ita,AV.pure]);simp -implicitDefEqProofs[Z7j,Z7k,h0,hne,b1,k1,k2,k5,FinN]
def Zaf (l:List Dm) (hne:l≠[]) (hl:Sml l):PN prog G 122 [.vsl (l.map dma)] 3 (l.map dma):=by
 refine PN_of (Zac l) (Zad l) Tryz.func122 rfl (by kernel_rfl) (rc:=Z7m) (by kernel_rfl) (rs:=Z7n) (by kernel_rfl) (W0C rfl) λR _ hG hrd=>Qga ?_
 unfold Sml at hl;have b1:l.length*24<=70368744177664:=(by omega);have h0:¬l.length=0:=λe=>hne (W0l.1 e)
 have k1:(l.map dma).all (λr=>r.length == 3)=true:=(by simp[dma]);have k2:(l.map dma).all (λr=>r.all AV.one)=true:=(by simp[dma,AV.one]);have k5:(l.map dma).all (λr=>r.all AV.pure)=true:=(by simp[dma,AV.pure]);simp -implicitDefEqProofs[Z7m,Z7n,h0,hne,b1,k1,k2,k5,FinN]
def Zag:PC prog G 121 [.vsl []] (.vsl []):=by
 refine Za9 Tryz.func121 rfl (by kernel_rfl) (rc:=Z7j) (by kernel_rfl) (rs:=Z7k) (by kernel_rfl) (W0C rfl) λR _ hG hrd=>Qga ?_
 simp -implicitDefEqProofs[Z7j,Z7k,FinZ,nz]
def Zah:PC prog G 122 [.vsl []] (.vsl []):=by
 refine Za9 Tryz.func122 rfl (by kernel_rfl) (rc:=Z7m) (by kernel_rfl) (rs:=Z7n) (by kernel_rfl) (W0C rfl) λR _ hG hrd=>Qga ?_
 simp -implicitDefEqProofs[Z7m,Z7n,FinZ,nz]
def GC (G:Jg):Prop:=G 2=some [.func (.func 260) [] [],.func (.func 261) [] [],.func (.func 262) [] [],.func (.func 263) [] []]
def ckN (x:Iss):Nat->Bool
 |0=>ck1 x
 |1=>ck2 x
 |2=>ck3 x
 |_=>ck4 x
def Zai {x:Iss} (h:∀ j,j<4->ckN x j=true):issB x=true:=by
 rw[Z9c,show ck1 x=true from h 0 (by omega),show ck2 x=true from h 1 (by omega),show ck3 x=true from h 2 (by omega),show ck4 x=true from h 3 (by omega)];rfl
def Zaj {x:Iss} {j:Nat} (hj:j<4) (h:ckN x j=false):issB x=false:=by
 rw[Z9c];have:j=0∨j=1∨j=2∨j=3:=(by omega);rcases this with rfl|rfl|rfl|rfl <;> simp only[ckN]at h <;> simp[h]
def openV (r:Jr):Int:=if Z8u r=true then
    if 0<(dRun r (nums r).length).2.length then 21 else if (∃ p∈(dRun r (nums r).length).1,6<p.2) then 20 else 0
 else 20
def openA (r:Jr):AV:=.tup [if openV r=0 then bkA r (nums r) else .nilp,.int .i64 (openV r)]
def Zak {r:Jr} (h:Z8u r=false):openA r = .tup [.nilp,.int .i64 20]:=by simp[openA,openV,h]
def opS (r:Jr):Nat->St
 |0=>⟨[(28,.int .i64 0),(27,.int .i64 r.length),(26,.vsl (r.map isa)),(1,.ptr 1 0),(4,.ptr 4 0)],[(1,.box [.vsl (r.map isa)]),(4,.box [.ptr 18 0]),(18,.box [.vsl (r.map isa),.nils])]⟩
 |i+1=>⟨[(28,.int .i64 (i+1:Nat)),(27,.int .i64 r.length),(26,.vsl (r.map isa)),(1,.ptr 1 0),(4,.ptr 4 0)],[(1,.box [.vsl (r.map isa)]),(4,.box [.ptr 18 0]),(18,.box [.vsl (r.map isa),.osl 85 (numsN r (i+1)).length]),(85,.row 1 ((numsN r (i+1)).map ia))]⟩
def opT (r:Jr) (k:Nat):St:=⟨[(98,.int .i64 k),(97,.int .i64 r.length),(96,.vsl (r.map isa)),(4,.vptr [bkA r (nums r)] 0)],[]⟩
def opJ (r:Jr) (i:Nat) (x:Iss) (j:Nat):St:=⟨[(34,.int .i64 j),(33,.agg [.func (.func 260) [] [],.func (.func 261) [] [],.func (.func 262) [] [],.func (.func 263) [] []]),(5,.int .i64 i),(6,.ptr 6 0)]++(opS r i).t,(opS r i).o++[(6,.box (isa x))]⟩
def Zal {x:Iss} {j:Nat} (hc:∀ k,k<j->ckN x k=true) (h:ckN x j=true):∀ k,k<j+1->ckN x k=true:=λk hk=>by
 by_cases e:k=j
 . rw[e];exact h
 . exact hc k (by omega)
set_option maxRecDepth 4000 in
def Zam (hG:GC G) (r:Jr) (h:Wf r):PC prog G 168 [rega r] (openA r):=by
 (refine Z5Q rfl λR hG hrd=>Qga ?_;subst hG)
 unfold GC at hG;have hs:=h.1.1;unfold Sml at hs;simp -implicitDefEqProofs[Z5O,Z5P,rega];refine Yd.flat (Z99 1 60 r.length) (by simp[AV.flat]) (by simp) ?_
 cases q1:inR r.length 1 60
 . simp -implicitDefEqProofs[Zak (r:=r) (by simp[Z8u,q1])]
 have q1':1<=r.length/\r.length<=60:=by
  have:=W0X q1;omega
 simp -implicitDefEqProofs;refine Z8a (opS r) (λi=>∀ j (h:j<r.length),j<i->issB r[j]=true/\ordB r j=true) r.length (by simp only[opS];(first|exact Wka|exact Wkb)) (by simp) ?_ ?_
 . intro i hi he;refine Qga ?_;have w1:i64.wrap ((i:Int)+1)=((i+1:Nat):Int):=Yf;have a1:=at_eq hi;have hx:=h.1.2 r[i] (W0e hi);have hk:=h.2 r[i] (W0e hi);have a1:=at_eq hi
   cases i with
   | zero =>
     simp -implicitDefEqProofs[opS,hi,isa,hG];refine Z8a (opJ r (0) r[0]) (λj=>∀ k,k<j->ckN r[0] k=true) 4 (by simp only[opJ,opS];(first|exact Ym.tm (by simp[lk,isa,ia])|exact Ym.sub (by simp[lk,Ya,AV.keys,isa,ia]) (by simp[lk,Yc,Ya,AV.keys,isa,ia]))) (by simp) ?_ ?_
     . intro j hj hc;refine Qga ?_;rcases (show j=0∨j=1∨j=2∨j=3 by omega) with rfl|rfl|rfl|rfl
       . have v0:i64.wrap 1=1:=rfl;simp -implicitDefEqProofs[opJ,opS,isa];refine Qco (Z9d r[0]) ?_
         cases q:ck1 r[0]
         . simp -implicitDefEqProofs;refine Qgr ?_;simp -implicitDefEqProofs;refine Qgr ?_;simp -implicitDefEqProofs[Zak (Z8v hi (Zaj (j:=0) (by omega) q))]
         . simp -implicitDefEqProofs[v0]
           first|exact ⟨(by (first|exact Ym.tm (by simp[lk,opJ,opS,isa,ia])|exact Ym.sub (by simp[lk,Ya,AV.keys,opJ,opS,isa,ia]) (by simp[lk,Yc,Ya,AV.keys,opJ,opS,isa,ia]))),Zal hc q⟩|exact ⟨(by (first|exact Ym.tm (by simp[lk,opJ,opS,isa,ia])|exact Ym.sub (by simp[lk,Ya,AV.keys,opJ,opS,isa,ia]) (by simp[lk,Yc,Ya,AV.keys,opJ,opS,isa,ia]))),q⟩
       . have v1:i64.wrap 2=2:=rfl;simp -implicitDefEqProofs[opJ,opS,isa];refine Qco (Z9e r[0] hk) ?_
         cases q:ck2 r[0]
         . simp -implicitDefEqProofs;refine Qgr ?_;simp -implicitDefEqProofs;refine Qgr ?_;simp -implicitDefEqProofs[Zak (Z8v hi (Zaj (j:=1) (by omega) q))]
         . simp -implicitDefEqProofs[v1]
           first|exact ⟨(by (first|exact Ym.tm (by simp[lk,opJ,opS,isa,ia])|exact Ym.sub (by simp[lk,Ya,AV.keys,opJ,opS,isa,ia]) (by simp[lk,Yc,Ya,AV.keys,opJ,opS,isa,ia]))),Zal hc q⟩|exact ⟨(by (first|exact Ym.tm (by simp[lk,opJ,opS,isa,ia])|exact Ym.sub (by simp[lk,Ya,AV.keys,opJ,opS,isa,ia]) (by simp[lk,Yc,Ya,AV.keys,opJ,opS,isa,ia]))),q⟩
       . have v2:i64.wrap 3=3:=rfl;simp -implicitDefEqProofs[opJ,opS,isa];refine Qco (Z9f r[0] hx.1) ?_
         cases q:ck3 r[0]
         . simp -implicitDefEqProofs;refine Qgr ?_;simp -implicitDefEqProofs;refine Qgr ?_;simp -implicitDefEqProofs[Zak (Z8v hi (Zaj (j:=2) (by omega) q))]
         . simp -implicitDefEqProofs[v2]
           first|exact ⟨(by (first|exact Ym.tm (by simp[lk,opJ,opS,isa,ia])|exact Ym.sub (by simp[lk,Ya,AV.keys,opJ,opS,isa,ia]) (by simp[lk,Yc,Ya,AV.keys,opJ,opS,isa,ia]))),Zal hc q⟩|exact ⟨(by (first|exact Ym.tm (by simp[lk,opJ,opS,isa,ia])|exact Ym.sub (by simp[lk,Ya,AV.keys,opJ,opS,isa,ia]) (by simp[lk,Yc,Ya,AV.keys,opJ,opS,isa,ia]))),q⟩
       . have v3:i64.wrap 4=4:=rfl;simp -implicitDefEqProofs[opJ,opS,isa];refine Qco (Z9h r[0] hx.2) ?_
         cases q:ck4 r[0]
         . simp -implicitDefEqProofs;refine Qgr ?_;simp -implicitDefEqProofs;refine Qgr ?_;simp -implicitDefEqProofs[Zak (Z8v hi (Zaj (j:=3) (by omega) q))]
         . simp -implicitDefEqProofs[v3]
           first|exact ⟨(by (first|exact Ym.tm (by simp[lk,opJ,opS,isa,ia])|exact Ym.sub (by simp[lk,Ya,AV.keys,opJ,opS,isa,ia]) (by simp[lk,Yc,Ya,AV.keys,opJ,opS,isa,ia]))),Zal hc q⟩|exact ⟨(by (first|exact Ym.tm (by simp[lk,opJ,opS,isa,ia])|exact Ym.sub (by simp[lk,Ya,AV.keys,opJ,opS,isa,ia]) (by simp[lk,Yc,Ya,AV.keys,opJ,opS,isa,ia]))),q⟩
     . intro hc;refine Qga ?_;have p1:issB r[0]=true:=Zai hc;simp -implicitDefEqProofs[opJ,opS,isa];refine Qgr ?_;by_cases p3:r[0].l=1
       . have hn:numsN r 1=[r[0].d]:=(by simp[numsN,newB,a1]);have ok:ordB r 0=true:=(by simp[ordB,a1,p3]);have w0:i64.wrap 1=1:=rfl;simp -implicitDefEqProofs[p3,w0];exact ⟨rfl,(by (first|exact Ym.tm (by simp[lk,opS,hn,ia])|exact Ym.sub (by simp[lk,Ya,AV.keys,opS,hn,ia]) (by simp[lk,Yc,Ya,AV.keys,opS,hn,ia]))),λj q1 q2=>by subst q2;exact ⟨p1,ok⟩⟩
       . simp -implicitDefEqProofs[p3];refine Qgr ?_;simp -implicitDefEqProofs[Zak (Z8w hi (by simp[ordB,a1,p3]))]
   | succ i =>
     have k1:(i:Int)+1<r.length:=(by omega);have k2:((i:Int)+1).toNat=i+1:=(by omega);have k3:(0:Int)<=(i:Int)+1:=(by omega);simp -implicitDefEqProofs[opS,hi,isa,hG,k1,k2,k3];refine Z8a (opJ r (i+1) r[i+1]) (λj=>∀ k,k<j->ckN r[i+1] k=true) 4 (by simp only[opJ,opS];(first|exact Ym.tm (by simp[lk,isa,ia])|exact Ym.sub (by simp[lk,Ya,AV.keys,isa,ia]) (by simp[lk,Yc,Ya,AV.keys,isa,ia]))) (by simp) ?_ ?_
     . intro j hj hc;refine Qga ?_;rcases (show j=0∨j=1∨j=2∨j=3 by omega) with rfl|rfl|rfl|rfl
       . have v0:i64.wrap 1=1:=rfl;simp -implicitDefEqProofs[opJ,opS,isa];refine Qco (Z9d r[i+1]) ?_
         cases q:ck1 r[i+1]
         . simp -implicitDefEqProofs;refine Qgr ?_;simp -implicitDefEqProofs;refine Qgr ?_;simp -implicitDefEqProofs[Zak (Z8v hi (Zaj (j:=0) (by omega) q))]
         . simp -implicitDefEqProofs[v0]
           first|exact ⟨(by (first|exact Ym.tm (by simp[lk,opJ,opS,isa,ia])|exact Ym.sub (by simp[lk,Ya,AV.keys,opJ,opS,isa,ia]) (by simp[lk,Yc,Ya,AV.keys,opJ,opS,isa,ia]))),Zal hc q⟩|exact ⟨(by (first|exact Ym.tm (by simp[lk,opJ,opS,isa,ia])|exact Ym.sub (by simp[lk,Ya,AV.keys,opJ,opS,isa,ia]) (by simp[lk,Yc,Ya,AV.keys,opJ,opS,isa,ia]))),q⟩
       . have v1:i64.wrap 2=2:=rfl;simp -implicitDefEqProofs[opJ,opS,isa];refine Qco (Z9e r[i+1] hk) ?_
         cases q:ck2 r[i+1]
         . simp -implicitDefEqProofs;refine Qgr ?_;simp -implicitDefEqProofs;refine Qgr ?_;simp -implicitDefEqProofs[Zak (Z8v hi (Zaj (j:=1) (by omega) q))]
         . simp -implicitDefEqProofs[v1]
           first|exact ⟨(by (first|exact Ym.tm (by simp[lk,opJ,opS,isa,ia])|exact Ym.sub (by simp[lk,Ya,AV.keys,opJ,opS,isa,ia]) (by simp[lk,Yc,Ya,AV.keys,opJ,opS,isa,ia]))),Zal hc q⟩|exact ⟨(by (first|exact Ym.tm (by simp[lk,opJ,opS,isa,ia])|exact Ym.sub (by simp[lk,Ya,AV.keys,opJ,opS,isa,ia]) (by simp[lk,Yc,Ya,AV.keys,opJ,opS,isa,ia]))),q⟩
       . have v2:i64.wrap 3=3:=rfl;simp -implicitDefEqProofs[opJ,opS,isa];refine Qco (Z9f r[i+1] hx.1) ?_
         cases q:ck3 r[i+1]
         . simp -implicitDefEqProofs;refine Qgr ?_;simp -implicitDefEqProofs;refine Qgr ?_;simp -implicitDefEqProofs[Zak (Z8v hi (Zaj (j:=2) (by omega) q))]
         . simp -implicitDefEqProofs[v2]
           first|exact ⟨(by (first|exact Ym.tm (by simp[lk,opJ,opS,isa,ia])|exact Ym.sub (by simp[lk,Ya,AV.keys,opJ,opS,isa,ia]) (by simp[lk,Yc,Ya,AV.keys,opJ,opS,isa,ia]))),Zal hc q⟩|exact ⟨(by (first|exact Ym.tm (by simp[lk,opJ,opS,isa,ia])|exact Ym.sub (by simp[lk,Ya,AV.keys,opJ,opS,isa,ia]) (by simp[lk,Yc,Ya,AV.keys,opJ,opS,isa,ia]))),q⟩
       . have v3:i64.wrap 4=4:=rfl;simp -implicitDefEqProofs[opJ,opS,isa];refine Qco (Z9h r[i+1] hx.2) ?_
         cases q:ck4 r[i+1]
         . simp -implicitDefEqProofs;refine Qgr ?_;simp -implicitDefEqProofs;refine Qgr ?_;simp -implicitDefEqProofs[Zak (Z8v hi (Zaj (j:=3) (by omega) q))]
         . simp -implicitDefEqProofs[v3]
           first|exact ⟨(by (first|exact Ym.tm (by simp[lk,opJ,opS,isa,ia])|exact Ym.sub (by simp[lk,Ya,AV.keys,opJ,opS,isa,ia]) (by simp[lk,Yc,Ya,AV.keys,opJ,opS,isa,ia]))),Zal hc q⟩|exact ⟨(by (first|exact Ym.tm (by simp[lk,opJ,opS,isa,ia])|exact Ym.sub (by simp[lk,Ya,AV.keys,opJ,opS,isa,ia]) (by simp[lk,Yc,Ya,AV.keys,opJ,opS,isa,ia]))),q⟩
     . intro hc;refine Qga ?_;have p1:issB r[i+1]=true:=Zai hc;simp -implicitDefEqProofs[opJ,opS,isa];refine Qgr ?_;have w2:i64.wrap (i:Int)=(i:Int):=Yf;have w3:i64.wrap ((i:Int)+1+1)=(i:Int)+1+1:=Yf;have k3:(0:Int)<(i:Int)+1:=(by omega);have hi2:i<r.length:=(by omega);have a2:=at_eq hi2;have bl:=(he i hi2 (by omega)).1;simp only[issB,headB,W01,inR,W0b]at bl;have w4:i64.wrap (r[i].l+1)=r[i].l+1:=Yf;have b1:=Z8l r (i+1);have b2:((numsN r (i+1)).length+1)*8<=70368744177664:=by omega
       have go:ordB r (i+1)=true->∀ j (h:j<r.length),j<i+1+1->issB r[j]=true/\ordB r j=true:=λg2 j q1 q2=>by
        by_cases e:j=i+1
        . subst e;exact ⟨p1,g2⟩
        . exact he j q1 (by omega)
       by_cases p3:r[i].d=r[i+1].d
       . have hn:numsN r (i+1+1)=numsN r (i+1):=(by rw[numsN];simp[newB,a1,a2,p3]);by_cases p5:r[i+1].l=r[i].l+1
         case neg =>
          have p5':¬r[i].l+1=r[i+1].l:=λe=>p5 e.symm
          simp -implicitDefEqProofs[k3,w2,w4,hi2,isa,p3,p5'];refine Qgr ?_;simp -implicitDefEqProofs[Zak (Z8w hi (by simp[ordB,a1,a2,p3,p5]))]
         by_cases p6:r[i].k=r[i+1].k
         . have ok:ordB r (i+1)=true:=(by simp[ordB,a1,a2,p3,p5,p6]);simp -implicitDefEqProofs[k3,w2,w3,w4,hi2,isa,p3,p5,p6];exact ⟨(by (first|exact Ym.tm (by simp[lk,opS,hn,ia])|exact Ym.sub (by simp[lk,Ya,AV.keys,opS,hn,ia]) (by simp[lk,Yc,Ya,AV.keys,opS,hn,ia]))),go ok⟩
         . have p6':¬r[i+1].k=r[i].k:=λe=>p6 e.symm
           simp -implicitDefEqProofs[k3,w2,w4,hi2,isa,p3,p5,p6];refine Qgr ?_;simp -implicitDefEqProofs[Zak (Z8w hi (by simp[ordB,a1,a2,p3,p5,p6']))]
       by_cases p4:r[i+1].d<r[i].d
       . simp -implicitDefEqProofs[k3,w2,hi2,isa,p3,p4];refine Qgr ?_;simp -implicitDefEqProofs[Zak (Z8w hi (by simp[ordB,a1,a2,p4]))]
       have p7:r[i].d<r[i+1].d:=(by omega);have hn:numsN r (i+1+1)=numsN r (i+1)++[r[i+1].d]:=(by rw[numsN];simp[newB,a1,a2,p3]);by_cases p5:r[i+1].l=1
       . have ok:ordB r (i+1)=true:=(by simp[ordB,a1,a2,p4,p7,p5]);simp -implicitDefEqProofs[k3,w2,w3,hi2,isa,p3,p4,p5,b2];exact ⟨rfl,(by (first|exact Ym.tm (by simp[lk,opS,hn,ia])|exact Ym.sub (by simp[lk,Ya,AV.keys,opS,hn,ia]) (by simp[lk,Yc,Ya,AV.keys,opS,hn,ia]))),go ok⟩
       . simp -implicitDefEqProofs[k3,w2,hi2,isa,p3,p4,p5];refine Qgr ?_;simp -implicitDefEqProofs[Zak (Z8w hi (by simp[ordB,a1,a2,p4,p7,p5]))]
 . intro he;refine Qga ?_;obtain ⟨n,hn⟩ : ∃ n,r.length=n+1:=⟨r.length-1,by omega⟩;have e:numsN r (n+1)=nums r:=by rw[nums,hn]
   have g1:r.all issB=true:=W03.2 λx hx=>by
    obtain ⟨j,hj,rfl⟩:=W0k hx;exact (he j hj hj).1
   have g2:(List.range r.length).all (ordB r)=true:=Z8r.2 λj hj=>(he j hj hj).2
   have hO:Ord r:=λi hi=>by
    have:=(he (i+1) hi (by omega)).2;simp only[ordB]at this
    split at this
    . cases this
    . omega
   have hns:Sml (nums r):=(by have:=Z8A r;unfold Sml;omega);have hsn:(nums r).Pairwise (· <= ·):=(Z8E hO).imp λh=>Int.le_of_lt h
   have k1:¬(n:Int)+1<r.length:=(by omega);rw[hn];simp -implicitDefEqProofs[opS,k1,e];refine Qgr ?_;simp -implicitDefEqProofs;by_cases c20:20<(nums r).length
   . have c20':(20:Int)<(nums r).length:=(by omega);simp -implicitDefEqProofs[c20',Zak (r:=r) (by simp[Z8u];omega)]
   have c20':¬(20:Int)<(nums r).length:=(by omega);have pu:((nums r).map ia).all (λx=>x.all AV.pure)=true:=(by simp[ia,AV.pure]);have pw:(r.map isa).all (λx=>x.all AV.pure)=true:=(by simp[isa,AV.pure]);simp -implicitDefEqProofs[c20'];refine Z8a (opT r) (λi=>∀ j (h:j<r.length),j<i->ItsIn r r[j]) r.length (Ym.trans (Ym.frz newK _ (λk hk=>by simp[newK];omega)) ?_) (by simp) ?_ ?_
   . simp only[opT,bkA,Yi];refine Ym.sub (by simp[lk,Ya,AV.keys,Yi,newK,frzA,frz,Yh,Yj,St.get,pu,pw]) (by simp) (by simp[newK])
   . intro i hi hc;refine Qga ?_;have w1:i64.wrap ((i:Int)+1)=((i+1:Nat):Int):=Yf;have hx:=h.1.2 r[i] (W0e hi);simp -implicitDefEqProofs[opT,hi,isa];refine Qco (Z93 196 [.vptr [bkA r (nums r)] 0] (λy=>!decide (y.1∈nums r)) r[i].its (by simp[AV.pure]) hx.1 (λy _=>Z9L r (nums r) y hsn hns)) ?_
     cases q:r[i].its.any λy=>!decide (y.1∈nums r)
     . simp -implicitDefEqProofs[w1];refine ⟨(by (first|exact Ym.tm (by simp[lk,opT])|exact Ym.sub (by simp[lk,Ya,AV.keys,opT]) (by simp[lk,Yc,Ya,AV.keys,opT]))),λj q1 q2=>?_⟩;by_cases e2:j=i
       . subst e2;intro y hy;have:=W26.1 q y hy;simpa using this
       . exact hc j q1 (by omega)
     . simp -implicitDefEqProofs;refine Qgr ?_;obtain ⟨y,hy,hy2⟩:=W14.1 q;obtain ⟨k,hk,rfl⟩:=W0k hy;simp -implicitDefEqProofs[Zak (Z8x hi hk (by simpa using hy2))]
   . intro hc;refine Qga ?_
     have g3:inB r=true:=W03.2 λx hx=>by
      obtain ⟨j,hj,rfl⟩:=W0k hx;exact W03.2 λy hy=>W0M (hc j hj hj y hy)
     have hL:Z8u r=true:=by
      simp only[Z8u,q1,g1,g2,g3,W1k,W2c,W0b];omega
     simp -implicitDefEqProofs[opT];refine Qgr ?_;simp -implicitDefEqProofs;refine Qco (Za8 r h hO (by omega)) ?_;simp -implicitDefEqProofs;by_cases c21:0<(dRun r (nums r).length).2.length
     . have v:openA r = .tup [.nilp,.int .i64 21]:=(by simp[openA,openV,hL,c21]);simp -implicitDefEqProofs[c21,v]
     simp -implicitDefEqProofs[c21];refine Z5h (kvs:=(dRun r (nums r).length).1) rfl (by simp[opnT,St.tmp,lk]) ?_ ?_
     . intro h6;refine Qgr ?_;have n6:¬ ∃ p∈(dRun r (nums r).length).1,6<p.2:=λ⟨p,hp,hp6⟩=>by have:=h6 p hp;omega
       have v:openA r = .tup [bkA r (nums r),.int .i64 0]:=by
        unfold openA openV;rw[if_pos hL,if_neg c21,if_neg n6];simp
       simp -implicitDefEqProofs[v,bkA]
     . intro h6;refine Qga ?_
       have v:openA r = .tup [.nilp,.int .i64 20]:=by
        unfold openA openV;rw[if_pos hL,if_neg c21,if_pos h6];simp
       simp -implicitDefEqProofs[Z5a,v];refine Qgr ?_;simp -implicitDefEqProofs
def Zan {r:Jr} (h:openV r=0):Z8u r=true:=by
 unfold openV at h
 split at h
 . assumption
 . cases h
def Zao {r:Jr} (h:Z8u r=true):1<=r.length/\r.length<=60:=by
 simp only[Z8u,W01,W0b,inR]at h;have:=h.1.1.1.1;omega
def Zap {r:Jr} (h:Z8u r=true) {i:Nat} (hi:i<r.length):ordB r i=true:=by
 simp only[Z8u,W01]at h;exact Z8r.1 h.1.1.2 i hi
def Zaq {r:Jr} (h:Z8u r=true) {x:Iss} (hx:x∈r):ItsIn r x:=λy hy=>by
 simp only[Z8u,W01,inB]at h;exact W0X (W03.1 (W03.1 h.1.2 x hx) y hy)
def Zar {r:Jr} (h:Sml r):Sml (nums r):=by have:=Z8A r;unfold Sml at *;omega
def Zas {r:Jr} (hO:Ord r):(r.map (·.d)).Pairwise (· <= ·):=by
 rw[W2o,W0Y];intro i j hi hj hij;have:=hO.mono (Nat.le_of_lt hij) hj
 rwa [at_eq hi,at_eq hj]at this
def Lx (x y:Iss):Prop:=x.d<y.d∨(x.d=y.d/\x.l<y.l)
def Zat {r:Jr} (h:Z8u r=true):∀ {i j:Nat},i<j->j<r.length->Lx (at' r i) (at' r j):=by
 intro i j hij hj
 induction j with
 |zero=>omega
 | succ j ih =>
   have step:Lx (at' r j) (at' r (j+1)):=by
    have:=Zap h hj;simp only[ordB]at this
    split at this
    . cases this
    . split at this
      . rename_i h2;exact .inl h2
      . simp only[W01,W0b]at this;exact .inr ⟨by omega,by omega⟩
   by_cases e:i=j
   . subst e;exact step
   . have:=ih (by omega) (by omega);unfold Lx at *;omega
def Zau {r:Jr} (h:Z8u r=true):∀ y∈r,findN y.d y.l r=some y:=λy hy=>by
 obtain ⟨i,hi,rfl⟩:=W0k hy;refine Z8n hi rfl rfl λj hj hij=>?_
 have:=Zat h hij hi;rw[at_eq hj,at_eq hi]at this;unfold Lx at this;omega
def Zav (hG:GC G) (r:Jr) (h:Wf r):PC prog G 131 [rega r] (.tup [.vsl ((if openV r=0 then nums r else []).map ia),.int .i64 (openV r)]):=by
 by_cases e:openV r=0
 . (refine Z7r rfl λR hG hrd=>Qga ?_;subst hG)
   simp -implicitDefEqProofs[Z7p,Z7q,rega];refine Qco (Zam hG r h) ?_;simp -implicitDefEqProofs[openA,e,bkA]
 . refine PC.nzR (v:=.tup [.nils,.int .i64 (openV r)]) ?_ (by simp[nz,e])
   (refine Z7r rfl λR hG hrd=>Qga ?_;subst hG)
   simp -implicitDefEqProofs[Z7p,Z7q,rega];refine Qco (Zam hG r h) ?_;simp -implicitDefEqProofs[openA,e]
def atP (r:Jr) (d l:Int):Iss×Int:=if openV r=0 then match findN d l r with
    |some x=>(x,0)
    |none=>(zI,6)
 else (zI,openV r)
def chL (l:Jr):List Int:=l.flatMap λx=>x.its.map (·.1)
def Zaw (x:Iss) (l:Jr):chL (x::l)=x.its.map (·.1)++chL l:=rfl
def C (r:Jr) (n:Int):List Int:=chL (issOf r n)
def dvL (f:Int->Int) (m:Int) (l:Jr):Int:=l.foldl (λm x=>dvIt f (max m 1) x.its) m
def Zax (r:Jr) (f:Int->Int) (n:Int):∀ i,i<=r.length->dvN r f n i=dvL f 0 (issOf (r.take i) n)
 |0,_=>by simp[dvN,issOf,dvL]
 | i+1,hi=>by
   have hlt:i<r.length:=(by omega);have ih:=Zax r f n i (by omega);rw[W08 hlt,issOf,W1a,dvN,at_eq hlt];by_cases e:r[i].d=n
   . rw[if_pos e,ih,W2j (by simpa using e),dvL,dvL,W1q];rfl
   . rw[if_neg e,ih,W2k (by simpa using e),List.filter_nil,W1G];rfl
def Zay (f:Int->Int):∀ (its:List (Int×Int)) (m:Int),m<=dvIt f m its/\(∀ y∈its,1+f y.1<=dvIt f m its)/\(dvIt f m its=m∨∃ y∈its,dvIt f m its=1+f y.1)
 |[],m=>⟨W1Y _,by simp,.inl rfl⟩
 | y :: its,m=>by
   obtain ⟨h1,h2,h3⟩:=Zay f its (max m (1+f y.1));have e:dvIt f m (y::its)=dvIt f (max m (1+f y.1)) its:=rfl;rw[e];refine ⟨by omega,λz hz=>?_,?_⟩
   . rcases W0g.1 hz with rfl|hz
     . omega
     . exact h2 z hz
   . rcases h3 with h3 | ⟨z,hz,h3⟩
     . rcases Int.le_total m (1+f y.1) with hm|hm
       . exact .inr ⟨y,W0H ..,by omega⟩
       . exact .inl (by omega)
     . exact .inr ⟨z,W0z _ hz,h3⟩
def Zaz (f:Int->Int):∀ (l:Jr) (m:Int),m<=dvL f m l/\(l≠[]->1<=dvL f m l)/\(∀ c∈chL l,1+f c<=dvL f m l)/\(dvL f m l=m∨dvL f m l=1∨∃ c∈chL l,dvL f m l=1+f c)
 |[],m=>⟨W1Y _,by simp,by simp[chL],.inl rfl⟩
 | x :: l,m=>by
   obtain ⟨h1,h2,h3⟩:=Zay f x.its (max m 1);obtain ⟨g1,g2,g3,g4⟩:=Zaz f l (dvIt f (max m 1) x.its);have e:dvL f m (x::l)=dvL f (dvIt f (max m 1) x.its) l:=rfl;rw[e];have q1:m<=max m 1:=Int.le_max_left ..;have q2:1<=max m 1:=Int.le_max_right ..;refine ⟨Int.le_trans q1 (Int.le_trans h1 g1),λ_=>Int.le_trans q2 (Int.le_trans h1 g1),λc hc=>?_,?_⟩
   . rw[Zaw]at hc;rcases W0h.1 hc with hc|hc
     . obtain ⟨y,hy,rfl⟩:=W0i.1 hc;exact Int.le_trans (h2 y hy) g1
     . exact g3 c hc
   . rcases g4 with g4|g4 | ⟨c,hc,g4⟩
     . rcases h3 with h3 | ⟨y,hy,h3⟩
       . rcases Int.le_total m 1 with hm|hm
         . exact .inr (.inl (by omega))
         . exact .inl (by omega)
       . exact .inr (.inr ⟨y.1,by rw[Zaw];exact W0h.2 (.inl (W0i.2 ⟨y,hy,rfl⟩)),by omega⟩)
     . exact .inr (.inl g4)
     . exact .inr (.inr ⟨c,by rw[Zaw];exact W0h.2 (.inr hc),g4⟩)
section
variable {r:Jr}
def ZaA (hO:Ord r) {n:Int} (hn:n∈nums r):issOf r n≠[]:=by
 obtain ⟨i,hi,rfl⟩:=Z8G hO hn;exact List.ne_nil_of_mem (a:=r[i]) (W0G.2 ⟨W0e hi,by simp⟩)
def Dv_eq (r:Jr) (k:Nat) (n:Int):Dv r (k+1) n=dvL (Dv r k) 0 (issOf r n):=by
 rw[Dv,Zax r _ n _ (W0f _),W0v]
def Dv_ch (k:Nat) (n:Int) {c:Int} (hc:c∈C r n):1+Dv r k c<=Dv r (k+1) n:=by
 rw[Dv_eq];exact (Zaz _ _ _).2.2.1 c hc
def ZaB (hO:Ord r) (k:Nat) {n:Int} (hn:n∈nums r):1<=Dv r (k+1) n:=by
 rw[Dv_eq];exact (Zaz _ _ _).2.1 (ZaA hO hn)
def Dv_or (hO:Ord r) (k:Nat) {n:Int} (hn:n∈nums r):Dv r (k+1) n=1∨∃ c∈C r n,Dv r (k+1) n=1+Dv r k c:=by
 have h1:=ZaB hO k hn;rw[Dv_eq]at *;rcases (Zaz (Dv r k) (issOf r n) 0).2.2.2 with h|h|h
 . omega
 . exact .inl h
 . exact .inr h
def C_in (hin:∀ x∈r,ItsIn r x) {n c:Int} (hc:c∈C r n):c∈nums r:=by
 obtain ⟨x,hx,hc⟩:=W0u.1 hc;obtain ⟨y,hy,rfl⟩:=W0i.1 hc;exact hin x (W0G.1 hx).1 y hy
def ZaC (lf:List Int):∀ (its:List (Int×Int)) (b:Bool),rdIt lf b its=true↔b=true/\∀ y∈its,y.1 ∉ lf
 |[],b=>by simp[rdIt]
 | y::its,b=>by
   have e:rdIt lf b (y::its)=rdIt lf (b && !decide (y.1∈lf)) its:=rfl;rw[e,ZaC lf its];simp[and_assoc]
def ZaD (lf:List Int):∀ (l:Jr) (b:Bool),rdN lf b l=true↔b=true/\∀ c∈chL l,c ∉ lf
 |[],b=>by simp[rdN,chL]
 | x :: l,b=>by
   have e:rdN lf b (x::l)=rdN lf (rdIt lf b x.its) l:=rfl;rw[e,ZaD lf l,ZaC,Zaw];simp only[W0h,W0i]
   constructor
   . rintro ⟨⟨h1,h2⟩,h3⟩;refine ⟨h1,λc hc=>?_⟩;rcases hc with ⟨y,hy,rfl⟩|hc
     . exact h2 y hy
     . exact h3 c hc
   . rintro ⟨h1,h2⟩;exact ⟨⟨h1,λy hy=>h2 _ (.inl ⟨y,hy,rfl⟩)⟩,λc hc=>h2 c (.inr hc)⟩
def ZaE (dp:List (Int×Int)):∀ (its:List (Int×Int)) (m:Int),m<=msIt dp m its/\(∀ y∈its,dpG dp y.1<=msIt dp m its)/\(msIt dp m its=m∨∃ y∈its,msIt dp m its=dpG dp y.1)
 |[],m=>⟨W1Y _,by simp,.inl rfl⟩
 | y :: its,m=>by
   obtain ⟨h1,h2,h3⟩:=ZaE dp its (max m (dpG dp y.1));have e:msIt dp m (y::its)=msIt dp (max m (dpG dp y.1)) its:=rfl;rw[e];refine ⟨by omega,λz hz=>?_,?_⟩
   . rcases W0g.1 hz with rfl|hz
     . omega
     . exact h2 z hz
   . rcases h3 with h3 | ⟨z,hz,h3⟩
     . rcases Int.le_total m (dpG dp y.1) with hm|hm
       . exact .inr ⟨y,W0H ..,by omega⟩
       . exact .inl (by omega)
     . exact .inr ⟨z,W0z _ hz,h3⟩
def ZaF (dp:List (Int×Int)):∀ (l:Jr) (m:Int),m<=msN dp m l/\(∀ c∈chL l,dpG dp c<=msN dp m l)/\(msN dp m l=m∨∃ c∈chL l,msN dp m l=dpG dp c)
 |[],m=>⟨W1Y _,by simp[chL],.inl rfl⟩
 | x :: l,m=>by
   obtain ⟨h1,h2,h3⟩:=ZaE dp x.its m;obtain ⟨g1,g2,g3⟩:=ZaF dp l (msIt dp m x.its);have e:msN dp m (x::l)=msN dp (msIt dp m x.its) l:=rfl;rw[e];refine ⟨by omega,λc hc=>?_,?_⟩
   . rw[Zaw]at hc;rcases W0h.1 hc with hc|hc
     . obtain ⟨y,hy,rfl⟩:=W0i.1 hc;have:=h2 y hy;omega
     . exact g2 c hc
   . rcases g3 with g3 | ⟨c,hc,g3⟩
     . rcases h3 with h3 | ⟨y,hy,h3⟩
       . exact .inl (by omega)
       . exact .inr ⟨y.1,by rw[Zaw];exact W0h.2 (.inl (W0i.2 ⟨y,hy,rfl⟩)),by omega⟩
     . exact .inr ⟨c,by rw[Zaw];exact W0h.2 (.inr hc),g3⟩
def ZaG {n:Int}:∀ {dp:List (Int×Int)},n∈dp.map (·.1)->∃ v,dpLk n dp=some v
 |[],h=>by simp at h
 | p :: dp,h=>by
   simp only[dpLk]
   split
   . exact ⟨_,rfl⟩
   . rename_i e;simp only[W0F,W0g]at h;exact ZaG (h.resolve_left λe2=>e (by rw[e2]))
def AInv (r:Jr) (s:List (Int×Int)×List Int):Prop:=∀ p∈s.1,∀ j:Nat,p.2<=j->Dv r j p.1=p.2
def AInv.step (hO:Ord r) (hin:∀ x∈r,ItsIn r x) {s:List (Int×Int)×List Int} (hd:DInv r s) (h:AInv r s) {n:Int} (hn:n∈nums r):AInv r (dStep r s n):=by
 unfold dStep
 split
 . rename_i hb;obtain ⟨h1,h2⟩:=(ZaD _ _ _).1 hb
   have kids:∀ c∈C r n,(c,dpG s.1 c)∈s.1:=λc hc=>by
    have hc1:c∈s.1.map (·.1)++s.2:=hd.perm.mem_iff.2 (C_in hin hc);have hc2:c∈s.1.map (·.1):=(W0h.1 hc1).resolve_right (h2 c hc);obtain ⟨v,hv⟩:=ZaG hc2;have:=Za3 hv
    rwa [show dpG s.1 c=v by simp[dpG,hv]]
   obtain ⟨m1,m2,m3⟩:=ZaF s.1 (issOf r n) 0;intro p hp j hj;rcases W0h.1 hp with hp|hp
   . exact h p hp j hj
   . simp only[W0B]at hp;subst hp;simp only at hj ⊢;obtain ⟨j,rfl⟩ : ∃ j',j=j'+1:=⟨j-1,by omega⟩
     have same:∀ c∈C r n,Dv r j c=dpG s.1 c:=λc hc=>by
      have:=m2 c hc;exact h _ (kids c hc) j (by simp only;omega)
     have o1:=ZaB hO j hn
     apply Int.le_antisymm
     . rcases Dv_or hO j hn with e | ⟨c,hc,e⟩
       . omega
       . have:=m2 c hc;have:=same c hc;omega
     . rcases m3 with e | ⟨c,hc,e⟩
       . omega
       . have:=Dv_ch (r:=r) j n hc;have:=same c hc;omega
 . exact h
def AInv.fold (hO:Ord r) (hin:∀ x∈r,ItsIn r x):∀ (l:List Int) {s:List (Int×Int)×List Int},(∀ n∈l,n∈nums r)->DInv r s->AInv r s->AInv r (l.foldl (dStep r) s)
 |[],s,_,_,h=>h
 |n::l,s,hl,hd,h=>AInv.fold hO hin l (λm hm=>hl m (W0z _ hm)) (hd.step n) (h.step hO hin hd (hl n (W0H ..)))
def AInv.run (hO:Ord r) (hin:∀ x∈r,ItsIn r x):∀ k,AInv r (dRun r k)
 |0=>by intro p hp;simp[dRun]at hp
 |k+1=>AInv.fold hO hin (nums r) (λ_ h=>h) (DInv.run r k) (AInv.run hO hin k)
def Stuck (r:Jr) (L:List Int):Prop:=∀ n∈L,∃ c∈C r n,c∈L
def ZaH {s:List (Int×Int)×List Int} {n:Int} (h:¬rdN s.2 (decide (n∈s.2)) (issOf r n)=true):dStep r s n=s/\(n∈s.2->∃ c∈C r n,c∈s.2):=by
 refine ⟨by unfold dStep;rw[if_neg h],λhn=>?_⟩;rw[ZaD]at h;by_cases e:∃ c∈C r n,c∈s.2
 . exact e
 . exact absurd ⟨W0M hn,λc hc h2=>e ⟨c,hc,h2⟩⟩ h
def ZaI (s:List (Int×Int)×List Int) (n:Int):(dStep r s n).2.length<=s.2.length:=by
 unfold dStep
 split
 . exact List.length_erase_le
 . exact W0f _
def ZaJ:∀ (l:List Int) (s:List (Int×Int)×List Int),(l.foldl (dStep r) s).2.length<=s.2.length
 |[],s=>W0f _
 |n::l,s=>W0O (ZaJ l _) (ZaI s n)
def ZaK:∀ (l:List Int) (s:List (Int×Int)×List Int),(l.foldl (dStep r) s).2.length<s.2.length∨(l.foldl (dStep r) s=s/\∀ n∈l,n∈s.2->∃ c∈C r n,c∈s.2)
 |[],s=>.inr ⟨rfl,by simp⟩
 | n :: l,s=>by
   by_cases e:rdN s.2 (decide (n∈s.2)) (issOf r n)=true
   . refine .inl (Nat.lt_of_le_of_lt (ZaJ l _) ?_);have hm:=Za2 e;unfold dStep;rw[if_pos e];have:=List.length_erase_of_mem hm;have:=List.length_pos_of_mem hm;simp only;omega
   . obtain ⟨h1,h2⟩:=ZaH e;rw[W2e,h1];rcases ZaK l s with h | ⟨h3,h4⟩
     . exact .inl h
     . refine .inr ⟨h3,λm hm=>?_⟩;rcases W0g.1 hm with rfl|hm
       . exact h2
       . exact h4 m hm
def ZaL:∀ (l:List Int) {s:List (Int×Int)×List Int},Stuck r s.2->l.foldl (dStep r) s=s
 |[],s,_=>rfl
 | n::l,s,h=>by
   have:¬rdN s.2 (decide (n∈s.2)) (issOf r n)=true:=λe=>by
    have hm:=Za2 e;obtain ⟨c,hc,h2⟩:=h n hm;exact ((ZaD _ _ _).1 e).2 c hc h2
   rw[W2e,(ZaH this).1];exact ZaL l h
def ZaM (r:Jr):∀ k,(dRun r k).2.length+k<=(nums r).length∨Stuck r (dRun r k).2
 |0=>.inl (by simp[dRun])
 | k + 1=>by
   have hsub:∀ n∈(dRun r k).2,n∈nums r:=λn hn=>(DInv.run r k).perm.mem_iff.1 (W0h.2 (.inr hn))
   rcases ZaM r k with h|h
   . rcases ZaK (r:=r) (nums r) (dRun r k) with h2 | ⟨h2,h3⟩
     . exact .inl (by simp only[dRun,dPass];omega)
     . refine .inr ?_;simp only[dRun,dPass];rw[h2];exact λn hn=>h3 n (hsub n hn) hn
   . refine .inr ?_;simp only[dRun,dPass];rw[ZaL (nums r) h];exact h
def ZaN {L:List Int} (h:Stuck r L):∀ (k:Nat) (n:Int),n∈L->(k:Int)<=Dv r k n
 |0,n,_=>by simp[Dv]
 | k+1,n,hn=>by
   obtain ⟨c,hc,h2⟩:=h n hn;have:=ZaN h k c h2;have:=Dv_ch (r:=r) k n hc;omega
def ZaO (g:Int->Int) (K:Int):∀ (l:List Int) (m:Int),K<l.foldl (λm n=>max m (g n)) m↔K<m∨∃ n∈l,K<g n
 |[],m=>by simp
 | n::l,m=>by
   rw[W2e,ZaO g K l];simp only[W0g,exists_eq_or_imp];rw[<- or_assoc];refine or_congr_left ?_;omega
def ZaP {l:List Int} {g:Int->Int} {K:Int} (hK:0<=K):K<mostV l g↔∃ n∈l,K<g n:=by
 rw[mostV,ZaO]
 constructor
 . rintro (h|h)
   . omega
   . exact h
 . exact .inr
def dp_Dv (hL:Z8u r=true) (h:(dRun r (nums r).length).2.length=0) {n:Int} (hn:n∈nums r):(n,dpG (dRun r (nums r).length).1 n)∈(dRun r (nums r).length).1/\Dv r ((nums r).length+1) n=dpG (dRun r (nums r).length).1 n:=by
 have hd:=DInv.run r (nums r).length;have h0:(dRun r (nums r).length).2=[]:=W0l.1 h
 have h1:n∈(dRun r (nums r).length).1.map (·.1):=by
  have:=hd.perm.mem_iff.2 hn
  rwa [h0,W1G]at this
 obtain ⟨v,hv⟩:=ZaG h1;have hm:=Za3 hv;have e:dpG (dRun r (nums r).length).1 n=v:=(by simp[dpG,hv]);rw[e];refine ⟨hm,?_⟩;have hb:=hd.bd _ hm;have hl:=hd.len;exact AInv.run (Z8C hL) (λx hx=>Zaq hL hx) _ _ hm _ (by simp only at hb ⊢;omega)
def ZaQ (r:Jr):openV r=chkV r:=by
 unfold openV chkV
 cases hL:Z8u r
 . rfl
 . simp only [if_true];by_cases h:0<(dRun r (nums r).length).2.length
   . rw[if_pos h];have hs:Stuck r (dRun r (nums r).length).2:=(ZaM r (nums r).length).resolve_left (by omega);obtain ⟨n,hn⟩:=List.exists_mem_of_length_pos h;have hn2:n∈nums r:=(DInv.run r _).perm.mem_iff.1 (W0h.2 (.inr hn));have:=ZaN hs ((nums r).length+1) n hn;rw[if_pos ((ZaP (by omega)).2 ⟨n,hn2,by omega⟩)]
   . rw [if_neg h];have h0:(dRun r (nums r).length).2.length=0:=(by omega);have hd:=DInv.run r (nums r).length;have hl:=hd.len
     have e1:(∃ p∈(dRun r (nums r).length).1,6<p.2)↔6<mostV (nums r) (Dv r ((nums r).length+1)):=by
      rw[ZaP (by omega)]
      constructor
      . rintro ⟨p,hp,h6⟩;have hn:p.1∈nums r:=hd.perm.mem_iff.1 (W0h.2 (.inl (W0i.2 ⟨p,hp,rfl⟩)));refine ⟨p.1,hn,?_⟩;have hb:=hd.bd _ hp;rw[AInv.run (Z8C hL) (λx hx=>Zaq hL hx) _ _ hp _ (by omega)];exact h6
      . rintro ⟨n,hn,h6⟩;obtain ⟨h1,h2⟩:=dp_Dv hL h0 hn;rw[h2]at h6;exact ⟨_,h1,h6⟩
     have e2:¬((nums r).length:Int)<mostV (nums r) (Dv r ((nums r).length+1)):=by
      rw[ZaP (by omega)];rintro ⟨n,hn,h6⟩;obtain ⟨h1,h2⟩:=dp_Dv hL h0 hn;have:=hd.bd _ h1;rw[h2]at h6;simp only at this;omega
     rw[if_neg e2];by_cases c:6<mostV (nums r) (Dv r ((nums r).length+1))
     . rw[if_pos c,if_pos (e1.2 c)]
     . rw[if_neg c,if_neg λe=>c (e1.1 e)]
def ZaR {i:Nat} (hi:i<r.length) (n:Int):issOf (r.take (i+1)) n=if r[i].d=n then issOf (r.take i) n++[r[i]] else issOf (r.take i) n:=by
 rw[W08 hi,issOf,W1a]
 split
 . rename_i e;rw[W2j (by simpa using e)];rfl
 . rename_i e;rw[W2k (by simpa using e),List.filter_nil,W1G];rfl
def ZaS (hL:Z8u r=true):∀ (i:Nat) (hi:i<r.length),r[i].l=((issOf (r.take (i+1)) r[i].d).length:Nat)
 | 0,hi=>by
   have h0:=Zap hL hi;simp only[ordB,W0b,at_eq hi]at h0;rw[h0,ZaR hi,if_pos rfl];simp[issOf]
 | j + 1,hi=>by
   have hj:j<r.length:=(by omega);have h0:=Zap hL hi;have ih:=ZaS hL j hj;have hO:=Z8C hL;rw[ZaR hi,if_pos rfl];simp only[ordB,at_eq hi,at_eq hj]at h0
   split at h0
   . cases h0
   . split at h0
     . rename_i h1 h2
       have e:issOf (r.take (j+1)) r[j+1].d=[]:=by
        rw[issOf,W2n];intro x hx;obtain ⟨k,hk,rfl⟩:=W0k hx;simp only[W15]at hk;have:=hO.mono (i:=k) (j:=j) (by omega) hj;rw[at_eq (show k<r.length by omega),at_eq hj]at this;simp only[W1V,W0b];omega
       rw[e];simpa using h0
     . rename_i h1 h2;simp only[W01,W0b]at h0;have e:r[j+1].d=r[j].d:=(by omega);rw[e,h0.1,ih];simp
def ZaT (hL:Z8u r=true) (n:Int):∀ i,i<=r.length->lastN r n i=((issOf (r.take i) n).length:Nat)
 |0,_=>by simp[lastN,issOf]
 | i + 1,hi=>by
   have hlt:i<r.length:=(by omega);have ih:=ZaT hL n i (by omega);rw[lastN,at_eq hlt,ZaR hlt]
   split
   . rename_i e;have:=ZaS hL i hlt;rw[e,ZaR hlt,if_pos e]at this;rw[ih,this];simp only[W0s,W1p,W1U];omega
   . exact ih
def ZaU (hL:Z8u r=true) (n:Int):lastV r n=cntV r n:=by
 rw[lastV,ZaT hL n _ (W0f _),W0v];rfl
end
section
variable {r:Jr}
def ZaV (hL:Z8u r=true) (n:Int):∀ (i:Nat),i<=r.length->∀ k:Nat,1<=k->k<=(issOf (r.take i) n).length->∃ j,∃ h:j<r.length,r[j].d=n/\r[j].l=k
 |0,_,k,h1,h2=>by simp[issOf]at h2;omega
 | i + 1,hi,k,h1,h2=>by
   have hlt:i<r.length:=(by omega);by_cases c:k<=(issOf (r.take i) n).length
   . exact ZaV hL n i (by omega) k h1 c
   . have hl:=ZaS hL i hlt;rw[ZaR hlt]at h2
     split at h2
     . rename_i e;simp only[W0s,W1p,W1U]at h2;refine ⟨i,hlt,e,?_⟩;rw[hl,e,ZaR hlt,if_pos e];simp only[W0s,W1p,W1U];omega
     . omega
def ZaW (hL:Z8u r=true) {x:Iss} (hx:x∈r):1<=x.l/\x.l<=cntV r x.d:=by
 obtain ⟨i,hi,rfl⟩:=W0k hx;have h1:=ZaS hL i hi;have h2:(issOf (r.take (i+1)) r[i].d).length<=(issOf r r[i].d).length:=((List.take_sublist (i+1) r).filter _).length_le;have h3:0<(issOf (r.take (i+1)) r[i].d).length:=(by rw[ZaR hi,if_pos rfl];simp);have h4:cntV r r[i].d=((issOf r r[i].d).length:Nat):=rfl;omega
def ZaX (hL:Z8u r=true) {x:Iss} (hx:x∈r):findN x.d x.l r=some x:=Zau hL x hx
def ZaY (hL:Z8u r=true) (n l:Int):(findN n l r).isSome=true↔inR l 1 (lastV r n)=true:=by
 rw[inR,W0b,ZaU hL]
 constructor
 . intro h;obtain ⟨x,hx⟩:=W0t.1 h;obtain ⟨h1,rfl,rfl⟩:=Z8U hx;exact ZaW hL h1
 . rintro ⟨h1,h2⟩;have h3:cntV r n=((issOf r n).length:Nat):=rfl;obtain ⟨j,hj,rfl,e⟩:=ZaV hL n r.length (W0f _) l.toNat (by omega) (by rw[W0v];omega);have:=ZaX hL (W0e hj);rw[e,show ((l.toNat:Nat):Int)=l by omega]at this;rw[this];rfl
end
structure Nte where
 nu:Int
 dy:Int
 sg:Int
 dr:Int
 lt:Int
 fr:Int
 tu:Int
 ca:Int
 up:Bool
 wy:Int
 deriving DecidableEq,Inhabited
def na (x:Nte):List AV:=[.int .i64 x.nu,.int .i64 x.dy,.int .u8 x.sg,.int .i64 x.dr,.int .i64 x.lt,.int .i64 x.fr,.int .i64 x.tu,.int .i64 x.ca,.bool x.up,.int .u8 x.wy]
def nAt (l:List Nte) (i:Nat):Nte:=l.getD i default
def ZaZ {l:List Nte} {i:Nat} (h:i<l.length):nAt l i=l[i]:=by simp[nAt,W0j,h]
def cN1 (x:Nte):Bool:=inR x.nu 1 9999&&inR x.dy 0 14610
def cN2 (x:Nte):Bool:=decide (x.sg<=2)&&decide (x.wy<=3)
def cN3 (x:Nte):Bool:=inR x.fr 1 999&&inR x.tu 1 999&&decide (x.fr<=x.tu)
def cN4 (r:Jr) (x:Nte):Bool:=if x.dr=0/\x.lt=0 then !decide (x.ca=0) else (findN x.dr x.lt r).isSome
def cN5 (x:Nte):Bool:=decide (2<=x.lt)||(!x.up&&decide (x.wy=0))
def cN6 (l:List Nte) (i:Nat) (x:Nte):Bool:=decide (x.ca=0)||(l.take i).any λy=>decide (y.nu=x.ca)
def cN7 (l:List Nte) (i:Nat) (x:Nte):Bool:=!(l.take i).any λy=>decide (y.nu=x.nu)
def cN8 (l:List Nte):Nat->Nte->Bool
 |0,_=>true
 |i+1,x=>decide ((nAt l i).dy<x.dy)||(decide ((nAt l i).dy=x.dy)&&decide ((nAt l i).nu<x.nu))
def noteB (r:Jr) (l:List Nte) (i:Nat):Bool:=cN1 (nAt l i)&&cN2 (nAt l i)&&cN3 (nAt l i)&&cN4 r (nAt l i)&&cN5 (nAt l i)&&cN6 l i (nAt l i)&&cN7 l i (nAt l i)&&cN8 l i (nAt l i)
def opN (l:List Nte) (i:Nat):List Nte:=(l.take i).filter λx=>decide (x.sg=1)
def Zb0 {l:List Nte} {i:Nat} (h:i<l.length):opN l (i+1)=if l[i].sg=1 then opN l i++[l[i]] else opN l i:=by
 unfold opN;rw[W08 h,W1a]
 split
 . rename_i e;rw[W2j (by simpa using e)];rfl
 . rename_i e;rw[W2k (by simpa using e)];simp
def Zb1 (l:List Nte) (i:Nat):(opN l i).length<=i:=W0O (W0D _ _) (by simp;omega)
def Zb2 (r:Jr) (l:List Nte):Bool:=decide (l.length<=12)&&(List.range l.length).all (noteB r l)&&decide ((opN l l.length).length<=5)
def chN (r:Jr) (l:List Nte):Int:=if openV r=0 then if Zb2 r l=true then 0 else 30 else openV r
def opU (l:List Nte):List Int:=(opN l l.length).map (·.nu)
def truB (l:List Nte) (s:List Int):Bool:=(List.range s.length).all λi=>decide (s.getD i 0∈opU l)&&(i == 0||decide (s.getD (i-1) 0<s.getD i 0))
def asN (r:Jr) (l:List Nte) (s:List Int) (m:Int):Int:=if chN r l=0 then if truB l s=true then if inR m 1 999=true then 0 else 2 else 31 else chN r l
def bsF (s w:List Int) (m:Int) (x:Nte):Bool:=(decide (x.sg=2)||decide (x.nu∈s)) && !decide (x.nu∈w)&&inR m x.fr x.tu
def gcL {α:Type} (p:α->Bool) (h:α->α->Bool):List α->List Bool
 |[]=>[]
 |x::l=>(p x && !((l.zip (gcL p h l)).any λq=>q.2&&h x q.1))::gcL p h l
section
variable {α:Type} {p:α->Bool} {h:α->α->Bool} {l:List α}
def Zb3:∀ l:List α,(gcL p h l).length=l.length
 |[]=>rfl
 |x::l=>by simp[gcL,Zb3 l]
def Zb4:∀ (l:List α) (i:Nat),(gcL p h l).drop i=gcL p h (l.drop i)
 |[],i=>by simp[gcL]
 |x::l,0=>rfl
 |x::l,i+1=>by simp only[gcL,W1D];exact Zb4 l i
def gcB (p:α->Bool) (h:α->α->Bool) (l:List α) (i:Nat):Bool:=(gcL p h l).getD i false
def gwB (p:α->Bool) (h:α->α->Bool) (l:List α) (x:α) (i k:Nat):Bool:=p x && !((((l.zip (gcL p h l)).take k).drop (i+1)).any λq=>q.2&&h x q.1)
def Zb5 {i:Nat} (hi:i<l.length):gcB p h l i=gwB p h l l[i] i l.length:=by
 have e1:l.drop i=l[i]::l.drop (i+1):=W0x hi;have e2:=Zb4 (p:=p) (h:=h) l i;have e4:=Zb4 (p:=p) (h:=h) l (i+1);rw[e1,gcL]at e2
 have e3:(gcL p h l)[i]? = some (p l[i] && !(((l.drop (i+1)).zip (gcL p h (l.drop (i+1)))).any λq=>q.2&&h l[i] q.1)):=by
  have:=congrArg (λq=>q[0]?) e2;simp only[W13,W1X,W2i]at this;exact this
 have e5:((l.zip (gcL p h l)).take l.length).drop (i+1)=(l.drop (i+1)).zip (gcL p h (l.drop (i+1))):=by
  rw[W0J (by simp[Zb3])];show List.drop (i+1) (List.zipWith Prod.mk l (gcL p h l))=List.zipWith Prod.mk (l.drop (i+1)) (gcL p h (l.drop (i+1)));rw[List.drop_zipWith,e4]
 rw[gcB,W0j,e3,W0P,gwB,e5]
def Zb6 {x:α} {i:Nat}:gwB p h l x i (i+1)=p x:=by
 rw[gwB,W1j (by simp;omega)];simp
def Zb7 {x:α} {i k:Nat} (hi:i<k) (hk:k<l.length):gwB p h l x i (k+1)=(gwB p h l x i k && !(gcB p h l k&&h x l[k])):=by
 have hz:k<(l.zip (gcL p h l)).length:=(by simp[Zb3,hk]);have hf:k<(gcL p h l).length:=by rw[Zb3];exact hk
 have e:(l.zip (gcL p h l))[k]=(l[k],gcB p h l k):=by
  rw[List.getElem_zip]
  congr 1
  rw[gcB,W0j,W07 hf];rfl
 rw[gwB,gwB,W08 hz,List.drop_append_of_le_length (by simp[Zb3];omega),W2g,e];simp only[List.any_cons,List.any_nil,Bool.or_false,Bool.not_or,Bool.and_assoc]
end
def fB (s w:List Int) (m:Int) (l:List Nte) (i:Nat):Bool:=gcB (bsF s w m) (λx y=>decide (y.ca=x.nu)) l i
def WfN (l:List Nte):Prop:=Sml l/\∀ x∈l,0<=x.sg/\x.sg<=255/\0<=x.wy/\x.wy<=255
abbrev Jl:=List Nte
def sortI (l:List Int):List Int:=l.mergeSort λa b=>decide (a<=b)
def SrtI (l:List Int):Prop:=l.Pairwise λx y=>x<=y
def Zb8 (l:List Int):(sortI l).Perm l:=List.mergeSort_perm l _
def Zb9 (l:List Int):SrtI (sortI l):=by
 have:=List.pairwise_mergeSort (le:=λa b:Int=>decide (a<=b)) (λa b c=>by simp;omega) (λa b=>by simp;omega) l;exact this.imp (by simp)
def Zba {a b:List Int} (p:a.Perm b) (ha:SrtI a) (hb:SrtI b):a=b :=
 List.Perm.eq_of_pairwise (le:=λx y:Int=>x<=y) (λx y _ _ h1 h2=>by omega) ha hb p
def Zbb {l s:List Int} (p:s.Perm l) (hs:SrtI s):sortI l=s:=Zba ((Zb8 l).trans p.symm) (Zb9 l) hs
def Zbc (l:List Int):(sortI l).length=l.length:=(Zb8 l).length_eq
def Zbd {l:List Int} {x:Int}:x∈sortI l↔x∈l:=(Zb8 l).mem_iff
def srtI (l:List Int) (a b:Nat):List Int:=l.take a++(sortI ((l.take b).drop a)++l.drop b)
def Zbe {l:List Int} {a b:Nat} (h1:a<=b) (h2:b<=a+1):srtI l a b=l:=by
 have e:sortI ((l.take b).drop a)=(l.take b).drop a:=by
  generalize hq:(l.take b).drop a=q;have hl:q.length<=1:=by rw[<- hq];simp;omega
  match q,hl with
  |[],_=>simp[sortI]
  |[x],_=>simp[sortI]
 have e2:l.take a=(l.take b).take a:=(by rw[List.take_take,Nat.min_eq_left h1]);rw[srtI,e,<- W0U,e2,W11,W11]
def mvI (l:List Int) (a i p:Nat):List Int :=
 l.take a++((sortI ((l.take i).drop a)).take p++(l.getD i 0::((sortI ((l.take i).drop a)).drop p++l.drop (i+1))))
def Zbf {l:List Int} {a i:Nat} (h:i<=l.length):(sortI ((l.take i).drop a)).length=i-a:=by rw[Zbc];simp;omega
def Zbg {l:List Int} {a i:Nat} (h1:a<=i) (h2:i<l.length):srtI l a i=mvI l a i (i-a):=by
 have e:=Zbf (l:=l) (a:=a) (i:=i) (by omega);rw[mvI,srtI,W0x h2];generalize sortI ((l.take i).drop a)=s at *;rw[W0J (by omega:s.length<=i-a),W1j (by omega:s.length<=i-a)];simp[W0j,h2]
def Zbh {l:List Int} {a i p:Nat} (h1:a<=i) (h2:i<l.length) (h3:p<=i-a):(mvI l a i p).length=l.length:=by
 have e:=Zbf (l:=l) (a:=a) (i:=i) (by omega);simp[mvI,e];omega
def Zbi {α:Type} (D C:List α) (y x:α) (n:Nat) (h:n=D.length):((D++y::x::C).set (n+1) y).set n x=D++x::y::C:=by
 subst h;rw[W24 _ _ (by omega),W24 _ _ (by omega)];simp
def Zbj {l:List Int} {a i p:Nat} (h1:a<=i) (h2:i<l.length) (h3:p+1<=i-a) :
  ∃ y,(sortI ((l.take i).drop a))[p]? = some y/\(mvI l a i (p+1))[a+p+1]? = some l[i]/\(mvI l a i (p+1))[a+p]? = some y/\((mvI l a i (p+1)).set (a+p+1) y).set (a+p) l[i]=mvI l a i p/\y∈l:=by
 have e:=Zbf (l:=l) (a:=a) (i:=i) (by omega);have hm:∀ y∈sortI ((l.take i).drop a),y∈l:=λy hy=>W1r (W1S (Zbd.1 hy))
 unfold mvI;generalize sortI ((l.take i).drop a)=s at *;have hp:p<s.length:=(by omega);have ta:(l.take a).length=a:=(by simp;omega);have e1:s.take (p+1)=s.take p++[s[p]]:=W08 hp;have e2:s.drop p=s[p]::s.drop (p+1):=W0x hp;have e3:l.getD i 0=l[i]:=(by simp[W0j,h2]);have tp:(s.take p).length=p:=(by simp;omega);refine ⟨s[p],by simp[hp],?_,?_,?_,hm _ (W0e hp)⟩
 . rw[e1,e3,W0o (by omega),ta,W0o (by simp;omega)];have:a+p+1-a-(s.take p++[s[p]]).length=0:=(by simp;omega);rw[this];rfl
 . rw[e1,W0o (by omega),ta,W0U,W0o (by omega),tp];have:a+p-a-p=0:=(by omega);rw[this];rfl
 . rw[e1,e2,e3,W0U];have q:=Zbi (l.take a++s.take p) (s.drop (p+1)++l.drop (i+1)) s[p] l[i] (a+p) (by simp;omega);simp only[W0U,W1e,W18]at q ⊢;exact q
def Zbk {l:List Int} {a i p:Nat} (h1:a<=i) (h2:i<l.length) (h3:p<=i-a)
  (hd:∀ y∈(sortI ((l.take i).drop a)).drop p,l[i]<y) (hc:∀ q,p=q+1->∀ y,(sortI ((l.take i).drop a))[q]? = some y->¬l[i]<y):mvI l a i p=srtI l a (i+1):=by
 have e:=Zbf (l:=l) (a:=a) (i:=i) (by omega);have e3:l.getD i 0=l[i]:=by simp[W0j,h2]
 have e4:(l.take (i+1)).drop a=(l.take i).drop a++[l[i]]:=by
  rw[W08 h2,List.drop_append_of_le_length (by simp;omega)]
 have hs:=Zb9 ((l.take i).drop a);have hp:=Zb8 ((l.take i).drop a);rw[srtI,mvI,e3];rw[Zbb (l:=(l.take (i+1)).drop a) (s:=(sortI ((l.take i).drop a)).take p++l[i]::(sortI ((l.take i).drop a)).drop p) ]
 . simp[W0U]
 . rw[e4];refine List.perm_middle.trans ?_;rw[W11];exact (List.perm_cons _).2 hp |>.trans (List.perm_append_singleton _ _).symm
 . generalize sortI ((l.take i).drop a)=s at *;have hs2:=hs;unfold SrtI at hs ⊢;rw[<- W11 p s,W28]at hs;obtain ⟨t1,t2,t3⟩:=hs;rw[W28];refine ⟨t1,W1l.2 ⟨λy hy=>by have:=hd y hy;omega,t2⟩,λu hu v hv=>?_⟩;rcases W0g.1 hv with rfl|hv
   . match p,hc,h3 with
     |0,_,_=>simp at hu
     | q + 1,hc,h3 =>
       have hq:q<s.length:=(by omega);have hc2:=hc q rfl s[q] (by simp[hq]);obtain ⟨j,hj,rfl⟩:=W0k hu;rw[W1V];have hjq:j<=q:=(by simp at hj;omega);rcases W0q j q with hl|hg
       . have:=W0Y.1 hs2 j q (by omega) hq hl;omega
       . have:j=q:=(by omega);subst this;omega
   . exact t3 u hu v hv
structure Hld where
 id:Int
 fr:Int
 to:Int
 ds:List Int
structure Prt where
 no:Int
 dy:Int
 ho:Int
 dw:Int
 lt:Int
 bk:Int
 lo:Int
deriving DecidableEq
def hoa (h:Hld):List AV:=[.int .i64 h.id,.int .i64 h.fr,.int .i64 h.to,.vsl (h.ds.map ia)]
def ptA (x:Prt):List AV:=[.int .i64 x.no,.int .i64 x.dy,.int .i64 x.ho,.int .i64 x.dw,.int .i64 x.lt,.int .i64 x.bk,.int .u8 x.lo]
def outB (x:Prt) (day:Int):Bool:=decide (x.dy<=day)&&(decide (x.bk = -1)||decide (day<x.bk)) && !decide (x.lo=2)
def Zbl {a b:List Int} (ha:a.Pairwise (· < ·)) (hb:b.Pairwise (· < ·)) (h:∀ x,x∈a↔x∈b):a=b:=by
 have na:a.Nodup:=ha.imp λh=>Int.ne_of_lt h
 have nb:b.Nodup:=hb.imp λh=>Int.ne_of_lt h
 exact List.Perm.eq_of_pairwise (le:=λx y:Int=>x<y) (λx y _ _ h1 h2=>by omega) ha hb ((List.perm_ext_iff_of_nodup na nb).2 h)
def cmpG (p:Int):List Int->List Int
 |[]=>[]
 |x::t=>if x=p then cmpG p t else x::cmpG x t
def cmpI:List Int->List Int
 |[]=>[]
 |a::t=>a::cmpG a t
def Zbm:∀ (l:List Int) (p:Int),SrtI (p::l)->(cmpG p l).Pairwise (· < ·)/\(∀ x∈cmpG p l,p<x)/\∀ x,x∈cmpG p l↔x∈l/\x≠p
 |[],p,_=>by simp[cmpG]
 | a :: t, p,h=>by
   have h1:SrtI (a::t):=(W1l.1 h).2;have h2:p<=a:=(W1l.1 h).1 a (W0H ..);unfold cmpG;by_cases e:a=p
   . rw[if_pos e];subst e;obtain ⟨g1,g2,g3⟩:=Zbm t a h1;refine ⟨g1,g2,λx=>?_⟩;rw[g3]
     constructor
     . rintro ⟨q1,q2⟩;exact ⟨W0z _ q1,q2⟩
     . rintro ⟨q1,q2⟩;rcases W0g.1 q1 with q|q
       . exact absurd q q2
       . exact ⟨q,q2⟩
   . rw [if_neg e];obtain ⟨g1,g2,g3⟩:=Zbm t a h1;have h3:p<a:=(by omega);refine ⟨W1l.2 ⟨λy hy=>g2 y hy,g1⟩,λx hx=>?_,λx=>?_⟩
     . rcases W0g.1 hx with rfl|hx
       . exact h3
       . have:=g2 x hx;omega
     . rw [W0g,W0g,g3]
       constructor
       . rintro (rfl | ⟨q1,q2⟩)
         . exact ⟨.inl rfl,e⟩
         . refine ⟨.inr q1,λq=>?_⟩;subst q;have:=(W1l.1 h1).1 x q1;omega
       . rintro ⟨q|q,q2⟩
         . exact .inl q
         . by_cases q3:x=a
           . exact .inl q3
           . exact .inr ⟨q,q3⟩
def Zbn {l:List Int} (h:SrtI l):(cmpI l).Pairwise (· < ·):=by
 cases l with
 |nil=>exact .nil
 |cons a t=>exact W1l.2 ⟨(Zbm t a h).2.1,(Zbm t a h).1⟩
def Zbo {l:List Int} (h:SrtI l) {x:Int}:x∈cmpI l↔x∈l:=by
 cases l with
 |nil=>rfl
 | cons a t =>
   show x∈a::cmpG a t↔_;rw[W0g,W0g,(Zbm t a h).2.2];by_cases e:x=a <;> simp[e]
def setI (l:List Int):List Int:=cmpI (sortI l)
def Zbp (l:List Int):(setI l).Pairwise (· < ·):=Zbn (Zb9 l)
def Zbq {l:List Int} {x:Int}:x∈setI l↔x∈l:=(Zbo (Zb9 l)).trans Zbd
def Zbr {l s:List Int} (hs:s.Pairwise (· < ·)) (h:∀ x,x∈s↔x∈l):setI l=s:=Zbl (Zbp l) hs λx=>Zbq.trans (h x).symm
def r9:List Int:=[0,1,2,3,4,5,6,7,8]
def Zbs {x:Int}:x∈r9↔0<=x/\x<=8:=by simp[r9];omega
def r9_lt:r9.Pairwise (· < ·):=by decide
def Zbt {l:List Int} (h:l.Pairwise (· < ·)) {s:Int} (hs:s∈l):l.drop (l.idxOf s)=s::l.filter λx=>decide (s<x):=by
 induction l with
 |nil=>cases hs
 | cons a t ih =>
   rw[W1l]at h;by_cases e:a=s
   . subst e;have q:t.filter (λx=>decide (a<x))=t:=List.filter_eq_self.2 λx hx=>by simpa using h.1 x hx
     simp[q]
   . have hs2:s∈t:=by
      rcases W0g.1 hs with q|q
      . exact absurd q.symm e
      . exact q
     have q:=h.1 s hs2;have e2:(a == s)=false:=(by simpa using e);rw[List.idxOf_cons,e2];simp only[cond_false,W1D];rw[ih h.2 hs2,List.filter_cons,if_neg (by simp;omega)]
def Zbu {pp:List Int} {su:Int} (hp:∀ x∈pp,0<=x/\x<=8):(setI (pp++[su])).drop ((setI (pp++[su])).idxOf su)=su::r9.filter λn=>decide (su<n)&&pp.contains n:=by
 have hm:su∈setI (pp++[su]):=Zbq.2 (by simp);rw[Zbt (Zbp _) hm]
 congr 1
 refine Zbl ((Zbp _).filter _) (r9_lt.filter _) λx=>?_
 simp only[W0G,Zbq,W0h,W0B,W0b,W01,W0w,Zbs]
 constructor
 . rintro ⟨q|q,q2⟩
   . exact ⟨hp x q,q2,q⟩
   . omega
 . rintro ⟨-,q2,q⟩;exact ⟨.inl q,q2⟩
abbrev Jh:=List Hld
abbrev Jp:=List Prt
def clP (x y:Prt):Bool:=decide (x.ho=y.ho)||decide (x.dw=y.dw)
def apD:List Prt->Nat->List Prt->Option (List Prt)
 |_,0,tk=>some tk
 |[],_+1,_=>none
 | x::t,m+1,tk=>if tk.any (clP x)=true then apD t (m+1) tk else match apD t m (tk++[x]) with
   |some o=>some o
   |none=>apD t (m+1) tk
def frP (x y:Prt):Prop:=clP x y=false
def Zbv (x y:Prt):clP x y=clP y x:=by simp[clP,eq_comm]
def MfP (l:Jp) (m:Nat) (tk M:Jp):Prop:=M.Sublist l/\M.length=m/\M.Pairwise frP/\∀ x∈M,∀ y∈tk,frP x y
def Zbw:∀ {l:Jp} {m:Nat} {tk o:Jp},apD l m tk=some o->∃ M,o=tk++M/\MfP l m tk M
 | l,0,tk,o,h=>by
   have h:some tk=some o:=by cases l <;> exact h
   cases h
   exact ⟨[],by simp,List.nil_sublist _,rfl,.nil,by simp⟩
 |[],m+1,tk,o,h=>by cases h
 | x :: t,m+1,tk,o,h=>by
   unfold apD at h;by_cases e:tk.any (clP x)=true
   . rw[if_pos e]at h;obtain ⟨M,h1,h2,h3⟩:=Zbw h;exact ⟨M,h1,h2.cons _,h3⟩
   . rw [if_neg e]at h
     have free:∀ y∈tk,clP x y=false:=by
      intro y hy
      cases q:clP x y with
      |false=>rfl
      |true=>exact absurd (W14.2 ⟨y,hy,q⟩) e
     cases q:apD t m (tk++[x]) with
     | some o' =>
       rw[q]at h
       cases h
       obtain ⟨M,h1,h2,h3,h4,h5⟩:=Zbw q;refine ⟨x::M,by rw[h1];simp,h2.cons_cons _,by simp[h3],W1l.2 ⟨λy hy=>?_,h4⟩,?_⟩
       . have:=h5 y hy x (by simp);exact (Zbv x y).trans this
       . intro z hz y hy;rcases W0g.1 hz with rfl|hz
         . exact free y hy
         . exact h5 z hz y (W0h.2 (.inl hy))
     | none =>
       rw[q]at h;obtain ⟨M,h1,h2,h3⟩:=Zbw h;exact ⟨M,h1,h2.cons _,h3⟩
def bitL (ids:List Int) (s:Nat):List Int:=((List.range ids.length).filter λi=>s.testBit i).map λi=>ids.getD i 0
def ndL (dl:List Int) (l:Jp) (a:List Int):List Int:=dl.filter λd=>l.any λx=>decide (x.dw=d) && !a.contains x.ho
def plN (ids dl:List Int) (l:Jp) (s:Nat):List Int×List Int:=(bitL ids s,ndL dl l (bitL ids s))
def lexB:List Int->List Int->Bool
 |a::s,b::t=>if a=b then lexB s t else decide (a<b)
 |_,_=>false
def bfr (a b:List Int):Bool:=if a.length=b.length then lexB a b else decide (a.length<b.length)
def szP (p:List Int×List Int):Nat:=p.1.length+p.2.length
def btB (p q:List Int×List Int):Bool:=decide (szP p<szP q)||(decide (szP p=szP q)&&bfr p.1 q.1)
def caN (ids dl:List Int) (l:Jp):Nat->List Int×List Int
 |0=>plN ids dl l 0
 |s+1=>if btB (plN ids dl l (s+1)) (caN ids dl l s)=true then plN ids dl l (s+1) else caN ids dl l s
def caE (ids dl:List Int) (l:Jp):List Int×List Int:=caN ids dl l (2 ^ ids.length-1)
def Zbx (ids dl:List Int) (l:Jp):∀ n,∃ s,s<=n/\caN ids dl l n=plN ids dl l s
 |0=>⟨0,W0f _,rfl⟩
 | n + 1=>by
   unfold caN
   split
   . exact ⟨n+1,W0f _,rfl⟩
   . obtain ⟨s,h1,h2⟩:=Zbx ids dl l n;exact ⟨s,by omega,h2⟩
def Zby (ids dl:List Int) (l:Jp):∃ s,s<2 ^ ids.length/\caE ids dl l=plN ids dl l s:=by
 obtain ⟨s,h1,h2⟩:=Zbx ids dl l (2 ^ ids.length-1);have:=Nat.two_pow_pos ids.length;exact ⟨s,by omega,h2⟩
section
open Qq Tryz
def Zbz:RCode :=
 S [r 0 [w 6 (.alloc [O,O,.int .u8 0,O,O,O,O,O,.bool false,.int .u8 0])],S [r 1 [m 9 0,w 10 (.nilck (.t 9)),f 11 0 10,f 12 1 11,l 13 12,e 14 13,k 15 .sub 14 I,m 7 15],.block 0 (.loop (S [S [r 2 [m 16 7,k 17 .geq 16 O],.cond (.t 17) .skip (.exit 0)],.block 1 (S [r 4 [m 20 0,w 21 (.nilck (.t 20)),f 22 0 21,f 23 1 22,l 24 23,m 25 7,i 26 10 24 25,L 27 10 26,w 8 (.alloc [O,O,.int .u8 0,O,O,O,O,O,.bool false,.int .u8 0]),s 10 8 27],r 5 [f 28 3 8,l 29 28,m 30 2,o 31 .eql 29 30,m 32 31,g 32 true (m 33 1),g 32 true (m 34 7),g 32 true (w 35 (.callv (.t 33) [.t 34])),v 36 32 35],K 36 6 [L 37 10 8,s 10 6 37]]),r 3 [m 18 7,k 19 .sub 18 I,m 7 19]]))],r 7 [w 38 (.build [O,O,.int .u8 0,O,O,O,O,O,.bool false,.int .u8 0] [(4,1,.c I)]),s 10 6 38],.ret]
def ZbA:List RRes:=[.c 6 true 10]
def ZbB {G:Jg} {objs objs':List (Nat×AObj)} {args:List AV} {v:AV} (hn:args.length<=f113.ntmps) (h:∀ R:Run,R.G=G->R.Top->AR prog R Zbz ⟨iniT 0 args,objs⟩ (FinB ZbA v objs')):PB prog G 113 objs args v objs' :=
 PB_of func113 rfl (by kernel_rfl) (rc:=Zbz) (by kernel_rfl) (rs:=ZbA) (by kernel_rfl) hn (λR _ hG hr=>h R hG hr)
end
section
open Qq Tryz
def ZbC:RCode :=
 S [r 0 [n 6 (.bool false)],r 1 [m 7 0,m 8 1,o 9 .geq 7 8,m 10 9,g 10 true (m 11 0),g 10 true (m 12 2),g 10 true (o 13 .leq 11 12),v 14 10 13,m 6 14],.ret]
def ZbD:List RRes:=[.t 6]
def ZbE:PCt prog 176 f176 ZbC ZbD:=pcT func176 rfl
def ZbF:RCode :=
 S [r 0 [b 2 0,n 4 (.bool false)],r 1 [f 12 1 2,l 13 12,m 14 1,i 15 10 13 14,L 16 10 15,w 5 (.alloc [O,O,.int .u8 0,O,O,O,O,O,.bool false,.int .u8 0]),s 10 5 16],S [r 2 [f 17 0 5,l 18 17,w 19 (.call 176 [.t 18,.c I,.c (.int .i64 9999)]),t 20 19,m 21 20,g 21 false (f 22 1 5),g 21 false (l 23 22),g 21 false (w 24 (.call 176 [.t 23,.c O,.c (.int .i64 14610)])),g 21 false (t 25 24),u 26 21 25,m 27 26,g 27 false (f 28 2 5),g 27 false (l 29 28),g 27 false (k 30 .gtr 29 (.int .u8 2)),u 31 27 30,m 32 31,g 32 false (f 33 5 5),g 32 false (l 34 33),g 32 false (f 35 6 5),g 32 false (l 36 35),g 32 false (w 37 (.call 176 [.t 34,.c I,.t 36])),g 32 false (t 38 37),u 39 32 38,m 40 39,g 40 false (f 41 6 5),g 40 false (l 42 41),g 40 false (k 43 .gtr 42 (.int .i64 999)),u 44 40 43,m 45 44,g 45 false (f 46 9 5),g 45 false (l 47 46),g 45 false (k 48 .gtr 47 (.int .u8 3)),u 49 45 48],K 49 3 [n 4 (.bool false)]],S [r 4 [f 50 3 5,l 51 50,k 52 .eql 51 O,m 53 52,g 53 true (f 54 4 5),g 53 true (l 55 54),g 53 true (k 56 .eql 55 O),v 57 53 56],.cond (.t 57) (S [r 5 [f 58 7 5,l 59 58,k 60 .eql 59 O],K 60 6 [n 4 (.bool false)]]) (S [r 7 [f 62 0 2,L 63 1 62,f 64 3 5,l 65 64,f 66 4 5,l 67 66,w 68 (.build [O,O] [(0,1,.t 65),(1,1,.t 67)]),c 69 172 [63,68],m 61 69,x 70 0 61,x 71 1 61,w 6 (.alloc [O,O,.int .u8 0,.nils,.nils]),s 5 6 70,m 7 71],r 8 [m 72 7,t 73 72],K 73 9 [n 4 (.bool false)]])],S [r 10 [f 74 4 5,l 75 74,k 76 .lss 75 (.int .i64 2),m 77 76,g 77 true (f 78 8 5),g 77 true (l 79 78),g 77 true (m 80 79),g 80 false (f 81 9 5),g 80 false (l 82 81),g 80 false (k 83 .gtr 82 (.int .u8 0)),g 77 true (u 84 80 83),v 85 77 84],K 85 11 [n 4 (.bool false)]],r 12 [f 86 7 5,l 87 86,k 88 .eql 87 O,m 8 88],S [r 13 [n 9 O],.block 0 (.loop (S [S [r 14 [m 89 9,m 90 1,o 91 .lss 89 90],.cond (.t 91) .skip (.exit 0)],.block 1 (S [r 16 [f 94 1 2,l 95 94,m 96 9,i 97 10 95 96,L 98 10 97,w 10 (.alloc [O,O,.int .u8 0,O,O,O,O,O,.bool false,.int .u8 0]),s 10 10 98],S [r 17 [f 99 0 10,l 100 99,f 101 0 5,l 102 101,o 103 .eql 100 102],K 103 18 [n 4 (.bool false)]],r 19 [m 104 8,m 105 104,g 105 false (f 106 0 10),g 105 false (l 107 106),g 105 false (f 108 7 5),g 105 false (l 109 108),g 105 false (o 110 .eql 107 109),u 111 105 110,m 8 111]]),r 15 [m 92 9,k 93 .add 92 I,m 9 93]]))],S [r 20 [m 112 1,k 113 .eql 112 O],K 113 21 [m 114 8,m 4 114]],r 22 [f 115 1 2,l 116 115,m 117 1,k 118 .sub 117 I,i 119 10 116 118,L 120 10 119,w 11 (.alloc [O,O,.int .u8 0,O,O,O,O,O,.bool false,.int .u8 0]),s 10 11 120],r 23 [m 121 8,m 122 121,g 122 true (f 123 1 11),g 122 true (l 124 123),g 122 true (f 125 1 5),g 122 true (l 126 125),g 122 true (o 127 .lss 124 126),g 122 true (m 128 127),g 128 false (f 129 1 11),g 128 false (l 130 129),g 128 false (f 131 1 5),g 128 false (l 132 131),g 128 false (o 133 .eql 130 132),g 128 false (m 134 133),g 134 true (f 135 0 11),g 134 true (l 136 135),g 134 true (f 137 0 5),g 134 true (l 138 137),g 134 true (o 139 .lss 136 138),g 128 false (v 140 134 139),g 122 true (u 141 128 140),v 142 122 141,m 4 142],.ret]
def ZbG:List RRes:=[.t 4]
def ZbH:PCt prog 171 f171 ZbF ZbG:=pcT func171 rfl
def ZbI:RCode :=
 S [r 0 [b 1 0,n 2 (.bool false)],S [r 1 [f 5 1 1,l 6 5,e 7 6,k 8 .gtr 7 (.int .i64 12)],K 8 2 [n 2 (.bool false)]],r 3 [n 3 O],S [r 4 [n 4 O],.block 0 (.loop (S [S [r 5 [m 9 4,f 10 1 1,l 11 10,e 12 11,o 13 .lss 9 12],.cond (.t 13) .skip (.exit 0)],.block 1 (S [S [r 7 [L 16 2 1,m 17 4,c 18 171 [16,17],t 19 18],K 19 8 [n 2 (.bool false)]],r 9 [f 20 1 1,l 21 20,m 22 4,i 23 10 21 22,f 24 2 23,l 25 24,k 26 .eql 25 (.int .u8 1)],.cond (.t 26) (r 10 [m 27 3,k 28 .add 27 I,m 3 28]) .skip]),r 6 [m 14 4,k 15 .add 14 I,m 4 15]]))],r 11 [m 29 3,k 30 .leq 29 (.int .i64 5),m 2 30],.ret]
def ZbJ:List RRes:=[.t 2]
def ZbK:PCt prog 134 f134 ZbI ZbJ:=pcT func134 rfl
def ZbL:RCode :=
 S [r 0 [b 1 0,n 2 O],S [r 1 [f 4 0 1,L 5 1 4,c 6 133 [5],m 3 6],r 2 [m 7 3,k 8 .neq 7 O],K 8 3 [m 9 3,m 2 9]],S [r 4 [L 10 2 1,c 11 134 [10],t 12 11],K 12 5 [n 2 (.int .i64 30)]],r 6 [n 2 O],.ret]
def ZbM:List RRes:=[.t 2]
def ZbN:PCt prog 77 f77 ZbL ZbM:=pcT func77 rfl
def ZbO:RCode :=
 S [r 0 [b 1 0,n 2 (.bool false)],r 1 [f 3 0 1,L 4 1 3,c 5 125 [4],m 6 5,g 6 false (f 7 1 1),g 6 false (l 8 7),g 6 false (e 9 8),g 6 false (k 10 .gtr 9 (.int .i64 16)),u 11 6 10,m 2 11],.ret]
def ZbP:List RRes:=[.t 2]
def ZbQ:PCt prog 67 f67 ZbO ZbP:=pcT func67 rfl
end
def ZbR {α:Type} {l:List α} {k:Nat} (h:k<l.length) (p:α->Bool):(l.take (k+1)).any p=((l.take k).any p||p l[k]):=by
 rw[W08 h,W2g];simp
def Chk (S:St) (Q:Prop) (Φ:Exit->St->Prop):Exit->St->Prop
 |.normal,s=>Ym s S/\Q
 |.ret,s=>Φ .ret s
 |_,_=>False
section
variable {P:Program} {R:Run} {S s:St} {Q:Prop} {Φ:Exit->St->Prop}
def ZbS:Chk S Q Φ .normal s=(Ym s S/\Q):=rfl
def ZbT:Chk S Q Φ .ret s=Φ .ret s:=rfl
attribute [simp] ZbS ZbT
def ZbU {a b:RCode} {st S:St} {Φ:Exit->St->Prop} (h:AR P R a st λe s=>e = .normal/\Ym s S) (hb:AR P R b S Φ):AR P R (.seq a b) st Φ :=
 Z1M (Z2I h λe s hs=>by obtain ⟨rfl,hw⟩:=hs;exact Z2Q hw hb)
def ZbV {a b:RCode} {st S:St} {Q:Prop} {Φ:Exit->St->Prop} (h:AR P R a st (Chk S Q Φ)) (hb:Q->AR P R b S Φ):AR P R (.seq a b) st Φ :=
 Z1M (Z2I h λe s hs=>by
  cases e with
  |normal=>exact Z2Q hs.1 (hb hs.2)
  |ret=>exact hs
  |_=>exact hs.elim)
end
def ZbW (n lo hi:Int):PC prog G 176 [.int .i64 n,.int .i64 lo,.int .i64 hi] (.bool (inR n lo hi)):=by
 (refine ZbE rfl λR hG hrd=>Qga ?_;subst hG)
 by_cases h1:lo<=n <;> by_cases h2:n<=hi <;> simp -implicitDefEqProofs[ZbC,ZbD,inR,h1,h2]
def ZbX (r:Jr) (l:Jl) (i:Nat) (hi:i<l.length) (hw:WfN l) (hr:SmlR r):PC prog G 171 [.agg [.vsl (r.map isa),.vsl (l.map na)],.int .i64 i] (.bool (noteB r l i)):=by
 have hl:=hw.1;unfold Sml at hl;have hb:=hw.2 l[i] (W0e hi);have hx:=ZaZ hi;have hf:=Z8q (G:=G) r l[i].dr l[i].lt hr.1;rw[rega]at hf;obtain ⟨x,hxx⟩:=Qex (l[i]);rw[<- hxx]at hx hb hf;have hlx:l[i]=x:=hxx.symm;have hna:na x=[.int .i64 x.nu,.int .i64 x.dy,.int .u8 x.sg,.int .i64 x.dr,.int .i64 x.lt,.int .i64 x.fr,.int .i64 x.tu,.int .i64 x.ca,.bool x.up,.int .u8 x.wy]:=rfl;refine ZbH rfl λR hG hrd=>?_
 subst hG;unfold ZbF;refine ZbU (S:=⟨[(1,.int .i64 i),(2,.ptr 2 0)],[(2,.box [.vsl (r.map isa),.vsl (l.map na)])]⟩) (Qga ?_) ?_
 . simp -implicitDefEqProofs
   (refine Wkc ?_;simp only[Wkl,and_true];(try simp[lk,Yc,Ya,AV.keys]))
 refine ZbU (S:=⟨[(1,.int .i64 i),(2,.ptr 2 0),(5,.ptr 5 0)],[(2,.box [.vsl (r.map isa),.vsl (l.map na)]),(5,.box (na x))]⟩) (Qga ?_) ?_
 . simp -implicitDefEqProofs[hi,hlx,hna]
   ((try simp only[hna]);refine Ym.sub (by simp[lk,Ya,AV.keys,hna]) ?_;simp only[hna,Wkl,and_true];(try simp[lk,Yc,Ya,AV.keys,hna]))
 have nf:∀ c:Bool,c=false->(c&&noteB r l i)=false:=λc h=>by rw[h];rfl
 refine ZbV (S:=⟨[(1,.int .i64 i),(2,.ptr 2 0),(5,.ptr 5 0)],[(2,.box [.vsl (r.map isa),.vsl (l.map na)]),(5,.box (na x))]⟩) (Q:=cN1 x=true/\cN2 x=true/\cN3 x=true) (Qga ?_) ?_
 . simp -implicitDefEqProofs[hna];refine Qco (ZbW x.nu 1 9999) ?_
   cases h1:inR x.nu 1 9999
   . have e:noteB r l i=false:=(by simp[noteB,hx,cN1,h1]);simp -implicitDefEqProofs[e,ZbG]
   simp -implicitDefEqProofs;refine Qco (ZbW x.dy 0 14610) ?_
   cases h2:inR x.dy 0 14610
   . have e:noteB r l i=false:=(by simp[noteB,hx,cN1,h2]);simp -implicitDefEqProofs[e,ZbG]
   by_cases h3:2<x.sg
   . have e:noteB r l i=false:=by
      have:¬x.sg<=2:=(by omega);simp[noteB,hx,cN2,this]
     simp -implicitDefEqProofs[h3,e,ZbG]
   simp -implicitDefEqProofs[h3];refine Qco (ZbW x.fr 1 x.tu) ?_
   cases h4:inR x.fr 1 x.tu
   . have e:noteB r l i=false:=by
      have h4:=of_decide_eq_false h4
      have:cN3 x=false:=by
       cases q:cN3 x
       . rfl
       . simp only[cN3,inR,W01,W0b]at q;exact absurd ⟨q.1.1.1,q.2⟩ h4
      simp[noteB,hx,this]
     simp -implicitDefEqProofs[e,ZbG]
   by_cases h5:999<x.tu
   . have e:noteB r l i=false:=by
      have:cN3 x=false:=by
       cases q:cN3 x
       . rfl
       . simp only[cN3,inR,W01,W0b]at q;omega
      simp[noteB,hx,this]
     simp -implicitDefEqProofs[h5,e,ZbG]
   by_cases h6:3<x.wy
   . have e:noteB r l i=false:=by
      have:¬x.wy<=3:=(by omega);simp[noteB,hx,cN2,this]
     simp -implicitDefEqProofs[h5,h6,e,ZbG]
   simp -implicitDefEqProofs[h5,h6];refine ⟨?_,?_,?_,?_⟩
   . ((try simp only[hna]);refine Ym.sub (by simp[lk,Ya,AV.keys,hna]) ?_;simp only[hna,Wkl,and_true];(try simp[lk,Yc,Ya,AV.keys,hna]))
   . rw[cN1,h1,h2];rfl
   . have q1:x.sg<=2:=(by omega);have q2:x.wy<=3:=(by omega);simp[cN2,q1,q2]
   . have h4:=W0X h4;simp only[cN3,inR,W01,W0b];omega
 rintro ⟨k1,k2,k3⟩;refine ZbV (S:=⟨[(1,.int .i64 i),(2,.ptr 2 0),(5,.ptr 5 0)],[(2,.box [.vsl (r.map isa),.vsl (l.map na)]),(5,.box (na x))]⟩) (Q:=cN4 r x=true) (Qga ?_) ?_
 . by_cases hz:x.dr=0/\x.lt=0
   . by_cases hc:x.ca=0
     . have e:noteB r l i=false:=(by simp[noteB,hx,cN4,hz,hc]);simp -implicitDefEqProofs[hna,hz.1,hz.2,hc,e,ZbG]
     . simp -implicitDefEqProofs[hna,hz.1,hz.2,hc];refine ⟨?_,by simp[cN4,hz,hc]⟩
       ((try simp only[hna,hz.1,hz.2]);refine Ym.sub (by simp[lk,Ya,AV.keys,hna,hz.1,hz.2]) ?_;simp only[hna,hz.1,hz.2,Wkl,and_true];(try simp[lk,Yc,Ya,AV.keys,hna,hz.1,hz.2]))
   . have e4:cN4 r x=(findN x.dr x.lt r).isSome:=by simp[cN4,hz]
     have hA:∀ b:Bool,b=(decide (x.dr=0)&&decide (x.lt=0))->b=false:=λb e=>by
      rw[e];by_cases q:x.dr=0
      . simp[q,show ¬x.lt=0 from λh=>hz ⟨q,h⟩]
      . simp[q]
     by_cases q:x.dr=0
     case' pos =>
      have q2:¬x.lt=0:=λh=>hz ⟨q,h⟩
      simp -implicitDefEqProofs[hna,q,q2];rw[q]at hf
     case' neg=>simp -implicitDefEqProofs[hna,q]
     all_goals
      refine Qco (hf) ?_
      cases hq:findN x.dr x.lt r with
      | none =>
        have e:noteB r l i=false:=by simp[noteB,hx,e4,hq]
        first
         |simp -implicitDefEqProofs[hq,fndA,noIs,e,ZbG];done
         |(rw[q]at hq;simp -implicitDefEqProofs[hq,fndA,noIs,e,ZbG];done)
      | some y =>
        have ey:isa y=[.int .i64 y.d,.int .i64 y.l,.int .u8 y.k,.vsl (y.its.map ita),.vsl (y.dms.map dma)]:=rfl;have hq4:cN4 r x=true:=by rw[e4,hq];rfl
        first
         |(simp -implicitDefEqProofs[hq,fndA,ey];refine ⟨?_,hq4⟩;((try simp only[hna]);refine Ym.sub (by simp[lk,Ya,AV.keys,hna]) ?_;simp only[hna,Wkl,and_true];(try simp[lk,Yc,Ya,AV.keys,hna]));done)
         |(rw[q]at hq;simp -implicitDefEqProofs[hq,fndA,ey];refine ⟨?_,hq4⟩;((try simp only[hna,q]);refine Ym.sub (by simp[lk,Ya,AV.keys,hna,q]) ?_;simp only[hna,q,Wkl,and_true];(try simp[lk,Yc,Ya,AV.keys,hna,q]));done)
 intro k4;refine ZbV (S:=⟨[(1,.int .i64 i),(2,.ptr 2 0),(5,.ptr 5 0)],[(2,.box [.vsl (r.map isa),.vsl (l.map na)]),(5,.box (na x))]⟩) (Q:=cN5 x=true) (Qga ?_) ?_
 . by_cases q1:x.lt<2
   . have q1':¬2<=x.lt:=by omega
     cases q2:x.up
     . by_cases q3:0<x.wy
       . have e:noteB r l i=false:=by
          have:¬x.wy=0:=(by omega);simp[noteB,hx,cN5,q1',q2,this]
         simp -implicitDefEqProofs[hna,q1,q2,q3,e,ZbG]
       . simp -implicitDefEqProofs[hna,q1,q2,q3];refine ⟨?_,?_⟩
         . ((try simp only[hna,q2]);refine Ym.sub (by simp[lk,Ya,AV.keys,hna,q2]) ?_;simp only[hna,q2,Wkl,and_true];(try simp[lk,Yc,Ya,AV.keys,hna,q2]))
         . have:x.wy=0:=(by omega);simp[cN5,q2,this]
     . have e:noteB r l i=false:=(by simp[noteB,hx,cN5,q1',q2]);simp -implicitDefEqProofs[hna,q1,q2,e,ZbG]
   . have q1':2<=x.lt:=(by omega);simp -implicitDefEqProofs[hna,q1];refine ⟨?_,by simp[cN5,q1']⟩
     ((try simp only[hna]);refine Ym.sub (by simp[lk,Ya,AV.keys,hna]) ?_;simp only[hna,Wkl,and_true];(try simp[lk,Yc,Ya,AV.keys,hna]))
 intro k5;have en:noteB r l i=(cN6 l i x&&cN7 l i x&&cN8 l i x):=(by rw[noteB,hx,k1,k2,k3,k4,k5];rfl);rw[en];refine Qga ?_;simp -implicitDefEqProofs[hna]
 refine Z8a (λk=>⟨[(9,.int .i64 k),(8,.bool (decide (x.ca=0)||(l.take k).any λy=>decide (y.nu=x.ca))),(1,.int .i64 i),(2,.ptr 2 0),(5,.ptr 5 0)],[(2,.box [.vsl (r.map isa),.vsl (l.map na)]),(5,.box (na x))]⟩)
  (λk=>((l.take k).any λy=>decide (y.nu=x.nu))=false) i ?_ (by simp) ?_ ?_
 . ((try simp only[hna,W1g,List.any_nil,Bool.or_false]);refine Ym.sub (by simp[lk,Ya,AV.keys,hna,W1g,List.any_nil,Bool.or_false]) ?_;simp only[hna,W1g,List.any_nil,Bool.or_false,Wkl,and_true];(try simp[lk,Yc,Ya,AV.keys,hna,W1g,List.any_nil,Bool.or_false]))
 . intro k hk hI;refine Qga ?_;have hkl:k<l.length:=(by omega);have wk:i64.wrap ((k:Int)+1)=(k:Int)+1:=Yf;have a1:=ZbR hkl λy=>decide (y.nu=x.nu)
   have a2:=ZbR hkl λy=>decide (y.nu=x.ca)
   have hnk:na l[k]=[.int .i64 l[k].nu,.int .i64 l[k].dy,.int .u8 l[k].sg,.int .i64 l[k].dr,.int .i64 l[k].lt,.int .i64 l[k].fr,.int .i64 l[k].tu,.int .i64 l[k].ca,.bool l[k].up,.int .u8 l[k].wy]:=rfl;by_cases e:l[k].nu=x.nu
   . have h7:cN7 l i x=false:=by
      have:((l.take i).any λy=>decide (y.nu=x.nu))=true:=W14.2 ⟨l[k],by rw[W1Q];exact ⟨k,by omega,rfl⟩,by simp[e]⟩;rw[cN7,this];rfl
     simp -implicitDefEqProofs[hk,hkl,hna,hnk,e];refine Qgr ?_;simp -implicitDefEqProofs[h7,ZbG]
   . have hI2:((l.take (k+1)).any λy=>decide (y.nu=x.nu))=false:=by rw[a1,hI];simp[e]
     cases hB:(decide (x.ca=0)||(l.take k).any λy=>decide (y.nu=x.ca))
     . have hB2:(decide (x.ca=0)||(l.take (k+1)).any λy=>decide (y.nu=x.ca))=decide (l[k].nu=x.ca):=(by rw[a2,<- Bool.or_assoc,hB];simp);simp -implicitDefEqProofs[hk,hkl,hna,hnk,e,hB,wk];refine ⟨?_,by simpa using hI2⟩
       ((try simp only[hna,hB2]);refine Ym.sub (by simp[lk,Ya,AV.keys,hna,hB2]) ?_;simp only[hna,hB2,Wkl,and_true];(try simp[lk,Yc,Ya,AV.keys,hna,hB2]))
     . have hB2:(decide (x.ca=0)||(l.take (k+1)).any λy=>decide (y.nu=x.ca))=true:=(by rw[a2,<- Bool.or_assoc,hB];rfl);simp -implicitDefEqProofs[hk,hkl,hna,hnk,e,hB,wk];refine ⟨?_,by simpa using hI2⟩
       ((try simp only[hna,hB2]);refine Ym.sub (by simp[lk,Ya,AV.keys,hna,hB2]) ?_;simp only[hna,hB2,Wkl,and_true];(try simp[lk,Yc,Ya,AV.keys,hna,hB2]))
 . intro hI;refine Qga ?_;have h7:cN7 l i x=true:=(by rw[cN7,hI];rfl);have h6:(decide (x.ca=0)||(l.take i).any λy=>decide (y.nu=x.ca))=cN6 l i x:=rfl;rw[h6];simp -implicitDefEqProofs[hna];refine Qgr ?_
   cases i with
   |zero=>simp -implicitDefEqProofs[h7,cN8,ZbG]
   | succ k =>
     have hkl:k<l.length:=(by omega);have w1:i64.wrap ((k:Int)+1-1)=(k:Int):=(by rw[Yf (by omega) (by omega)];omega);have w2:i64.wrap (k:Int)=(k:Int):=Yf;have i0:¬(k:Int)+1=0:=(by omega);have ek:=ZaZ hkl;have hnk:na l[k]=[.int .i64 l[k].nu,.int .i64 l[k].dy,.int .u8 l[k].sg,.int .i64 l[k].dr,.int .i64 l[k].lt,.int .i64 l[k].fr,.int .i64 l[k].tu,.int .i64 l[k].ca,.bool l[k].up,.int .u8 l[k].wy]:=rfl;have e8:cN8 l (k+1) x=(decide (l[k].dy<x.dy)||(decide (l[k].dy=x.dy)&&decide (l[k].nu<x.nu))):=(by rw[cN8,ek]);rw[e8]
     cases h6:cN6 l (k+1) x
     . simp -implicitDefEqProofs[h7,i0,w1,w2,hkl,hnk,hna,h6,ZbG]
     by_cases q1:l[k].dy<x.dy
     . simp -implicitDefEqProofs[h7,i0,w1,w2,hkl,hnk,hna,q1,h6,ZbG]
     by_cases q2:l[k].dy=x.dy
     . have q1':¬x.dy<x.dy:=(by omega);simp -implicitDefEqProofs[h7,i0,w1,w2,hkl,hnk,hna,q2,h6,ZbG]
     . simp -implicitDefEqProofs[h7,i0,w1,w2,hkl,hnk,hna,q1,q2,h6,ZbG]
def ZbY (r:Jr) (l:Jl) (hw:WfN l) (hr:SmlR r):PC prog G 134 [.agg [.vsl (r.map isa),.vsl (l.map na)]] (.bool (Zb2 r l)):=by
 (refine ZbK rfl λR hG hrd=>Qga ?_;subst hG)
 by_cases h0:12<l.length
 . have h0':(12:Int)<l.length:=by omega
   have e:Zb2 r l=false:=by
    have:¬l.length<=12:=(by omega);simp[Zb2,this]
   simp -implicitDefEqProofs[ZbI,ZbJ,h0,h0',e]
 have h0':¬(12:Int)<l.length:=(by omega);simp -implicitDefEqProofs[ZbI,ZbJ,h0,h0'];refine Z8a (λi=>⟨[(4,.int .i64 i),(3,.int .i64 ((opN l i).length:Nat)),(1,.ptr 1 0)],[(1,.box [.vsl (r.map isa),.vsl (l.map na)])]⟩) (λi=>∀ j,j<i->noteB r l j=true) l.length (by (first|exact Ym.tm (by simp[lk,opN])|exact Ym.sub (by simp[lk,Ya,AV.keys,opN]) (by simp[lk,Yc,Ya,AV.keys,opN]))) (by simp) ?_ ?_
 . intro i hi he;refine Qga ?_;have wi:i64.wrap ((i:Int)+1)=(i:Int)+1:=Yf;have hn:=ZbX (G:=R.G) r l i hi hw hr;have sc:=Zb0 hi;have ol:=Zb1 l i;have wo:i64.wrap (((opN l i).length:Int)+1)=((opN l i).length:Int)+1:=Yf;simp -implicitDefEqProofs[hi];refine Qco (hn) ?_
   cases hb:noteB r l i
   . have e:Zb2 r l=false:=by
      cases q:Zb2 r l
      . rfl
      . simp only[Zb2,W01]at q;have:=Z8r.1 q.1.2 i hi;rw[hb]at this;cases this
     simp -implicitDefEqProofs;refine Qgr ?_;simp -implicitDefEqProofs[e]
   . have he2:∀ j,j<i+1->noteB r l j=true:=λj hj=>by
      rcases W0q j i with h1|h1
      . exact he j h1
      . obtain rfl:j=i:=(by omega);exact hb
     by_cases q:l[i].sg=1
     . rw[if_pos q]at sc;simp -implicitDefEqProofs[hi,na,q,wo,wi];refine ⟨?_,he2⟩
       (first|exact Ym.tm (by simp[lk,sc])|exact Ym.sub (by simp[lk,Ya,AV.keys,sc]) (by simp[lk,Yc,Ya,AV.keys,sc]))
     . rw[if_neg q]at sc;simp -implicitDefEqProofs[hi,na,q,wi];refine ⟨?_,he2⟩
       (first|exact Ym.tm (by simp[lk,sc])|exact Ym.sub (by simp[lk,Ya,AV.keys,sc]) (by simp[lk,Yc,Ya,AV.keys,sc]))
 . intro he;refine Qga ?_
   have e:Zb2 r l=decide ((opN l l.length).length<=5):=by
    have h1:(List.range l.length).all (noteB r l)=true:=Z8r.2 he;have h2:l.length<=12:=(by omega);simp[Zb2,h1,h2]
   have h5:decide (((opN l l.length).length:Int)<=5)=decide ((opN l l.length).length<=5):=decide_eq_decide.2 (by omega);simp -implicitDefEqProofs;refine Qgr ?_;simp -implicitDefEqProofs[e,h5]
def ZbZ (r:Jr) (l:Jl) (hw:WfN l) (hr:Wf r):PC prog G 77 [.agg [.vsl (r.map isa),.vsl (l.map na)]] (.int .i64 (chN r l)):=by
 have hc:=Z8W (G:=G) r hr;rw[<- ZaQ,rega]at hc
 (refine ZbN rfl λR hG hrd=>Qga ?_;subst hG)
 simp -implicitDefEqProofs[ZbL,ZbM];refine Qco (hc) ?_;by_cases h:openV r=0
 . simp -implicitDefEqProofs[h];refine Qco (ZbY r l hw hr.1) ?_
   cases q:Zb2 r l <;> simp -implicitDefEqProofs[chN,h,q]
 . simp -implicitDefEqProofs[chN,h]
section
open Qq Tryz
def Zc0:RCode :=
 S [r 0 [b 3 0,b 4 1,n 6 (.bool false)],r 1 [m 7 2,w 8 (.mkf (.func 182) [] [.t 3,.t 4]),c 9 85 [7,8],t 10 9,m 6 10],.ret]
def Zc1:List RRes:=[.t 6]
def Zc2:PCt prog 163 f163 Zc0 Zc1:=pcT func163 rfl
def Zc3:RCode :=
 S [r 0 [n 4 (.bool false)],r 1 [m 5 0,l 6 1,o 7 .lss 5 6,m 8 7,g 8 false (m 9 0),g 8 false (l 10 2),g 8 false (o 11 .gtr 9 10),u 12 8 11,m 4 12],.ret]
def Zc4:List RRes:=[.t 4]
def Zc5:PCt prog 182 f182 Zc3 Zc4:=pcT func182 rfl
def Zc6:RCode :=
 S [r 0 [b 2 0,n 4 (.bool false)],r 1 [f 5 1 2,l 6 5,m 7 1,i 8 10 6 7,f 9 0 8,l 10 9,w 11 (.bsl false 1 1 [O] [(0,.t 10)]),w 12 (.call 163 [.c I,.c (.int .i64 9999),.t 11]),m 13 12,g 13 true (f 14 1 2),g 13 true (l 15 14),g 13 true (m 16 1),g 13 true (i 17 10 15 16),g 13 true (f 18 1 17),g 13 true (l 19 18),g 13 true (w 20 (.bsl false 1 1 [O] [(0,.t 19)])),g 13 true (w 21 (.call 163 [.c O,.c (.int .i64 14610),.t 20])),v 22 13 21,m 4 22],.ret]
def Zc7:List RRes:=[.t 4]
def Zc8:PCt prog 237 f237 Zc6 Zc7:=pcT func237 rfl
def Zc9:RCode :=
 S [r 0 [b 2 0,n 4 (.bool false)],r 1 [f 5 1 2,l 6 5,m 7 1,i 8 10 6 7,f 9 2 8,l 10 9,k 11 .leq 10 (.int .u8 2),m 12 11,g 12 true (f 13 1 2),g 12 true (l 14 13),g 12 true (m 15 1),g 12 true (i 16 10 14 15),g 12 true (f 17 9 16),g 12 true (l 18 17),g 12 true (k 19 .leq 18 (.int .u8 3)),v 20 12 19,m 4 20],.ret]
def Zca:List RRes:=[.t 4]
def Zcb:PCt prog 238 f238 Zc9 Zca:=pcT func238 rfl
def Zcc:RCode :=
 S [r 0 [b 2 0,n 4 (.bool false)],r 1 [f 6 1 2,l 7 6,m 8 1,i 9 10 7 8,L 10 10 9,w 5 (.alloc [O,O,.int .u8 0,O,O,O,O,O,.bool false,.int .u8 0]),s 10 5 10],r 2 [f 11 5 5,l 12 11,f 13 6 5,l 14 13,w 15 (.bsl false 1 2 [O,O] [(0,.t 12),(1,.t 14)]),w 16 (.call 163 [.c I,.c (.int .i64 999),.t 15]),m 17 16,g 17 true (f 18 5 5),g 17 true (l 19 18),g 17 true (f 20 6 5),g 17 true (l 21 20),g 17 true (o 22 .leq 19 21),v 23 17 22,m 4 23],.ret]
def Zcd:List RRes:=[.t 4]
def Zce:PCt prog 239 f239 Zcc Zcd:=pcT func239 rfl
def Zcf:RCode :=
 S [r 0 [b 2 0,n 4 (.bool false)],r 1 [f 8 1 2,l 9 8,m 10 1,i 11 10 9 10,L 12 10 11,w 5 (.alloc [O,O,.int .u8 0,O,O,O,O,O,.bool false,.int .u8 0]),s 10 5 12],S [r 2 [w 13 (.build [O,O] []),f 14 3 5,l 15 14,f 16 4 5,l 17 16,w 18 (.build [O,O] [(0,1,.t 15),(1,1,.t 17)]),w 19 (.eqs false [.i,.i] (.t 13) (.t 18))],K 19 3 [f 20 7 5,l 21 20,k 22 .neq 21 O,m 4 22]],r 4 [f 24 0 2,L 25 1 24,f 26 3 5,l 27 26,f 28 4 5,l 29 28,w 30 (.build [O,O] [(0,1,.t 27),(1,1,.t 29)]),c 31 241 [25,30],m 23 31,x 32 0 23,x 33 1 23,w 6 (.alloc [O,O,.int .u8 0,.nils,.nils]),s 5 6 32,m 7 33],r 5 [m 34 7,k 35 .eql 34 O,m 4 35],.ret]
def Zcg:List RRes:=[.t 4]
def Zch:PCt prog 240 f240 Zcf Zcg:=pcT func240 rfl
def Zci:RCode :=
 S [r 0 [b 2 0,n 4 (.bool false)],r 1 [f 6 1 2,l 7 6,m 8 1,i 9 10 7 8,L 10 10 9,w 5 (.alloc [O,O,.int .u8 0,O,O,O,O,O,.bool false,.int .u8 0]),s 10 5 10],r 2 [f 11 4 5,l 12 11,k 13 .geq 12 (.int .i64 2),m 14 13,g 14 false (f 15 8 5),g 14 false (l 16 15),g 14 false (t 17 16),g 14 false (m 18 17),g 18 true (f 19 9 5),g 18 true (l 20 19),g 18 true (k 21 .eql 20 (.int .u8 0)),g 14 false (v 22 18 21),u 23 14 22,m 4 23],.ret]
def Zcj:List RRes:=[.t 4]
def Zck:PCt prog 242 f242 Zci Zcj:=pcT func242 rfl
def Zcl:RCode :=
 S [r 0 [b 2 0,n 4 (.bool false)],r 1 [f 6 1 2,l 7 6,m 8 1,i 9 10 7 8,L 10 10 9,w 5 (.alloc [O,O,.int .u8 0,O,O,O,O,O,.bool false,.int .u8 0]),s 10 5 10],r 2 [f 11 7 5,l 12 11,k 13 .eql 12 O,m 14 13,g 14 false (f 15 1 2),g 14 false (l 16 15),g 14 false (m 17 1),g 14 false (w 18 (.slc 10 (.t 16) none (some (.t 17)))),g 14 false (w 19 (.mkf (.func 245) [] [.t 5])),g 14 false (c 20 244 [18,19]),u 21 14 20,m 4 21],.ret]
def Zcm:List RRes:=[.t 4]
def Zcn:PCt prog 243 f243 Zcl Zcm:=pcT func243 rfl
def Zco:RCode :=
 S [r 0 [b 2 0,n 3 (.bool false)],r 1 [f 4 0 2,l 5 4,f 6 7 1,l 7 6,o 8 .eql 5 7,m 3 8],.ret]
def Zcp:List RRes:=[.t 3]
def Zcq:PCt prog 245 f245 Zco Zcp:=pcT func245 rfl
def Zcr:RCode :=
 S [r 0 [b 2 0,b 3 1,n 4 (.bool false)],r 1 [f 5 1 2,l 6 5,l 7 3,w 8 (.slc 10 (.t 6) none (some (.t 7))),w 9 (.mkf (.func 247) [] [.t 2,.t 3]),c 10 244 [8,9],t 11 10,m 4 11],.ret]
def Zcs:List RRes:=[.t 4]
def Zct:PCt prog 246 f246 Zcr Zcs:=pcT func246 rfl
def Zcu:RCode :=
 S [r 0 [b 3 0,n 4 (.bool false)],R 1 [f 5 0 3,a [0] (l 6 5),f 7 1 1,a [2] (l 8 7),l 9 2,a [3,4] (i 10 10 8 9),a [5] (f 11 0 10),a [6] (l 12 11),a [1,7] (o 13 .eql 6 12),a [8,0,1,2,3,4,5,6,7,8] (m 4 13)],.ret]
def Zcv:List RRes:=[.t 4]
def Zcw:PCt prog 247 f247 Zcu Zcv:=pcT func247 rfl
def Zcx:RCode :=
 S [r 0 [b 2 0,n 4 (.bool false)],R 1 [m 5 1,a [0] (k 6 .eql 5 O),a [1] (m 7 6),a [2] (g 7 false (f 8 1 2)),a [3,2] (g 7 false (l 9 8)),a [2] (g 7 false (m 10 1)),a [5,2] (g 7 false (k 11 .sub 10 I)),a [4,6,2] (g 7 false (i 12 10 9 11)),a [7,2] (g 7 false (f 13 1 12)),a [8,2] (g 7 false (l 14 13)),a [2] (g 7 false (f 15 1 2)),a [10,2] (g 7 false (l 16 15)),a [2] (g 7 false (m 17 1)),a [11,12,2] (g 7 false (i 18 10 16 17)),a [13,2] (g 7 false (f 19 1 18)),a [14,2] (g 7 false (l 20 19)),a [9,15,2,2] (g 7 false (c 21 107 [14,20])),a [2] (g 7 false (f 22 1 2)),a [17,2] (g 7 false (l 23 22)),a [2] (g 7 false (m 24 1)),a [19,2] (g 7 false (k 25 .sub 24 I)),a [18,20,2] (g 7 false (i 26 10 23 25)),a [21,2] (g 7 false (f 27 0 26)),a [22,2] (g 7 false (l 28 27)),a [2] (g 7 false (f 29 1 2)),a [24,2] (g 7 false (l 30 29)),a [2] (g 7 false (m 31 1)),a [25,26,2] (g 7 false (i 32 10 30 31)),a [27,2] (g 7 false (f 33 0 32)),a [28,2] (g 7 false (l 34 33)),a [23,29,16,2] (g 7 false (c 35 107 [28,34])),a [16,30,2] (g 7 false (w 36 (.bsl false 1 2 [O,O] [(0,.t 21),(1,.t 35)]))),a [31,30,2] (g 7 false (c 37 151 [36])),a [32,2] (g 7 false (k 38 .lss 37 O)),a [2,33] (u 39 7 38),a [34,32,0,1,2,3,4,5,6,7,8,9,10,11,12,13,14,15,16,17,18,19,20,21,22,23,24,25,26,27,28,29,30,31,32,33,34] (m 4 39)],.ret]
def Zcy:List RRes:=[.t 4]
def Zcz:PCt prog 248 f248 Zcx Zcy:=pcT func248 rfl
def ZcA:RCode :=
 S [r 0 [b 1 0,n 2 .nilp,n 3 O],.scope (S [r 1 [f 13 0 1,L 14 1 13,c 15 131 [14],m 12 15,x 16 0 12,x 17 1 12,m 4 16,m 5 17],S [r 2 [m 18 5,k 19 .neq 18 O],K 19 3 [m 20 5,n 2 .nilp,m 3 20]],S [r 4 [f 21 1 1,l 22 21,e 23 22,k 24 .gtr 23 (.int .i64 12)],K 24 5 [n 2 .nilp,n 3 (.int .i64 30)]],r 6 [L 25 2 1,m 26 4,w 27 (.build [.nils,.nils,.nils,.nils] [(0,2,.t 25),(2,1,.t 26)]),b 28 27,m 6 28],r 7 [n 7 (.bool false)],(.label 0),S [r 8 [f 29 1 1,l 30 29,e 31 30,n 32 O],.block 0 (.loop (S [r 9 [o 33 .lss 32 31],.cond (.t 33) .skip (.exit 0),.block 1 (S [r 10 [m 34 32,i 35 10 30 32,L 36 10 35,w 9 (.alloc [O,O,.int .u8 0,O,O,O,O,O,.bool false,.int .u8 0]),m 8 34,s 10 9 36],S [r 11 [w 37 (.load true 8 (.g 0)),n 38 O],.block 2 (.loop (S [r 12 [k 39 .lss 38 (.int .i64 8)],.cond (.t 39) .skip (.exit 2),.block 3 (S [r 13 [w 40 (.vop (.aidx true 8 1) [(.t 37),(.t 38)]),w 11 (.alloc [.nilf]),s 1 11 40],r 14 [f 41 0 11,l 42 41,L 43 2 1,m 44 8,w 45 (.callv (.t 42) [.t 43,.t 44]),t 46 45],.cond (.t 46) (S [r 15 [n 7 (.bool true)],.exit 0]) .skip]),r 16 [k 47 .add 38 I,m 38 47]]))],r 17 [f 48 2 9,l 49 48,k 50 .eql 49 (.int .u8 1)],.cond (.t 50) (R 18 [m 51 6,m 52 6,a [1] (w 53 (.nilck (.t 52))),a [2] (f 54 3 53),a [3] (l 55 54),f 56 0 9,a [5] (l 57 56),a [6] (w 58 (.bsl false 1 1 [O] [(0,.t 57)])),a [4,7] (w 59 (.app 1 8 (.t 55) (.t 58))),a [0,0,1,2,3,4,5,6,7,8] (w 60 (.nilck (.t 51))),a [9,0,1,2,3,4,5,6,7,8] (f 61 3 60),a [10,8,8,0,1,2,3,4,5,6,7,8] (s 1 61 59)]) .skip]),r 19 [k 62 .add 32 I,m 32 62]]))],S [r 20 [m 63 7,m 64 63,g 64 false (m 65 6),g 64 false (w 66 (.nilck (.t 65))),g 64 false (f 67 3 66),g 64 false (l 68 67),g 64 false (e 69 68),g 64 false (k 70 .gtr 69 (.int .i64 5)),u 71 64 70],K 71 21 [n 2 .nilp,n 3 (.int .i64 30)]],r 22 [m 72 6,w 73 (.nilck (.t 72)),f 74 3 73,l 75 74,c 76 115 [75]],r 23 [m 77 6,m 2 77,n 3 O],.ret])]
def ZcB:List RRes:=[.t 2,.t 3]
def ZcC:PCt prog 119 f119 ZcA ZcB:=pcT func119 rfl
def ZcD:RCode :=
 S [r 0 [b 1 0,n 2 O],r 1 [L 6 2 1,c 7 119 [6],m 5 7,x 8 0 5,x 9 1 5,m 3 8,m 4 9],r 2 [m 10 4,m 2 10],.ret]
def ZcE:List RRes:=[.t 2]
def ZcF:PCt prog 130 f130 ZcD ZcE:=pcT func130 rfl
def ZcG:RCode :=
 S [r 0 [n 4 O],r 1 [w 10 (.mkmap),m 5 10],S [r 2 [m 11 0,w 12 (.nilck (.t 11)),f 13 3 12,l 14 13,e 15 14,n 16 O],.block 0 (.loop (S [r 3 [o 17 .lss 16 15],.cond (.t 17) .skip (.exit 0),.block 1 (S [r 4 [i 18 1 14 16,l 19 18,m 7 19],r 5 [m 20 5,m 21 7,z (.mupd (.i .i64) (.t 20) (.t 21) (.c (.bool true)))]]),r 6 [k 22 .add 16 I,m 16 22]]))],S [r 7 [m 23 1,e 24 23,n 25 O],.block 2 (.loop (S [r 8 [o 26 .lss 25 24],.cond (.t 26) .skip (.exit 2),.block 3 (S [r 9 [m 27 25,i 28 1 23 25,l 29 28,m 8 27,m 9 29],S [r 10 [m 30 5,m 31 9,w 32 (.look (.i .i64) (.bool false) false (.t 30) (.t 31)),t 33 32,m 34 33,g 34 false (m 35 8),g 34 false (k 36 .gtr 35 O),g 34 false (m 37 36),g 37 true (m 38 1),g 37 true (m 39 8),g 37 true (k 40 .sub 39 I),g 37 true (i 41 1 38 40),g 37 true (l 42 41),g 37 true (m 43 9),g 37 true (o 44 .gtr 42 43),g 34 false (v 45 37 44),u 46 34 45],K 46 11 [n 4 (.int .i64 31)]],r 12 [m 47 5,m 48 9,z (.mdel (.i .i64) (.t 47) (.t 48))]]),r 13 [k 49 .add 25 I,m 25 49]]))],r 14 [n 4 O],.ret]
def ZcH:List RRes:=[.t 4]
def ZcI:PCt prog 166 f166 ZcG ZcH:=pcT func166 rfl
def ZcJ:RCode :=
 S [r 0 [b 3 0,n 6 .nilp,n 7 O],r 1 [L 12 2 3,c 13 119 [12],m 11 13,x 14 0 11,x 15 1 11,m 8 14,m 9 15],S [r 2 [m 16 9,k 17 .neq 16 O],K 17 3 [m 18 9,n 6 .nilp,m 7 18]],S [r 4 [m 19 8,m 20 1,c 21 166 [19,20],m 10 21],r 5 [m 22 10,k 23 .neq 22 O],K 23 6 [m 24 10,n 6 .nilp,m 7 24]],S [r 7 [m 25 2,w 26 (.bsl false 1 1 [O] [(0,.t 25)]),w 27 (.call 163 [.c I,.c (.int .i64 999),.t 26]),t 28 27],K 28 8 [n 6 .nilp,n 7 (.int .i64 2)]],r 9 [m 29 8,m 6 29,n 7 O],.ret]
def ZcK:List RRes:=[.t 6,.t 7]
def ZcL:PCt prog 117 f117 ZcJ ZcK:=pcT func117 rfl
def ZcM:RCode :=
 S [r 0 [b 4 0,b 5 1,b 6 2,b 7 3,n 8 .nilf],r 1 [w 11 (.mkmap),w 9 (.alloc [.nilm]),s 1 9 11],r 2 [w 10 (.alloc [.nilf])],r 3 [w 12 (.mkf (.func 162) [] [.t 9,.t 4,.t 5,.t 6,.t 7,.t 10]),s 1 10 12],r 4 [l 13 10,m 8 13],.ret]
def ZcN:List RRes:=[.t 8]
def ZcO:RCode :=
 S [r 0 [n 8 (.bool false)],S [r 1 [l 15 1,m 16 0,w 17 (.look (.i .i64) (.bool false) true (.t 15) (.t 16)),m 14 17,x 18 0 14,x 19 1 14,m 9 18,m 10 19],r 2 [m 20 10],K 20 3 [m 21 9,m 8 21]],r 4 [l 22 2,w 23 (.nilck (.t 22)),f 24 0 23,f 25 1 24,l 26 25,m 27 0,i 28 10 26 27,L 29 10 28,w 11 (.alloc [O,O,.int .u8 0,O,O,O,O,O,.bool false,.int .u8 0]),s 10 11 29],r 5 [f 30 2 11,l 31 30,k 32 .eql 31 (.int .u8 2),m 33 32,g 33 false (l 34 3),g 33 false (f 35 0 11),g 33 false (l 36 35),g 33 false (c 37 87 [34,36]),u 38 33 37,m 39 38,g 39 true (l 40 4),g 39 true (f 41 0 11),g 39 true (l 42 41),g 39 true (c 43 87 [40,42]),g 39 true (t 44 43),v 45 39 44,m 46 45,g 46 true (f 47 5 11),g 46 true (l 48 47),g 46 true (f 49 6 11),g 46 true (l 50 49),g 46 true (l 51 5),g 46 true (w 52 (.bsl false 1 1 [O] [(0,.t 51)])),g 46 true (c 53 163 [48,50,52]),v 54 46 53,m 12 54],S [r 6 [m 55 0,k 56 .add 55 I,m 13 56],.block 0 (.loop (S [S [r 7 [m 57 12,m 58 57,g 58 true (m 59 13),g 58 true (l 60 2),g 58 true (w 61 (.nilck (.t 60))),g 58 true (f 62 0 61),g 58 true (f 63 1 62),g 58 true (l 64 63),g 58 true (e 65 64),g 58 true (o 66 .lss 59 65),v 67 58 66],.cond (.t 67) .skip (.exit 0)],.block 1 (R 9 [l 70 2,a [0] (w 71 (.nilck (.t 70))),a [1] (f 72 0 71),a [2] (f 73 1 72),a [3] (l 74 73),m 75 13,a [4,5] (i 76 10 74 75),a [6] (f 77 7 76),a [7] (l 78 77),f 79 0 11,a [9] (l 80 79),a [8,10] (o 81 .neq 78 80),a [11] (m 82 81),a [12] (g 82 false (l 83 6)),a [12] (g 82 false (m 84 13)),a [13,14,12,12] (g 82 false (w 85 (.callv (.t 83) [.t 84]))),a [15,12] (g 82 false (t 86 85)),a [12,16] (u 87 82 86),a [17,15,0,1,2,3,4,5,6,7,8,9,10,11,12,13,14,15,16,17] (m 12 87)]),r 8 [m 68 13,k 69 .add 68 I,m 13 69]]))],r 10 [l 88 1,m 89 0,m 90 12,z (.mupd (.i .i64) (.t 88) (.t 89) (.t 90))],r 11 [m 91 12,m 8 91],.ret]
def ZcP:List RRes:=[.t 8]
def ZcQ {G:Jg} {objs objs':List (Nat×AObj)} {args:List AV} {v:AV} (hn:args.length<=f162.ntmps) (h:∀ R:Run,R.G=G->R.Top->AR prog R ZcO ⟨iniT 0 args,objs⟩ (FinB ZcP v objs')):PB prog G 162 objs args v objs' :=
 PB_of func162 rfl (by kernel_rfl) (rc:=ZcO) (by kernel_rfl) (rs:=ZcP) (by kernel_rfl) hn (λR _ hG hr=>h R hG hr)
def ZcR:RCode :=
 S [r 0 [n 4 (.bool false)],r 1 [m 5 0,m 6 1,c 7 123 [5,6],k 8 .geq 7 O,m 4 8],.ret]
def ZcS:List RRes:=[.t 4]
def ZcT:PCt prog 244 f244 ZcR ZcS:=pcT func244 rfl
def ZcU:RCode :=
 S [r 0 [n 4 O],S [r 1 [m 6 0,e 7 6,n 8 O],.block 0 (.loop (S [r 2 [o 9 .lss 8 7],.cond (.t 9) .skip (.exit 0),.block 1 (S [r 3 [m 10 8,m 5 10],r 4 [m 11 1,m 12 0,m 13 5,i 14 10 12 13,L 15 10 14,w 16 (.callv (.t 11) [.t 15])],K 16 5 [m 17 5,m 4 17]]),r 6 [k 18 .add 8 I,m 8 18]]))],r 7 [n 4 (.int .i64 (-1))],.ret]
def ZcV:List RRes:=[.t 4]
def ZcW:PCt prog 123 f123 ZcU ZcV:=pcT func123 rfl
def ZcX:RCode :=
 S [r 0 [n 4 (.bool false)],r 1 [m 5 0,m 6 1,c 7 129 [5,6],k 8 .geq 7 O,m 4 8],.ret]
def ZcY:List RRes:=[.t 4]
def ZcZ:PCt prog 87 f87 ZcX ZcY:=pcT func87 rfl
def Zd0:RCode :=
 S [r 0 [n 4 O],S [r 1 [m 6 0,e 7 6,n 8 O],.block 0 (.loop (S [r 2 [o 9 .lss 8 7],.cond (.t 9) .skip (.exit 0),.block 1 (S [r 3 [m 10 8,m 5 10],r 4 [m 11 1,m 12 0,m 13 5,i 14 1 12 13,l 15 14,o 16 .eql 11 15],K 16 5 [m 17 5,m 4 17]]),r 6 [k 18 .add 8 I,m 8 18]]))],r 7 [n 4 (.int .i64 (-1))],.ret]
def Zd1:List RRes:=[.t 4]
def Zd2:PCt prog 129 f129 Zd0 Zd1:=pcT func129 rfl
def Zd3:RCode :=
 S [r 0 [m 3 0,e 4 3,m 2 4],r 1 [m 5 0,m 6 2,m 7 2,w 8 (.conv .u64 (.t 7)),c 9 165 [8],w 10 (.call 164 [.t 5,.c O,.t 6,.t 9])]]
def Zd4:List RRes:=[]
def Zd5:PCt prog 115 f115 Zd3 Zd4:=pcT func115 rfl
def Zd6 {G:Jg} {objs objs':List (Nat×AObj)} {args:List AV} {v:AV} (hn:args.length<=f115.ntmps) (h:∀ R:Run,R.G=G->R.Top->AR prog R Zd3 ⟨iniT 0 args,objs⟩ (FinB Zd4 v objs')):PB prog G 115 objs args v objs' :=
 PB_of func115 rfl (by kernel_rfl) (rc:=Zd3) (by kernel_rfl) (rs:=Zd4) (by kernel_rfl) hn (λR _ hG hr=>h R hG hr)
def Zd7:RCode :=
 S [r 0 [n 8 (.bool true)],r 1 [n 9 (.bool true)],.block 0 (.loop (.block 1 (S [r 2 [m 19 2,m 20 1,o 21 .sub 19 20,m 10 21],S [r 3 [m 22 10,k 23 .leq 22 (.int .i64 12)],K 23 4 [m 24 0,m 25 1,m 26 2,c 27 183 [24,25,26]]],S [r 5 [m 28 3,k 29 .eql 28 O],K 29 6 [m 30 0,m 31 1,m 32 2,c 33 184 [30,31,32]]],S [r 7 [m 34 8,t 35 34],.cond (.t 35) (S [r 8 [m 36 0,m 37 1,m 38 2,c 39 185 [36,37,38]],r 9 [m 40 3,k 41 .sub 40 I,m 3 41]]) .skip],r 10 [m 43 0,m 44 1,m 45 2,c 46 186 [43,44,45],m 42 46,x 47 0 42,x 48 1 42,m 11 47,m 12 48],S [r 11 [m 49 12,k 50 .eql 49 (.int .i64 2)],.cond (.t 50) (S [r 12 [m 51 0,m 52 1,m 53 2,c 54 187 [51,52,53]],r 13 [m 55 2,k 56 .sub 55 I,m 57 11,m 58 1,o 59 .sub 57 58,o 60 .sub 56 59,m 11 60],r 14 [n 12 I]]) .skip],S [r 15 [m 61 8,m 62 61,g 62 true (m 63 9),v 64 62 63,m 65 64,g 65 true (m 66 12),g 65 true (k 67 .eql 66 I),v 68 65 67],.cond (.t 68) (S [r 16 [m 69 0,m 70 1,m 71 2,c 72 188 [69,70,71]],.cond (.t 72) .ret .skip]) .skip],S [R 17 [m 73 1,a [0] (k 74 .gtr 73 O),a [1] (m 75 74),a [2] (g 75 true (m 76 0)),a [2] (g 75 true (m 77 1)),a [4,2] (g 75 true (k 78 .sub 77 I)),a [3,5,2] (g 75 true (i 79 1 76 78)),a [6,2] (g 75 true (l 80 79)),a [2] (g 75 true (m 81 0)),a [2] (g 75 true (m 82 11)),a [8,9,2] (g 75 true (i 83 1 81 82)),a [10,2] (g 75 true (l 84 83)),a [7,11,2,2] (g 75 true (c 85 189 [80,84])),a [12,2] (g 75 true (t 86 85)),a [2,13] (v 87 75 86)],.cond (.t 87) (S [r 18 [m 88 0,m 89 1,m 90 2,m 91 11,c 92 190 [88,89,90,91],m 13 92],r 19 [m 93 13,m 1 93],.exit 1]) .skip],r 20 [m 95 0,m 96 1,m 97 2,m 98 11,c 99 191 [95,96,97,98],m 94 99,x 100 0 94,x 101 1 94,m 14 100,m 15 101],r 21 [m 102 15,m 9 102],r 22 [m 103 14,m 104 1,o 105 .sub 103 104,m 106 2,m 107 14,o 108 .sub 106 107,m 16 105,m 17 108],r 23 [m 109 10,k 110 .quo 109 (.int .i64 8),m 18 110],r 24 [m 111 16,m 112 17,o 113 .lss 111 112],.cond (.t 113) (S [r 25 [m 114 16,m 115 18,o 116 .geq 114 115,m 8 116],r 26 [m 117 0,m 118 1,m 119 14,m 120 3,c 121 164 [117,118,119,120]],r 27 [m 122 14,k 123 .add 122 I,m 1 123]]) (S [r 28 [m 124 17,m 125 18,o 126 .geq 124 125,m 8 126],r 29 [m 127 0,m 128 14,k 129 .add 128 I,m 130 2,m 131 3,c 132 164 [127,129,130,131]],r 30 [m 133 14,m 2 133]])])))]
def Zd8:List RRes:=[]
def Zd9:PCt prog 164 f164 Zd7 Zd8:=pcT func164 rfl
def Zda {G:Jg} {objs objs':List (Nat×AObj)} {args:List AV} {v:AV} (hn:args.length<=f164.ntmps) (h:∀ R:Run,R.G=G->R.Top->AR prog R Zd7 ⟨iniT 0 args,objs⟩ (FinB Zd8 v objs')):PB prog G 164 objs args v objs' :=
 PB_of func164 rfl (by kernel_rfl) (rc:=Zd7) (by kernel_rfl) (rs:=Zd8) (by kernel_rfl) hn (λR _ hG hr=>h R hG hr)
def Zdb:RCode :=
 S [r 0 [m 8 1,k 9 .add 8 I,m 6 9],.block 0 (.loop (S [S [r 1 [m 10 6,m 11 2,o 12 .lss 10 11],.cond (.t 12) .skip (.exit 0)],.block 1 (S [r 3 [m 15 6,m 7 15],.block 2 (.loop (S [S [R 4 [m 16 7,m 17 1,a [0,1] (o 18 .gtr 16 17),a [2] (m 19 18),a [3] (g 19 true (m 20 0)),a [3] (g 19 true (m 21 7)),a [4,5,3] (g 19 true (i 22 1 20 21)),a [6,3] (g 19 true (l 23 22)),a [3] (g 19 true (m 24 0)),a [3] (g 19 true (m 25 7)),a [9,3] (g 19 true (k 26 .sub 25 I)),a [8,10,3] (g 19 true (i 27 1 24 26)),a [11,3] (g 19 true (l 28 27)),a [7,12,3,3] (g 19 true (c 29 189 [23,28])),a [3,13] (v 30 19 29)],.cond (.t 30) .skip (.exit 2)],.block 3 (R 6 [m 33 0,m 34 7,m 35 0,m 36 7,a [3] (k 37 .sub 36 I),m 38 0,m 39 7,a [6] (k 40 .sub 39 I),a [5,7] (i 41 1 38 40),a [8] (l 42 41),m 43 0,m 44 7,a [10,11] (i 45 1 43 44),a [12] (l 46 45),a [0,1,0,1,5,6,7,8,9,13] (i 47 1 33 34),a [14,9,0,1,5,6,7,8,9,13] (s 1 47 42),a [2,4,0,1,2,3,4,5,6,7,8,9,10,11,12,13,14,15] (i 48 1 35 37),a [16,13,15,0,1,2,3,4,5,6,7,8,9,10,11,12,13,14,15] (s 1 48 46)]),r 5 [m 31 7,k 32 .sub 31 I,m 7 32]]))]),r 2 [m 13 6,k 14 .add 13 I,m 6 14]]))]
def Zdc:List RRes:=[]
def Zdd:PCt prog 183 f183 Zdb Zdc:=pcT func183 rfl
def Zde {G:Jg} {objs objs':List (Nat×AObj)} {args:List AV} {v:AV} (hn:args.length<=f183.ntmps) (h:∀ R:Run,R.G=G->R.Top->AR prog R Zdb ⟨iniT 0 args,objs⟩ (FinB Zdc v objs')):PB prog G 183 objs args v objs' :=
 PB_of func183 rfl (by kernel_rfl) (rc:=Zdb) (by kernel_rfl) (rs:=Zdc) (by kernel_rfl) hn (λR _ hG hr=>h R hG hr)
def Zdf:RCode :=
 S [r 0 [n 2 O],r 1 [n 3 O],S [r 2 [m 6 0,e 7 6,n 8 O],.block 0 (.loop (S [r 3 [o 9 .lss 8 7],.cond (.t 9) .skip (.exit 0),.block 1 (S [r 4 [i 10 1 6 8,l 11 10,m 5 11],r 5 [m 12 5,m 13 3,o 14 .neq 12 13],K 14 6 [m 15 5,m 2 15]]),r 7 [k 16 .add 8 I,m 8 16]]))],r 8 [m 17 3,m 2 17],.ret]
def Zdg:List RRes:=[.t 2]
def Zdh:PCt prog 151 f151 Zdf Zdg:=pcT func151 rfl
def Zdi:RCode :=
 S [r 0 [n 2 O],.cond (.c (.bool false)) (S [r 1 [m 3 0,w 4 (.conv .u32 (.t 3)),c 5 192 [4],m 2 5],.ret]) .skip,r 2 [m 6 0,c 7 193 [6],m 2 7],.ret]
def Zdj:List RRes:=[.t 2]
def Zdk:PCt prog 165 f165 Zdi Zdj:=pcT func165 rfl
def Zdl:RCode :=
 S [r 0 [n 2 O],S [r 1 [m 3 0,k 4 .geq 3 (.int .u64 4294967296)],.cond (.t 4) (S [r 2 [m 5 0,w 6 (.vop (.sh false) [(.t 5),(.c (.int .u64 32))]),m 0 6],r 3 [n 2 (.int .i64 32)]]) .skip],S [r 4 [m 7 0,k 8 .geq 7 (.int .u64 65536)],.cond (.t 8) (S [r 5 [m 9 0,w 10 (.vop (.sh false) [(.t 9),(.c (.int .u64 16))]),m 0 10],r 6 [m 11 2,k 12 .add 11 (.int .i64 16),m 2 12]]) .skip],S [r 7 [m 13 0,k 14 .geq 13 (.int .u64 256)],.cond (.t 14) (S [r 8 [m 15 0,w 16 (.vop (.sh false) [(.t 15),(.c (.int .u64 8))]),m 0 16],r 9 [m 17 2,k 18 .add 17 (.int .i64 8),m 2 18]]) .skip],r 10 [m 19 2,m 20 0,w 21 (.conv .u8 (.t 20)),w 22 (.vop .sidx [(.c (.str ⟨#[0,1,2,2,3,3,3,3,4,4,4,4,4,4,4,4,5,5,5,5,5,5,5,5,5,5,5,5,5,5,5,5,6,6,6,6,6,6,6,6,6,6,6,6,6,6,6,6,6,6,6,6,6,6,6,6,6,6,6,6,6,6,6,6,7,7,7,7,7,7,7,7,7,7,7,7,7,7,7,7,7,7,7,7,7,7,7,7,7,7,7,7,7,7,7,7,7,7,7,7,7,7,7,7,7,7,7,7,7,7,7,7,7,7,7,7,7,7,7,7,7,7,7,7,7,7,7,7,8,8,8,8,8,8,8,8,8,8,8,8,8,8,8,8,8,8,8,8,8,8,8,8,8,8,8,8,8,8,8,8,8,8,8,8,8,8,8,8,8,8,8,8,8,8,8,8,8,8,8,8,8,8,8,8,8,8,8,8,8,8,8,8,8,8,8,8,8,8,8,8,8,8,8,8,8,8,8,8,8,8,8,8,8,8,8,8,8,8,8,8,8,8,8,8,8,8,8,8,8,8,8,8,8,8,8,8,8,8,8,8,8,8,8,8,8,8,8,8,8,8,8,8,8,8,8,8]⟩)),(.t 21)]),w 23 (.conv .i64 (.t 22)),o 24 .add 19 23,m 2 24],.ret]
def Zdm:List RRes:=[.t 2]
def Zdn:PCt prog 193 f193 Zdl Zdm:=pcT func193 rfl
end
def Zdo (l:Jr):(l.map isa).all (λr=>r.all AV.pure)=true:=by simp[isa,AV.pure]
def Zdp (x:Iss) (h1:Sml x.its) (h2:Sml x.dms):PC prog G 250 [.agg (isa x)] (.agg (isa x)):=by
 have p1:(x.its.map ita).all (λr=>r.all AV.pure)=true:=(by simp[ita,AV.pure]);have p2:(x.dms.map dma).all (λr=>r.all AV.pure)=true:=by simp[dma,AV.pure]
 (refine Z7i rfl λR hG hrd=>Qga ?_;subst hG)
 by_cases e1:x.its=[] <;> by_cases e2:x.dms=[]
 . simp -implicitDefEqProofs[Z7g,Z7h,isa,e1,e2];refine Z2T.of Zag (by simp) ?_;simp -implicitDefEqProofs;refine Z2T.of Zah (by simp) ?_;simp -implicitDefEqProofs;exact rfl
 . simp -implicitDefEqProofs[Z7g,Z7h,isa,e1];refine Z2T.of Zag (by simp) ?_;simp -implicitDefEqProofs;refine Z2T.new (Zaf _ e2 h2) (by simp) (by simp[lk,St.get]) ?_;simp -implicitDefEqProofs[p2];exact rfl
 . simp -implicitDefEqProofs[Z7g,Z7h,isa,e2];refine Z2T.new (Zae _ e1 h1) (by simp) (by simp[lk,St.get]) ?_;simp -implicitDefEqProofs;refine Z2T.of Zah (by simp) ?_;simp -implicitDefEqProofs[p1];exact rfl
 . simp -implicitDefEqProofs[Z7g,Z7h,isa];refine Z2T.new (Zae _ e1 h1) (by simp) (by simp[lk,St.get]) ?_;simp -implicitDefEqProofs;refine Z2T.new (Zaf _ e2 h2) (by simp) (by simp[lk,St.get]) ?_;simp -implicitDefEqProofs[p1,p2];exact rfl
def at_pc (hG:GC G) (r:Jr) (d l:Int) (h:Wf r):PC prog G 241 [rega r,.agg [.int .i64 d,.int .i64 l]] (.tup [.agg (isa (atP r d l).1),.int .i64 (atP r d l).2]):=by
 by_cases e:openV r=0
 case neg =>
  refine PC.nzR (v:=.tup [.agg [.int .i64 0,.int .i64 0,.int .u8 0,.nils,.nils],.int .i64 (openV r)]) ?_ (by simp[nz,atP,e,zI,isa])
  (refine Z7u rfl λR hG hrd=>Qga ?_;subst hG)
  simp -implicitDefEqProofs[Z7s,Z7t,rega];refine Qco (Zam hG r h) ?_;simp -implicitDefEqProofs[openA,e]
 have hL:=Zan e;have hO:=Z8C hL
 cases hf:findN d l r with
 | none =>
   refine PC.nzR (v:=.tup [.agg [.int .i64 0,.int .i64 0,.int .u8 0,.nils,.nils],.int .i64 6]) ?_ (by simp[nz,atP,e,hf,zI,isa])
   (refine Z7u rfl λR hG hrd=>Qga ?_;subst hG)
   simp -implicitDefEqProofs[Z7s,Z7t,rega];refine Qco (Zam hG r h) ?_;simp -implicitDefEqProofs[openA,e];refine Qco (Z9N r (nums r) d l (Zas hO) h.1.1 (Zau hL)) ?_;simp -implicitDefEqProofs[hf,fndA,noIs]
 | some x =>
   have ev:atP r d l=(x,0):=(by simp[atP,e,hf]);have hx:=h.1.2 x (Z8U hf).1;have ex:isa x=[.int .i64 x.d,.int .i64 x.l,.int .u8 x.k,.vsl (x.its.map ita),.vsl (x.dms.map dma)]:=rfl;have cp:=Zdp (G:=G) x hx.1 hx.2;rw[ev];rw[ex]at cp
   (refine Z7u rfl λR hG hrd=>Qga ?_;subst hG)
   simp -implicitDefEqProofs[Z7s,Z7t,rega];refine Qco (Zam hG r h) ?_;simp -implicitDefEqProofs[openA,e];refine Qco (Z9N r (nums r) d l (Zas hO) h.1.1 (Zau hL)) ?_;simp -implicitDefEqProofs[hf,fndA,ex];refine Qco (cp) ?_;simp -implicitDefEqProofs[ex]
end Go.Proofs.YtcdlimgkliklhaaGreatDoor
