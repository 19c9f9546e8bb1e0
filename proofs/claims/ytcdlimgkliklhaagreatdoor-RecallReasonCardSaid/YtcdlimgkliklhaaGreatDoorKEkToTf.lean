/-
  The plain law: what the program tells of a register is what the reference tells.
-/
import Derived.Test.YtcdlimgkliklhaaGreatDoorKRcsToEj
set_option linter.all false
set_option maxHeartbeats 8000000
namespace Go.Proofs.YtcdlimgkliklhaaGreatDoor
open Tryz (prog)
open IntKind (i64)
open Go.RowKit
variable {G:Jg}
def chL (l:Jr):List Int:=l.flatMap λx=>x.its.map (·.1)
def ZaL (x:Iss) (l:Jr):chL (x::l)=x.its.map (·.1)++chL l:=rfl
def C (r:Jr) (n:Int):List Int:=chL (issOf r n)
def dvL (f:Int->Int) (m:Int) (l:Jr):Int:=l.foldl (λm x=>dvIt f (max m 1) x.its) m
def ZaM (r:Jr) (f:Int->Int) (n:Int):∀ i,i<=r.length->dvN r f n i=dvL f 0 (issOf (r.take i) n)
 |0,_=>by simp[dvN,issOf,dvL]
 | i+1,hi=>by
   have hlt:i<r.length:=(by omega);have ih:=ZaM r f n i (by omega);rw[W08 hlt,issOf,W1a,dvN,at_eq hlt];by_cases e:r[i].d=n
   . rw[if_pos e,ih,W2j (by simpa using e),dvL,dvL,W1q];rfl
   . rw[if_neg e,ih,W2k (by simpa using e),List.filter_nil,W1H];rfl
def ZaN (f:Int->Int):∀ (its:List (Int×Int)) (m:Int),m<=dvIt f m its/\(∀ y∈its,1+f y.1<=dvIt f m its)/\(dvIt f m its=m∨∃ y∈its,dvIt f m its=1+f y.1)
 |[],m=>⟨W1Z _,by simp,.inl rfl⟩
 | y :: its,m=>by
   obtain ⟨h1,h2,h3⟩:=ZaN f its (max m (1+f y.1));have e:dvIt f m (y::its)=dvIt f (max m (1+f y.1)) its:=rfl;rw[e];refine ⟨by omega,λz hz=>?_,?_⟩
   . rcases W0g.1 hz with rfl|hz
     . omega
     . exact h2 z hz
   . rcases h3 with h3 | ⟨z,hz,h3⟩
     . rcases Int.le_total m (1+f y.1) with hm|hm
       . exact .inr ⟨y,W0H ..,by omega⟩
       . exact .inl (by omega)
     . exact .inr ⟨z,W0z _ hz,h3⟩
def ZaO (f:Int->Int):∀ (l:Jr) (m:Int),m<=dvL f m l/\(l≠[]->1<=dvL f m l)/\(∀ c∈chL l,1+f c<=dvL f m l)/\(dvL f m l=m∨dvL f m l=1∨∃ c∈chL l,dvL f m l=1+f c)
 |[],m=>⟨W1Z _,by simp,by simp[chL],.inl rfl⟩
 | x :: l,m=>by
   obtain ⟨h1,h2,h3⟩:=ZaN f x.its (max m 1);obtain ⟨g1,g2,g3,g4⟩:=ZaO f l (dvIt f (max m 1) x.its);have e:dvL f m (x::l)=dvL f (dvIt f (max m 1) x.its) l:=rfl;rw[e];have q1:m<=max m 1:=Int.le_max_left ..;have q2:1<=max m 1:=Int.le_max_right ..;refine ⟨Int.le_trans q1 (Int.le_trans h1 g1),λ_=>Int.le_trans q2 (Int.le_trans h1 g1),λc hc=>?_,?_⟩
   . rw[ZaL]at hc;rcases W0h.1 hc with hc|hc
     . obtain ⟨y,hy,rfl⟩:=W0i.1 hc;exact Int.le_trans (h2 y hy) g1
     . exact g3 c hc
   . rcases g4 with g4|g4 | ⟨c,hc,g4⟩
     . rcases h3 with h3 | ⟨y,hy,h3⟩
       . rcases Int.le_total m 1 with hm|hm
         . exact .inr (.inl (by omega))
         . exact .inl (by omega)
       . exact .inr (.inr ⟨y.1,by rw[ZaL];exact W0h.2 (.inl (W0i.2 ⟨y,hy,rfl⟩)),by omega⟩)
     . exact .inr (.inl g4)
     . exact .inr (.inr ⟨c,by rw[ZaL];exact W0h.2 (.inr hc),g4⟩)
section
variable {r:Jr}
def ZaP (hO:Ord r) {n:Int} (hn:n∈nums r):issOf r n≠[]:=by
 obtain ⟨i,hi,rfl⟩:=Z8V hO hn;exact List.ne_nil_of_mem (a:=r[i]) (W0G.2 ⟨W0e hi,by simp⟩)
def Dv_eq (r:Jr) (k:Nat) (n:Int):Dv r (k+1) n=dvL (Dv r k) 0 (issOf r n):=by
 rw[Dv,ZaM r _ n _ (W0f _),W0v]
def Dv_ch (k:Nat) (n:Int) {c:Int} (hc:c∈C r n):1+Dv r k c<=Dv r (k+1) n:=by
 rw[Dv_eq];exact (ZaO _ _ _).2.2.1 c hc
def ZaQ (hO:Ord r) (k:Nat) {n:Int} (hn:n∈nums r):1<=Dv r (k+1) n:=by
 rw[Dv_eq];exact (ZaO _ _ _).2.1 (ZaP hO hn)
def Dv_or (hO:Ord r) (k:Nat) {n:Int} (hn:n∈nums r):Dv r (k+1) n=1∨∃ c∈C r n,Dv r (k+1) n=1+Dv r k c:=by
 have h1:=ZaQ hO k hn;rw[Dv_eq]at *;rcases (ZaO (Dv r k) (issOf r n) 0).2.2.2 with h|h|h
 . omega
 . exact .inl h
 . exact .inr h
def C_in (hin:∀ x∈r,ItsIn r x) {n c:Int} (hc:c∈C r n):c∈nums r:=by
 obtain ⟨x,hx,hc⟩:=W0u.1 hc;obtain ⟨y,hy,rfl⟩:=W0i.1 hc;exact hin x (W0G.1 hx).1 y hy
def ZaR (lf:List Int):∀ (its:List (Int×Int)) (b:Bool),rdIt lf b its=true↔b=true/\∀ y∈its,y.1 ∉ lf
 |[],b=>by simp[rdIt]
 | y::its,b=>by
   have e:rdIt lf b (y::its)=rdIt lf (b && !decide (y.1∈lf)) its:=rfl;rw[e,ZaR lf its];simp[and_assoc]
def ZaS (lf:List Int):∀ (l:Jr) (b:Bool),rdN lf b l=true↔b=true/\∀ c∈chL l,c ∉ lf
 |[],b=>by simp[rdN,chL]
 | x :: l,b=>by
   have e:rdN lf b (x::l)=rdN lf (rdIt lf b x.its) l:=rfl;rw[e,ZaS lf l,ZaR,ZaL];simp only[W0h,W0i]
   constructor
   . rintro ⟨⟨h1,h2⟩,h3⟩;refine ⟨h1,λc hc=>?_⟩;rcases hc with ⟨y,hy,rfl⟩|hc
     . exact h2 y hy
     . exact h3 c hc
   . rintro ⟨h1,h2⟩;exact ⟨⟨h1,λy hy=>h2 _ (.inl ⟨y,hy,rfl⟩)⟩,λc hc=>h2 c (.inr hc)⟩
def ZaT (dp:List (Int×Int)):∀ (its:List (Int×Int)) (m:Int),m<=msIt dp m its/\(∀ y∈its,dpG dp y.1<=msIt dp m its)/\(msIt dp m its=m∨∃ y∈its,msIt dp m its=dpG dp y.1)
 |[],m=>⟨W1Z _,by simp,.inl rfl⟩
 | y :: its,m=>by
   obtain ⟨h1,h2,h3⟩:=ZaT dp its (max m (dpG dp y.1));have e:msIt dp m (y::its)=msIt dp (max m (dpG dp y.1)) its:=rfl;rw[e];refine ⟨by omega,λz hz=>?_,?_⟩
   . rcases W0g.1 hz with rfl|hz
     . omega
     . exact h2 z hz
   . rcases h3 with h3 | ⟨z,hz,h3⟩
     . rcases Int.le_total m (dpG dp y.1) with hm|hm
       . exact .inr ⟨y,W0H ..,by omega⟩
       . exact .inl (by omega)
     . exact .inr ⟨z,W0z _ hz,h3⟩
def ZaU (dp:List (Int×Int)):∀ (l:Jr) (m:Int),m<=msN dp m l/\(∀ c∈chL l,dpG dp c<=msN dp m l)/\(msN dp m l=m∨∃ c∈chL l,msN dp m l=dpG dp c)
 |[],m=>⟨W1Z _,by simp[chL],.inl rfl⟩
 | x :: l,m=>by
   obtain ⟨h1,h2,h3⟩:=ZaT dp x.its m;obtain ⟨g1,g2,g3⟩:=ZaU dp l (msIt dp m x.its);have e:msN dp m (x::l)=msN dp (msIt dp m x.its) l:=rfl;rw[e];refine ⟨by omega,λc hc=>?_,?_⟩
   . rw[ZaL]at hc;rcases W0h.1 hc with hc|hc
     . obtain ⟨y,hy,rfl⟩:=W0i.1 hc;have:=h2 y hy;omega
     . exact g2 c hc
   . rcases g3 with g3 | ⟨c,hc,g3⟩
     . rcases h3 with h3 | ⟨y,hy,h3⟩
       . exact .inl (by omega)
       . exact .inr ⟨y.1,by rw[ZaL];exact W0h.2 (.inl (W0i.2 ⟨y,hy,rfl⟩)),by omega⟩
     . exact .inr ⟨c,by rw[ZaL];exact W0h.2 (.inr hc),g3⟩
def ZaV {n:Int}:∀ {dp:List (Int×Int)},n∈dp.map (·.1)->∃ v,dpLk n dp=some v
 |[],h=>by simp at h
 | p :: dp,h=>by
   simp only[dpLk]
   split
   . exact ⟨_,rfl⟩
   . rename_i e;simp only[W0F,W0g]at h;exact ZaV (h.resolve_left λe2=>e (by rw[e2]))
def AInv (r:Jr) (s:List (Int×Int)×List Int):Prop:=∀ p∈s.1,∀ j:Nat,p.2<=j->Dv r j p.1=p.2
def AInv.step (hO:Ord r) (hin:∀ x∈r,ItsIn r x) {s:List (Int×Int)×List Int} (hd:DInv r s) (h:AInv r s) {n:Int} (hn:n∈nums r):AInv r (dStep r s n):=by
 unfold dStep
 split
 . rename_i hb;obtain ⟨h1,h2⟩:=(ZaS _ _ _).1 hb
   have kids:∀ c∈C r n,(c,dpG s.1 c)∈s.1:=λc hc=>by
    have hc1:c∈s.1.map (·.1)++s.2:=hd.perm.mem_iff.2 (C_in hin hc);have hc2:c∈s.1.map (·.1):=(W0h.1 hc1).resolve_right (h2 c hc);obtain ⟨v,hv⟩:=ZaV hc2;have:=Zai hv
    rwa [show dpG s.1 c=v by simp[dpG,hv]]
   obtain ⟨m1,m2,m3⟩:=ZaU s.1 (issOf r n) 0;intro p hp j hj;rcases W0h.1 hp with hp|hp
   . exact h p hp j hj
   . simp only[W0B]at hp;subst hp;simp only at hj ⊢;obtain ⟨j,rfl⟩ : ∃ j',j=j'+1:=⟨j-1,by omega⟩
     have same:∀ c∈C r n,Dv r j c=dpG s.1 c:=λc hc=>by
      have:=m2 c hc;exact h _ (kids c hc) j (by simp only;omega)
     have o1:=ZaQ hO j hn
     apply Int.le_antisymm
     . rcases Dv_or hO j hn with e | ⟨c,hc,e⟩
       . omega
       . have:=m2 c hc;have:=same c hc;omega
     . rcases m3 with e | ⟨c,hc,e⟩
       . omega
       . have:=Dv_ch (r:=r) j n hc;have:=same c hc;omega
 . exact h
def AInv.fold (hO:Ord r) (hin:∀ x∈r,ItsIn r x):∀ (l:List Int) {s:List (Int×Int)×List Int},(∀ n∈l,n∈nums r)->DInv r s->AInv r s->AInv r (l.foldl (dStep r) s)
 |[],s,_,_,h=>h
 |n::l,s,hl,hd,h=>AInv.fold hO hin l (λm hm=>hl m (W0z _ hm)) (hd.step n) (h.step hO hin hd (hl n (W0H ..)))
def AInv.run (hO:Ord r) (hin:∀ x∈r,ItsIn r x):∀ k,AInv r (dRun r k)
 |0=>by intro p hp;simp[dRun]at hp
 |k+1=>AInv.fold hO hin (nums r) (λ_ h=>h) (DInv.run r k) (AInv.run hO hin k)
def Stuck (r:Jr) (L:List Int):Prop:=∀ n∈L,∃ c∈C r n,c∈L
def ZaW {s:List (Int×Int)×List Int} {n:Int} (h:¬rdN s.2 (decide (n∈s.2)) (issOf r n)=true):dStep r s n=s/\(n∈s.2->∃ c∈C r n,c∈s.2):=by
 refine ⟨by unfold dStep;rw[if_neg h],λhn=>?_⟩;rw[ZaS]at h;by_cases e:∃ c∈C r n,c∈s.2
 . exact e
 . exact absurd ⟨W0M hn,λc hc h2=>e ⟨c,hc,h2⟩⟩ h
def ZaX (s:List (Int×Int)×List Int) (n:Int):(dStep r s n).2.length<=s.2.length:=by
 unfold dStep
 split
 . exact List.length_erase_le
 . exact W0f _
def ZaY:∀ (l:List Int) (s:List (Int×Int)×List Int),(l.foldl (dStep r) s).2.length<=s.2.length
 |[],s=>W0f _
 |n::l,s=>W0O (ZaY l _) (ZaX s n)
def ZaZ:∀ (l:List Int) (s:List (Int×Int)×List Int),(l.foldl (dStep r) s).2.length<s.2.length∨(l.foldl (dStep r) s=s/\∀ n∈l,n∈s.2->∃ c∈C r n,c∈s.2)
 |[],s=>.inr ⟨rfl,by simp⟩
 | n :: l,s=>by
   by_cases e:rdN s.2 (decide (n∈s.2)) (issOf r n)=true
   . refine .inl (Nat.lt_of_le_of_lt (ZaY l _) ?_);have hm:=Zah e;unfold dStep;rw[if_pos e];have:=List.length_erase_of_mem hm;have:=List.length_pos_of_mem hm;simp only;omega
   . obtain ⟨h1,h2⟩:=ZaW e;rw[W2f,h1];rcases ZaZ l s with h | ⟨h3,h4⟩
     . exact .inl h
     . refine .inr ⟨h3,λm hm=>?_⟩;rcases W0g.1 hm with rfl|hm
       . exact h2
       . exact h4 m hm
def Zb0:∀ (l:List Int) {s:List (Int×Int)×List Int},Stuck r s.2->l.foldl (dStep r) s=s
 |[],s,_=>rfl
 | n::l,s,h=>by
   have:¬rdN s.2 (decide (n∈s.2)) (issOf r n)=true:=λe=>by
    have hm:=Zah e;obtain ⟨c,hc,h2⟩:=h n hm;exact ((ZaS _ _ _).1 e).2 c hc h2
   rw[W2f,(ZaW this).1];exact Zb0 l h
def Zb1 (r:Jr):∀ k,(dRun r k).2.length+k<=(nums r).length∨Stuck r (dRun r k).2
 |0=>.inl (by simp[dRun])
 | k + 1=>by
   have hsub:∀ n∈(dRun r k).2,n∈nums r:=λn hn=>(DInv.run r k).perm.mem_iff.1 (W0h.2 (.inr hn))
   rcases Zb1 r k with h|h
   . rcases ZaZ (r:=r) (nums r) (dRun r k) with h2 | ⟨h2,h3⟩
     . exact .inl (by simp only[dRun,dPass];omega)
     . refine .inr ?_;simp only[dRun,dPass];rw[h2];exact λn hn=>h3 n (hsub n hn) hn
   . refine .inr ?_;simp only[dRun,dPass];rw[Zb0 (nums r) h];exact h
def Zb2 {L:List Int} (h:Stuck r L):∀ (k:Nat) (n:Int),n∈L->(k:Int)<=Dv r k n
 |0,n,_=>by simp[Dv]
 | k+1,n,hn=>by
   obtain ⟨c,hc,h2⟩:=h n hn;have:=Zb2 h k c h2;have:=Dv_ch (r:=r) k n hc;omega
def Zb3 (g:Int->Int) (K:Int):∀ (l:List Int) (m:Int),K<l.foldl (λm n=>max m (g n)) m↔K<m∨∃ n∈l,K<g n
 |[],m=>by simp
 | n::l,m=>by
   rw[W2f,Zb3 g K l];simp only[W0g,exists_eq_or_imp];rw[<- or_assoc];refine or_congr_left ?_;omega
def Zb4 {l:List Int} {g:Int->Int} {K:Int} (hK:0<=K):K<mostV l g↔∃ n∈l,K<g n:=by
 rw[mostV,Zb3]
 constructor
 . rintro (h|h)
   . omega
   . exact h
 . exact .inr
def dp_Dv (hL:Z8J r=true) (h:(dRun r (nums r).length).2.length=0) {n:Int} (hn:n∈nums r):(n,dpG (dRun r (nums r).length).1 n)∈(dRun r (nums r).length).1/\Dv r ((nums r).length+1) n=dpG (dRun r (nums r).length).1 n:=by
 have hd:=DInv.run r (nums r).length;have h0:(dRun r (nums r).length).2=[]:=W0l.1 h
 have h1:n∈(dRun r (nums r).length).1.map (·.1):=by
  have:=hd.perm.mem_iff.2 hn
  rwa [h0,W1H]at this
 obtain ⟨v,hv⟩:=ZaV h1;have hm:=Zai hv;have e:dpG (dRun r (nums r).length).1 n=v:=(by simp[dpG,hv]);rw[e];refine ⟨hm,?_⟩;have hb:=hd.bd _ hm;have hl:=hd.len;exact AInv.run (Z8R hL) (λx hx=>ZaF hL hx) _ _ hm _ (by simp only at hb ⊢;omega)
def Zb5 (r:Jr):openV r=chkV r:=by
 unfold openV chkV
 cases hL:Z8J r
 . rfl
 . simp only [if_true];by_cases h:0<(dRun r (nums r).length).2.length
   . rw[if_pos h];have hs:Stuck r (dRun r (nums r).length).2:=(Zb1 r (nums r).length).resolve_left (by omega);obtain ⟨n,hn⟩:=List.exists_mem_of_length_pos h;have hn2:n∈nums r:=(DInv.run r _).perm.mem_iff.1 (W0h.2 (.inr hn));have:=Zb2 hs ((nums r).length+1) n hn;rw[if_pos ((Zb4 (by omega)).2 ⟨n,hn2,by omega⟩)]
   . rw [if_neg h];have h0:(dRun r (nums r).length).2.length=0:=(by omega);have hd:=DInv.run r (nums r).length;have hl:=hd.len
     have e1:(∃ p∈(dRun r (nums r).length).1,6<p.2)↔6<mostV (nums r) (Dv r ((nums r).length+1)):=by
      rw[Zb4 (by omega)]
      constructor
      . rintro ⟨p,hp,h6⟩;have hn:p.1∈nums r:=hd.perm.mem_iff.1 (W0h.2 (.inl (W0i.2 ⟨p,hp,rfl⟩)));refine ⟨p.1,hn,?_⟩;have hb:=hd.bd _ hp;rw[AInv.run (Z8R hL) (λx hx=>ZaF hL hx) _ _ hp _ (by omega)];exact h6
      . rintro ⟨n,hn,h6⟩;obtain ⟨h1,h2⟩:=dp_Dv hL h0 hn;rw[h2]at h6;exact ⟨_,h1,h6⟩
     have e2:¬((nums r).length:Int)<mostV (nums r) (Dv r ((nums r).length+1)):=by
      rw[Zb4 (by omega)];rintro ⟨n,hn,h6⟩;obtain ⟨h1,h2⟩:=dp_Dv hL h0 hn;have:=hd.bd _ h1;rw[h2]at h6;simp only at this;omega
     rw[if_neg e2];by_cases c:6<mostV (nums r) (Dv r ((nums r).length+1))
     . rw[if_pos c,if_pos (e1.2 c)]
     . rw[if_neg c,if_neg λe=>c (e1.1 e)]
def Zb6 {i:Nat} (hi:i<r.length) (n:Int):issOf (r.take (i+1)) n=if r[i].d=n then issOf (r.take i) n++[r[i]] else issOf (r.take i) n:=by
 rw[W08 hi,issOf,W1a]
 split
 . rename_i e;rw[W2j (by simpa using e)];rfl
 . rename_i e;rw[W2k (by simpa using e),List.filter_nil,W1H];rfl
def Zb7 (hL:Z8J r=true):∀ (i:Nat) (hi:i<r.length),r[i].l=((issOf (r.take (i+1)) r[i].d).length:Nat)
 | 0,hi=>by
   have h0:=ZaE hL hi;simp only[ordB,W0b,at_eq hi]at h0;rw[h0,Zb6 hi,if_pos rfl];simp[issOf]
 | j + 1,hi=>by
   have hj:j<r.length:=(by omega);have h0:=ZaE hL hi;have ih:=Zb7 hL j hj;have hO:=Z8R hL;rw[Zb6 hi,if_pos rfl];simp only[ordB,at_eq hi,at_eq hj]at h0
   split at h0
   . cases h0
   . split at h0
     . rename_i h1 h2
       have e:issOf (r.take (j+1)) r[j+1].d=[]:=by
        rw[issOf,W2n];intro x hx;obtain ⟨k,hk,rfl⟩:=W0k hx;simp only[W15]at hk;have:=hO.mono (i:=k) (j:=j) (by omega) hj;rw[at_eq (show k<r.length by omega),at_eq hj]at this;simp only[W1W,W0b];omega
       rw[e];simpa using h0
     . rename_i h1 h2;simp only[W01,W0b]at h0;have e:r[j+1].d=r[j].d:=(by omega);rw[e,h0.1,ih];simp
def Zb8 (hL:Z8J r=true) (n:Int):∀ i,i<=r.length->lastN r n i=((issOf (r.take i) n).length:Nat)
 |0,_=>by simp[lastN,issOf]
 | i + 1,hi=>by
   have hlt:i<r.length:=(by omega);have ih:=Zb8 hL n i (by omega);rw[lastN,at_eq hlt,Zb6 hlt]
   split
   . rename_i e;have:=Zb7 hL i hlt;rw[e,Zb6 hlt,if_pos e]at this;rw[ih,this];simp only[W0s,W1p,W1V];omega
   . exact ih
def Zb9 (hL:Z8J r=true) (n:Int):lastV r n=cntV r n:=by
 rw[lastV,Zb8 hL n _ (W0f _),W0v];rfl
end
section
variable {r:Jr}
def Zba (hL:Z8J r=true) (n:Int):∀ (i:Nat),i<=r.length->∀ k:Nat,1<=k->k<=(issOf (r.take i) n).length->∃ j,∃ h:j<r.length,r[j].d=n/\r[j].l=k
 |0,_,k,h1,h2=>by simp[issOf]at h2;omega
 | i + 1,hi,k,h1,h2=>by
   have hlt:i<r.length:=(by omega);by_cases c:k<=(issOf (r.take i) n).length
   . exact Zba hL n i (by omega) k h1 c
   . have hl:=Zb7 hL i hlt;rw[Zb6 hlt]at h2
     split at h2
     . rename_i e;simp only[W0s,W1p,W1V]at h2;refine ⟨i,hlt,e,?_⟩;rw[hl,e,Zb6 hlt,if_pos e];simp only[W0s,W1p,W1V];omega
     . omega
def Zbb (hL:Z8J r=true) {x:Iss} (hx:x∈r):1<=x.l/\x.l<=cntV r x.d:=by
 obtain ⟨i,hi,rfl⟩:=W0k hx;have h1:=Zb7 hL i hi;have h2:(issOf (r.take (i+1)) r[i].d).length<=(issOf r r[i].d).length:=((List.take_sublist (i+1) r).filter _).length_le;have h3:0<(issOf (r.take (i+1)) r[i].d).length:=(by rw[Zb6 hi,if_pos rfl];simp);have h4:cntV r r[i].d=((issOf r r[i].d).length:Nat):=rfl;omega
def Zbc (hL:Z8J r=true) {x:Iss} (hx:x∈r):findN x.d x.l r=some x:=ZaJ hL x hx
def Zbd (hL:Z8J r=true) (n l:Int):(findN n l r).isSome=true↔inR l 1 (lastV r n)=true:=by
 rw[inR,W0b,Zb9 hL]
 constructor
 . intro h;obtain ⟨x,hx⟩:=W0t.1 h;obtain ⟨h1,rfl,rfl⟩:=Z99 hx;exact Zbb hL h1
 . rintro ⟨h1,h2⟩;have h3:cntV r n=((issOf r n).length:Nat):=rfl;obtain ⟨j,hj,rfl,e⟩:=Zba hL n r.length (W0f _) l.toNat (by omega) (by rw[W0v];omega);have:=Zbc hL (W0e hj);rw[e,show ((l.toNat:Nat):Int)=l by omega]at this;rw[this];rfl
end
structure Nte where
 nu:Int
 dy:Int
 sg:Int
 dr:Int
 lt:Int
 fr:Int
 tu:Int
 ca:Int
 up:Bool
 wy:Int
 deriving DecidableEq,Inhabited
def na (x:Nte):List AV:=[.int .i64 x.nu,.int .i64 x.dy,.int .u8 x.sg,.int .i64 x.dr,.int .i64 x.lt,.int .i64 x.fr,.int .i64 x.tu,.int .i64 x.ca,.bool x.up,.int .u8 x.wy]
def nAt (l:List Nte) (i:Nat):Nte:=l.getD i default
def Zbe {l:List Nte} {i:Nat} (h:i<l.length):nAt l i=l[i]:=by simp[nAt,W0j,h]
def cN1 (x:Nte):Bool:=inR x.nu 1 9999&&inR x.dy 0 14610
def cN2 (x:Nte):Bool:=decide (x.sg<=2)&&decide (x.wy<=3)
def cN3 (x:Nte):Bool:=inR x.fr 1 999&&inR x.tu 1 999&&decide (x.fr<=x.tu)
def cN4 (r:Jr) (x:Nte):Bool:=if x.dr=0/\x.lt=0 then !decide (x.ca=0) else (findN x.dr x.lt r).isSome
def cN5 (x:Nte):Bool:=decide (2<=x.lt)||(!x.up&&decide (x.wy=0))
def cN6 (l:List Nte) (i:Nat) (x:Nte):Bool:=decide (x.ca=0)||(l.take i).any λy=>decide (y.nu=x.ca)
def cN7 (l:List Nte) (i:Nat) (x:Nte):Bool:=!(l.take i).any λy=>decide (y.nu=x.nu)
def cN8 (l:List Nte):Nat->Nte->Bool
 |0,_=>true
 |i+1,x=>decide ((nAt l i).dy<x.dy)||(decide ((nAt l i).dy=x.dy)&&decide ((nAt l i).nu<x.nu))
def noteB (r:Jr) (l:List Nte) (i:Nat):Bool:=cN1 (nAt l i)&&cN2 (nAt l i)&&cN3 (nAt l i)&&cN4 r (nAt l i)&&cN5 (nAt l i)&&cN6 l i (nAt l i)&&cN7 l i (nAt l i)&&cN8 l i (nAt l i)
def opN (l:List Nte) (i:Nat):List Nte:=(l.take i).filter λx=>decide (x.sg=1)
def Zbf {l:List Nte} {i:Nat} (h:i<l.length):opN l (i+1)=if l[i].sg=1 then opN l i++[l[i]] else opN l i:=by
 unfold opN;rw[W08 h,W1a]
 split
 . rename_i e;rw[W2j (by simpa using e)];rfl
 . rename_i e;rw[W2k (by simpa using e)];simp
def Zbg (l:List Nte) (i:Nat):(opN l i).length<=i:=W0O (W0D _ _) (by simp;omega)
def Zbh (r:Jr) (l:List Nte):Bool:=decide (l.length<=12)&&(List.range l.length).all (noteB r l)&&decide ((opN l l.length).length<=5)
def chN (r:Jr) (l:List Nte):Int:=if openV r=0 then if Zbh r l=true then 0 else 30 else openV r
def opU (l:List Nte):List Int:=(opN l l.length).map (·.nu)
def truB (l:List Nte) (s:List Int):Bool:=(List.range s.length).all λi=>decide (s.getD i 0∈opU l)&&(i == 0||decide (s.getD (i-1) 0<s.getD i 0))
def asN (r:Jr) (l:List Nte) (s:List Int) (m:Int):Int:=if chN r l=0 then if truB l s=true then if inR m 1 999=true then 0 else 2 else 31 else chN r l
def bsF (s w:List Int) (m:Int) (x:Nte):Bool:=(decide (x.sg=2)||decide (x.nu∈s)) && !decide (x.nu∈w)&&inR m x.fr x.tu
def gcL {α:Type} (p:α->Bool) (h:α->α->Bool):List α->List Bool
 |[]=>[]
 |x::l=>(p x && !((l.zip (gcL p h l)).any λq=>q.2&&h x q.1))::gcL p h l
section
variable {α:Type} {p:α->Bool} {h:α->α->Bool} {l:List α}
def Zbi:∀ l:List α,(gcL p h l).length=l.length
 |[]=>rfl
 |x::l=>by simp[gcL,Zbi l]
def Zbj:∀ (l:List α) (i:Nat),(gcL p h l).drop i=gcL p h (l.drop i)
 |[],i=>by simp[gcL]
 |x::l,0=>rfl
 |x::l,i+1=>by simp only[gcL,W1D];exact Zbj l i
def gcB (p:α->Bool) (h:α->α->Bool) (l:List α) (i:Nat):Bool:=(gcL p h l).getD i false
def gwB (p:α->Bool) (h:α->α->Bool) (l:List α) (x:α) (i k:Nat):Bool:=p x && !((((l.zip (gcL p h l)).take k).drop (i+1)).any λq=>q.2&&h x q.1)
def Zbk {i:Nat} (hi:i<l.length):gcB p h l i=gwB p h l l[i] i l.length:=by
 have e1:l.drop i=l[i]::l.drop (i+1):=W0x hi;have e2:=Zbj (p:=p) (h:=h) l i;have e4:=Zbj (p:=p) (h:=h) l (i+1);rw[e1,gcL]at e2
 have e3:(gcL p h l)[i]? = some (p l[i] && !(((l.drop (i+1)).zip (gcL p h (l.drop (i+1)))).any λq=>q.2&&h l[i] q.1)):=by
  have:=congrArg (λq=>q[0]?) e2;simp only[W13,W1Y,W2i]at this;exact this
 have e5:((l.zip (gcL p h l)).take l.length).drop (i+1)=(l.drop (i+1)).zip (gcL p h (l.drop (i+1))):=by
  rw[W0J (by simp[Zbi])];show List.drop (i+1) (List.zipWith Prod.mk l (gcL p h l))=List.zipWith Prod.mk (l.drop (i+1)) (gcL p h (l.drop (i+1)));rw[List.drop_zipWith,e4]
 rw[gcB,W0j,e3,W0P,gwB,e5]
def Zbl {x:α} {i:Nat}:gwB p h l x i (i+1)=p x:=by
 rw[gwB,W1j (by simp;omega)];simp
def Zbm {x:α} {i k:Nat} (hi:i<k) (hk:k<l.length):gwB p h l x i (k+1)=(gwB p h l x i k && !(gcB p h l k&&h x l[k])):=by
 have hz:k<(l.zip (gcL p h l)).length:=(by simp[Zbi,hk]);have hf:k<(gcL p h l).length:=by rw[Zbi];exact hk
 have e:(l.zip (gcL p h l))[k]=(l[k],gcB p h l k):=by
  rw[List.getElem_zip]
  congr 1
  rw[gcB,W0j,W07 hf];rfl
 rw[gwB,gwB,W08 hz,List.drop_append_of_le_length (by simp[Zbi];omega),List.any_append,e];simp only[List.any_cons,List.any_nil,Bool.or_false,Bool.not_or,Bool.and_assoc]
end
def fB (s w:List Int) (m:Int) (l:List Nte) (i:Nat):Bool:=gcB (bsF s w m) (λx y=>decide (y.ca=x.nu)) l i
def WfN (l:List Nte):Prop:=Sml l/\∀ x∈l,0<=x.sg/\x.sg<=255/\0<=x.wy/\x.wy<=255
abbrev Jl:=List Nte
def sortI (l:List Int):List Int:=l.mergeSort λa b=>decide (a<=b)
def SrtI (l:List Int):Prop:=l.Pairwise λx y=>x<=y
def Zbn (l:List Int):(sortI l).Perm l:=List.mergeSort_perm l _
def Zbo (l:List Int):SrtI (sortI l):=by
 have:=List.pairwise_mergeSort (le:=λa b:Int=>decide (a<=b)) (λa b c=>by simp;omega) (λa b=>by simp;omega) l;exact this.imp (by simp)
def Zbp {a b:List Int} (p:a.Perm b) (ha:SrtI a) (hb:SrtI b):a=b :=
 List.Perm.eq_of_pairwise (le:=λx y:Int=>x<=y) (λx y _ _ h1 h2=>by omega) ha hb p
def Zbq {l s:List Int} (p:s.Perm l) (hs:SrtI s):sortI l=s:=Zbp ((Zbn l).trans p.symm) (Zbo l) hs
def Zbr (l:List Int):(sortI l).length=l.length:=(Zbn l).length_eq
def Zbs {l:List Int} {x:Int}:x∈sortI l↔x∈l:=(Zbn l).mem_iff
def srtI (l:List Int) (a b:Nat):List Int:=l.take a++(sortI ((l.take b).drop a)++l.drop b)
def Zbt {l:List Int} {a b:Nat} (h1:a<=b) (h2:b<=a+1):srtI l a b=l:=by
 have e:sortI ((l.take b).drop a)=(l.take b).drop a:=by
  generalize hq:(l.take b).drop a=q;have hl:q.length<=1:=by rw[<- hq];simp;omega
  match q,hl with
  |[],_=>simp[sortI]
  |[x],_=>simp[sortI]
 have e2:l.take a=(l.take b).take a:=(by rw[List.take_take,Nat.min_eq_left h1]);rw[srtI,e,<- W0U,e2,W11,W11]
def mvI (l:List Int) (a i p:Nat):List Int :=
 l.take a++((sortI ((l.take i).drop a)).take p++(l.getD i 0::((sortI ((l.take i).drop a)).drop p++l.drop (i+1))))
def Zbu {l:List Int} {a i:Nat} (h:i<=l.length):(sortI ((l.take i).drop a)).length=i-a:=by rw[Zbr];simp;omega
def Zbv {l:List Int} {a i:Nat} (h1:a<=i) (h2:i<l.length):srtI l a i=mvI l a i (i-a):=by
 have e:=Zbu (l:=l) (a:=a) (i:=i) (by omega);rw[mvI,srtI,W0x h2];generalize sortI ((l.take i).drop a)=s at *;rw[W0J (by omega:s.length<=i-a),W1j (by omega:s.length<=i-a)];simp[W0j,h2]
def Zbw {l:List Int} {a i p:Nat} (h1:a<=i) (h2:i<l.length) (h3:p<=i-a):(mvI l a i p).length=l.length:=by
 have e:=Zbu (l:=l) (a:=a) (i:=i) (by omega);simp[mvI,e];omega
def Zbx {α:Type} (D C:List α) (y x:α) (n:Nat) (h:n=D.length):((D++y::x::C).set (n+1) y).set n x=D++x::y::C:=by
 subst h;rw[W25 _ _ (by omega),W25 _ _ (by omega)];simp
def Zby {l:List Int} {a i p:Nat} (h1:a<=i) (h2:i<l.length) (h3:p+1<=i-a) :
  ∃ y,(sortI ((l.take i).drop a))[p]? = some y/\(mvI l a i (p+1))[a+p+1]? = some l[i]/\(mvI l a i (p+1))[a+p]? = some y/\((mvI l a i (p+1)).set (a+p+1) y).set (a+p) l[i]=mvI l a i p/\y∈l:=by
 have e:=Zbu (l:=l) (a:=a) (i:=i) (by omega);have hm:∀ y∈sortI ((l.take i).drop a),y∈l:=λy hy=>W1r (W1T (Zbs.1 hy))
 unfold mvI;generalize sortI ((l.take i).drop a)=s at *;have hp:p<s.length:=(by omega);have ta:(l.take a).length=a:=(by simp;omega);have e1:s.take (p+1)=s.take p++[s[p]]:=W08 hp;have e2:s.drop p=s[p]::s.drop (p+1):=W0x hp;have e3:l.getD i 0=l[i]:=(by simp[W0j,h2]);have tp:(s.take p).length=p:=(by simp;omega);refine ⟨s[p],by simp[hp],?_,?_,?_,hm _ (W0e hp)⟩
 . rw[e1,e3,W0o (by omega),ta,W0o (by simp;omega)];have:a+p+1-a-(s.take p++[s[p]]).length=0:=(by simp;omega);rw[this];rfl
 . rw[e1,W0o (by omega),ta,W0U,W0o (by omega),tp];have:a+p-a-p=0:=(by omega);rw[this];rfl
 . rw[e1,e2,e3,W0U];have q:=Zbx (l.take a++s.take p) (s.drop (p+1)++l.drop (i+1)) s[p] l[i] (a+p) (by simp;omega);simp only[W0U,W1e,W18]at q ⊢;exact q
def Zbz {l:List Int} {a i p:Nat} (h1:a<=i) (h2:i<l.length) (h3:p<=i-a)
  (hd:∀ y∈(sortI ((l.take i).drop a)).drop p,l[i]<y) (hc:∀ q,p=q+1->∀ y,(sortI ((l.take i).drop a))[q]? = some y->¬l[i]<y):mvI l a i p=srtI l a (i+1):=by
 have e:=Zbu (l:=l) (a:=a) (i:=i) (by omega);have e3:l.getD i 0=l[i]:=by simp[W0j,h2]
 have e4:(l.take (i+1)).drop a=(l.take i).drop a++[l[i]]:=by
  rw[W08 h2,List.drop_append_of_le_length (by simp;omega)]
 have hs:=Zbo ((l.take i).drop a);have hp:=Zbn ((l.take i).drop a);rw[srtI,mvI,e3];rw[Zbq (l:=(l.take (i+1)).drop a) (s:=(sortI ((l.take i).drop a)).take p++l[i]::(sortI ((l.take i).drop a)).drop p) ]
 . simp[W0U]
 . rw[e4];refine List.perm_middle.trans ?_;rw[W11];exact (List.perm_cons _).2 hp |>.trans (List.perm_append_singleton _ _).symm
 . generalize sortI ((l.take i).drop a)=s at *;have hs2:=hs;unfold SrtI at hs ⊢;rw[<- W11 p s,W29]at hs;obtain ⟨t1,t2,t3⟩:=hs;rw[W29];refine ⟨t1,W1l.2 ⟨λy hy=>by have:=hd y hy;omega,t2⟩,λu hu v hv=>?_⟩;rcases W0g.1 hv with rfl|hv
   . match p,hc,h3 with
     |0,_,_=>simp at hu
     | q + 1,hc,h3 =>
       have hq:q<s.length:=(by omega);have hc2:=hc q rfl s[q] (by simp[hq]);obtain ⟨j,hj,rfl⟩:=W0k hu;rw[W1W];have hjq:j<=q:=(by simp at hj;omega);rcases W0q j q with hl|hg
       . have:=W0Y.1 hs2 j q (by omega) hq hl;omega
       . have:j=q:=(by omega);subst this;omega
   . exact t3 u hu v hv
structure Hld where
 id:Int
 fr:Int
 to:Int
 ds:List Int
structure Prt where
 no:Int
 dy:Int
 ho:Int
 dw:Int
 lt:Int
 bk:Int
 lo:Int
deriving DecidableEq
def hoa (h:Hld):List AV:=[.int .i64 h.id,.int .i64 h.fr,.int .i64 h.to,.vsl (h.ds.map ia)]
def ptA (x:Prt):List AV:=[.int .i64 x.no,.int .i64 x.dy,.int .i64 x.ho,.int .i64 x.dw,.int .i64 x.lt,.int .i64 x.bk,.int .u8 x.lo]
def outB (x:Prt) (day:Int):Bool:=decide (x.dy<=day)&&(decide (x.bk = -1)||decide (day<x.bk)) && !decide (x.lo=2)
def ZbA {a b:List Int} (ha:a.Pairwise (· < ·)) (hb:b.Pairwise (· < ·)) (h:∀ x,x∈a↔x∈b):a=b:=by
 have na:a.Nodup:=ha.imp λh=>Int.ne_of_lt h
 have nb:b.Nodup:=hb.imp λh=>Int.ne_of_lt h
 exact List.Perm.eq_of_pairwise (le:=λx y:Int=>x<y) (λx y _ _ h1 h2=>by omega) ha hb ((List.perm_ext_iff_of_nodup na nb).2 h)
def cmpG (p:Int):List Int->List Int
 |[]=>[]
 |x::t=>if x=p then cmpG p t else x::cmpG x t
def cmpI:List Int->List Int
 |[]=>[]
 |a::t=>a::cmpG a t
def ZbB:∀ (l:List Int) (p:Int),SrtI (p::l)->(cmpG p l).Pairwise (· < ·)/\(∀ x∈cmpG p l,p<x)/\∀ x,x∈cmpG p l↔x∈l/\x≠p
 |[],p,_=>by simp[cmpG]
 | a :: t, p,h=>by
   have h1:SrtI (a::t):=(W1l.1 h).2;have h2:p<=a:=(W1l.1 h).1 a (W0H ..);unfold cmpG;by_cases e:a=p
   . rw[if_pos e];subst e;obtain ⟨g1,g2,g3⟩:=ZbB t a h1;refine ⟨g1,g2,λx=>?_⟩;rw[g3]
     constructor
     . rintro ⟨q1,q2⟩;exact ⟨W0z _ q1,q2⟩
     . rintro ⟨q1,q2⟩;rcases W0g.1 q1 with q|q
       . exact absurd q q2
       . exact ⟨q,q2⟩
   . rw [if_neg e];obtain ⟨g1,g2,g3⟩:=ZbB t a h1;have h3:p<a:=(by omega);refine ⟨W1l.2 ⟨λy hy=>g2 y hy,g1⟩,λx hx=>?_,λx=>?_⟩
     . rcases W0g.1 hx with rfl|hx
       . exact h3
       . have:=g2 x hx;omega
     . rw [W0g,W0g,g3]
       constructor
       . rintro (rfl | ⟨q1,q2⟩)
         . exact ⟨.inl rfl,e⟩
         . refine ⟨.inr q1,λq=>?_⟩;subst q;have:=(W1l.1 h1).1 x q1;omega
       . rintro ⟨q|q,q2⟩
         . exact .inl q
         . by_cases q3:x=a
           . exact .inl q3
           . exact .inr ⟨q,q3⟩
def ZbC {l:List Int} (h:SrtI l):(cmpI l).Pairwise (· < ·):=by
 cases l with
 |nil=>exact .nil
 |cons a t=>exact W1l.2 ⟨(ZbB t a h).2.1,(ZbB t a h).1⟩
def ZbD {l:List Int} (h:SrtI l) {x:Int}:x∈cmpI l↔x∈l:=by
 cases l with
 |nil=>rfl
 | cons a t =>
   show x∈a::cmpG a t↔_;rw[W0g,W0g,(ZbB t a h).2.2];by_cases e:x=a <;> simp[e]
def setI (l:List Int):List Int:=cmpI (sortI l)
def ZbE (l:List Int):(setI l).Pairwise (· < ·):=ZbC (Zbo l)
def ZbF {l:List Int} {x:Int}:x∈setI l↔x∈l:=(ZbD (Zbo l)).trans Zbs
def ZbG {l s:List Int} (hs:s.Pairwise (· < ·)) (h:∀ x,x∈s↔x∈l):setI l=s:=ZbA (ZbE l) hs λx=>ZbF.trans (h x).symm
def r9:List Int:=[0,1,2,3,4,5,6,7,8]
def ZbH {x:Int}:x∈r9↔0<=x/\x<=8:=by simp[r9];omega
def r9_lt:r9.Pairwise (· < ·):=by decide
def ZbI {l:List Int} (h:l.Pairwise (· < ·)) {s:Int} (hs:s∈l):l.drop (l.idxOf s)=s::l.filter λx=>decide (s<x):=by
 induction l with
 |nil=>cases hs
 | cons a t ih =>
   rw[W1l]at h;by_cases e:a=s
   . subst e;have q:t.filter (λx=>decide (a<x))=t:=List.filter_eq_self.2 λx hx=>by simpa using h.1 x hx
     simp[q]
   . have hs2:s∈t:=by
      rcases W0g.1 hs with q|q
      . exact absurd q.symm e
      . exact q
     have q:=h.1 s hs2;have e2:(a == s)=false:=(by simpa using e);rw[List.idxOf_cons,e2];simp only[cond_false,W1D];rw[ih h.2 hs2,List.filter_cons,if_neg (by simp;omega)]
def ZbJ {pp:List Int} {su:Int} (hp:∀ x∈pp,0<=x/\x<=8):(setI (pp++[su])).drop ((setI (pp++[su])).idxOf su)=su::r9.filter λn=>decide (su<n)&&pp.contains n:=by
 have hm:su∈setI (pp++[su]):=ZbF.2 (by simp);rw[ZbI (ZbE _) hm]
 congr 1
 refine ZbA ((ZbE _).filter _) (r9_lt.filter _) λx=>?_
 simp only[W0G,ZbF,W0h,W0B,W0b,W01,W0w,ZbH]
 constructor
 . rintro ⟨q|q,q2⟩
   . exact ⟨hp x q,q2,q⟩
   . omega
 . rintro ⟨-,q2,q⟩;exact ⟨.inl q,q2⟩
abbrev Jh:=List Hld
abbrev Jp:=List Prt
def clP (x y:Prt):Bool:=decide (x.ho=y.ho)||decide (x.dw=y.dw)
def apD:List Prt->Nat->List Prt->Option (List Prt)
 |_,0,tk=>some tk
 |[],_+1,_=>none
 | x::t,m+1,tk=>if tk.any (clP x)=true then apD t (m+1) tk else match apD t m (tk++[x]) with
   |some o=>some o
   |none=>apD t (m+1) tk
def frP (x y:Prt):Prop:=clP x y=false
def ZbK (x y:Prt):clP x y=clP y x:=by simp[clP,eq_comm]
def MfP (l:Jp) (m:Nat) (tk M:Jp):Prop:=M.Sublist l/\M.length=m/\M.Pairwise frP/\∀ x∈M,∀ y∈tk,frP x y
def ZbL:∀ {l:Jp} {m:Nat} {tk o:Jp},apD l m tk=some o->∃ M,o=tk++M/\MfP l m tk M
 | l,0,tk,o,h=>by
   have h:some tk=some o:=by cases l <;> exact h
   cases h
   exact ⟨[],by simp,List.nil_sublist _,rfl,.nil,by simp⟩
 |[],m+1,tk,o,h=>by cases h
 | x :: t,m+1,tk,o,h=>by
   unfold apD at h;by_cases e:tk.any (clP x)=true
   . rw[if_pos e]at h;obtain ⟨M,h1,h2,h3⟩:=ZbL h;exact ⟨M,h1,h2.cons _,h3⟩
   . rw [if_neg e]at h
     have free:∀ y∈tk,clP x y=false:=by
      intro y hy
      cases q:clP x y with
      |false=>rfl
      |true=>exact absurd (W14.2 ⟨y,hy,q⟩) e
     cases q:apD t m (tk++[x]) with
     | some o' =>
       rw[q]at h
       cases h
       obtain ⟨M,h1,h2,h3,h4,h5⟩:=ZbL q;refine ⟨x::M,by rw[h1];simp,h2.cons_cons _,by simp[h3],W1l.2 ⟨λy hy=>?_,h4⟩,?_⟩
       . have:=h5 y hy x (by simp);exact (ZbK x y).trans this
       . intro z hz y hy;rcases W0g.1 hz with rfl|hz
         . exact free y hy
         . exact h5 z hz y (W0h.2 (.inl hy))
     | none =>
       rw[q]at h;obtain ⟨M,h1,h2,h3⟩:=ZbL h;exact ⟨M,h1,h2.cons _,h3⟩
def bitL (ids:List Int) (s:Nat):List Int:=((List.range ids.length).filter λi=>s.testBit i).map λi=>ids.getD i 0
def ndL (dl:List Int) (l:Jp) (a:List Int):List Int:=dl.filter λd=>l.any λx=>decide (x.dw=d) && !a.contains x.ho
def plN (ids dl:List Int) (l:Jp) (s:Nat):List Int×List Int:=(bitL ids s,ndL dl l (bitL ids s))
def lexB:List Int->List Int->Bool
 |a::s,b::t=>if a=b then lexB s t else decide (a<b)
 |_,_=>false
def bfr (a b:List Int):Bool:=if a.length=b.length then lexB a b else decide (a.length<b.length)
def szP (p:List Int×List Int):Nat:=p.1.length+p.2.length
def btB (p q:List Int×List Int):Bool:=decide (szP p<szP q)||(decide (szP p=szP q)&&bfr p.1 q.1)
def caN (ids dl:List Int) (l:Jp):Nat->List Int×List Int
 |0=>plN ids dl l 0
 |s+1=>if btB (plN ids dl l (s+1)) (caN ids dl l s)=true then plN ids dl l (s+1) else caN ids dl l s
def caE (ids dl:List Int) (l:Jp):List Int×List Int:=caN ids dl l (2 ^ ids.length-1)
def ZbM (ids dl:List Int) (l:Jp):∀ n,∃ s,s<=n/\caN ids dl l n=plN ids dl l s
 |0=>⟨0,W0f _,rfl⟩
 | n + 1=>by
   unfold caN
   split
   . exact ⟨n+1,W0f _,rfl⟩
   . obtain ⟨s,h1,h2⟩:=ZbM ids dl l n;exact ⟨s,by omega,h2⟩
def ZbN (ids dl:List Int) (l:Jp):∃ s,s<2 ^ ids.length/\caE ids dl l=plN ids dl l s:=by
 obtain ⟨s,h1,h2⟩:=ZbM ids dl l (2 ^ ids.length-1);have:=Nat.two_pow_pos ids.length;exact ⟨s,by omega,h2⟩
section
open Qq Tryz
def ZbO:RCode :=
 S [r 0 [b 3 0,n 6 .nils,n 7 O],r 1 [L 11 2 3,m 12 1,m 13 2,c 14 117 [11,12,13],m 10 14,x 15 0 10,x 16 1 10,m 8 15,m 9 16],S [r 2 [m 17 9,k 18 .neq 17 O],K 18 3 [m 19 9,n 6 .nils,m 7 19]],r 4 [m 20 8,m 21 1,m 22 2,c 23 118 [20,21,22],m 6 23,n 7 O],.ret]
def ZbP:List RRes:=[.t 6,.t 7]
def ZbQ:PCt prog 63 f63 ZbO ZbP:=pcT func63 rfl
def ZbR:RCode :=
 S [r 0 [n 6 .nils],r 1 [m 11 0,m 12 1,m 13 2,w 14 (.call 114 [.t 11,.t 12,.c .nils,.t 13]),m 7 14],r 2 [n 8 .nils],S [r 3 [m 15 0,w 16 (.nilck (.t 15)),f 17 2 16,l 18 17,e 19 18,n 20 O],.block 0 (.loop (S [r 4 [o 21 .lss 20 19],.cond (.t 21) .skip (.exit 0),.block 1 (S [r 5 [i 22 1 18 20,l 23 22,m 10 23],r 6 [m 24 8,m 25 0,m 26 7,m 27 10,c 28 113 [25,26,27],w 29 (.field false 4 1 (.t 28)),w 30 (.bsl false 1 1 [O] [(0,.t 29)]),w 31 (.app 1 8 (.t 24) (.t 30)),m 8 31]]),r 7 [k 32 .add 20 I,m 20 32]]))],r 8 [m 33 8,m 6 33],.ret]
def ZbS:List RRes:=[.t 6]
def ZbT:PCt prog 118 f118 ZbR ZbS:=pcT func118 rfl
def ZbU:RCode :=
 S [r 0 [w 6 (.alloc [O,O,.int .u8 0,O,O,O,O,O,.bool false,.int .u8 0])],S [r 1 [m 9 0,w 10 (.nilck (.t 9)),f 11 0 10,f 12 1 11,l 13 12,e 14 13,k 15 .sub 14 I,m 7 15],.block 0 (.loop (S [S [r 2 [m 16 7,k 17 .geq 16 O],.cond (.t 17) .skip (.exit 0)],.block 1 (S [r 4 [m 20 0,w 21 (.nilck (.t 20)),f 22 0 21,f 23 1 22,l 24 23,m 25 7,i 26 10 24 25,L 27 10 26,w 8 (.alloc [O,O,.int .u8 0,O,O,O,O,O,.bool false,.int .u8 0]),s 10 8 27],r 5 [f 28 3 8,l 29 28,m 30 2,o 31 .eql 29 30,m 32 31,g 32 true (m 33 1),g 32 true (m 34 7),g 32 true (w 35 (.callv (.t 33) [.t 34])),v 36 32 35],K 36 6 [L 37 10 8,s 10 6 37]]),r 3 [m 18 7,k 19 .sub 18 I,m 7 19]]))],r 7 [w 38 (.build [O,O,.int .u8 0,O,O,O,O,O,.bool false,.int .u8 0] [(4,1,.c I)]),s 10 6 38],.ret]
def ZbV:List RRes:=[.c 6 true 10]
def ZbW {G:Jg} {objs objs':List (Nat×AObj)} {args:List AV} {v:AV} (hn:args.length<=f113.ntmps) (h:∀ R:Run,R.G=G->R.Top->AR prog R ZbU ⟨iniT 0 args,objs⟩ (FinB ZbV v objs')):PB prog G 113 objs args v objs' :=
 PB_of func113 rfl (by kernel_rfl) (rc:=ZbU) (by kernel_rfl) (rs:=ZbV) (by kernel_rfl) hn (λR _ hG hr=>h R hG hr)
end
section
open Qq Tryz
def ZbX:RCode :=
 S [r 0 [n 6 (.bool false)],r 1 [m 7 0,m 8 1,o 9 .geq 7 8,m 10 9,g 10 true (m 11 0),g 10 true (m 12 2),g 10 true (o 13 .leq 11 12),v 14 10 13,m 6 14],.ret]
def ZbY:List RRes:=[.t 6]
def ZbZ:PCt prog 176 f176 ZbX ZbY:=pcT func176 rfl
def Zc0:RCode :=
 S [r 0 [b 2 0,n 4 (.bool false)],r 1 [f 12 1 2,l 13 12,m 14 1,i 15 10 13 14,L 16 10 15,w 5 (.alloc [O,O,.int .u8 0,O,O,O,O,O,.bool false,.int .u8 0]),s 10 5 16],S [r 2 [f 17 0 5,l 18 17,w 19 (.call 176 [.t 18,.c I,.c (.int .i64 9999)]),t 20 19,m 21 20,g 21 false (f 22 1 5),g 21 false (l 23 22),g 21 false (w 24 (.call 176 [.t 23,.c O,.c (.int .i64 14610)])),g 21 false (t 25 24),u 26 21 25,m 27 26,g 27 false (f 28 2 5),g 27 false (l 29 28),g 27 false (k 30 .gtr 29 (.int .u8 2)),u 31 27 30,m 32 31,g 32 false (f 33 5 5),g 32 false (l 34 33),g 32 false (f 35 6 5),g 32 false (l 36 35),g 32 false (w 37 (.call 176 [.t 34,.c I,.t 36])),g 32 false (t 38 37),u 39 32 38,m 40 39,g 40 false (f 41 6 5),g 40 false (l 42 41),g 40 false (k 43 .gtr 42 (.int .i64 999)),u 44 40 43,m 45 44,g 45 false (f 46 9 5),g 45 false (l 47 46),g 45 false (k 48 .gtr 47 (.int .u8 3)),u 49 45 48],K 49 3 [n 4 (.bool false)]],S [r 4 [f 50 3 5,l 51 50,k 52 .eql 51 O,m 53 52,g 53 true (f 54 4 5),g 53 true (l 55 54),g 53 true (k 56 .eql 55 O),v 57 53 56],.cond (.t 57) (S [r 5 [f 58 7 5,l 59 58,k 60 .eql 59 O],K 60 6 [n 4 (.bool false)]]) (S [r 7 [f 62 0 2,L 63 1 62,f 64 3 5,l 65 64,f 66 4 5,l 67 66,w 68 (.build [O,O] [(0,1,.t 65),(1,1,.t 67)]),c 69 172 [63,68],m 61 69,x 70 0 61,x 71 1 61,w 6 (.alloc [O,O,.int .u8 0,.nils,.nils]),s 5 6 70,m 7 71],r 8 [m 72 7,t 73 72],K 73 9 [n 4 (.bool false)]])],S [r 10 [f 74 4 5,l 75 74,k 76 .lss 75 (.int .i64 2),m 77 76,g 77 true (f 78 8 5),g 77 true (l 79 78),g 77 true (m 80 79),g 80 false (f 81 9 5),g 80 false (l 82 81),g 80 false (k 83 .gtr 82 (.int .u8 0)),g 77 true (u 84 80 83),v 85 77 84],K 85 11 [n 4 (.bool false)]],r 12 [f 86 7 5,l 87 86,k 88 .eql 87 O,m 8 88],S [r 13 [n 9 O],.block 0 (.loop (S [S [r 14 [m 89 9,m 90 1,o 91 .lss 89 90],.cond (.t 91) .skip (.exit 0)],.block 1 (S [r 16 [f 94 1 2,l 95 94,m 96 9,i 97 10 95 96,L 98 10 97,w 10 (.alloc [O,O,.int .u8 0,O,O,O,O,O,.bool false,.int .u8 0]),s 10 10 98],S [r 17 [f 99 0 10,l 100 99,f 101 0 5,l 102 101,o 103 .eql 100 102],K 103 18 [n 4 (.bool false)]],r 19 [m 104 8,m 105 104,g 105 false (f 106 0 10),g 105 false (l 107 106),g 105 false (f 108 7 5),g 105 false (l 109 108),g 105 false (o 110 .eql 107 109),u 111 105 110,m 8 111]]),r 15 [m 92 9,k 93 .add 92 I,m 9 93]]))],S [r 20 [m 112 1,k 113 .eql 112 O],K 113 21 [m 114 8,m 4 114]],r 22 [f 115 1 2,l 116 115,m 117 1,k 118 .sub 117 I,i 119 10 116 118,L 120 10 119,w 11 (.alloc [O,O,.int .u8 0,O,O,O,O,O,.bool false,.int .u8 0]),s 10 11 120],r 23 [m 121 8,m 122 121,g 122 true (f 123 1 11),g 122 true (l 124 123),g 122 true (f 125 1 5),g 122 true (l 126 125),g 122 true (o 127 .lss 124 126),g 122 true (m 128 127),g 128 false (f 129 1 11),g 128 false (l 130 129),g 128 false (f 131 1 5),g 128 false (l 132 131),g 128 false (o 133 .eql 130 132),g 128 false (m 134 133),g 134 true (f 135 0 11),g 134 true (l 136 135),g 134 true (f 137 0 5),g 134 true (l 138 137),g 134 true (o 139 .lss 136 138),g 128 false (v 140 134 139),g 122 true (u 141 128 140),v 142 122 141,m 4 142],.ret]
def Zc1:List RRes:=[.t 4]
def Zc2:PCt prog 171 f171 Zc0 Zc1:=pcT func171 rfl
def Zc3:RCode :=
 S [r 0 [b 1 0,n 2 (.bool false)],S [r 1 [f 5 1 1,l 6 5,e 7 6,k 8 .gtr 7 (.int .i64 12)],K 8 2 [n 2 (.bool false)]],r 3 [n 3 O],S [r 4 [n 4 O],.block 0 (.loop (S [S [r 5 [m 9 4,f 10 1 1,l 11 10,e 12 11,o 13 .lss 9 12],.cond (.t 13) .skip (.exit 0)],.block 1 (S [S [r 7 [L 16 2 1,m 17 4,c 18 171 [16,17],t 19 18],K 19 8 [n 2 (.bool false)]],r 9 [f 20 1 1,l 21 20,m 22 4,i 23 10 21 22,f 24 2 23,l 25 24,k 26 .eql 25 (.int .u8 1)],.cond (.t 26) (r 10 [m 27 3,k 28 .add 27 I,m 3 28]) .skip]),r 6 [m 14 4,k 15 .add 14 I,m 4 15]]))],r 11 [m 29 3,k 30 .leq 29 (.int .i64 5),m 2 30],.ret]
def Zc4:List RRes:=[.t 2]
def Zc5:PCt prog 134 f134 Zc3 Zc4:=pcT func134 rfl
def Zc6:RCode :=
 S [r 0 [b 1 0,n 2 O],S [r 1 [f 4 0 1,L 5 1 4,c 6 133 [5],m 3 6],r 2 [m 7 3,k 8 .neq 7 O],K 8 3 [m 9 3,m 2 9]],S [r 4 [L 10 2 1,c 11 134 [10],t 12 11],K 12 5 [n 2 (.int .i64 30)]],r 6 [n 2 O],.ret]
def Zc7:List RRes:=[.t 2]
def Zc8:PCt prog 77 f77 Zc6 Zc7:=pcT func77 rfl
def Zc9:RCode :=
 S [r 0 [b 1 0,n 2 .nils],r 1 [n 3 .nils],S [r 2 [n 4 O],.block 0 (.loop (S [S [r 3 [m 7 4,f 8 1 1,l 9 8,e 10 9,o 11 .lss 7 10],.cond (.t 11) .skip (.exit 0)],.block 1 (S [S [r 5 [f 14 1 1,l 15 14,m 16 4,i 17 10 15 16,f 18 2 17,l 19 18,k 20 .neq 19 (.int .u8 1)],.cond (.t 20) (.exit 1) .skip],r 6 [m 21 3,m 22 4,w 23 (.bsl false 1 1 [O] [(0,.t 22)]),w 24 (.app 1 8 (.t 21) (.t 23)),m 3 24],r 7 [m 25 3,e 26 25,k 27 .sub 26 I,m 5 27],.block 2 (.loop (S [S [R 8 [m 28 5,a [0] (k 29 .gtr 28 O),a [1] (m 30 29),a [2] (g 30 true (f 31 1 1)),a [3,2] (g 30 true (l 32 31)),a [2] (g 30 true (m 33 3)),a [2] (g 30 true (m 34 5)),a [6,2] (g 30 true (k 35 .sub 34 I)),a [5,7,2] (g 30 true (i 36 1 33 35)),a [8,2] (g 30 true (l 37 36)),a [4,9,2] (g 30 true (i 38 10 32 37)),a [10,2] (g 30 true (f 39 0 38)),a [11,2] (g 30 true (l 40 39)),a [2] (g 30 true (f 41 1 1)),a [13,2] (g 30 true (l 42 41)),a [2] (g 30 true (m 43 3)),a [2] (g 30 true (m 44 5)),a [15,16,2] (g 30 true (i 45 1 43 44)),a [17,2] (g 30 true (l 46 45)),a [14,18,2] (g 30 true (i 47 10 42 46)),a [19,2] (g 30 true (f 48 0 47)),a [20,2] (g 30 true (l 49 48)),a [12,21,2] (g 30 true (o 50 .gtr 40 49)),a [2,22] (v 51 30 50)],.cond (.t 51) .skip (.exit 2)],.block 3 (S [r 10 [m 54 3,m 55 5,i 56 1 54 55,l 57 56,m 6 57],r 11 [m 58 3,m 59 5,m 60 3,m 61 5,k 62 .sub 61 I,i 63 1 60 62,l 64 63,i 65 1 58 59,s 1 65 64],r 12 [m 66 3,m 67 5,k 68 .sub 67 I,m 69 6,i 70 1 66 68,s 1 70 69]]),r 9 [m 52 5,k 53 .sub 52 I,m 5 53]]))]),r 4 [m 12 4,k 13 .add 12 I,m 4 13]]))],r 13 [m 71 3,m 2 71],.ret]
def Zca:List RRes:=[.t 2]
def Zcb:PCt prog 65 f65 Zc9 Zca:=pcT func65 rfl
def Zcc:RCode :=
 S [r 0 [b 1 0,n 2 (.bool false)],r 1 [f 3 0 1,L 4 1 3,c 5 125 [4],m 6 5,g 6 false (f 7 1 1),g 6 false (l 8 7),g 6 false (e 9 8),g 6 false (k 10 .gtr 9 (.int .i64 16)),u 11 6 10,m 2 11],.ret]
def Zcd:List RRes:=[.t 2]
def Zce:PCt prog 67 f67 Zcc Zcd:=pcT func67 rfl
end
def Zcf {α:Type} {l:List α} {k:Nat} (h:k<l.length) (p:α->Bool):(l.take (k+1)).any p=((l.take k).any p||p l[k]):=by
 rw[W08 h,List.any_append];simp
def Chk (S:St) (Q:Prop) (Φ:Exit->St->Prop):Exit->St->Prop
 |.normal,s=>Ym s S/\Q
 |.ret,s=>Φ .ret s
 |_,_=>False
section
variable {P:Program} {R:Run} {S s:St} {Q:Prop} {Φ:Exit->St->Prop}
def Zcg:Chk S Q Φ .normal s=(Ym s S/\Q):=rfl
def Zch:Chk S Q Φ .ret s=Φ .ret s:=rfl
attribute [simp] Zcg Zch
def Zci {a b:RCode} {st S:St} {Φ:Exit->St->Prop} (h:AR P R a st λe s=>e = .normal/\Ym s S) (hb:AR P R b S Φ):AR P R (.seq a b) st Φ :=
 Z1M (Z2I h λe s hs=>by obtain ⟨rfl,hw⟩:=hs;exact Z2Q hw hb)
def Zcj {a b:RCode} {st S:St} {Q:Prop} {Φ:Exit->St->Prop} (h:AR P R a st (Chk S Q Φ)) (hb:Q->AR P R b S Φ):AR P R (.seq a b) st Φ :=
 Z1M (Z2I h λe s hs=>by
  cases e with
  |normal=>exact Z2Q hs.1 (hb hs.2)
  |ret=>exact hs
  |_=>exact hs.elim)
end
def Zck (n lo hi:Int):PC prog G 176 [.int .i64 n,.int .i64 lo,.int .i64 hi] (.bool (inR n lo hi)):=by
 (refine ZbZ rfl λR hG hrd=>Qga ?_;subst hG)
 by_cases h1:lo<=n <;> by_cases h2:n<=hi <;> simp -implicitDefEqProofs[ZbX,ZbY,inR,h1,h2]
def Zcl (r:Jr) (l:Jl) (i:Nat) (hi:i<l.length) (hw:WfN l) (hr:SmlR r):PC prog G 171 [.agg [.vsl (r.map isa),.vsl (l.map na)],.int .i64 i] (.bool (noteB r l i)):=by
 have hl:=hw.1;unfold Sml at hl;have hb:=hw.2 l[i] (W0e hi);have hx:=Zbe hi;have hf:=Z8F (G:=G) r l[i].dr l[i].lt hr.1;rw[rega]at hf;obtain ⟨x,hxx⟩:=Qex (l[i]);rw[<- hxx]at hx hb hf;have hlx:l[i]=x:=hxx.symm;have hna:na x=[.int .i64 x.nu,.int .i64 x.dy,.int .u8 x.sg,.int .i64 x.dr,.int .i64 x.lt,.int .i64 x.fr,.int .i64 x.tu,.int .i64 x.ca,.bool x.up,.int .u8 x.wy]:=rfl;refine Zc2 rfl λR hG hrd=>?_
 subst hG;unfold Zc0;refine Zci (S:=⟨[(1,.int .i64 i),(2,.ptr 2 0)],[(2,.box [.vsl (r.map isa),.vsl (l.map na)])]⟩) (Qga ?_) ?_
 . simp -implicitDefEqProofs
   (refine Wkc ?_;simp only[Wkl,and_true];(try simp[lk,Yc,Ya,AV.keys]))
 refine Zci (S:=⟨[(1,.int .i64 i),(2,.ptr 2 0),(5,.ptr 5 0)],[(2,.box [.vsl (r.map isa),.vsl (l.map na)]),(5,.box (na x))]⟩) (Qga ?_) ?_
 . simp -implicitDefEqProofs[hi,hlx,hna]
   ((try simp only[hna]);refine Ym.sub (by simp[lk,Ya,AV.keys,hna]) ?_;simp only[hna,Wkl,and_true];(try simp[lk,Yc,Ya,AV.keys,hna]))
 have nf:∀ c:Bool,c=false->(c&&noteB r l i)=false:=λc h=>by rw[h];rfl
 refine Zcj (S:=⟨[(1,.int .i64 i),(2,.ptr 2 0),(5,.ptr 5 0)],[(2,.box [.vsl (r.map isa),.vsl (l.map na)]),(5,.box (na x))]⟩) (Q:=cN1 x=true/\cN2 x=true/\cN3 x=true) (Qga ?_) ?_
 . simp -implicitDefEqProofs[hna];refine Qco (Zck x.nu 1 9999) ?_
   cases h1:inR x.nu 1 9999
   . have e:noteB r l i=false:=(by simp[noteB,hx,cN1,h1]);simp -implicitDefEqProofs[e,Zc1]
   simp -implicitDefEqProofs;refine Qco (Zck x.dy 0 14610) ?_
   cases h2:inR x.dy 0 14610
   . have e:noteB r l i=false:=(by simp[noteB,hx,cN1,h2]);simp -implicitDefEqProofs[e,Zc1]
   by_cases h3:2<x.sg
   . have e:noteB r l i=false:=by
      have:¬x.sg<=2:=(by omega);simp[noteB,hx,cN2,this]
     simp -implicitDefEqProofs[h3,e,Zc1]
   simp -implicitDefEqProofs[h3];refine Qco (Zck x.fr 1 x.tu) ?_
   cases h4:inR x.fr 1 x.tu
   . have e:noteB r l i=false:=by
      have h4:=of_decide_eq_false h4
      have:cN3 x=false:=by
       cases q:cN3 x
       . rfl
       . simp only[cN3,inR,W01,W0b]at q;exact absurd ⟨q.1.1.1,q.2⟩ h4
      simp[noteB,hx,this]
     simp -implicitDefEqProofs[e,Zc1]
   by_cases h5:999<x.tu
   . have e:noteB r l i=false:=by
      have:cN3 x=false:=by
       cases q:cN3 x
       . rfl
       . simp only[cN3,inR,W01,W0b]at q;omega
      simp[noteB,hx,this]
     simp -implicitDefEqProofs[h5,e,Zc1]
   by_cases h6:3<x.wy
   . have e:noteB r l i=false:=by
      have:¬x.wy<=3:=(by omega);simp[noteB,hx,cN2,this]
     simp -implicitDefEqProofs[h5,h6,e,Zc1]
   simp -implicitDefEqProofs[h5,h6];refine ⟨?_,?_,?_,?_⟩
   . ((try simp only[hna]);refine Ym.sub (by simp[lk,Ya,AV.keys,hna]) ?_;simp only[hna,Wkl,and_true];(try simp[lk,Yc,Ya,AV.keys,hna]))
   . rw[cN1,h1,h2];rfl
   . have q1:x.sg<=2:=(by omega);have q2:x.wy<=3:=(by omega);simp[cN2,q1,q2]
   . have h4:=W0X h4;simp only[cN3,inR,W01,W0b];omega
 rintro ⟨k1,k2,k3⟩;refine Zcj (S:=⟨[(1,.int .i64 i),(2,.ptr 2 0),(5,.ptr 5 0)],[(2,.box [.vsl (r.map isa),.vsl (l.map na)]),(5,.box (na x))]⟩) (Q:=cN4 r x=true) (Qga ?_) ?_
 . by_cases hz:x.dr=0/\x.lt=0
   . by_cases hc:x.ca=0
     . have e:noteB r l i=false:=(by simp[noteB,hx,cN4,hz,hc]);simp -implicitDefEqProofs[hna,hz.1,hz.2,hc,e,Zc1]
     . simp -implicitDefEqProofs[hna,hz.1,hz.2,hc];refine ⟨?_,by simp[cN4,hz,hc]⟩
       ((try simp only[hna,hz.1,hz.2]);refine Ym.sub (by simp[lk,Ya,AV.keys,hna,hz.1,hz.2]) ?_;simp only[hna,hz.1,hz.2,Wkl,and_true];(try simp[lk,Yc,Ya,AV.keys,hna,hz.1,hz.2]))
   . have e4:cN4 r x=(findN x.dr x.lt r).isSome:=by simp[cN4,hz]
     have hA:∀ b:Bool,b=(decide (x.dr=0)&&decide (x.lt=0))->b=false:=λb e=>by
      rw[e];by_cases q:x.dr=0
      . simp[q,show ¬x.lt=0 from λh=>hz ⟨q,h⟩]
      . simp[q]
     by_cases q:x.dr=0
     case' pos =>
      have q2:¬x.lt=0:=λh=>hz ⟨q,h⟩
      simp -implicitDefEqProofs[hna,q,q2];rw[q]at hf
     case' neg=>simp -implicitDefEqProofs[hna,q]
     all_goals
      refine Qco (hf) ?_
      cases hq:findN x.dr x.lt r with
      | none =>
        have e:noteB r l i=false:=by simp[noteB,hx,e4,hq]
        first
         |simp -implicitDefEqProofs[hq,fndA,noIs,e,Zc1];done
         |(rw[q]at hq;simp -implicitDefEqProofs[hq,fndA,noIs,e,Zc1];done)
      | some y =>
        have ey:isa y=[.int .i64 y.d,.int .i64 y.l,.int .u8 y.k,.vsl (y.its.map ita),.vsl (y.dms.map dma)]:=rfl;have hq4:cN4 r x=true:=by rw[e4,hq];rfl
        first
         |(simp -implicitDefEqProofs[hq,fndA,ey];refine ⟨?_,hq4⟩;((try simp only[hna]);refine Ym.sub (by simp[lk,Ya,AV.keys,hna]) ?_;simp only[hna,Wkl,and_true];(try simp[lk,Yc,Ya,AV.keys,hna]));done)
         |(rw[q]at hq;simp -implicitDefEqProofs[hq,fndA,ey];refine ⟨?_,hq4⟩;((try simp only[hna,q]);refine Ym.sub (by simp[lk,Ya,AV.keys,hna,q]) ?_;simp only[hna,q,Wkl,and_true];(try simp[lk,Yc,Ya,AV.keys,hna,q]));done)
 intro k4;refine Zcj (S:=⟨[(1,.int .i64 i),(2,.ptr 2 0),(5,.ptr 5 0)],[(2,.box [.vsl (r.map isa),.vsl (l.map na)]),(5,.box (na x))]⟩) (Q:=cN5 x=true) (Qga ?_) ?_
 . by_cases q1:x.lt<2
   . have q1':¬2<=x.lt:=by omega
     cases q2:x.up
     . by_cases q3:0<x.wy
       . have e:noteB r l i=false:=by
          have:¬x.wy=0:=(by omega);simp[noteB,hx,cN5,q1',q2,this]
         simp -implicitDefEqProofs[hna,q1,q2,q3,e,Zc1]
       . simp -implicitDefEqProofs[hna,q1,q2,q3];refine ⟨?_,?_⟩
         . ((try simp only[hna,q2]);refine Ym.sub (by simp[lk,Ya,AV.keys,hna,q2]) ?_;simp only[hna,q2,Wkl,and_true];(try simp[lk,Yc,Ya,AV.keys,hna,q2]))
         . have:x.wy=0:=(by omega);simp[cN5,q2,this]
     . have e:noteB r l i=false:=(by simp[noteB,hx,cN5,q1',q2]);simp -implicitDefEqProofs[hna,q1,q2,e,Zc1]
   . have q1':2<=x.lt:=(by omega);simp -implicitDefEqProofs[hna,q1];refine ⟨?_,by simp[cN5,q1']⟩
     ((try simp only[hna]);refine Ym.sub (by simp[lk,Ya,AV.keys,hna]) ?_;simp only[hna,Wkl,and_true];(try simp[lk,Yc,Ya,AV.keys,hna]))
 intro k5;have en:noteB r l i=(cN6 l i x&&cN7 l i x&&cN8 l i x):=(by rw[noteB,hx,k1,k2,k3,k4,k5];rfl);rw[en];refine Qga ?_;simp -implicitDefEqProofs[hna]
 refine Z8p (λk=>⟨[(9,.int .i64 k),(8,.bool (decide (x.ca=0)||(l.take k).any λy=>decide (y.nu=x.ca))),(1,.int .i64 i),(2,.ptr 2 0),(5,.ptr 5 0)],[(2,.box [.vsl (r.map isa),.vsl (l.map na)]),(5,.box (na x))]⟩)
  (λk=>((l.take k).any λy=>decide (y.nu=x.nu))=false) i ?_ (by simp) ?_ ?_
 . ((try simp only[hna,W1g,List.any_nil,Bool.or_false]);refine Ym.sub (by simp[lk,Ya,AV.keys,hna,W1g,List.any_nil,Bool.or_false]) ?_;simp only[hna,W1g,List.any_nil,Bool.or_false,Wkl,and_true];(try simp[lk,Yc,Ya,AV.keys,hna,W1g,List.any_nil,Bool.or_false]))
 . intro k hk hI;refine Qga ?_;have hkl:k<l.length:=(by omega);have wk:i64.wrap ((k:Int)+1)=(k:Int)+1:=Yf;have a1:=Zcf hkl λy=>decide (y.nu=x.nu)
   have a2:=Zcf hkl λy=>decide (y.nu=x.ca)
   have hnk:na l[k]=[.int .i64 l[k].nu,.int .i64 l[k].dy,.int .u8 l[k].sg,.int .i64 l[k].dr,.int .i64 l[k].lt,.int .i64 l[k].fr,.int .i64 l[k].tu,.int .i64 l[k].ca,.bool l[k].up,.int .u8 l[k].wy]:=rfl;by_cases e:l[k].nu=x.nu
   . have h7:cN7 l i x=false:=by
      have:((l.take i).any λy=>decide (y.nu=x.nu))=true:=W14.2 ⟨l[k],by rw[W1R];exact ⟨k,by omega,rfl⟩,by simp[e]⟩;rw[cN7,this];rfl
     simp -implicitDefEqProofs[hk,hkl,hna,hnk,e];refine Qgr ?_;simp -implicitDefEqProofs[h7,Zc1]
   . have hI2:((l.take (k+1)).any λy=>decide (y.nu=x.nu))=false:=by rw[a1,hI];simp[e]
     cases hB:(decide (x.ca=0)||(l.take k).any λy=>decide (y.nu=x.ca))
     . have hB2:(decide (x.ca=0)||(l.take (k+1)).any λy=>decide (y.nu=x.ca))=decide (l[k].nu=x.ca):=(by rw[a2,<- Bool.or_assoc,hB];simp);simp -implicitDefEqProofs[hk,hkl,hna,hnk,e,hB,wk];refine ⟨?_,by simpa using hI2⟩
       ((try simp only[hna,hB2]);refine Ym.sub (by simp[lk,Ya,AV.keys,hna,hB2]) ?_;simp only[hna,hB2,Wkl,and_true];(try simp[lk,Yc,Ya,AV.keys,hna,hB2]))
     . have hB2:(decide (x.ca=0)||(l.take (k+1)).any λy=>decide (y.nu=x.ca))=true:=(by rw[a2,<- Bool.or_assoc,hB];rfl);simp -implicitDefEqProofs[hk,hkl,hna,hnk,e,hB,wk];refine ⟨?_,by simpa using hI2⟩
       ((try simp only[hna,hB2]);refine Ym.sub (by simp[lk,Ya,AV.keys,hna,hB2]) ?_;simp only[hna,hB2,Wkl,and_true];(try simp[lk,Yc,Ya,AV.keys,hna,hB2]))
 . intro hI;refine Qga ?_;have h7:cN7 l i x=true:=(by rw[cN7,hI];rfl);have h6:(decide (x.ca=0)||(l.take i).any λy=>decide (y.nu=x.ca))=cN6 l i x:=rfl;rw[h6];simp -implicitDefEqProofs[hna];refine Qgr ?_
   cases i with
   |zero=>simp -implicitDefEqProofs[h7,cN8,Zc1]
   | succ k =>
     have hkl:k<l.length:=(by omega);have w1:i64.wrap ((k:Int)+1-1)=(k:Int):=(by rw[Yf (by omega) (by omega)];omega);have w2:i64.wrap (k:Int)=(k:Int):=Yf;have i0:¬(k:Int)+1=0:=(by omega);have ek:=Zbe hkl;have hnk:na l[k]=[.int .i64 l[k].nu,.int .i64 l[k].dy,.int .u8 l[k].sg,.int .i64 l[k].dr,.int .i64 l[k].lt,.int .i64 l[k].fr,.int .i64 l[k].tu,.int .i64 l[k].ca,.bool l[k].up,.int .u8 l[k].wy]:=rfl;have e8:cN8 l (k+1) x=(decide (l[k].dy<x.dy)||(decide (l[k].dy=x.dy)&&decide (l[k].nu<x.nu))):=(by rw[cN8,ek]);rw[e8]
     cases h6:cN6 l (k+1) x
     . simp -implicitDefEqProofs[h7,i0,w1,w2,hkl,hnk,hna,h6,Zc1]
     by_cases q1:l[k].dy<x.dy
     . simp -implicitDefEqProofs[h7,i0,w1,w2,hkl,hnk,hna,q1,h6,Zc1]
     by_cases q2:l[k].dy=x.dy
     . have q1':¬x.dy<x.dy:=(by omega);simp -implicitDefEqProofs[h7,i0,w1,w2,hkl,hnk,hna,q2,h6,Zc1]
     . simp -implicitDefEqProofs[h7,i0,w1,w2,hkl,hnk,hna,q1,q2,h6,Zc1]
def insK (f:Nat->Int) (L:List Nat) (x:Nat):List Nat:=(L.takeWhile λy=>decide (f y<=f x))++x::L.dropWhile λy=>decide (f y<=f x)
def opI (l:Jl):Nat->List Nat
 |0=>[]
 |i+1=>if (nAt l i).sg=1 then insK (λj=>(nAt l j).nu) (opI l i) i else opI l i
def Zcm (f:Nat->Int) (L:List Nat) (x:Nat):(insK f L x).length=L.length+1:=by
 have:=congrArg List.length (W1E (p:=λy=>decide (f y<=f x)) (l:=L));simp only[W0s]at this;simp only[insK,W0s,W1p];omega
def Zcn (l:Jl):∀ i,(opI l i).length<=i
 |0=>W0f _
 | i+1=>by
   have:=Zcn l i;rw[opI]
   split
   . rw[Zcm];omega
   . omega
def Zco (f:Nat->Int) (L:List Nat) (x:Nat):(insK f L x).Perm (x::L):=by
 have h:=List.perm_middle (a:=x) (l₁:=L.takeWhile λy=>decide (f y<=f x)) (l₂:=L.dropWhile λy=>decide (f y<=f x));rw[W1E]at h;exact h
def Zcp (l:Jl):∀ i,∀ j∈opI l i,j<i/\(nAt l j).sg=1
 |0,j,h=>by cases h
 | i + 1,j,h=>by
   rw[opI]at h
   split at h
   . rename_i e;rcases W0g.1 ((Zco _ _ _).mem_iff.1 h) with rfl|h
     . exact ⟨by omega,e⟩
     . have:=Zcp l i j h;exact ⟨by omega,this.2⟩
   . have:=Zcp l i j h;exact ⟨by omega,this.2⟩
def SrtF (f:Nat->Int) (L:List Nat):Prop:=L.Pairwise λa b=>f a<=f b
def Zcq {f:Nat->Int} {L:List Nat} {x:Nat} (h:SrtF f L):SrtF f (insK f L x):=by
 have ht:=W1E (p:=λy=>decide (f y<=f x)) (l:=L)
 have hd:∀ y∈L.dropWhile (λy=>decide (f y<=f x)),f x<f y:=by
  induction L with
  |nil=>intro y hy;cases hy
  | cons z L ih =>
    intro y hy;rw[List.dropWhile_cons]at hy;unfold SrtF at h;rw[W1l]at h
    split at hy
    . exact ih h.2 W1E y hy
    . rename_i e;have e:¬f z<=f x:=(by simpa using e);rcases W0g.1 hy with rfl|hy
      . omega
      . have:=h.1 y hy;omega
 have htk:∀ y∈L.takeWhile (λy=>decide (f y<=f x)),f y<=f x:=λy hy=>by
  have:=W03.1 (List.all_takeWhile (p:=λy=>decide (f y<=f x)) (l:=L)) y hy;simpa using this
 unfold SrtF at h ⊢;rw[<- ht,W29]at h;unfold insK;rw[W29];refine ⟨h.1,W1l.2 ⟨λy hy=>Int.le_of_lt (hd y hy),h.2.1⟩,λa ha b hb=>?_⟩;rcases W0g.1 hb with rfl|hb
 . exact htk a ha
 . exact h.2.2 a ha b hb
def Zcr (l:Jl):∀ i,SrtF (λj=>(nAt l j).nu) (opI l i)
 |0=>List.Pairwise.nil
 | i+1=>by
   rw[opI]
   split
   . exact Zcq (Zcr l i)
   . exact Zcr l i
def Zcs {f:Nat->Int} {L:List Nat} {x k:Nat} (h:SrtF f L) (hk:k<=L.length) (h1:∀ y∈L.drop k,f x<f y) (h2:∀ q,k=q+1->∀ y,L[q]? = some y->f y<=f x):L.take k++x::L.drop k=insK f L x:=by
 have ha:∀ y∈L.take k,f y<=f x:=λy hy=>by
  obtain ⟨j,hj,rfl⟩:=W0k hy;rw[W1W];have hjk:j<k:=(by simp at hj;omega);obtain ⟨q,rfl⟩ : ∃ q,k=q+1:=⟨k-1,by omega⟩;have hq:q<L.length:=(by omega);have hz:=h2 q rfl L[q] (W07 hq);rcases W0q j q with h3|h3
  . have:=W0Y.1 h j q (by omega) hq h3;omega
  . obtain rfl:j=q:=(by omega);exact hz
 have hL:=W11 k L;unfold insK
 have e1:L.takeWhile (λy=>decide (f y<=f x))=L.take k:=by
  conv=>lhs;rw[<- hL]
  rw[List.takeWhile_append_of_pos (λy hy=>by simpa using ha y hy)]
  have:(L.drop k).takeWhile (λy=>decide (f y<=f x))=[]:=by
   cases hd:L.drop k with
   |nil=>rfl
   | cons z D =>
     have:=h1 z (by rw[hd];exact W0H);rw[List.takeWhile_cons,if_neg (by simp;omega)]
  rw[this,W1H]
 have e2:L.dropWhile (λy=>decide (f y<=f x))=L.drop k:=by
  have h3:=W1E (p:=λy=>decide (f y<=f x)) (l:=L);rw[e1]at h3
  conv at h3=>rhs;rw[<- hL]
  exact List.append_cancel_left h3
 rw[e1,e2]
def Zct (r:Jr) (l:Jl) (hw:WfN l) (hr:SmlR r):PC prog G 134 [.agg [.vsl (r.map isa),.vsl (l.map na)]] (.bool (Zbh r l)):=by
 (refine Zc5 rfl λR hG hrd=>Qga ?_;subst hG)
 by_cases h0:12<l.length
 . have h0':(12:Int)<l.length:=by omega
   have e:Zbh r l=false:=by
    have:¬l.length<=12:=(by omega);simp[Zbh,this]
   simp -implicitDefEqProofs[Zc3,Zc4,h0,h0',e]
 have h0':¬(12:Int)<l.length:=(by omega);simp -implicitDefEqProofs[Zc3,Zc4,h0,h0'];refine Z8p (λi=>⟨[(4,.int .i64 i),(3,.int .i64 ((opN l i).length:Nat)),(1,.ptr 1 0)],[(1,.box [.vsl (r.map isa),.vsl (l.map na)])]⟩) (λi=>∀ j,j<i->noteB r l j=true) l.length (by (first|exact Ym.tm (by simp[lk,opN])|exact Ym.sub (by simp[lk,Ya,AV.keys,opN]) (by simp[lk,Yc,Ya,AV.keys,opN]))) (by simp) ?_ ?_
 . intro i hi he;refine Qga ?_;have wi:i64.wrap ((i:Int)+1)=(i:Int)+1:=Yf;have hn:=Zcl (G:=R.G) r l i hi hw hr;have sc:=Zbf hi;have ol:=Zbg l i;have wo:i64.wrap (((opN l i).length:Int)+1)=((opN l i).length:Int)+1:=Yf;simp -implicitDefEqProofs[hi];refine Qco (hn) ?_
   cases hb:noteB r l i
   . have e:Zbh r l=false:=by
      cases q:Zbh r l
      . rfl
      . simp only[Zbh,W01]at q;have:=Z8G.1 q.1.2 i hi;rw[hb]at this;cases this
     simp -implicitDefEqProofs;refine Qgr ?_;simp -implicitDefEqProofs[e]
   . have he2:∀ j,j<i+1->noteB r l j=true:=λj hj=>by
      rcases W0q j i with h1|h1
      . exact he j h1
      . obtain rfl:j=i:=(by omega);exact hb
     by_cases q:l[i].sg=1
     . rw[if_pos q]at sc;simp -implicitDefEqProofs[hi,na,q,wo,wi];refine ⟨?_,he2⟩
       (first|exact Ym.tm (by simp[lk,sc])|exact Ym.sub (by simp[lk,Ya,AV.keys,sc]) (by simp[lk,Yc,Ya,AV.keys,sc]))
     . rw[if_neg q]at sc;simp -implicitDefEqProofs[hi,na,q,wi];refine ⟨?_,he2⟩
       (first|exact Ym.tm (by simp[lk,sc])|exact Ym.sub (by simp[lk,Ya,AV.keys,sc]) (by simp[lk,Yc,Ya,AV.keys,sc]))
 . intro he;refine Qga ?_
   have e:Zbh r l=decide ((opN l l.length).length<=5):=by
    have h1:(List.range l.length).all (noteB r l)=true:=Z8G.2 he;have h2:l.length<=12:=(by omega);simp[Zbh,h1,h2]
   have h5:decide (((opN l l.length).length:Int)<=5)=decide ((opN l l.length).length<=5):=decide_eq_decide.2 (by omega);simp -implicitDefEqProofs;refine Qgr ?_;simp -implicitDefEqProofs[e,h5]
def Zcu (r:Jr) (l:Jl) (hw:WfN l) (hr:Wf r):PC prog G 77 [.agg [.vsl (r.map isa),.vsl (l.map na)]] (.int .i64 (chN r l)):=by
 have hc:=Z9b (G:=G) r hr;rw[<- Zb5,rega]at hc
 (refine Zc8 rfl λR hG hrd=>Qga ?_;subst hG)
 simp -implicitDefEqProofs[Zc6,Zc7];refine Qco (hc) ?_;by_cases h:openV r=0
 . simp -implicitDefEqProofs[h];refine Qco (Zct r l hw hr.1) ?_
   cases q:Zbh r l <;> simp -implicitDefEqProofs[chN,h,q]
 . simp -implicitDefEqProofs[chN,h]
section
open Qq Tryz
def Zcv:RCode :=
 S [r 0 [b 3 0,b 4 1,n 6 (.bool false)],r 1 [m 7 2,w 8 (.mkf (.func 182) [] [.t 3,.t 4]),c 9 85 [7,8],t 10 9,m 6 10],.ret]
def Zcw:List RRes:=[.t 6]
def Zcx:PCt prog 163 f163 Zcv Zcw:=pcT func163 rfl
def Zcy:RCode :=
 S [r 0 [n 4 (.bool false)],r 1 [m 5 0,l 6 1,o 7 .lss 5 6,m 8 7,g 8 false (m 9 0),g 8 false (l 10 2),g 8 false (o 11 .gtr 9 10),u 12 8 11,m 4 12],.ret]
def Zcz:List RRes:=[.t 4]
def ZcA:PCt prog 182 f182 Zcy Zcz:=pcT func182 rfl
def ZcB:RCode :=
 S [r 0 [b 2 0,n 4 (.bool false)],r 1 [f 5 1 2,l 6 5,m 7 1,i 8 10 6 7,f 9 0 8,l 10 9,w 11 (.bsl false 1 1 [O] [(0,.t 10)]),w 12 (.call 163 [.c I,.c (.int .i64 9999),.t 11]),m 13 12,g 13 true (f 14 1 2),g 13 true (l 15 14),g 13 true (m 16 1),g 13 true (i 17 10 15 16),g 13 true (f 18 1 17),g 13 true (l 19 18),g 13 true (w 20 (.bsl false 1 1 [O] [(0,.t 19)])),g 13 true (w 21 (.call 163 [.c O,.c (.int .i64 14610),.t 20])),v 22 13 21,m 4 22],.ret]
def ZcC:List RRes:=[.t 4]
def ZcD:PCt prog 237 f237 ZcB ZcC:=pcT func237 rfl
def ZcE:RCode :=
 S [r 0 [b 2 0,n 4 (.bool false)],r 1 [f 5 1 2,l 6 5,m 7 1,i 8 10 6 7,f 9 2 8,l 10 9,k 11 .leq 10 (.int .u8 2),m 12 11,g 12 true (f 13 1 2),g 12 true (l 14 13),g 12 true (m 15 1),g 12 true (i 16 10 14 15),g 12 true (f 17 9 16),g 12 true (l 18 17),g 12 true (k 19 .leq 18 (.int .u8 3)),v 20 12 19,m 4 20],.ret]
def ZcF:List RRes:=[.t 4]
def ZcG:PCt prog 238 f238 ZcE ZcF:=pcT func238 rfl
def ZcH:RCode :=
 S [r 0 [b 2 0,n 4 (.bool false)],r 1 [f 6 1 2,l 7 6,m 8 1,i 9 10 7 8,L 10 10 9,w 5 (.alloc [O,O,.int .u8 0,O,O,O,O,O,.bool false,.int .u8 0]),s 10 5 10],r 2 [f 11 5 5,l 12 11,f 13 6 5,l 14 13,w 15 (.bsl false 1 2 [O,O] [(0,.t 12),(1,.t 14)]),w 16 (.call 163 [.c I,.c (.int .i64 999),.t 15]),m 17 16,g 17 true (f 18 5 5),g 17 true (l 19 18),g 17 true (f 20 6 5),g 17 true (l 21 20),g 17 true (o 22 .leq 19 21),v 23 17 22,m 4 23],.ret]
def ZcI:List RRes:=[.t 4]
def ZcJ:PCt prog 239 f239 ZcH ZcI:=pcT func239 rfl
def ZcK:RCode :=
 S [r 0 [b 2 0,n 4 (.bool false)],r 1 [f 8 1 2,l 9 8,m 10 1,i 11 10 9 10,L 12 10 11,w 5 (.alloc [O,O,.int .u8 0,O,O,O,O,O,.bool false,.int .u8 0]),s 10 5 12],S [r 2 [w 13 (.build [O,O] []),f 14 3 5,l 15 14,f 16 4 5,l 17 16,w 18 (.build [O,O] [(0,1,.t 15),(1,1,.t 17)]),w 19 (.eqs false [.i,.i] (.t 13) (.t 18))],K 19 3 [f 20 7 5,l 21 20,k 22 .neq 21 O,m 4 22]],r 4 [f 24 0 2,L 25 1 24,f 26 3 5,l 27 26,f 28 4 5,l 29 28,w 30 (.build [O,O] [(0,1,.t 27),(1,1,.t 29)]),c 31 241 [25,30],m 23 31,x 32 0 23,x 33 1 23,w 6 (.alloc [O,O,.int .u8 0,.nils,.nils]),s 5 6 32,m 7 33],r 5 [m 34 7,k 35 .eql 34 O,m 4 35],.ret]
def ZcL:List RRes:=[.t 4]
def ZcM:PCt prog 240 f240 ZcK ZcL:=pcT func240 rfl
def ZcN:RCode :=
 S [r 0 [b 2 0,n 4 (.bool false)],r 1 [f 6 1 2,l 7 6,m 8 1,i 9 10 7 8,L 10 10 9,w 5 (.alloc [O,O,.int .u8 0,O,O,O,O,O,.bool false,.int .u8 0]),s 10 5 10],r 2 [f 11 4 5,l 12 11,k 13 .geq 12 (.int .i64 2),m 14 13,g 14 false (f 15 8 5),g 14 false (l 16 15),g 14 false (t 17 16),g 14 false (m 18 17),g 18 true (f 19 9 5),g 18 true (l 20 19),g 18 true (k 21 .eql 20 (.int .u8 0)),g 14 false (v 22 18 21),u 23 14 22,m 4 23],.ret]
def ZcO:List RRes:=[.t 4]
def ZcP:PCt prog 242 f242 ZcN ZcO:=pcT func242 rfl
def ZcQ:RCode :=
 S [r 0 [b 2 0,n 4 (.bool false)],r 1 [f 6 1 2,l 7 6,m 8 1,i 9 10 7 8,L 10 10 9,w 5 (.alloc [O,O,.int .u8 0,O,O,O,O,O,.bool false,.int .u8 0]),s 10 5 10],r 2 [f 11 7 5,l 12 11,k 13 .eql 12 O,m 14 13,g 14 false (f 15 1 2),g 14 false (l 16 15),g 14 false (m 17 1),g 14 false (w 18 (.slc 10 (.t 16) none (some (.t 17)))),g 14 false (w 19 (.mkf (.func 245) [] [.t 5])),g 14 false (c 20 244 [18,19]),u 21 14 20,m 4 21],.ret]
def ZcR:List RRes:=[.t 4]
def ZcS:PCt prog 243 f243 ZcQ ZcR:=pcT func243 rfl
def ZcT:RCode :=
 S [r 0 [b 2 0,n 3 (.bool false)],r 1 [f 4 0 2,l 5 4,f 6 7 1,l 7 6,o 8 .eql 5 7,m 3 8],.ret]
def ZcU:List RRes:=[.t 3]
def ZcV:PCt prog 245 f245 ZcT ZcU:=pcT func245 rfl
def ZcW:RCode :=
 S [r 0 [b 2 0,b 3 1,n 4 (.bool false)],r 1 [f 5 1 2,l 6 5,l 7 3,w 8 (.slc 10 (.t 6) none (some (.t 7))),w 9 (.mkf (.func 247) [] [.t 2,.t 3]),c 10 244 [8,9],t 11 10,m 4 11],.ret]
def ZcX:List RRes:=[.t 4]
def ZcY:PCt prog 246 f246 ZcW ZcX:=pcT func246 rfl
def ZcZ:RCode :=
 S [r 0 [b 3 0,n 4 (.bool false)],R 1 [f 5 0 3,a [0] (l 6 5),f 7 1 1,a [2] (l 8 7),l 9 2,a [3,4] (i 10 10 8 9),a [5] (f 11 0 10),a [6] (l 12 11),a [1,7] (o 13 .eql 6 12),a [8,0,1,2,3,4,5,6,7,8] (m 4 13)],.ret]
def Zd0:List RRes:=[.t 4]
def Zd1:PCt prog 247 f247 ZcZ Zd0:=pcT func247 rfl
def Zd2:RCode :=
 S [r 0 [b 2 0,n 4 (.bool false)],R 1 [m 5 1,a [0] (k 6 .eql 5 O),a [1] (m 7 6),a [2] (g 7 false (f 8 1 2)),a [3,2] (g 7 false (l 9 8)),a [2] (g 7 false (m 10 1)),a [5,2] (g 7 false (k 11 .sub 10 I)),a [4,6,2] (g 7 false (i 12 10 9 11)),a [7,2] (g 7 false (f 13 1 12)),a [8,2] (g 7 false (l 14 13)),a [2] (g 7 false (f 15 1 2)),a [10,2] (g 7 false (l 16 15)),a [2] (g 7 false (m 17 1)),a [11,12,2] (g 7 false (i 18 10 16 17)),a [13,2] (g 7 false (f 19 1 18)),a [14,2] (g 7 false (l 20 19)),a [9,15,2,2] (g 7 false (c 21 107 [14,20])),a [2] (g 7 false (f 22 1 2)),a [17,2] (g 7 false (l 23 22)),a [2] (g 7 false (m 24 1)),a [19,2] (g 7 false (k 25 .sub 24 I)),a [18,20,2] (g 7 false (i 26 10 23 25)),a [21,2] (g 7 false (f 27 0 26)),a [22,2] (g 7 false (l 28 27)),a [2] (g 7 false (f 29 1 2)),a [24,2] (g 7 false (l 30 29)),a [2] (g 7 false (m 31 1)),a [25,26,2] (g 7 false (i 32 10 30 31)),a [27,2] (g 7 false (f 33 0 32)),a [28,2] (g 7 false (l 34 33)),a [23,29,16,2] (g 7 false (c 35 107 [28,34])),a [16,30,2] (g 7 false (w 36 (.bsl false 1 2 [O,O] [(0,.t 21),(1,.t 35)]))),a [31,30,2] (g 7 false (c 37 151 [36])),a [32,2] (g 7 false (k 38 .lss 37 O)),a [2,33] (u 39 7 38),a [34,32,0,1,2,3,4,5,6,7,8,9,10,11,12,13,14,15,16,17,18,19,20,21,22,23,24,25,26,27,28,29,30,31,32,33,34] (m 4 39)],.ret]
def Zd3:List RRes:=[.t 4]
def Zd4:PCt prog 248 f248 Zd2 Zd3:=pcT func248 rfl
def Zd5:RCode :=
 S [r 0 [b 1 0,n 2 .nilp,n 3 O],.scope (S [r 1 [f 13 0 1,L 14 1 13,c 15 131 [14],m 12 15,x 16 0 12,x 17 1 12,m 4 16,m 5 17],S [r 2 [m 18 5,k 19 .neq 18 O],K 19 3 [m 20 5,n 2 .nilp,m 3 20]],S [r 4 [f 21 1 1,l 22 21,e 23 22,k 24 .gtr 23 (.int .i64 12)],K 24 5 [n 2 .nilp,n 3 (.int .i64 30)]],r 6 [L 25 2 1,m 26 4,w 27 (.build [.nils,.nils,.nils,.nils] [(0,2,.t 25),(2,1,.t 26)]),b 28 27,m 6 28],r 7 [n 7 (.bool false)],(.label 0),S [r 8 [f 29 1 1,l 30 29,e 31 30,n 32 O],.block 0 (.loop (S [r 9 [o 33 .lss 32 31],.cond (.t 33) .skip (.exit 0),.block 1 (S [r 10 [m 34 32,i 35 10 30 32,L 36 10 35,w 9 (.alloc [O,O,.int .u8 0,O,O,O,O,O,.bool false,.int .u8 0]),m 8 34,s 10 9 36],S [r 11 [w 37 (.load true 8 (.g 0)),n 38 O],.block 2 (.loop (S [r 12 [k 39 .lss 38 (.int .i64 8)],.cond (.t 39) .skip (.exit 2),.block 3 (S [r 13 [w 40 (.vop (.aidx true 8 1) [(.t 37),(.t 38)]),w 11 (.alloc [.nilf]),s 1 11 40],r 14 [f 41 0 11,l 42 41,L 43 2 1,m 44 8,w 45 (.callv (.t 42) [.t 43,.t 44]),t 46 45],.cond (.t 46) (S [r 15 [n 7 (.bool true)],.exit 0]) .skip]),r 16 [k 47 .add 38 I,m 38 47]]))],r 17 [f 48 2 9,l 49 48,k 50 .eql 49 (.int .u8 1)],.cond (.t 50) (R 18 [m 51 6,m 52 6,a [1] (w 53 (.nilck (.t 52))),a [2] (f 54 3 53),a [3] (l 55 54),f 56 0 9,a [5] (l 57 56),a [6] (w 58 (.bsl false 1 1 [O] [(0,.t 57)])),a [4,7] (w 59 (.app 1 8 (.t 55) (.t 58))),a [0,0,1,2,3,4,5,6,7,8] (w 60 (.nilck (.t 51))),a [9,0,1,2,3,4,5,6,7,8] (f 61 3 60),a [10,8,8,0,1,2,3,4,5,6,7,8] (s 1 61 59)]) .skip]),r 19 [k 62 .add 32 I,m 32 62]]))],S [r 20 [m 63 7,m 64 63,g 64 false (m 65 6),g 64 false (w 66 (.nilck (.t 65))),g 64 false (f 67 3 66),g 64 false (l 68 67),g 64 false (e 69 68),g 64 false (k 70 .gtr 69 (.int .i64 5)),u 71 64 70],K 71 21 [n 2 .nilp,n 3 (.int .i64 30)]],r 22 [m 72 6,w 73 (.nilck (.t 72)),f 74 3 73,l 75 74,c 76 115 [75]],r 23 [m 77 6,m 2 77,n 3 O],.ret])]
def Zd6:List RRes:=[.t 2,.t 3]
def Zd7:PCt prog 119 f119 Zd5 Zd6:=pcT func119 rfl
def Zd8:RCode :=
 S [r 0 [b 1 0,n 2 O],r 1 [L 6 2 1,c 7 119 [6],m 5 7,x 8 0 5,x 9 1 5,m 3 8,m 4 9],r 2 [m 10 4,m 2 10],.ret]
def Zd9:List RRes:=[.t 2]
def Zda:PCt prog 130 f130 Zd8 Zd9:=pcT func130 rfl
def Zdb:RCode :=
 S [r 0 [n 4 O],r 1 [w 10 (.mkmap),m 5 10],S [r 2 [m 11 0,w 12 (.nilck (.t 11)),f 13 3 12,l 14 13,e 15 14,n 16 O],.block 0 (.loop (S [r 3 [o 17 .lss 16 15],.cond (.t 17) .skip (.exit 0),.block 1 (S [r 4 [i 18 1 14 16,l 19 18,m 7 19],r 5 [m 20 5,m 21 7,z (.mupd (.i .i64) (.t 20) (.t 21) (.c (.bool true)))]]),r 6 [k 22 .add 16 I,m 16 22]]))],S [r 7 [m 23 1,e 24 23,n 25 O],.block 2 (.loop (S [r 8 [o 26 .lss 25 24],.cond (.t 26) .skip (.exit 2),.block 3 (S [r 9 [m 27 25,i 28 1 23 25,l 29 28,m 8 27,m 9 29],S [r 10 [m 30 5,m 31 9,w 32 (.look (.i .i64) (.bool false) false (.t 30) (.t 31)),t 33 32,m 34 33,g 34 false (m 35 8),g 34 false (k 36 .gtr 35 O),g 34 false (m 37 36),g 37 true (m 38 1),g 37 true (m 39 8),g 37 true (k 40 .sub 39 I),g 37 true (i 41 1 38 40),g 37 true (l 42 41),g 37 true (m 43 9),g 37 true (o 44 .gtr 42 43),g 34 false (v 45 37 44),u 46 34 45],K 46 11 [n 4 (.int .i64 31)]],r 12 [m 47 5,m 48 9,z (.mdel (.i .i64) (.t 47) (.t 48))]]),r 13 [k 49 .add 25 I,m 25 49]]))],r 14 [n 4 O],.ret]
def Zdc:List RRes:=[.t 4]
def Zdd:PCt prog 166 f166 Zdb Zdc:=pcT func166 rfl
def Zde:RCode :=
 S [r 0 [b 3 0,n 6 .nilp,n 7 O],r 1 [L 12 2 3,c 13 119 [12],m 11 13,x 14 0 11,x 15 1 11,m 8 14,m 9 15],S [r 2 [m 16 9,k 17 .neq 16 O],K 17 3 [m 18 9,n 6 .nilp,m 7 18]],S [r 4 [m 19 8,m 20 1,c 21 166 [19,20],m 10 21],r 5 [m 22 10,k 23 .neq 22 O],K 23 6 [m 24 10,n 6 .nilp,m 7 24]],S [r 7 [m 25 2,w 26 (.bsl false 1 1 [O] [(0,.t 25)]),w 27 (.call 163 [.c I,.c (.int .i64 999),.t 26]),t 28 27],K 28 8 [n 6 .nilp,n 7 (.int .i64 2)]],r 9 [m 29 8,m 6 29,n 7 O],.ret]
def Zdf:List RRes:=[.t 6,.t 7]
def Zdg:PCt prog 117 f117 Zde Zdf:=pcT func117 rfl
def Zdh:RCode :=
 S [r 0 [b 4 0,b 5 1,b 6 2,b 7 3,n 8 .nilf],r 1 [w 11 (.mkmap),w 9 (.alloc [.nilm]),s 1 9 11],r 2 [w 10 (.alloc [.nilf])],r 3 [w 12 (.mkf (.func 162) [] [.t 9,.t 4,.t 5,.t 6,.t 7,.t 10]),s 1 10 12],r 4 [l 13 10,m 8 13],.ret]
def Zdi:List RRes:=[.t 8]
def Zdj:RCode :=
 S [r 0 [n 8 (.bool false)],S [r 1 [l 15 1,m 16 0,w 17 (.look (.i .i64) (.bool false) true (.t 15) (.t 16)),m 14 17,x 18 0 14,x 19 1 14,m 9 18,m 10 19],r 2 [m 20 10],K 20 3 [m 21 9,m 8 21]],r 4 [l 22 2,w 23 (.nilck (.t 22)),f 24 0 23,f 25 1 24,l 26 25,m 27 0,i 28 10 26 27,L 29 10 28,w 11 (.alloc [O,O,.int .u8 0,O,O,O,O,O,.bool false,.int .u8 0]),s 10 11 29],r 5 [f 30 2 11,l 31 30,k 32 .eql 31 (.int .u8 2),m 33 32,g 33 false (l 34 3),g 33 false (f 35 0 11),g 33 false (l 36 35),g 33 false (c 37 87 [34,36]),u 38 33 37,m 39 38,g 39 true (l 40 4),g 39 true (f 41 0 11),g 39 true (l 42 41),g 39 true (c 43 87 [40,42]),g 39 true (t 44 43),v 45 39 44,m 46 45,g 46 true (f 47 5 11),g 46 true (l 48 47),g 46 true (f 49 6 11),g 46 true (l 50 49),g 46 true (l 51 5),g 46 true (w 52 (.bsl false 1 1 [O] [(0,.t 51)])),g 46 true (c 53 163 [48,50,52]),v 54 46 53,m 12 54],S [r 6 [m 55 0,k 56 .add 55 I,m 13 56],.block 0 (.loop (S [S [r 7 [m 57 12,m 58 57,g 58 true (m 59 13),g 58 true (l 60 2),g 58 true (w 61 (.nilck (.t 60))),g 58 true (f 62 0 61),g 58 true (f 63 1 62),g 58 true (l 64 63),g 58 true (e 65 64),g 58 true (o 66 .lss 59 65),v 67 58 66],.cond (.t 67) .skip (.exit 0)],.block 1 (R 9 [l 70 2,a [0] (w 71 (.nilck (.t 70))),a [1] (f 72 0 71),a [2] (f 73 1 72),a [3] (l 74 73),m 75 13,a [4,5] (i 76 10 74 75),a [6] (f 77 7 76),a [7] (l 78 77),f 79 0 11,a [9] (l 80 79),a [8,10] (o 81 .neq 78 80),a [11] (m 82 81),a [12] (g 82 false (l 83 6)),a [12] (g 82 false (m 84 13)),a [13,14,12,12] (g 82 false (w 85 (.callv (.t 83) [.t 84]))),a [15,12] (g 82 false (t 86 85)),a [12,16] (u 87 82 86),a [17,15,0,1,2,3,4,5,6,7,8,9,10,11,12,13,14,15,16,17] (m 12 87)]),r 8 [m 68 13,k 69 .add 68 I,m 13 69]]))],r 10 [l 88 1,m 89 0,m 90 12,z (.mupd (.i .i64) (.t 88) (.t 89) (.t 90))],r 11 [m 91 12,m 8 91],.ret]
def Zdk:List RRes:=[.t 8]
def Zdl {G:Jg} {objs objs':List (Nat×AObj)} {args:List AV} {v:AV} (hn:args.length<=f162.ntmps) (h:∀ R:Run,R.G=G->R.Top->AR prog R Zdj ⟨iniT 0 args,objs⟩ (FinB Zdk v objs')):PB prog G 162 objs args v objs' :=
 PB_of func162 rfl (by kernel_rfl) (rc:=Zdj) (by kernel_rfl) (rs:=Zdk) (by kernel_rfl) hn (λR _ hG hr=>h R hG hr)
def Zdm:RCode :=
 S [r 0 [n 4 (.bool false)],r 1 [m 5 0,m 6 1,c 7 123 [5,6],k 8 .geq 7 O,m 4 8],.ret]
def Zdn:List RRes:=[.t 4]
def Zdo:PCt prog 244 f244 Zdm Zdn:=pcT func244 rfl
def Zdp:RCode :=
 S [r 0 [n 4 O],S [r 1 [m 6 0,e 7 6,n 8 O],.block 0 (.loop (S [r 2 [o 9 .lss 8 7],.cond (.t 9) .skip (.exit 0),.block 1 (S [r 3 [m 10 8,m 5 10],r 4 [m 11 1,m 12 0,m 13 5,i 14 10 12 13,L 15 10 14,w 16 (.callv (.t 11) [.t 15])],K 16 5 [m 17 5,m 4 17]]),r 6 [k 18 .add 8 I,m 8 18]]))],r 7 [n 4 (.int .i64 (-1))],.ret]
def Zdq:List RRes:=[.t 4]
def Zdr:PCt prog 123 f123 Zdp Zdq:=pcT func123 rfl
def Zds:RCode :=
 S [r 0 [n 4 (.bool false)],r 1 [m 5 0,m 6 1,c 7 129 [5,6],k 8 .geq 7 O,m 4 8],.ret]
def Zdt:List RRes:=[.t 4]
def Zdu:PCt prog 87 f87 Zds Zdt:=pcT func87 rfl
def Zdv:RCode :=
 S [r 0 [n 4 O],S [r 1 [m 6 0,e 7 6,n 8 O],.block 0 (.loop (S [r 2 [o 9 .lss 8 7],.cond (.t 9) .skip (.exit 0),.block 1 (S [r 3 [m 10 8,m 5 10],r 4 [m 11 1,m 12 0,m 13 5,i 14 1 12 13,l 15 14,o 16 .eql 11 15],K 16 5 [m 17 5,m 4 17]]),r 6 [k 18 .add 8 I,m 8 18]]))],r 7 [n 4 (.int .i64 (-1))],.ret]
def Zdw:List RRes:=[.t 4]
def Zdx:PCt prog 129 f129 Zdv Zdw:=pcT func129 rfl
def Zdy:RCode :=
 S [r 0 [m 3 0,e 4 3,m 2 4],r 1 [m 5 0,m 6 2,m 7 2,w 8 (.conv .u64 (.t 7)),c 9 165 [8],w 10 (.call 164 [.t 5,.c O,.t 6,.t 9])]]
def Zdz:List RRes:=[]
def ZdA:PCt prog 115 f115 Zdy Zdz:=pcT func115 rfl
def ZdB {G:Jg} {objs objs':List (Nat×AObj)} {args:List AV} {v:AV} (hn:args.length<=f115.ntmps) (h:∀ R:Run,R.G=G->R.Top->AR prog R Zdy ⟨iniT 0 args,objs⟩ (FinB Zdz v objs')):PB prog G 115 objs args v objs' :=
 PB_of func115 rfl (by kernel_rfl) (rc:=Zdy) (by kernel_rfl) (rs:=Zdz) (by kernel_rfl) hn (λR _ hG hr=>h R hG hr)
def ZdC:RCode :=
 S [r 0 [n 8 (.bool true)],r 1 [n 9 (.bool true)],.block 0 (.loop (.block 1 (S [r 2 [m 19 2,m 20 1,o 21 .sub 19 20,m 10 21],S [r 3 [m 22 10,k 23 .leq 22 (.int .i64 12)],K 23 4 [m 24 0,m 25 1,m 26 2,c 27 183 [24,25,26]]],S [r 5 [m 28 3,k 29 .eql 28 O],K 29 6 [m 30 0,m 31 1,m 32 2,c 33 184 [30,31,32]]],S [r 7 [m 34 8,t 35 34],.cond (.t 35) (S [r 8 [m 36 0,m 37 1,m 38 2,c 39 185 [36,37,38]],r 9 [m 40 3,k 41 .sub 40 I,m 3 41]]) .skip],r 10 [m 43 0,m 44 1,m 45 2,c 46 186 [43,44,45],m 42 46,x 47 0 42,x 48 1 42,m 11 47,m 12 48],S [r 11 [m 49 12,k 50 .eql 49 (.int .i64 2)],.cond (.t 50) (S [r 12 [m 51 0,m 52 1,m 53 2,c 54 187 [51,52,53]],r 13 [m 55 2,k 56 .sub 55 I,m 57 11,m 58 1,o 59 .sub 57 58,o 60 .sub 56 59,m 11 60],r 14 [n 12 I]]) .skip],S [r 15 [m 61 8,m 62 61,g 62 true (m 63 9),v 64 62 63,m 65 64,g 65 true (m 66 12),g 65 true (k 67 .eql 66 I),v 68 65 67],.cond (.t 68) (S [r 16 [m 69 0,m 70 1,m 71 2,c 72 188 [69,70,71]],.cond (.t 72) .ret .skip]) .skip],S [R 17 [m 73 1,a [0] (k 74 .gtr 73 O),a [1] (m 75 74),a [2] (g 75 true (m 76 0)),a [2] (g 75 true (m 77 1)),a [4,2] (g 75 true (k 78 .sub 77 I)),a [3,5,2] (g 75 true (i 79 1 76 78)),a [6,2] (g 75 true (l 80 79)),a [2] (g 75 true (m 81 0)),a [2] (g 75 true (m 82 11)),a [8,9,2] (g 75 true (i 83 1 81 82)),a [10,2] (g 75 true (l 84 83)),a [7,11,2,2] (g 75 true (c 85 189 [80,84])),a [12,2] (g 75 true (t 86 85)),a [2,13] (v 87 75 86)],.cond (.t 87) (S [r 18 [m 88 0,m 89 1,m 90 2,m 91 11,c 92 190 [88,89,90,91],m 13 92],r 19 [m 93 13,m 1 93],.exit 1]) .skip],r 20 [m 95 0,m 96 1,m 97 2,m 98 11,c 99 191 [95,96,97,98],m 94 99,x 100 0 94,x 101 1 94,m 14 100,m 15 101],r 21 [m 102 15,m 9 102],r 22 [m 103 14,m 104 1,o 105 .sub 103 104,m 106 2,m 107 14,o 108 .sub 106 107,m 16 105,m 17 108],r 23 [m 109 10,k 110 .quo 109 (.int .i64 8),m 18 110],r 24 [m 111 16,m 112 17,o 113 .lss 111 112],.cond (.t 113) (S [r 25 [m 114 16,m 115 18,o 116 .geq 114 115,m 8 116],r 26 [m 117 0,m 118 1,m 119 14,m 120 3,c 121 164 [117,118,119,120]],r 27 [m 122 14,k 123 .add 122 I,m 1 123]]) (S [r 28 [m 124 17,m 125 18,o 126 .geq 124 125,m 8 126],r 29 [m 127 0,m 128 14,k 129 .add 128 I,m 130 2,m 131 3,c 132 164 [127,129,130,131]],r 30 [m 133 14,m 2 133]])])))]
def ZdD:List RRes:=[]
def ZdE:PCt prog 164 f164 ZdC ZdD:=pcT func164 rfl
def ZdF {G:Jg} {objs objs':List (Nat×AObj)} {args:List AV} {v:AV} (hn:args.length<=f164.ntmps) (h:∀ R:Run,R.G=G->R.Top->AR prog R ZdC ⟨iniT 0 args,objs⟩ (FinB ZdD v objs')):PB prog G 164 objs args v objs' :=
 PB_of func164 rfl (by kernel_rfl) (rc:=ZdC) (by kernel_rfl) (rs:=ZdD) (by kernel_rfl) hn (λR _ hG hr=>h R hG hr)
def ZdG:RCode :=
 S [r 0 [m 8 1,k 9 .add 8 I,m 6 9],.block 0 (.loop (S [S [r 1 [m 10 6,m 11 2,o 12 .lss 10 11],.cond (.t 12) .skip (.exit 0)],.block 1 (S [r 3 [m 15 6,m 7 15],.block 2 (.loop (S [S [R 4 [m 16 7,m 17 1,a [0,1] (o 18 .gtr 16 17),a [2] (m 19 18),a [3] (g 19 true (m 20 0)),a [3] (g 19 true (m 21 7)),a [4,5,3] (g 19 true (i 22 1 20 21)),a [6,3] (g 19 true (l 23 22)),a [3] (g 19 true (m 24 0)),a [3] (g 19 true (m 25 7)),a [9,3] (g 19 true (k 26 .sub 25 I)),a [8,10,3] (g 19 true (i 27 1 24 26)),a [11,3] (g 19 true (l 28 27)),a [7,12,3,3] (g 19 true (c 29 189 [23,28])),a [3,13] (v 30 19 29)],.cond (.t 30) .skip (.exit 2)],.block 3 (R 6 [m 33 0,m 34 7,m 35 0,m 36 7,a [3] (k 37 .sub 36 I),m 38 0,m 39 7,a [6] (k 40 .sub 39 I),a [5,7] (i 41 1 38 40),a [8] (l 42 41),m 43 0,m 44 7,a [10,11] (i 45 1 43 44),a [12] (l 46 45),a [0,1,0,1,5,6,7,8,9,13] (i 47 1 33 34),a [14,9,0,1,5,6,7,8,9,13] (s 1 47 42),a [2,4,0,1,2,3,4,5,6,7,8,9,10,11,12,13,14,15] (i 48 1 35 37),a [16,13,15,0,1,2,3,4,5,6,7,8,9,10,11,12,13,14,15] (s 1 48 46)]),r 5 [m 31 7,k 32 .sub 31 I,m 7 32]]))]),r 2 [m 13 6,k 14 .add 13 I,m 6 14]]))]
def ZdH:List RRes:=[]
def ZdI:PCt prog 183 f183 ZdG ZdH:=pcT func183 rfl
def ZdJ {G:Jg} {objs objs':List (Nat×AObj)} {args:List AV} {v:AV} (hn:args.length<=f183.ntmps) (h:∀ R:Run,R.G=G->R.Top->AR prog R ZdG ⟨iniT 0 args,objs⟩ (FinB ZdH v objs')):PB prog G 183 objs args v objs' :=
 PB_of func183 rfl (by kernel_rfl) (rc:=ZdG) (by kernel_rfl) (rs:=ZdH) (by kernel_rfl) hn (λR _ hG hr=>h R hG hr)
def ZdK:RCode :=
 S [r 0 [n 2 O],r 1 [n 3 O],S [r 2 [m 6 0,e 7 6,n 8 O],.block 0 (.loop (S [r 3 [o 9 .lss 8 7],.cond (.t 9) .skip (.exit 0),.block 1 (S [r 4 [i 10 1 6 8,l 11 10,m 5 11],r 5 [m 12 5,m 13 3,o 14 .neq 12 13],K 14 6 [m 15 5,m 2 15]]),r 7 [k 16 .add 8 I,m 8 16]]))],r 8 [m 17 3,m 2 17],.ret]
def ZdL:List RRes:=[.t 2]
def ZdM:PCt prog 151 f151 ZdK ZdL:=pcT func151 rfl
def ZdN:RCode :=
 S [r 0 [n 2 O],.cond (.c (.bool false)) (S [r 1 [m 3 0,w 4 (.conv .u32 (.t 3)),c 5 192 [4],m 2 5],.ret]) .skip,r 2 [m 6 0,c 7 193 [6],m 2 7],.ret]
def ZdO:List RRes:=[.t 2]
def ZdP:PCt prog 165 f165 ZdN ZdO:=pcT func165 rfl
def ZdQ:RCode :=
 S [r 0 [n 2 O],S [r 1 [m 3 0,k 4 .geq 3 (.int .u64 4294967296)],.cond (.t 4) (S [r 2 [m 5 0,w 6 (.vop (.sh false) [(.t 5),(.c (.int .u64 32))]),m 0 6],r 3 [n 2 (.int .i64 32)]]) .skip],S [r 4 [m 7 0,k 8 .geq 7 (.int .u64 65536)],.cond (.t 8) (S [r 5 [m 9 0,w 10 (.vop (.sh false) [(.t 9),(.c (.int .u64 16))]),m 0 10],r 6 [m 11 2,k 12 .add 11 (.int .i64 16),m 2 12]]) .skip],S [r 7 [m 13 0,k 14 .geq 13 (.int .u64 256)],.cond (.t 14) (S [r 8 [m 15 0,w 16 (.vop (.sh false) [(.t 15),(.c (.int .u64 8))]),m 0 16],r 9 [m 17 2,k 18 .add 17 (.int .i64 8),m 2 18]]) .skip],r 10 [m 19 2,m 20 0,w 21 (.conv .u8 (.t 20)),w 22 (.vop .sidx [(.c (.str ⟨#[0,1,2,2,3,3,3,3,4,4,4,4,4,4,4,4,5,5,5,5,5,5,5,5,5,5,5,5,5,5,5,5,6,6,6,6,6,6,6,6,6,6,6,6,6,6,6,6,6,6,6,6,6,6,6,6,6,6,6,6,6,6,6,6,7,7,7,7,7,7,7,7,7,7,7,7,7,7,7,7,7,7,7,7,7,7,7,7,7,7,7,7,7,7,7,7,7,7,7,7,7,7,7,7,7,7,7,7,7,7,7,7,7,7,7,7,7,7,7,7,7,7,7,7,7,7,7,7,8,8,8,8,8,8,8,8,8,8,8,8,8,8,8,8,8,8,8,8,8,8,8,8,8,8,8,8,8,8,8,8,8,8,8,8,8,8,8,8,8,8,8,8,8,8,8,8,8,8,8,8,8,8,8,8,8,8,8,8,8,8,8,8,8,8,8,8,8,8,8,8,8,8,8,8,8,8,8,8,8,8,8,8,8,8,8,8,8,8,8,8,8,8,8,8,8,8,8,8,8,8,8,8,8,8,8,8,8,8,8,8,8,8,8,8,8,8,8,8,8,8,8,8,8,8,8,8]⟩)),(.t 21)]),w 23 (.conv .i64 (.t 22)),o 24 .add 19 23,m 2 24],.ret]
def ZdR:List RRes:=[.t 2]
def ZdS:PCt prog 193 f193 ZdQ ZdR:=pcT func193 rfl
end
def ZdT (l:Jr):(l.map isa).all (λr=>r.all AV.pure)=true:=by simp[isa,AV.pure]
def ZdU (x:Iss) (h1:Sml x.its) (h2:Sml x.dms):PC prog G 250 [.agg (isa x)] (.agg (isa x)):=by
 have p1:(x.its.map ita).all (λr=>r.all AV.pure)=true:=(by simp[ita,AV.pure]);have p2:(x.dms.map dma).all (λr=>r.all AV.pure)=true:=by simp[dma,AV.pure]
 (refine Z7x rfl λR hG hrd=>Qga ?_;subst hG)
 by_cases e1:x.its=[] <;> by_cases e2:x.dms=[]
 . simp -implicitDefEqProofs[Z7v,Z7w,isa,e1,e2];refine Z2T.of Zav (by simp) ?_;simp -implicitDefEqProofs;refine Z2T.of Zaw (by simp) ?_;simp -implicitDefEqProofs;exact rfl
 . simp -implicitDefEqProofs[Z7v,Z7w,isa,e1];refine Z2T.of Zav (by simp) ?_;simp -implicitDefEqProofs;refine Z2T.new (Zau _ e2 h2) (by simp) (by simp[lk,St.get]) ?_;simp -implicitDefEqProofs[p2];exact rfl
 . simp -implicitDefEqProofs[Z7v,Z7w,isa,e2];refine Z2T.new (Zat _ e1 h1) (by simp) (by simp[lk,St.get]) ?_;simp -implicitDefEqProofs;refine Z2T.of Zaw (by simp) ?_;simp -implicitDefEqProofs[p1];exact rfl
 . simp -implicitDefEqProofs[Z7v,Z7w,isa];refine Z2T.new (Zat _ e1 h1) (by simp) (by simp[lk,St.get]) ?_;simp -implicitDefEqProofs;refine Z2T.new (Zau _ e2 h2) (by simp) (by simp[lk,St.get]) ?_;simp -implicitDefEqProofs[p1,p2];exact rfl
def at_pc (hG:GC G) (r:Jr) (d l:Int) (h:Wf r):PC prog G 241 [rega r,.agg [.int .i64 d,.int .i64 l]] (.tup [.agg (isa (atP r d l).1),.int .i64 (atP r d l).2]):=by
 by_cases e:openV r=0
 case neg =>
  refine PC.nzR (v:=.tup [.agg [.int .i64 0,.int .i64 0,.int .u8 0,.nils,.nils],.int .i64 (openV r)]) ?_ (by simp[nz,atP,e,zI,isa])
  (refine Z7J rfl λR hG hrd=>Qga ?_;subst hG)
  simp -implicitDefEqProofs[Z7H,Z7I,rega];refine Qco (ZaB hG r h) ?_;simp -implicitDefEqProofs[openA,e]
 have hL:=ZaC e;have hO:=Z8R hL
 cases hf:findN d l r with
 | none =>
   refine PC.nzR (v:=.tup [.agg [.int .i64 0,.int .i64 0,.int .u8 0,.nils,.nils],.int .i64 6]) ?_ (by simp[nz,atP,e,hf,zI,isa])
   (refine Z7J rfl λR hG hrd=>Qga ?_;subst hG)
   simp -implicitDefEqProofs[Z7H,Z7I,rega];refine Qco (ZaB hG r h) ?_;simp -implicitDefEqProofs[openA,e];refine Qco (Za2 r (nums r) d l (ZaH hO) h.1.1 (ZaJ hL)) ?_;simp -implicitDefEqProofs[hf,fndA,noIs]
 | some x =>
   have ev:atP r d l=(x,0):=(by simp[atP,e,hf]);have hx:=h.1.2 x (Z99 hf).1;have ex:isa x=[.int .i64 x.d,.int .i64 x.l,.int .u8 x.k,.vsl (x.its.map ita),.vsl (x.dms.map dma)]:=rfl;have cp:=ZdU (G:=G) x hx.1 hx.2;rw[ev];rw[ex]at cp
   (refine Z7J rfl λR hG hrd=>Qga ?_;subst hG)
   simp -implicitDefEqProofs[Z7H,Z7I,rega];refine Qco (ZaB hG r h) ?_;simp -implicitDefEqProofs[openA,e];refine Qco (Za2 r (nums r) d l (ZaH hO) h.1.1 (ZaJ hL)) ?_;simp -implicitDefEqProofs[hf,fndA,ex];refine Qco (cp) ?_;simp -implicitDefEqProofs[ex]
theorem  ZdV (n lo hi:Int):PC prog G 182 [.int .i64 n,.vptr [.int .i64 lo] 0,.vptr [.int .i64 hi] 0] (.bool (!inR n lo hi)):=by
 (refine ZcA rfl λR hG hrd=>Qga ?_;subst hG)
 by_cases h1:n<lo
 . have h2:¬lo<=n:=(by omega);simp -implicitDefEqProofs[Zcy,Zcz,h1,h2,inR]
 . have h2:lo<=n:=(by omega);by_cases h3:hi<n
   . have h4:¬n<=hi:=(by omega);simp -implicitDefEqProofs[Zcy,Zcz,h1,h2,h3,h4,inR]
   . have h4:n<=hi:=(by omega);simp -implicitDefEqProofs[Zcy,Zcz,h1,h2,h3,h4,inR]
theorem  ZdW (lo hi:Int) (l:List Int) (hl:Sml l):PC prog G 163 [.int .i64 lo,.int .i64 hi,.vsl (l.map ia)] (.bool (l.all λn=>inR n lo hi)):=by
 (refine Zcx rfl λR hG hrd=>Qga ?_;subst hG)
 simp -implicitDefEqProofs[Zcv,Zcw]
 (first|refine Yd.flat (Z9g 182 [.vptr [.int .i64 lo] 0,.vptr [.int .i64 hi] 0] (λn=>!inR n lo hi) l (by simp[AV.pure]) hl (λn _=>ZdV n lo hi)) (by simp[AV.flat]) (by simp) ?_|refine Ye.flat (Z9g 182 [.vptr [.int .i64 lo] 0,.vptr [.int .i64 hi] 0] (λn=>!inR n lo hi) l (by simp[AV.pure]) hl (λn _=>ZdV n lo hi)) (by simp[AV.flat]) (by simp) ?_)
 have e:(!l.any λn=>!inR n lo hi)=l.all λn=>inR n lo hi:=by simp[W2l]
 simp -implicitDefEqProofs[e]
theorem  ZdX (lo hi n:Int):PC prog G 163 [.int .i64 lo,.int .i64 hi,.vsl [[.int .i64 n]]] (.bool (inR n lo hi)):=by
 have h:=ZdW (G:=G) lo hi [n] (by simp[Sml]);simpa [ia] using h
theorem  ZdY (lo hi n m:Int):PC prog G 163 [.int .i64 lo,.int .i64 hi,.vsl [[.int .i64 n],[.int .i64 m]]] (.bool (inR n lo hi&&inR m lo hi)):=by
 have h:=ZdW (G:=G) lo hi [n,m] (by simp[Sml]);simpa [ia] using h
theorem  ZdZ (g:Nat) (caps:List AV) (p:Nte->Bool) (l:Jl) (hc:caps.all AV.pure=true) (hl:Sml l)
  (hg:∀ x∈l,PC prog G g (.agg (na x)::caps) (.bool (p x))) :
  PC prog G 123 [.vsl (l.map na),.func (.func g) [] caps] (.int .i64 (fstOf p l)):=by
 (refine Zdr rfl λR hG hrd=>Qga ?_;subst hG)
 unfold Sml at hl;have hc2:∀ x∈caps,x.pure=true:=W03.1 hc;simp -implicitDefEqProofs[Zdp,Zdq];refine Z8p (λi=>⟨[(8,.int .i64 i),(7,.int .i64 l.length),(0,.vsl (l.map na)),(1,.func (.func g) [] caps)],[]⟩) (λi=>∀ j (h:j<l.length),j<i->p l[j]=false) l.length (by (first|exact Wka|exact Wkb)) (by simp) ?_ ?_
 . intro i hi he;refine Qga ?_;have w1:i64.wrap ((i:Int)+1)=((i+1:Nat):Int):=Yf;have hgi:=hg _ (W0e hi);have hln:(na l[i]).length=10:=rfl;have htk:(na l[i]).take 10=na l[i]:=rfl;simp -implicitDefEqProofs[hi,hln,htk];refine Yd.of hgi (by simpa [AV.pure,na] using hc2) ?_
   cases h3:p l[i]
   . simp -implicitDefEqProofs[w1];refine ⟨(by (first|exact Wka|exact Wkb)),λj q1 q2=>?_⟩;by_cases e:j=i
     . subst e;exact h3
     . exact he j q1 (by omega)
   . simp -implicitDefEqProofs;refine Qgr ?_;simp -implicitDefEqProofs[Z9c hi h3 he]
 . intro he;refine Qga ?_;simp -implicitDefEqProofs;refine Qgr ?_;simp -implicitDefEqProofs[Z9d (p:=p) (l:=l) (λj hj=>he j hj hj)]
theorem  Ze0 (g:Nat) (caps:List AV) (p:Nte->Bool) (l:Jl) (hc:caps.all AV.pure=true) (hl:Sml l)
  (hg:∀ x∈l,PC prog G g (.agg (na x)::caps) (.bool (p x))) :
  PC prog G 244 [.vsl (l.map na),.func (.func g) [] caps] (.bool (l.any p)):=by
 (refine Zdo rfl λR hG hrd=>Qga ?_;subst hG)
 simp -implicitDefEqProofs[Zdm,Zdn];have hc2:∀ x∈caps,x.pure=true:=W03.1 hc;refine Yd.of (ZdZ g caps p l hc hl hg) (by simpa [AV.pure] using hc2) ?_;have e:=Z9e p l;simp -implicitDefEqProofs[e]
theorem  Ze1 (a b:Int):PC prog G 151 [.vsl [[.int .i64 a],[.int .i64 b]]] (.int .i64 (if a=0 then b else a)):=by
 (refine ZdM rfl λR hG hrd=>Qga ?_;subst hG)
 simp -implicitDefEqProofs[ZdK,ZdL];refine Z8p (λi=>⟨[(8,.int .i64 i),(7,.int .i64 2),(6,.vsl [[.int .i64 a],[.int .i64 b]]),(3,.int .i64 0)],[]⟩) (λi=>(0<i->a=0)/\(1<i->b=0)) 2 (by (first|exact Wka|exact Wkb)) (by simp) ?_ ?_
 . intro i hi he;refine Qga ?_
   match i,hi,he with
   | 0,_,_ =>
     have w1:i64.wrap 1=1:=rfl;by_cases h:a=0
     . simp -implicitDefEqProofs[h,w1]
       (first|exact Wka|exact Wkb)
     . simp -implicitDefEqProofs[h];refine Qgr ?_;simp -implicitDefEqProofs[h]
   | 1,_,he =>
     have h0:=he.1 (by omega);have w1:i64.wrap 2=2:=rfl;by_cases h:b=0
     . simp -implicitDefEqProofs[h,w1];exact ⟨(by (first|exact Wka|exact Wkb)),h0⟩
     . simp -implicitDefEqProofs[h];refine Qgr ?_;simp -implicitDefEqProofs[h,h0]
 . rintro ⟨h0,h1⟩;refine Qga ?_;have e0:=h0 (by omega);have e1:=h1 (by omega);simp -implicitDefEqProofs;refine Qgr ?_;simp -implicitDefEqProofs[e0,e1]
theorem  Ze2 (x y:Nte):PC prog G 245 [.agg (na y),.vptr (na x) 0] (.bool (decide (y.nu=x.ca))):=by
 (refine ZcV rfl λR hG hrd=>Qga ?_;subst hG)
 simp -implicitDefEqProofs[ZcT,ZcU,na]
section
variable (r:Jr) (l:Jl) (i:Nat) (hi:i<l.length) (hw:WfN l) (hr:Wf r)
include hi hw hr
theorem  Ze3:PC prog G 237 [.agg [.vsl (r.map isa),.vsl (l.map na)],.int .i64 i] (.bool (cN1 (nAt l i))):=by
 rw[Zbe hi]
 (refine ZcD rfl λR hG hrd=>Qga ?_;subst hG)
 simp -implicitDefEqProofs[ZcB,ZcC,hi,na];refine Qco (ZdX 1 9999 l[i].nu) ?_
 cases h1:inR l[i].nu 1 9999
 . simp -implicitDefEqProofs[cN1,h1]
 simp -implicitDefEqProofs[hi,na];refine Qco (ZdX 0 14610 l[i].dy) ?_;simp -implicitDefEqProofs[cN1,h1]
theorem  Ze4:PC prog G 238 [.agg [.vsl (r.map isa),.vsl (l.map na)],.int .i64 i] (.bool (cN2 (nAt l i))):=by
 rw[Zbe hi]
 (refine ZcG rfl λR hG hrd=>Qga ?_;subst hG)
 by_cases h1:l[i].sg<=2 <;> by_cases h2:l[i].wy<=3 <;> simp -implicitDefEqProofs[ZcE,ZcF,hi,na,cN2,h1,h2]
theorem  Ze5:PC prog G 239 [.agg [.vsl (r.map isa),.vsl (l.map na)],.int .i64 i] (.bool (cN3 (nAt l i))):=by
 rw[Zbe hi]
 (refine ZcJ rfl λR hG hrd=>Qga ?_;subst hG)
 simp -implicitDefEqProofs[ZcH,ZcI,hi,na];refine Qco (ZdY 1 999 l[i].fr l[i].tu) ?_
 cases h1:inR l[i].fr 1 999&&inR l[i].tu 1 999
 . simp -implicitDefEqProofs[cN3,h1]
 . by_cases h2:l[i].fr<=l[i].tu <;> simp -implicitDefEqProofs[cN3,h1,h2]
end
section
variable (hG:GC G) (r:Jr) (l:Jl) (i:Nat) (hi:i<l.length) (hw:WfN l) (hr:Wf r)
include hi hw hr
include hG in
theorem  Ze6 (ho:openV r=0):PC prog G 240 [.agg [.vsl (r.map isa),.vsl (l.map na)],.int .i64 i] (.bool (cN4 r (nAt l i))):=by
 rw[Zbe hi];have ha:=at_pc hG r l[i].dr l[i].lt hr;rw[rega]at ha;obtain ⟨x,hxx⟩:=Qex (l[i]);rw[<- hxx]at ha ⊢;have hlx:l[i]=x:=hxx.symm;have hna:na x=[.int .i64 x.nu,.int .i64 x.dy,.int .u8 x.sg,.int .i64 x.dr,.int .i64 x.lt,.int .i64 x.fr,.int .i64 x.tu,.int .i64 x.ca,.bool x.up,.int .u8 x.wy]:=rfl
 have he:(atP r x.dr x.lt).2=0↔(findN x.dr x.lt r).isSome=true:=by
  unfold atP;rw[if_pos ho]
  cases findN x.dr x.lt r <;> simp
 (refine ZcM rfl λR hG hrd=>Qga ?_;subst hG)
 by_cases hz:x.dr=0/\x.lt=0
 . simp -implicitDefEqProofs[ZcK,ZcL,hi,hlx,hna,hz.1,hz.2,cN4]
 . have hz1:¬(0=x.dr/\0=x.lt):=λh=>hz ⟨h.1.symm,h.2.symm⟩
   have e4:cN4 r x=decide ((atP r x.dr x.lt).2=0):=by
    rw[cN4,if_neg hz]
    cases q:(findN x.dr x.lt r).isSome
    . rw[eq_comm,W1b,he,q];simp
    . rw[eq_comm,W0b,he,q]
   rw[e4];have ey:isa (atP r x.dr x.lt).1=[.int .i64 (atP r x.dr x.lt).1.d,.int .i64 (atP r x.dr x.lt).1.l,.int .u8 (atP r x.dr x.lt).1.k,.vsl ((atP r x.dr x.lt).1.its.map ita),.vsl ((atP r x.dr x.lt).1.dms.map dma)]:=rfl;rw[ey]at ha;generalize atP r x.dr x.lt=v at *;by_cases q1:x.dr=0
   . have q2:¬x.lt=0:=λh=>hz ⟨q1,h⟩
     have q2':¬0=x.lt:=λh=>q2 h.symm
     rw[q1]at ha;simp -implicitDefEqProofs[ZcK,ZcL,hi,hlx,hna,q1,q2,q2'];refine Qco (ha) ?_;simp -implicitDefEqProofs
   . have q1':¬0=x.dr:=λh=>q1 h.symm
     simp -implicitDefEqProofs[ZcK,ZcL,hi,hlx,hna,q1,q1'];refine Qco (ha) ?_;simp -implicitDefEqProofs
theorem  Ze7:PC prog G 242 [.agg [.vsl (r.map isa),.vsl (l.map na)],.int .i64 i] (.bool (cN5 (nAt l i))):=by
 rw[Zbe hi]
 (refine ZcP rfl λR hG hrd=>Qga ?_;subst hG)
 by_cases h1:2<=l[i].lt
 . simp -implicitDefEqProofs[ZcN,ZcO,hi,na,cN5,h1]
 . cases h2:l[i].up
   . by_cases h3:l[i].wy=0 <;> simp -implicitDefEqProofs[ZcN,ZcO,hi,na,cN5,h1,h2,h3]
   . simp -implicitDefEqProofs[ZcN,ZcO,hi,na,cN5,h1,h2]
theorem  Ze8:PC prog G 243 [.agg [.vsl (r.map isa),.vsl (l.map na)],.int .i64 i] (.bool (cN6 l i (nAt l i))):=by
 have hl:=hw.1;unfold Sml at hl;rw[Zbe hi];obtain ⟨x,hxx⟩:=Qex (l[i]);rw[<- hxx];have hlx:l[i]=x:=hxx.symm;have hna:na x=[.int .i64 x.nu,.int .i64 x.dy,.int .u8 x.sg,.int .i64 x.dr,.int .i64 x.lt,.int .i64 x.fr,.int .i64 x.tu,.int .i64 x.ca,.bool x.up,.int .u8 x.wy]:=rfl;have hc:=Ze0 (G:=G) 245 [.vptr (na x) 0] (λy=>decide (y.nu=x.ca)) (l.take i) (by simp[AV.pure,na]) (by unfold Sml;simp;omega) (λy _=>Ze2 x y);have i1:i<=l.length:=(by omega);have bl:∀ x:Nte,(na x).length=10:=λ_=>rfl
 rw[List.map_take]at hc
 have pu:∀ x∈List.take i (List.map na l),∀ y∈x,y.pure=true:=λx hx y hy=>by
  obtain ⟨z,-,rfl⟩:=W0i.1 (W1r hx);simp only[na,W0g,W0Q,or_false]at hy;rcases hy with rfl|rfl|rfl|rfl|rfl|rfl|rfl|rfl|rfl|rfl <;> simp[AV.pure]
 (refine ZcS rfl λR hG hrd=>Qga ?_;subst hG)
 by_cases h1:x.ca=0
 . simp -implicitDefEqProofs[ZcQ,ZcR,hi,hlx,hna,cN6,h1]
 . simp -implicitDefEqProofs[ZcQ,ZcR,hi,hlx,hna,cN6,h1,i1,bl];rw[hna]at hc;refine Yd.flat hc (by simp[AV.flat]) (by simp) ?_;simp -implicitDefEqProofs
theorem  Ze9:PC prog G 248 [.agg [.vsl (r.map isa),.vsl (l.map na)],.int .i64 i] (.bool (cN8 l i (nAt l i))):=by
 have hl:=hw.1;unfold Sml at hl
 cases i with
 | zero =>
   (refine Zd4 rfl λR hG hrd=>Qga ?_;subst hG)
   simp -implicitDefEqProofs[Zd2,Zd3,cN8];rfl
 | succ k =>
   have hk:k<l.length:=(by omega);have w1:i64.wrap ((k:Int)+1-1)=(k:Int):=(by rw[Yf (by omega) (by omega)];omega);have w2:i64.wrap (k:Int)=(k:Int):=Yf;have i0:¬(k:Int)+1=0:=(by omega);have k1:(0:Int)<=(k:Int)+1:=(by omega);have k2:((k:Int)+1).toNat=k+1:=(by omega);have e8:cN8 l (k+1) (nAt l (k+1))=(decide (l[k].dy<l[k+1].dy)||(decide (l[k].dy=l[k+1].dy)&&decide (l[k].nu<l[k+1].nu))):=(by rw[cN8,Zbe hk,Zbe hi]);have hc1:=Z9S (G:=G) l[k].dy l[k+1].dy;have hc2:=Z9S (G:=G) l[k].nu l[k+1].nu;have hR:∀ a b:AV,(List.range 2).map (λi=>List.take 1 (List.drop i [a,b]))=[[a],[b]]:=λ_ _=>rfl
   obtain ⟨a,b,ha,hb,hv⟩ : ∃ a b:Int,(if l[k].dy<l[k+1].dy then (-1:Int) else if l[k+1].dy<l[k].dy then 1 else 0)=a/\(if l[k].nu<l[k+1].nu then (-1:Int) else if l[k+1].nu<l[k].nu then 1 else 0)=b/\decide ((if a=0 then b else a)<0)=(decide (l[k].dy<l[k+1].dy)||(decide (l[k].dy=l[k+1].dy)&&decide (l[k].nu<l[k+1].nu))):=by
    refine ⟨_,_,rfl,rfl,?_⟩;rcases Int.lt_trichotomy l[k].dy l[k+1].dy with q|q|q
    . simp[q]
    . rw[q];rcases Int.lt_trichotomy l[k].nu l[k+1].nu with q2|q2|q2
      . simp[q2]
      . rw[q2];simp
      . have:¬l[k].nu<l[k+1].nu:=(by omega);simp[q2,this]
    . have h1:¬l[k].dy<l[k+1].dy:=(by omega);have h2:¬l[k].dy=l[k+1].dy:=(by omega);simp[q,h1,h2]
   rw[ha]at hc1;rw[hb]at hc2;have ho:=Ze1 (G:=G) a b;rw[e8,<- hv];clear hv;generalize (if a=0 then b else a)=c at *
   (refine Zd4 rfl λR hG hrd=>Qga ?_;subst hG)
   simp -implicitDefEqProofs[Zd2,Zd3,hi,hk,w1,w2,i0,k1,k2,na];refine Qco (hc1) ?_;simp -implicitDefEqProofs[hi,hk,w1,w2,i0,k1,k2,na];refine Qco (hc2) ?_;simp -implicitDefEqProofs[hR];refine Qco (ho) ?_;simp -implicitDefEqProofs;rfl
theorem  Zea (y:Nte):PC prog G 247 [.agg (na y),.vptr [.vsl (r.map isa),.vsl (l.map na)] 0,.vptr [.int .i64 i] 0] (.bool (decide (y.nu=(nAt l i).nu))):=by
 rw[Zbe hi]
 (refine Zd1 rfl λR hG hrd=>Qga ?_;subst hG)
 simp -implicitDefEqProofs[ZcZ,Zd0,na,hi];rfl
theorem  Zeb:PC prog G 246 [.agg [.vsl (r.map isa),.vsl (l.map na)],.int .i64 i] (.bool (cN7 l i (nAt l i))):=by
 have hl:=hw.1;unfold Sml at hl;have hc:=Ze0 (G:=G) 247 [.vptr [.vsl (r.map isa),.vsl (l.map na)] 0,.vptr [.int .i64 i] 0] (λy=>decide (y.nu=(nAt l i).nu)) (l.take i) (by simp[AV.pure,isa,na]) (by unfold Sml;simp;omega) (λy _=>Zea r l i hi hw hr y);have i1:i<=l.length:=(by omega);have bl:∀ x:Nte,(na x).length=10:=λ_=>rfl
 rw[List.map_take]at hc
 have pu:∀ x∈List.take i (List.map na l),∀ y∈x,y.pure=true:=λx hx y hy=>by
  obtain ⟨z,-,rfl⟩:=W0i.1 (W1r hx);simp only[na,W0g,W0Q,or_false]at hy;rcases hy with rfl|rfl|rfl|rfl|rfl|rfl|rfl|rfl|rfl|rfl <;> simp[AV.pure]
 have pn:(l.map na).all (λr=>r.all AV.pure)=true:=(by simp[na,AV.pure]);have pi:=ZdT r;have e7:cN7 l i (nAt l i) = !(l.take i).any λy=>decide (y.nu=(nAt l i).nu):=rfl
 rw[e7]
 (refine ZcY rfl λR hG hrd=>Qga ?_;subst hG)
 simp -implicitDefEqProofs[ZcW,ZcX,i1,bl];refine Yd.flat hc (by simp[AV.flat]) (by simp[pn,pi]) ?_;simp -implicitDefEqProofs
end
def Zec (ok:Nat->Bool) (st:St) (l:List Int):frzO ok st (.row 1 (l.map ia)) = .row 1 (l.map ia):=by
 simp only[frzO,W10]
 congr 2
 funext p;simp[ia,frzA,frz,AV.keys]
def Zed (ρ:Nat->Nat) (l:List Int):AObj.ren ρ (.row 1 (l.map ia)) = .row 1 (l.map ia):=by
 simp only[AObj.ren,W10]
 congr 2
 funext p;simp[ia,AV.ren]
def Zee (o:List (Nat×AObj)) (l:List Int):Yc o (.row 1 (l.map ia))=true:=by
 simp only[Yc,W03,W0i];rintro x ⟨y,-,rfl⟩ v hv;simp only[ia,W0B]at hv;subst hv;simp[Ya,AV.keys]
def Zef (S:ByteArray):RCode:=.seq (.reg 0 false [{ d:=some 2,op:=.mov (.c (.int .i64 0)) }]) (.seq (.seq (.reg 1 false [{ d:=some 3,op:=.mov (.t 0) },{ d:=some 4,op:=.bin .geq (.t 3) (.c (.int .u64 4294967296)) }]) (.cond (.t 4) (.seq (.reg 2 false [{ d:=some 5,op:=.mov (.t 0) },{ d:=some 6,op:=.vop (.sh false) [(.t 5),(.c (.int .u64 32))] },{ d:=some 0,op:=.mov (.t 6) }]) (.reg 3 false [{ d:=some 2,op:=.mov (.c (.int .i64 32)) }])) (.skip))) (.seq (.seq (.reg 4 false [{ d:=some 7,op:=.mov (.t 0) },{ d:=some 8,op:=.bin .geq (.t 7) (.c (.int .u64 65536)) }]) (.cond (.t 8) (.seq (.reg 5 false [{ d:=some 9,op:=.mov (.t 0) },{ d:=some 10,op:=.vop (.sh false) [(.t 9),(.c (.int .u64 16))] },{ d:=some 0,op:=.mov (.t 10) }]) (.reg 6 false [{ d:=some 11,op:=.mov (.t 2) },{ d:=some 12,op:=.bin .add (.t 11) (.c (.int .i64 16)) },{ d:=some 2,op:=.mov (.t 12) }])) (.skip))) (.seq (.seq (.reg 7 false [{ d:=some 13,op:=.mov (.t 0) },{ d:=some 14,op:=.bin .geq (.t 13) (.c (.int .u64 256)) }]) (.cond (.t 14) (.seq (.reg 8 false [{ d:=some 15,op:=.mov (.t 0) },{ d:=some 16,op:=.vop (.sh false) [(.t 15),(.c (.int .u64 8))] },{ d:=some 0,op:=.mov (.t 16) }]) (.reg 9 false [{ d:=some 17,op:=.mov (.t 2) },{ d:=some 18,op:=.bin .add (.t 17) (.c (.int .i64 8)) },{ d:=some 2,op:=.mov (.t 18) }])) (.skip))) (.seq (.reg 10 false [{ d:=some 19,op:=.mov (.t 2) },{ d:=some 20,op:=.mov (.t 0) },{ d:=some 21,op:=.conv .u8 (.t 20) },{ d:=some 22,op:=.vop .sidx [(.c (.str S)),(.t 21)] },{ d:=some 23,op:=.conv .i64 (.t 22) },{ d:=some 24,op:=.bin .add (.t 19) (.t 23) },{ d:=some 2,op:=.mov (.t 24) }]) (.ret))))) 
def Zeg (l:List Int) (a b:Nat) (h1:a<=b) (h2:b<=l.length) (h3:l.length<=1000) :
  PB prog G 183 [(1000,.row 1 (l.map ia))] [.osl 1000 l.length,.int .i64 a,.int .i64 b] (.tup []) [(1000,.row 1 ((srtI l a b).map ia))]:=by
 (refine ZdJ (W0C rfl) λR hG hrd=>Qga ?_;subst hG)
 have w1:i64.wrap ((a:Int)+1)=a+1:=Yf;simp -implicitDefEqProofs[ZdG,ZdH,w1];refine Z8p (λi=>⟨[(6,.int .i64 ((a:Int)+1+i)),(0,.osl 1000 l.length),(1,.int .i64 a),(2,.int .i64 b)],[(1000,.row 1 ((srtI l a (a+1+i)).map ia))]⟩) (λi=>True) (b-(a+1)) ?_ trivial ?_ ?_
 . rw[Zbt (by omega) (by omega)]
   (refine Wkc ?_;simp only[Zee,Wkl,and_true];(try simp[lk,Yc,Ya,AV.keys]))
 . intro i hi _;refine Qga ?_;have k1:(a:Int)+1+i<b:=(by omega);simp -implicitDefEqProofs[k1];have hI:a+1+i<l.length:=(by omega);have z:=Zbv (l:=l) (a:=a) (i:=a+1+i) (by omega) hI;have z0:a+1+i-a=i+1:=(by omega);rw[z0]at z;rw[z];have hat:=λp (hp:p+1<=a+1+i-a)=>Zby (l:=l) (a:=a) (i:=a+1+i) (p:=p) (by omega) hI hp
   have hend:=λp=>Zbz (l:=l) (a:=a) (i:=a+1+i) (p:=p) (by omega) hI
   have hln:=λp (hp:p<=a+1+i-a)=>Zbw (l:=l) (a:=a) (i:=a+1+i) (p:=p) (by omega) hI hp
   have hsl:=Zbu (l:=l) (a:=a) (i:=a+1+i) (by omega);generalize hsg:sortI ((l.take (a+1+i)).drop a)=s at *;generalize hxx:l[a+1+i]=x at *
   refine Z1Q (λp:Nat=>⟨[(7,.int .i64 ((a:Int)+p)),(6,.int .i64 ((a:Int)+1+i)),(0,.osl 1000 l.length),(1,.int .i64 a),(2,.int .i64 b)],[(1000,.row 1 ((mvI l a (a+1+i) p).map ia))]⟩)
    (λp=>p<=i+1/\∀ y∈s.drop p,x<y) (λp=>p) (i+1) ?_ ⟨W0f _,λy hy=>by rw[W1j (by omega)]at hy;cases hy⟩ ?_
   . have e9:(a:Int)+1+i=(a:Int)+(i+1:Nat):=(by omega);rw[e9]
     (refine Wkc ?_;simp only[Zee,Wkl,and_true];(try simp[lk,Yc,Ya,AV.keys]))
   . rintro p ⟨hp,hd⟩;refine Qga ?_
     cases p with
     | zero =>
       have k2:¬(a:Int)<a:=(by omega);simp -implicitDefEqProofs;refine ⟨rfl,?_⟩;refine Qgr ?_;have w3:i64.wrap ((a:Int)+1+i+1)=(a:Int)+1+(i+1):=(by rw[Yf (by omega) (by omega)];omega);have he:=hend 0 (W1f _) hd (λq hq=>by omega);have he2:a+1+i+1=a+1+(i+1):=(by omega);rw[he2]at he;rw[he];simp -implicitDefEqProofs[w3]
       (refine Wkc ?_;simp only[Zee,Wkl,and_true];(try simp[lk,Yc,Ya,AV.keys]))
     | succ p =>
       obtain ⟨y,hy0,hy1,hy2,hy3,hy4⟩:=hat p (by omega);have hl2:=hln (p+1) (by omega);have k2:(a:Int)<(a:Int)+(p+1):=(by omega);have k3:((a:Int)+(p+1)).toNat=a+p+1:=(by omega);have w2:i64.wrap ((a:Int)+(p+1)-1)=(a:Int)+p:=(by rw[Yf (by omega) (by omega)];omega);have k4:((a:Int)+p).toNat=a+p:=(by omega);have k5:a+p+1<l.length:=(by omega);have k6:a+p<l.length:=(by omega);have k7:(0:Int)<=(a:Int)+(p+1):=(by omega);have k8:(0:Int)<=(a:Int)+p:=(by omega);have he:=hend (p+1) (by omega) hd;generalize mvI l a (a+1+i) (p+1)=Q at *;obtain ⟨q1,g1⟩:=W02.1 hy1;obtain ⟨q2,g2⟩:=W02.1 hy2;have hls:=Z9E (G:=R.G) x y;simp -implicitDefEqProofs[k2,k3,w2,k4,k5,k6,k7,k8,g1,g2,hl2,ia];refine Qco (hls) ?_;by_cases hlt:x<y
       . simp -implicitDefEqProofs[hlt,k3,w2,k4,k5,k6,k7,k8,g1,g2,hl2,ia];refine ⟨rfl,rfl,p,?_,⟨by omega,λu hu=>?_⟩,W2u _⟩
         . have e1:∀ z:Int,[AV.int .i64 z]=ia z:=λ_=>rfl
           rw[e1,e1,<- W2r,<- W2r,hy3]
           (refine Wkc ?_;simp only[Zee,Wkl,and_true];(try simp[lk,Yc,Ya,AV.keys]))
         . obtain ⟨hps,gs⟩:=W02.1 hy0;rw[W0x hps,gs]at hu;rcases W0g.1 hu with rfl|hu
           . exact hlt
           . exact hd u hu
       . simp -implicitDefEqProofs[hlt];refine ⟨rfl,?_⟩;refine Qgr ?_;have w3:i64.wrap ((a:Int)+1+i+1)=(a:Int)+1+(i+1):=by rw[Yf (by omega) (by omega)];omega
         have he:=he (λq hq u hu hk=>by
          have:q=p:=(by omega);subst this;rw[hy0]at hu
          cases hu
          exact hlt hk)
         have he2:a+1+i+1=a+1+(i+1):=(by omega);rw[he2]at he;rw[he];simp -implicitDefEqProofs[w3]
         (refine Wkc ?_;simp only[Zee,Wkl,and_true];(try simp[lk,Yc,Ya,AV.keys]))
 . intro _;refine Qga ?_;have k1:¬(a:Int)+1+(b-(a+1):Nat)<b:=by omega
   have e:srtI l a (a+1+(b-(a+1)))=srtI l a b:=by
    rcases W0q a b with h|h
    . congr 1;omega
    . rw[Zbt (by omega) (by omega),Zbt (by omega) (by omega)]
   rw[e];simp -implicitDefEqProofs[k1];refine Qgr ?_;simp -implicitDefEqProofs;refine ⟨[],rfl,rfl,?_⟩;simp[Yi,newK,Zec]
def Zeh (l:List Int):srtI l 0 l.length=sortI l:=by simp[srtI]
def Zei (l:List Int) (m:Int) (h3:l.length<=12) :
  PB prog G 164 [(1000,.row 1 (l.map ia))] [.osl 1000 l.length,.int .i64 0,.int .i64 l.length,.int .i64 m] (.tup []) [(1000,.row 1 ((sortI l).map ia))]:=by
 have hp:=Zeg (G:=G) l 0 l.length (W1f _) (W0f _) (by omega);rw[Zeh]at hp
 (refine ZdF (W0C rfl) λR hG hrd=>Qga ?_;subst hG)
 have w1:i64.wrap (l.length:Int)=(l.length:Int):=Yf;have k1:(l.length:Int)<=12:=(by omega);simp -implicitDefEqProofs[ZdC,ZdD];refine Z1Q (λ_:Unit=>⟨[(0,.osl 1000 l.length),(1,.int .i64 0),(2,.int .i64 l.length)],[(1000,.row 1 (l.map ia))]⟩) (λ_=>True) (λ_=>0) () ?_ trivial ?_
 . (refine Wkc ?_;simp only[Zee,Wkl,and_true];(try simp[lk,Yc,Ya,AV.keys]))
 rintro ⟨⟩ -;refine Qga ?_;simp -implicitDefEqProofs[w1,k1,h3];refine Yd.sem (Z1B.byref hp id (by simp) (by simp) (by simp[St.get,lk,Zed]) (by simp[Zee]) (by simp[Ya,AV.keys,lk]) rfl (by simp[AV.ren]) rfl rfl) ?_;simp -implicitDefEqProofs[Yl,Zed];refine Qgr ?_;simp -implicitDefEqProofs;refine ⟨[],rfl,rfl,?_⟩;simp[Yi,newK,Zec]
set_option maxRecDepth 100000 in
def Zej (n:Nat) (h:n<=12):∃ v:Int,PC prog G 193 [.int .u64 n] (.int .i64 v):=by
 have k1:¬(4294967296:Int)<=n:=(by omega);have k2:¬(65536:Int)<=n:=(by omega);have k3:¬(256:Int)<=n:=(by omega);obtain ⟨S,hS,hz⟩ : ∃ S,ZdQ=Zef S/\S.size=256:=⟨_,rfl,rfl⟩;have hn:n<S.size:=(by omega);obtain ⟨c,hc⟩ : ∃ c,S[n]? = some c:=⟨S[n],getElem?_pos S n hn⟩
 have w1:IntKind.u8.wrap (n:Int)=(n:Int):=by
  match n,h with
  |0,_=>rfl
  |1,_=>rfl
  |2,_=>rfl
  |3,_=>rfl
  |4,_=>rfl
  |5,_=>rfl
  |6,_=>rfl
  |7,_=>rfl
  |8,_=>rfl
  |9,_=>rfl
  |10,_=>rfl
  |11,_=>rfl
  |12,_=>rfl
 refine ⟨i64.wrap (0+i64.wrap (c.toNat:Int)),?_⟩;refine ZdS rfl λR hG hrd=>?_
 rw[hS];refine Qga ?_;simp -implicitDefEqProofs[Zef,ZdR,k1,k2,k3,w1,hc]
def Zek (n:Nat) (h:n<=12):∃ v:Int,PC prog G 165 [.int .u64 n] (.int .i64 v):=by
 obtain ⟨v,hv⟩:=Zej (G:=G) n h;refine ⟨v,?_⟩
 (refine ZdP rfl λR hG hrd=>Qga ?_;subst hG)
 simp -implicitDefEqProofs[ZdN,ZdO];refine Qco (hv) ?_;simp -implicitDefEqProofs
def Zel (l:List Int) (h3:l.length<=12) :
  PB prog G 115 [(1000,.row 1 (l.map ia))] [.osl 1000 l.length] (.tup []) [(1000,.row 1 ((sortI l).map ia))]:=by
 obtain ⟨v,hv⟩:=Zek (G:=G) l.length h3;have hp:=Zei (G:=G) l v h3
 (refine ZdB (W0C rfl) λR hG hrd=>Qga ?_;subst hG)
 have w1:IntKind.u64.wrap (l.length:Int)=(l.length:Int):=IntWalk.u64_in _ ⟨by omega,by omega⟩;simp -implicitDefEqProofs[Zdy,Zdz,w1];refine Qco (hv) ?_;simp -implicitDefEqProofs;refine Yd.sem (Z1B.byref hp id (by simp) (by simp) (by simp[St.get,lk,Zed]) (by simp[Zee]) (by simp[Ya,AV.keys,lk]) rfl (by simp[AV.ren]) rfl rfl) ?_;simp -implicitDefEqProofs[Yl,Zed];refine ⟨[],rfl,rfl,?_⟩;simp[Yi,newK,Zec]
def Zem:PC prog G 183 [.nils,.int .i64 0,.int .i64 0] (.tup []):=by
 (refine ZdI rfl λR hG hrd=>Qga ?_;subst hG)
 have w1:i64.wrap 1=1:=rfl;simp -implicitDefEqProofs[ZdG,ZdH,w1];refine Z1Q (λ_:Unit=>⟨[(6,.int .i64 1),(2,.int .i64 0)],[]⟩) (λ_=>True) (λ_=>0) () (by (first|exact Wka|exact Wkb)) trivial ?_;rintro ⟨⟩ -;refine Qga ?_;simp -implicitDefEqProofs;refine Qgr ?_;simp -implicitDefEqProofs
def Zen (m:Int):PC prog G 164 [.nils,.int .i64 0,.int .i64 0,.int .i64 m] (.tup []):=by
 (refine ZdE rfl λR hG hrd=>Qga ?_;subst hG)
 have w1:i64.wrap 0=0:=rfl;simp -implicitDefEqProofs[ZdC,ZdD];refine Z1Q (λ_:Unit=>⟨[(0,.nils),(1,.int .i64 0),(2,.int .i64 0)],[]⟩) (λ_=>True) (λ_=>0) () (by (first|exact Wka|exact Wkb)) trivial ?_;rintro ⟨⟩ -;refine Qga ?_;simp -implicitDefEqProofs[w1];refine Qco (Zem) ?_;simp -implicitDefEqProofs;refine Qgr ?_;simp -implicitDefEqProofs
def Zeo:PC prog G 115 [.nils] (.tup []):=by
 obtain ⟨v,hv⟩:=Zek (G:=G) 0 (by omega);have w1:IntKind.u64.wrap 0=0:=rfl
 (refine ZdA rfl λR hG hrd=>Qga ?_;subst hG)
 simp -implicitDefEqProofs[Zdy,Zdz,w1];refine Qco (hv) ?_;simp -implicitDefEqProofs;refine Qco (Zen v) ?_;simp -implicitDefEqProofs
def K8n:List AV:=[.func (.func 237) [] [],.func (.func 238) [] [],.func (.func 239) [] [],.func (.func 240) [] [],.func (.func 242) [] [],.func (.func 243) [] [],.func (.func 246) [] [],.func (.func 248) [] []]
def GN (G:Jg):Prop:=G 0=some K8n
def ckK (r:Jr) (l:Jl) (i:Nat):Nat->Bool
 |0=>cN1 (nAt l i)
 |1=>cN2 (nAt l i)
 |2=>cN3 (nAt l i)
 |3=>cN4 r (nAt l i)
 |4=>cN5 (nAt l i)
 |5=>cN6 l i (nAt l i)
 |6=>cN7 l i (nAt l i)
 |_=>cN8 l i (nAt l i)
def Zep {r:Jr} {l:Jl} {i:Nat}:noteB r l i=true↔∀ j,j<8->ckK r l i j=true:=by
 simp only[noteB,W01]
 constructor
 . rintro ⟨⟨⟨⟨⟨⟨⟨h1,h2⟩,h3⟩,h4⟩,h5⟩,h6⟩,h7⟩,h8⟩ j hj
   match j,hj with
   |0,_=>exact h1
   |1,_=>exact h2
   |2,_=>exact h3
   |3,_=>exact h4
   |4,_=>exact h5
   |5,_=>exact h6
   |6,_=>exact h7
   |7,_=>exact h8
 . intro h;exact ⟨⟨⟨⟨⟨⟨⟨h 0 (by omega),h 1 (by omega)⟩,h 2 (by omega)⟩,h 3 (by omega)⟩,h 4 (by omega)⟩,h 5 (by omega)⟩,h 6 (by omega)⟩,h 7 (by omega)⟩
def opA (l:Jl):AV:=if opU l=[] then .nils else .vsl ((sortI (opU l)).map ia)
def fileA (r:Jr) (l:Jl):AV:=.vptr [.vsl (r.map isa),.vsl (l.map na),.vsl ((nums r).map ia),opA l] 0
def opdA (r:Jr) (l:Jl):AV:=.tup [if chN r l=0 then fileA r l else .nilp,.int .i64 (chN r l)]
def onu (l:Jl) (i:Nat):List Int:=(opN l i).map (·.nu)
def Zeq {l:Jl} {i:Nat} (h:i<l.length):onu l (i+1)=if l[i].sg=1 then onu l i++[l[i].nu] else onu l i:=by
 unfold onu;rw[Zbf h];split
 . rw[W0r];rfl
 . rfl
def Zer (l:Jl) (i:Nat):(onu l i).length<=i:=by unfold onu;rw[W0N];exact Zbg l i
def opdT (l:Jl):List (Nat×AV):=[(31,.int .i64 l.length),(30,.vsl (l.map na)),(6,.ptr 28 0),(7,.bool false),(1,.ptr 1 0)]
def opdO (r:Jr) (l:Jl) (i:Nat):List (Nat×AObj):=if onu l i=[] then [(1,.box [.vsl (r.map isa),.vsl (l.map na)]),(28,.box [.vsl (r.map isa),.vsl (l.map na),.vsl ((nums r).map ia),.nils])]
 else [(1,.box [.vsl (r.map isa),.vsl (l.map na)]),(28,.box [.vsl (r.map isa),.vsl (l.map na),.vsl ((nums r).map ia),.osl 59 (onu l i).length]),(59,.row 1 ((onu l i).map ia))]
def opdS (r:Jr) (l:Jl) (i:Nat):St:=⟨(32,.int .i64 i)::opdT l,opdO r l i⟩
def opdI (r:Jr) (l:Jl) (i:Nat) (x:Nte) (j:Nat):St:=⟨(38,.int .i64 j)::(37,.agg K8n)::(8,.int .i64 i)::(9,.ptr 9 0)::(32,.int .i64 i)::opdT l,(9,.box (na x))::opdO r l i⟩
def kNall (hG:GC G) {r:Jr} {l:Jl} {i:Nat} (hi:i<l.length) (hw:WfN l) (hr:Wf r) (ho:openV r=0) (j:Nat) (hj:j<8) :
  ∃ f,(K8n.drop j).take 1=[.func (.func f) [] []]/\PC prog G f [.agg [.vsl (r.map isa),.vsl (l.map na)],.int .i64 i] (.bool (ckK r l i j)):=by
 match j,hj with
 |0,_=>exact ⟨_,rfl,Ze3 r l i hi hw hr⟩
 |1,_=>exact ⟨_,rfl,Ze4 r l i hi hw hr⟩
 |2,_=>exact ⟨_,rfl,Ze5 r l i hi hw hr⟩
 |3,_=>exact ⟨_,rfl,Ze6 hG r l i hi hw hr ho⟩
 |4,_=>exact ⟨_,rfl,Ze7 r l i hi hw hr⟩
 |5,_=>exact ⟨_,rfl,Ze8 r l i hi hw hr⟩
 |6,_=>exact ⟨_,rfl,Zeb r l i hi hw hr⟩
 |7,_=>exact ⟨_,rfl,Ze9 r l i hi hw hr⟩
def Zes (hG:GC G) (hN:GN G) (r:Jr) (l:Jl) (hw:WfN l) (hr:Wf r):PC prog G 119 [.agg [.vsl (r.map isa),.vsl (l.map na)]] (opdA r l):=by
 have hl:=hw.1;unfold Sml at hl;have hd:=ZaK hG r hr;rw[rega]at hd;unfold GN at hN
 (refine Zd7 rfl λR hG hrd=>Qga ?_;subst hG)
 by_cases ho:openV r=0
 case neg =>
  have e:chN r l=openV r:=(by rw[chN,if_neg ho]);simp -implicitDefEqProofs[Zd5,Zd6];refine Qco (hd) ?_;simp -implicitDefEqProofs[ho,opdA,e]
 rw[if_pos ho,ho]at hd;by_cases h12:12<l.length
 . have h12':(12:Int)<l.length:=by omega
   have hB:Zbh r l=false:=by
    have:¬l.length<=12:=(by omega);simp[Zbh,this]
   have e:chN r l=30:=(by rw[chN,if_pos ho,hB];rfl);simp -implicitDefEqProofs[Zd5,Zd6];refine Qco (hd) ?_;simp -implicitDefEqProofs[opdA,e,h12,h12']
 have h12':¬(12:Int)<l.length:=(by omega);simp -implicitDefEqProofs[Zd5,Zd6];refine Qco (hd) ?_;simp -implicitDefEqProofs[h12,h12'];refine Z8p (opdS r l) (λi=>∀ j,j<i->noteB r l j=true) l.length ?_ (by simp) ?_ ?_
 . have e0:onu l 0=[]:=rfl;simp only[opdS,opdO,opdT,e0,if_true]
   (refine Wkc ?_;simp only[Wkl,and_true];(try simp[lk,Yc,Ya,AV.keys]))
 . intro i hi he;refine Qga ?_;obtain ⟨x,hxx⟩:=Qex (l[i]);have hlx:l[i]=x:=hxx.symm;have hna:na x=[.int .i64 x.nu,.int .i64 x.dy,.int .u8 x.sg,.int .i64 x.dr,.int .i64 x.lt,.int .i64 x.fr,.int .i64 x.tu,.int .i64 x.ca,.bool x.up,.int .u8 x.wy]:=rfl;have hk:=kNall hG hi hw hr ho;have wi:i64.wrap ((i:Int)+1)=(i:Int)+1:=Yf;have sc:=Zeq hi;have ol:=Zer l i;rw[hlx]at sc;have t8:K8n.take 8=K8n:=rfl;have l8:K8n.length=8:=rfl;by_cases c:onu l i=[]
   case' pos =>
    simp -implicitDefEqProofs[opdS,opdO,opdT,c,hi,hlx,hna,hN,t8,l8]
   case' neg =>
    simp -implicitDefEqProofs[opdS,opdO,opdT,c,hi,hlx,hna,hN,t8,l8]
   all_goals
    refine Z8p (opdI r l i x) (λj=>∀ k,k<j->ckK r l i k=true) 8 ?_ (by simp) ?_ ?_
    . simp only[opdI,opdO,opdT,c,if_true,if_false]
      ((try simp only[hna,K8n]);refine Ym.sub (by simp[lk,Ya,AV.keys,hna,K8n]) ?_;simp only[hna,K8n,Wkl,Zee,and_true];(try simp[lk,Yc,Ya,AV.keys,hna,K8n]))
    . intro j hj hJ;refine Qga ?_;obtain ⟨f,hf1,hf2⟩:=hk j hj;have wj:i64.wrap ((j:Int)+1)=(j:Int)+1:=Yf;have j1:(j:Int)<8:=(by omega);have j2:j+1<=8:=(by omega);have j3:j<=7:=(by omega);simp -implicitDefEqProofs[opdI,opdO,opdT,c,j1,j2,j3,l8,hf1,hj];refine Qco (hf2) ?_
      cases hb:ckK r l i j
      . have hB:Zbh r l=false:=by
         cases q:Zbh r l
         . rfl
         . simp only[Zbh,W01]at q;have h1:=Z8G.1 q.1.2 i hi;have h2:=Zep.1 h1 j hj;rw[hb]at h2;cases h2
        have e:chN r l=30:=(by rw[chN,if_pos ho,hB];rfl);simp -implicitDefEqProofs;refine Qgr ?_;simp -implicitDefEqProofs;refine Qgr ?_;simp -implicitDefEqProofs[opdA,e]
      . simp -implicitDefEqProofs[wj];refine ⟨?_,λk hk=>?_⟩
        . simp only[opdI,opdO,opdT,c,if_true,if_false]
          ((try simp only[hna,K8n]);refine Ym.sub (by simp[lk,Ya,AV.keys,hna,K8n]) ?_;simp only[hna,K8n,Wkl,Zee,and_true];(try simp[lk,Yc,Ya,AV.keys,hna,K8n]))
        . rcases W0q k j with h1|h1
          . exact hJ k h1
          . obtain rfl:k=j:=(by omega);exact hb
    . intro hJ;refine Qga ?_;have hnb:noteB r l i=true:=Zep.2 hJ
      have he2:∀ j,j<i+1->noteB r l j=true:=λj hj=>by
       rcases W0q j i with h1|h1
       . exact he j h1
       . obtain rfl:j=i:=(by omega);exact hnb
      have bb:((onu l i).length+1)*8<=70368744177664:=(by omega);simp -implicitDefEqProofs[opdI,opdO,opdT,c];refine Qgr ?_;by_cases q:x.sg=1
      . rw[if_pos q]at sc;have hne:onu l (i+1)≠[]:=(by rw[sc];simp);simp -implicitDefEqProofs[hna,q,bb,wi];refine ⟨rfl,?_,he2⟩;simp only[opdS,opdO,opdT,hne,if_false];have e1:(onu l (i+1)).map ia=(onu l i).map ia++[[AV.int .i64 x.nu]]:=(by rw[sc,W0r];rfl);have e2:(onu l (i+1)).length=(onu l i).length+1:=by rw[sc];simp
        first
         |(rw[c,W18]at sc;rw[sc];((try simp only[ia]);refine Ym.sub (by simp[lk,Ya,AV.keys,ia]) ?_;simp only[ia,Wkl,and_true];(try simp[lk,Yc,Ya,AV.keys,ia]));done)
         |(rw[<- e1,e2];(refine Wkc ?_;simp only[Zee,Wkl,and_true];(try simp[lk,Yc,Ya,AV.keys]));done)
      . rw[if_neg q]at sc;simp -implicitDefEqProofs[hna,q,wi];refine ⟨?_,he2⟩;simp only[opdS,opdO,opdT,sc,c,if_true,if_false]
        (refine Wkc ?_;simp only[Zee,Wkl,and_true];(try simp[lk,Yc,Ya,AV.keys]))
 . intro he;refine Qga ?_;have hall:(List.range l.length).all (noteB r l)=true:=Z8G.2 he;have hu:onu l l.length=opU l:=rfl;have hul:=Zer l l.length;have hln:(onu l l.length).length=(opN l l.length).length:=by simp[onu]
   have hB:Zbh r l=decide ((opN l l.length).length<=5):=by
    have h2:l.length<=12:=(by omega);simp[Zbh,hall,h2]
   rw[<- hln]at hB;by_cases c:onu l l.length=[]
   . have hB2:Zbh r l=true:=(by rw[hB,c];rfl);have e:chN r l=0:=(by rw[chN,if_pos ho,hB2];rfl);have ea:opA l = .nils:=(by rw[opA,<- hu,if_pos c]);simp -implicitDefEqProofs[opdS,opdO,opdT,c];refine Qgr ?_;simp -implicitDefEqProofs;refine Qco (Zeo) ?_;simp -implicitDefEqProofs[opdA,e,fileA,ea]
   . by_cases h5:5<(onu l l.length).length
     . have h5':(5:Int)<(onu l l.length).length:=(by omega);have hB2:Zbh r l=false:=(by rw[hB];exact W0S (by omega));have e:chN r l=30:=(by rw[chN,if_pos ho,hB2];rfl);simp -implicitDefEqProofs[opdS,opdO,opdT,c];refine Qgr ?_;simp -implicitDefEqProofs[h5,h5',opdA,e]
     . have h5':¬(5:Int)<(onu l l.length).length:=(by omega);have hB2:Zbh r l=true:=(by rw[hB];exact W0M (by omega));have e:chN r l=0:=(by rw[chN,if_pos ho,hB2];rfl);have ea:opA l = .vsl ((sortI (opU l)).map ia):=(by rw[opA,<- hu,if_neg c]);have hsp:=Zel (G:=R.G) (onu l l.length) (by omega);have pu:((sortI (opU l)).map ia).all (λr=>r.all AV.pure)=true:=(by simp[ia,AV.pure]);have sl:(sortI (opU l)).length=(onu l l.length).length:=(by rw[Zbr,<- hu]);simp -implicitDefEqProofs[opdS,opdO,opdT,c];refine Qgr ?_;simp -implicitDefEqProofs[h5,h5'];refine Yd.sem (Z1B.byref hsp (λ_=>59) (by simp) (by simp) (by simp[St.get,lk,Zed]) (by simp[Zee]) (by simp[Ya,AV.keys,lk]) rfl (by simp[AV.ren]) rfl rfl) ?_;rw[hu];rw[hu]at sl;simp -implicitDefEqProofs[Yl,Zed,opdA,e,fileA,ea,pu,sl]
def dropZ:Nat->RCode->RCode
 |0,c=>c
 |n+1,.seq _ c=>dropZ n c
 |_+1,c=>c
def GOz {P:Program} {R:Run} {c:RCode} {ks:List KF} {Φ:Exit->St->Prop} {st:St} (h:AR P R c st (RetP P R ks Φ)):GO P R 0 (.run c) ks Φ st:=h
def lfS (U s:List Int) (i:Nat):List Int:=U.filter λn=>!decide (n∈s.take i)
def Zet {U s:List Int} {i:Nat} (hi:i<s.length) (hU:U.Nodup):(lfS U s i).erase s[i]=lfS U s (i+1):=by
 have hn:(lfS U s i).Nodup:=hU.filter _;rw[hn.erase_eq_filter];unfold lfS;rw[List.filter_filter];refine List.filter_congr λn _=>?_
 have hm:n∈s.take (i+1)↔(n∈s.take i∨n=s[i]):=(by rw[W08 hi,W0h,W0B]);by_cases e:n=s[i]
 . rw[W0M (hm.2 (.inr e)),bne_eq_false_iff_eq.2 e];rfl
 . by_cases e2:n∈s.take i
   . rw[W0M (hm.2 (.inl e2)),W0M e2];simp
   . rw[W0S (λh=>(hm.1 h).elim e2 e),W0S e2];simp[e]
def truI (l:Jl) (s:List Int) (i:Nat):Prop:=∀ j,j<i->s.getD j 0∈opU l/\(0<j->s.getD (j-1) 0<s.getD j 0)
def Zeu {l:Jl} {s:List Int} {i:Nat} (h:truI l s i):∀ a b,a<b->b<i->s.getD a 0<s.getD b 0
 |a,0,h1,_=>by omega
 | a,b+1,h1,h2=>by
   have h3:=(h (b+1) h2).2 (by omega);rw[W19]at h3;rcases W0q a b with h4|h4
   . have:=Zeu h a b h4 (by omega);omega
   . obtain rfl:a=b:=(by omega);exact h3
def Zev {l:Jl} {U s:List Int} {i:Nat} (hU:∀ n,n∈U↔n∈opU l) (hi:i<s.length) (h:truI l s i):(s[i]∈lfS U s i/\(0<i->s.getD (i-1) 0<=s[i]))↔truI l s (i+1):=by
 have eg:∀ j,∀ hj:j<s.length,s.getD j 0=s[j]:=λj hj=>by simp[W0j,hj]
 unfold lfS;rw[W0G,hU]
 constructor
 . rintro ⟨⟨h1,h2⟩,h3⟩ j hj;rcases W0q j i with h4|h4
   . exact h j h4
   . obtain rfl:j=i:=(by omega);rw[eg j hi];refine ⟨h1,λh0=>?_⟩;have h5:=h3 h0;have hj1:j-1<s.length:=by omega
     have h6:s.getD (j-1) 0≠s[j]:=λe=>by
      have:s[j]∈s.take j:=(by rw[<- e,eg _ hj1];rw[W1R];exact ⟨j-1,by omega,rfl⟩);simp[this]at h2
     omega
 . intro h1;have h2:=h1 i (by omega);rw[eg i hi]at h2;refine ⟨⟨h2.1,?_⟩,λh0=>Int.le_of_lt (h2.2 h0)⟩
   have:s[i] ∉ s.take i:=λhm=>by
    obtain ⟨j,hj,e⟩:=W1R.1 hm;have:=Zeu h1 j i (by omega) (by omega);rw[eg i hi,eg j (by omega)]at this;omega
   simp[this]
def Zew {l:Jl} {s:List Int}:truB l s=true↔truI l s s.length:=by
 unfold truB truI;rw[Z8G];refine forall_congr' λj=>forall_congr' λhj=>?_
 rw[W01,W0b];refine and_congr_right λ_=>?_
 cases j with
 |zero=>simp
 |succ j=>simp
def Zex (l:List Int) (n:Int) (h:Sml l):PC prog G 129 [.vsl (l.map ia),.int .i64 n] (.int .i64 (idx l n)):=by
 (refine Zdx rfl λR hG hrd=>Qga ?_;subst hG)
 unfold Sml at h;simp -implicitDefEqProofs[Zdv,Zdw];refine Z8p (λi=>⟨[(8,.int .i64 i),(7,.int .i64 l.length),(0,.vsl (l.map ia)),(1,.int .i64 n)],[]⟩) (λi=>n ∉ l.take i) l.length (by (first|exact Wka|exact Wkb)) (by simp) ?_ ?_
 . intro i hi he;refine Qga ?_;have w1:i64.wrap ((i:Int)+1)=(i:Int)+1:=Yf;by_cases e:n=l[i]
   . have hm:n∈l:=e ▸ W0e hi
     have hix:l.idxOf n=i:=by
      have hs:=W11 i l;rw[W0x hi]at hs;rw[<- hs,List.idxOf_append,if_neg he,List.idxOf_cons];simp[e];omega
     have e2:idx l n=i:=(by rw[idx,if_pos hm,hix]);simp -implicitDefEqProofs[hi,ia,e];refine Qgr ?_;rw[e]at e2;simp -implicitDefEqProofs[e2]
   . simp -implicitDefEqProofs[hi,ia,e,w1];refine ⟨by (first|exact Wka|exact Wkb),?_⟩;rw[W08 hi,W0h,W0B];exact λh=>h.elim he e
 . intro he;rw[W0v]at he;refine Qga ?_;have e2:idx l n = -1:=(by rw[idx,if_neg he]);simp -implicitDefEqProofs;refine Qgr ?_;simp -implicitDefEqProofs[e2]
def Zey (l:List Int) (n:Int) (h:Sml l):PC prog G 87 [.vsl (l.map ia),.int .i64 n] (.bool (decide (n∈l))):=by
 have hc:=Zex (G:=G) l n h
 have e:decide (0<=idx l n)=decide (n∈l):=by
  have:=Z8N (l:=l) (n:=n);by_cases h:n∈l
  . rw[W0M h,W0M];have:¬idx l n<0:=λh2=>(this.1 h2) h
    omega
  . rw[W0S h,W0S];have:=this.2 h;omega
 (refine Zdu rfl λR hG hrd=>Qga ?_;subst hG)
 simp -implicitDefEqProofs[Zds,Zdt];refine Qco (hc) ?_;simp -implicitDefEqProofs[e]
def Zez (o:List (Nat×AObj)) (l:List Int):Yc o (.mp (lfA l))=true:=by
 simp only[Yc,W03,lfA,W0i];rintro _ ⟨y,-,rfl⟩;simp[Ya,AV.keys]
def ZeA (r:Jr) (l:Jl) (s:List Int) (hs:Sml s) (hU:(opU l).Nodup) (hl:(opU l).length<=12):PC prog G 166 [fileA r l,.vsl (s.map ia)] (.int .i64 (if truB l s=true then 0 else 31)):=by
 unfold Sml at hs;have hUs:(sortI (opU l)).Nodup:=(Zbn _).symm.nodup hU;have hsl:=Zbr (opU l);obtain ⟨S,hS⟩:=Qex (sortI (opU l));have hSm:∀ n,n∈S↔n∈opU l:=λn=>by rw[hS];exact Zbs
 rw[<- hS]at hUs hsl
 have hO:(S=[]/\opA l = .nils)∨(S≠[]/\opA l = .vsl (S.map ia)):=by
  by_cases c:opU l=[]
  . exact .inl ⟨W0l.1 (by rw[hsl,c];rfl),by rw[opA,if_pos c]⟩
  . exact .inr ⟨λe=>c (W0l.1 (by rw[<- hsl,e];rfl)),by rw[opA,if_neg c,hS]⟩
 have key : ∀ R:Run,R.G=G->R.Top->∀ (rc:RCode),rc=dropZ 3 Zdb->AR prog R rc ⟨[(5,.mp 10),(1,.vsl (s.map ia))],[(10,.mp (lfA S))]⟩ (Fin Zdc (.int .i64 (if truB l s=true then 0 else 31))):=λR _ _ rc hrc=>by
  subst hrc;refine Qga ?_;simp -implicitDefEqProofs[dropZ,Zdb];refine Z8p (λi=>⟨[(25,.int .i64 i),(24,.int .i64 s.length),(23,.vsl (s.map ia)),(5,.mp 10),(1,.vsl (s.map ia))],[(10,.mp (lfA (lfS S s i)))]⟩) (λi=>truI l s i) s.length ?_ (λj hj=>by omega) ?_ ?_
  . have e0:lfS S s 0=S:=by unfold lfS;simp
    ((try simp only[e0]);refine Ym.sub (by simp[lk,Ya,AV.keys,e0]) ?_;simp only[e0,Wkl,Zez,and_true];(try simp[lk,Yc,Ya,AV.keys,e0]))
  . intro i hi hI;refine Qga ?_;have wi:i64.wrap ((i:Int)+1)=(i:Int)+1:=Yf;have gl:=Za7 s[i] (lfS S s i);have st:=Zev hSm hi hI;have le:=Zet (s:=s) hi hUs
    have no:¬truI l s (i+1)->truB l s=false:=λh=>by
     cases q:truB l s
     . rfl
     . exact absurd (λj hj=>Zew.1 q j (by omega)) h
    by_cases hm:s[i]∈lfS S s i
    . rw [if_pos hm]at gl;have dl:=Zaa hm;rw[le]at dl
      cases i with
      | zero =>
        have w1:i64.wrap 1=1:=rfl;have h1:=st.1 ⟨hm,λh=>by omega⟩;simp -implicitDefEqProofs[hi,ia,gl,dl,w1];refine ⟨?_,h1⟩
        (refine Wkc ?_;simp only[Zez,Wkl,and_true];(try simp[lk,Yc,Ya,AV.keys]))
      | succ k =>
        have hk:k<s.length:=(by omega);have k1:(k:Int)+1<s.length:=(by omega);have k2:((k:Int)+1).toNat=k+1:=(by omega);have k3:(0:Int)<=(k:Int)+1:=(by omega);have k4:(0:Int)<(k:Int)+1:=(by omega);have wk:i64.wrap ((k:Int)+1-1)=(k:Int):=(by rw[Yf (by omega) (by omega)];omega);have wk2:i64.wrap (k:Int)=(k:Int):=Yf;have wk3:i64.wrap ((k:Int)+1+1)=(k:Int)+1+1:=Yf;have eg:s.getD (k+1-1) 0=s[k]:=(by simp[W0j,hk]);rw[eg]at st;by_cases hlt:s[k+1]<s[k]
        . have hB:=no λh=>by have:=(st.2 h).2 (by omega);omega
          simp -implicitDefEqProofs[hi,hk,ia,gl,k1,k2,k3,k4,wk,wk2,hlt];refine Qgr ?_;simp -implicitDefEqProofs[hB,Zdc]
        . have h1:=st.1 ⟨hm,λ_=>by omega⟩;simp -implicitDefEqProofs[hi,hk,ia,gl,k1,k2,k3,k4,wk,wk2,wk3,hlt,dl];refine ⟨?_,h1⟩
          (refine Wkc ?_;simp only[Zez,Wkl,and_true];(try simp[lk,Yc,Ya,AV.keys]))
    . rw[if_neg hm]at gl;have hB:=no λh=>hm (st.2 h).1
      simp -implicitDefEqProofs[hi,ia,gl];refine Qgr ?_;simp -implicitDefEqProofs[hB,Zdc]
  . intro hI;have hB:=Zew.2 hI;refine Qga ?_;simp -implicitDefEqProofs;refine Qgr ?_;simp -implicitDefEqProofs[hB,Zdc]
 refine Zdd rfl λR hG hrd=>?_
 have key:=key R hG hrd _ rfl;rcases hO with ⟨h1,h2⟩ | ⟨h1,h2⟩
 . refine Qga ?_;simp -implicitDefEqProofs[Zdb,fileA,h2];refine Z8p (λi=>⟨[(16,.int .i64 i),(15,.int .i64 0),(5,.mp 10),(1,.vsl (s.map ia))],[(10,.mp (lfA S))]⟩) (λ_=>True) 0 ?_ trivial (λi hi=>by omega) ?_
   . have e0:lfA []=[]:=rfl
     ((try simp only[h1,e0]);refine Ym.sub (by simp[lk,Ya,AV.keys,h1,e0]) ?_;simp only[h1,e0,Wkl,Zez,and_true];(try simp[lk,Yc,Ya,AV.keys,h1,e0]))
   . intro _;refine Qga ?_;simp -implicitDefEqProofs;refine Z2R mixed 2 ?_;simp -implicitDefEqProofs;refine GOz (Z2Q ?_ key)
     (refine Wkc ?_;simp only[Zez,Wkl,and_true];(try simp[lk,Yc,Ya,AV.keys]))
 . refine Qga ?_;simp -implicitDefEqProofs[Zdb,fileA,h2];refine Z8p (λi=>⟨[(16,.int .i64 i),(15,.int .i64 S.length),(14,.vsl (S.map ia)),(5,.mp 10),(1,.vsl (s.map ia))],[(10,.mp (lfA (S.take i)))]⟩) (λ_=>True) S.length ?_ trivial ?_ ?_
   . have e0:lfA []=[]:=rfl
     ((try simp only[W1g,e0]);refine Ym.sub (by simp[lk,Ya,AV.keys,W1g,e0]) ?_;simp only[W1g,e0,Wkl,Zez,and_true];(try simp[lk,Yc,Ya,AV.keys,W1g,e0]))
   . intro i hi _;refine Qga ?_;have wi:i64.wrap ((i:Int)+1)=(i:Int)+1:=Yf
     have hni:S[i] ∉ S.take i:=λhm=>by
      obtain ⟨j,hj,e⟩:=W1R.1 hm;have:=(List.nodup_iff_pairwise_ne.1 hUs);have:=W0Y.1 this j i (by omega) hi (by omega);exact this e
     have pl:=Za8 hni;have e1:S.take i++[S[i]]=S.take (i+1):=(W08 hi).symm;rw[e1]at pl;simp -implicitDefEqProofs[hi,ia,pl,wi]
     (refine Wkc ?_;simp only[Zez,Wkl,and_true];(try simp[lk,Yc,Ya,AV.keys]))
   . intro _;refine Qga ?_;simp -implicitDefEqProofs;refine Z2R mixed 2 ?_;simp -implicitDefEqProofs;refine GOz (Z2Q ?_ key)
     ((try simp only[W0v]);refine Ym.sub (by simp[lk,Ya,AV.keys,W0v]) ?_;simp only[W0v,Wkl,Zez,and_true];(try simp[lk,Yc,Ya,AV.keys,W0v]))
section
open Qq Tryz
end
section
open Qq Tryz
end
def GO0 {P:Program} {R:Run} {c:RCode} {ks:List KF} {Φ:Exit->St->Prop} {st:St} (h:AR P R c st (RetP P R ks Φ)):GO P R 0 (.run c) ks Φ st:=h
def mpA {α:Type} (f:α->AV) (l:List (Int×α)):List (AV×AV):=l.map λp=>(.int .i64 p.1,f p.2)
def mlk {α:Type} (n:Int):List (Int×α)->Option α
 |[]=>none
 |p::l=>if n=p.1 then some p.2 else mlk n l
def ZeB {α:Type} (f:α->AV) (n:Int):∀ l:List (Int×α),∃ o:Option Nat,(KK.i .i64).find (.int .i64 n) (mpA f l)=some o/\match o with
  |some j=>∃ v,l[j]? = some (n,v)/\mlk n l=some v
  |none=>mlk n l=none/\∀ p∈l,p.1≠n
 |[]=>⟨none,rfl,rfl,by simp⟩
 | p :: r=>by
   obtain ⟨o,h1,h2⟩:=ZeB f n r;by_cases e:n=p.1
   . refine ⟨some 0,by simp[mpA,KK.find,KK.eq,e],p.2,by simp[e],by simp[mlk,e]⟩
   . refine ⟨o.map (· + 1),?_,?_⟩
     . simp only[mpA,W0F,KK.find,KK.eq,and_self,if_true,e,W1x];rw[show r.map (λp=>(AV.int .i64 p.1,f p.2))=mpA f r from rfl,h1];rfl
     . cases o with
       |none=>exact ⟨by simp only[mlk,e,if_false];exact h2.1,λq hq=>by
        rcases W0g.1 hq with rfl|hq
        . exact λh=>e h.symm
        . exact h2.2 q hq⟩
       | some j =>
         obtain ⟨v,h3,h4⟩:=h2;exact ⟨v,by simpa using h3,by simp only[mlk,e,if_false];exact h4⟩
def ZeC {α:Type} (f:α->AV) (n:Int) (l:List (Int×α)):(KK.i .i64).get (.int .i64 n) (mpA f l)=some ((mlk n l).map f):=by
 obtain ⟨o,h1,h2⟩:=ZeB f n l;have hi:(KK.i .i64).is (.int .i64 n)=true:=(by simp[KK.is]);unfold KK.get;rw[if_pos hi,h1]
 cases o with
 |none=>simp[h2.1]
 |some j=>obtain ⟨v,h3,h4⟩:=h2;simp[mpA,h3,h4]
section
open Qq Tryz
def ZeD:RCode :=
 S [r 0 [n 4 (.bool false)],S [r 1 [m 6 0,e 7 6,m 8 1,e 9 8,o 10 .neq 7 9],K 10 2 [n 4 (.bool false)]],S [r 3 [n 5 O],.block 0 (.loop (S [S [r 4 [m 11 5,m 12 0,e 13 12,o 14 .lss 11 13],.cond (.t 14) .skip (.exit 0)],.block 1 (S [R 6 [m 17 0,m 18 5,a [0,1] (i 19 2 17 18),a [2] (L 20 2 19),m 21 1,m 22 5,a [4,5] (i 23 2 21 22),a [6] (L 24 2 23),a [3,7] (w 25 (.eqs true [.i,.i] (.t 20) (.t 24)))],K 25 7 [n 4 (.bool false)]]),r 5 [m 15 5,k 16 .add 15 I,m 5 16]]))],r 8 [n 4 (.bool true)],.ret]
def ZeE:List RRes:=[.t 4]
def ZeF:PCt prog 33 f33 ZeD ZeE:=pcT func33 rfl
end
def needL (n:Int) (l:List (Int×Int)):Bool:=l.any λy=>decide (y.1=n)
inductive Up (T:Int->Iss) (l:List Int) (d:Int):Int->Prop
 |base (n:Int) (hn:n∈l) (h:needL d (T n).its=true):Up T l d n
 |step (n m:Int) (hn:n∈l) (h:needL m (T n).its=true) (hm:Up T l d m):Up T l d n
def Up.trans {T:Int->Iss} {l:List Int} {d m n:Int} (h1:Up T l d m) (h2:Up T l m n):Up T l d n:=by
 induction h2 with
 |base n hn h=>exact .step n m hn h h1
 |step n k hn h _ ih=>exact .step n k hn h ih
def Up.mem {T:Int->Iss} {l:List Int} {d n:Int} (h:Up T l d n):n∈l:=by cases h <;> assumption
def ZeG (a b:List (Int×Int)) (ha:Sml a):PC prog G 33 [.vsl (a.map ita),.vsl (b.map ita)] (.bool (decide (a=b))):=by
 (refine ZeF rfl λR hG hrd=>Qga ?_;subst hG)
 by_cases hl:a.length=b.length
 . have hl':(a.length:Int)=b.length:=(by omega);simp -implicitDefEqProofs[ZeD,ZeE,hl'];refine Z8p (λi=>⟨[(5,.int .i64 i),(0,.vsl (a.map ita)),(1,.vsl (b.map ita))],[]⟩) (λi=>∀ j (h:j<a.length),j<i->a[j]=b[j]) a.length (by (first|exact Wka|exact Wkb)) (by simp) ?_ ?_
   . intro i hi he;refine Qga ?_;unfold Sml at ha;have hi2:i<b.length:=(by omega);have w1:i64.wrap ((i:Int)+1)=((i+1:Nat):Int):=Yf;simp -implicitDefEqProofs[hi,hi2,ita];refine ⟨rfl,?_⟩;by_cases h2:a[i]=b[i]
     . simp -implicitDefEqProofs[h2,w1];refine ⟨(by (first|exact Wka|exact Wkb)),λj h1 h3=>?_⟩;by_cases e:j=i
       . subst e;exact h2
       . exact he j h1 (by omega)
     . have h3:¬a=b:=λe=>h2 (by subst e;rfl)
       rw[Z8z h2];simp -implicitDefEqProofs;refine Qgr ?_;simp -implicitDefEqProofs[h3]
   . intro he;refine Qga ?_;have h3:a=b:=W1J hl λj h1 h2=>he j h1 h1
     simp -implicitDefEqProofs;refine Qgr ?_;simp -implicitDefEqProofs[h3]
 . have hl':¬(a.length:Int)=b.length:=(by omega);have h3:¬a=b:=λe=>hl (by rw[e])
   simp -implicitDefEqProofs[ZeD,ZeE,hl',h3]
def Yg (l:List (List AV)):AV:=if l=[] then .nils else .vsl l
def ZeH {l:List (List AV)} (h:l.all (λr=>r.all AV.pure)=true):(Yg l).pure=true:=by
 unfold Yg;split
 . simp[AV.pure]
 . simp[AV.pure]
def ZeI (l:List (List AV)):(Yg l).keys=[]:=by unfold Yg;split <;> simp[AV.keys]
def ZeJ (o:List (Nat×AObj)) (l:List Int):Yc o (.mp (lfA l))=true:=by
 simp only[Yc,W03,lfA,W0i];rintro x ⟨y,-,rfl⟩;simp[Ya,AV.keys]
def mpP {α:Type} (n:Int) (v:α):List (Int×α)->List (Int×α)
 |[]=>[(n,v)]
 |p::l=>if n=p.1 then (n,v)::l else p::mpP n v l
def ZeK {α:Type} (n:Int) (v:α):∀ (l:List (Int×α)) (m:Int),mlk m (mpP n v l)=if m=n then some v else mlk m l
 |[],m=>by simp[mpP,mlk]
 | p :: l,m=>by
   have ih:=ZeK n v l m;simp only[mpP];by_cases e:n=p.1
   . rw[if_pos e];simp only[mlk];by_cases e2:m=n
     . rw[if_pos e2,if_pos e2]
     . rw[if_neg e2,if_neg e2,if_neg (by rw[<- e];exact e2)]
   . rw[if_neg e];simp only[mlk];by_cases e2:m=p.1
     . rw[if_pos e2,if_pos e2,if_neg (by rintro rfl;exact e e2)]
     . rw[if_neg e2,if_neg e2];exact ih
def ZeL {α:Type} (f:α->AV) (n:Int) (v:α):∀ l:List (Int×α),∃ o:Option Nat,(KK.i .i64).find (.int .i64 n) (mpA f l)=some o/\match o with
  |some j=>mpP n v l=l.set j (n,v)
  |none=>mpP n v l=l++[(n,v)]
 |[]=>⟨none,rfl,rfl⟩
 | p :: r=>by
   obtain ⟨o,h1,h2⟩:=ZeL f n v r;by_cases e:n=p.1
   . exact ⟨some 0,by simp[mpA,KK.find,KK.eq,e],by simp[mpP,e]⟩
   . refine ⟨o.map (· + 1),?_,?_⟩
     . simp only[mpA,W0F,KK.find,KK.eq,and_self,if_true,e,W1x];rw[show r.map (λp=>(AV.int .i64 p.1,f p.2))=mpA f r from rfl,h1];rfl
     . cases o with
       |none=>simp only[Option.map_none,mpP,if_neg e,h2];rfl
       |some j=>simp only[W0m,mpP,if_neg e,h2];rfl
def ZeM {α:Type} (f:α->AV) (n:Int) (v:α) (l:List (Int×α)):(KK.i .i64).put (.int .i64 n) (f v) (mpA f l)=some (mpA f (mpP n v l)):=by
 obtain ⟨o,h1,h2⟩:=ZeL f n v l;have hi:(KK.i .i64).is (.int .i64 n)=true:=(by simp[KK.is]);unfold KK.put;rw[if_pos hi,h1]
 cases o with
 |none=>simp only[h2];simp[mpA]
 |some j=>rw[h2];simp[mpA,W2r]
def ifK (s w:List Int) (m:Int) (l:Jl):Nat->Nat->List (Int×Bool)->List (Int×Bool)
 |0,_,K=>K
 |n+1,i,K=>if (mlk (i:Int) K).isSome=true then K else mpP (i:Int) (fB s w m l i) ((List.range (l.length-(i+1))).foldl (λK j=>if (gwB (bsF s w m) (λx y=>decide (y.ca=x.nu)) l (nAt l i) i (i+1+j)&&decide ((nAt l (i+1+j)).ca=(nAt l i).nu))=true then ifK s w m l n (i+1+j) K else K) K)
def stK (s w:List Int) (m:Int) (l:Jl) (n i:Nat) (K:List (Int×Bool)) (j:Nat):List (Int×Bool):=if (gwB (bsF s w m) (λx y=>decide (y.ca=x.nu)) l (nAt l i) i (i+1+j)&&decide ((nAt l (i+1+j)).ca=(nAt l i).nu))=true then ifK s w m l n (i+1+j) K else K
def lpK (s w:List Int) (m:Int) (l:Jl) (n i:Nat) (K:List (Int×Bool)) (j:Nat):List (Int×Bool):=(List.range j).foldl (stK s w m l n i) K
def ZeN {s w:List Int} {m:Int} {l:Jl} {n i:Nat} {K:List (Int×Bool)}:ifK s w m l (n+1) i K=if (mlk (i:Int) K).isSome=true then K else mpP (i:Int) (fB s w m l i) (lpK s w m l n i K (l.length-(i+1))):=rfl
def ZeO {s w:List Int} {m:Int} {l:Jl} {n i j:Nat} {K:List (Int×Bool)}:lpK s w m l n i K (j+1)=stK s w m l n i (lpK s w m l n i K j) j:=by rw[lpK,W1y,W1q];rfl
def OkK (s w:List Int) (m:Int) (l:Jl) (K:List (Int×Bool)):Prop:=∀ (i:Nat) (b:Bool),mlk (i:Int) K=some b->b=fB s w m l i
def ZeP {s w:List Int} {m:Int} {l:Jl}:∀ (n i:Nat) {K:List (Int×Bool)},OkK s w m l K->OkK s w m l (ifK s w m l n i K)
 |0,_,_,h=>h
 | n + 1,i,K,h=>by
   rw[ZeN]
   split
   . exact h
   . have key:∀ j,OkK s w m l (lpK s w m l n i K j):=by
      intro j
      induction j with
      |zero=>exact h
      | succ j ih =>
        rw[ZeO,stK]
        split
        . exact ZeP n _ ih
        . exact ih
     intro k b hb;rw[ZeK]at hb
     split at hb
     . rename_i e;have e:k=i:=(by omega);subst e;exact (W1M hb).symm
     . exact key _ k b hb
def ZeQ {s w:List Int} {m:Int} {l:Jl} {n i:Nat} {K:List (Int×Bool)} (h:OkK s w m l K):∀ j,OkK s w m l (lpK s w m l n i K j)
 |0=>h
 | j+1=>by
   rw[ZeO,stK]
   split
   . exact ZeP n _ (ZeQ h j)
   . exact ZeQ h j
def ZeR {α:Type} {p:α->Bool} {h:α->α->Bool} {l:List α} {x:α} {i:Nat}:∀ {k j:Nat},i<k->k<=j->j<=l.length->gwB p h l x i k=false->gwB p h l x i j=false
 |k,0,h1,h2,_,_=>by omega
 | k,j+1,h1,h2,h3,h4=>by
   rcases W0q k (j+1) with h5|h5
   . rw[Zbm (by omega) (by omega),ZeR h1 (by omega:k<=j) (by omega) h4];rfl
   . obtain rfl:k=j+1:=(by omega);exact h4
def ZeS {s w:List Int} {m:Int} {l:Jl} {n i:Nat} {K:List (Int×Bool)} {j:Nat} (hj:gwB (bsF s w m) (λx y=>decide (y.ca=x.nu)) l (nAt l i) i (i+1+j)=false):∀ j',j<=j'->i+1+j'<=l.length->lpK s w m l n i K j'=lpK s w m l n i K j
 | 0, h, _ => by obtain rfl:j=0:=by omega
                 rfl
 | j'+1,h,h2=>by
   rcases W0q j (j'+1) with h5|h5
   . rw[ZeO,stK,ZeR (by omega) (by omega:i+1+j<=i+1+j') (by omega) hj];exact ZeS hj j' (by omega) (by omega)
   . obtain rfl:j=j'+1:=(by omega);rfl
def ZeT (o:List (Nat×AObj)) (l:List (Int×Bool)):Yc o (.mp (mpA AV.bool l))=true:=by
 simp only[Yc,W03,mpA,W0i];rintro _ ⟨y,-,rfl⟩;simp[Ya,AV.keys]
def ZeU (ρ:Nat->Nat) (l:List (Int×Bool)):(mpA AV.bool l).map (λp=>(p.1.ren ρ,p.2.ren ρ))=mpA AV.bool l:=by
 simp[mpA,W0y,AV.ren]
def ZeV (ok:Nat->Bool) (st:St) (l:List (Int×Bool)):frzO ok st (.mp (mpA AV.bool l)) = .mp (mpA AV.bool l):=by
 simp only[frzO,mpA,W10]
 congr 1
 refine W0K λp _=>?_
 simp[frzA,frz,AV.keys]
def fcO (F sV wV:AV) (m:Int) (K:List (Int×Bool)):List (Nat×AObj) :=
 [(1009,.box [.mp 1011]),(1004,.box [F]),(1005,.box [sV]),(1006,.box [wV]),(1007,.box [.int .i64 m]),(1010,.box [.func (.func 162) [] [.ptr 1009 0,.ptr 1004 0,.ptr 1005 0,.ptr 1006 0,.ptr 1007 0,.ptr 1010 0]]),(1011,.mp (mpA AV.bool K))]
def fcC:List AV:=[.ptr 1009 0,.ptr 1004 0,.ptr 1005 0,.ptr 1006 0,.ptr 1007 0,.ptr 1010 0]
def liA (nl:Bool) (s:List Int):AV:=if nl=true/\s=[] then .nils else .vsl (s.map ia)
def ZeW (nl:Bool) (s:List Int):(liA nl s).pure=true:=by unfold liA;split <;> simp[AV.pure,ia]
def ZeX (nl:Bool) (s:List Int):(liA nl s).keys=[]:=by unfold liA;split <;> simp[AV.keys]
def ZeY (ok:Nat->Bool) (st:St) (nl:Bool) (s:List Int):frz ok st 6 (liA nl s)=some (liA nl s):=by unfold liA;split <;> simp[frz,AV.keys]
def ZeZ (ρ:Nat->Nat) (nl:Bool) (s:List Int):(liA nl s).ren ρ=liA nl s:=by unfold liA;split <;> simp[AV.ren]
def Zf0 (ok:Nat->Bool) (st:St) (xs:List AV):frzO ok st (.box xs) = .box (xs.map (frzA ok st)):=rfl
def Zf1 (n:Int):PC prog G 87 [.nils,.int .i64 n] (.bool false):=by
 have hi:PC prog G 129 [.nils,.int .i64 n] (.int .i64 (-1)):=by
  (refine Zdx rfl λR hG hrd=>Qga ?_;subst hG)
  simp -implicitDefEqProofs[Zdv,Zdw];refine Z8p (λi=>⟨[(8,.int .i64 i),(7,.int .i64 0)],[]⟩) (λi=>True) 0 (by (first|exact Wka|exact Wkb)) trivial (λi hi=>by omega) ?_;intro _;refine Qga ?_;simp -implicitDefEqProofs;refine Qgr ?_;simp -implicitDefEqProofs
 (refine Zdu rfl λR hG hrd=>Qga ?_;subst hG)
 simp -implicitDefEqProofs[Zds,Zdt];refine Qco (hi) ?_;simp -implicitDefEqProofs
def Zf2 (nl:Bool) (s:List Int) (n:Int) (h:Sml s):PC prog G 87 [liA nl s,.int .i64 n] (.bool (decide (n∈s))):=by
 unfold liA
 split
 . rename_i e;rw[e.2];exact Zf1 n
 . exact Zey s n h
def is_pb (r:Jr) (l:Jl) (ns nw:Bool) (s w:List Int) (m:Int) (hl:l.length<=12) (hs:Sml s) (hw:Sml w):∀ (n i:Nat) (K:List (Int×Bool)),i<l.length->l.length-i<=n->OkK s w m l K ->
  PB prog G 162 (fcO (fileA r l) (liA ns s) (liA nw w) m K) (.int .i64 i::fcC) (.bool (fB s w m l i)) (fcO (fileA r l) (liA ns s) (liA nw w) m (ifK s w m l n i K))
 |0,i,K,hi,hn,_=>by omega
 | n + 1, i, K,hi,hn,hK=>by
   have hrec:=λk K h1 h2 h3=>is_pb r l ns nw s w m hl hs hw n k K h1 h2 h3
   have gK:=ZeC AV.bool (i:Int) K;have hx:=Zbe hi;have c1:=Zf2 (G:=G) ns s (nAt l i).nu hs;have c2:=Zf2 (G:=G) nw w (nAt l i).nu hw;have c3:=ZdX (G:=G) (nAt l i).fr (nAt l i).tu m;have fe:=Zbk (p:=bsF s w m) (h:=λx y:Nte=>decide (y.ca=x.nu)) hi;have k1:=ZeX ns s;have k2:=ZeX nw w;have p1:=ZeW ns s;have p2:=ZeW nw w;have r1:=λρ=>ZeZ ρ ns s
   have r2:=λρ=>ZeZ ρ nw w
   have f1:=λok st=>ZeY ok st ns s
   have f2:=λok st=>ZeY ok st nw w
   rw[ZeN];generalize liA ns s=sV at *;generalize liA nw w=wV at *;have hF:fileA r l = .vptr [.vsl (r.map isa),.vsl (l.map na),.vsl ((nums r).map ia),opA l] 0:=rfl;have fF:∀ ok st,frz ok st 6 (fileA r l)=some (fileA r l):=λok st=>by rw[hF];simp[frz,AV.keys]
   have kF:(fileA r l).keys=[]:=(by rw[hF];simp[AV.keys]);refine Zdl (W0C rfl) λR hG hrd=>?_
   subst hG
   cases q:mlk (i:Int) K with
   | some b =>
     have eb:=hK i b q;rw[q]at gK;refine Qga ?_;simp -implicitDefEqProofs[Zdj,Zdk,fcO,fcC,gK,eb];simp -implicitDefEqProofs[FinB,Yi,newK,ZeV,Zf0,frzA,frz,fF,f1,f2,tupV,Z29,Zdk]
   | none =>
     rw[q]at gK;have hna:na (nAt l i)=[.int .i64 (nAt l i).nu,.int .i64 (nAt l i).dy,.int .u8 (nAt l i).sg,.int .i64 (nAt l i).dr,.int .i64 (nAt l i).lt,.int .i64 (nAt l i).fr,.int .i64 (nAt l i).tu,.int .i64 (nAt l i).ca,.bool (nAt l i).up,.int .u8 (nAt l i).wy]:=rfl;rw[<- hx]at fe;have lok:=λj=>ZeQ (n:=n) (i:=i) hK j
     have lsu:=λj=>ZeO (s:=s) (w:=w) (m:=m) (l:=l) (n:=n) (i:=i) (j:=j) (K:=K)
     have lst:=λj=>ZeS (s:=s) (w:=w) (m:=m) (l:=l) (n:=n) (i:=i) (K:=K) (j:=j)
     unfold stK at lsu;have gb:=Zbl (p:=bsF s w m) (h:=λx y:Nte=>decide (y.ca=x.nu)) (l:=l) (x:=nAt l i) (i:=i);have gs:=λk=>Zbm (p:=bsF s w m) (h:=λx y:Nte=>decide (y.ca=x.nu)) (l:=l) (x:=nAt l i) (i:=i) (k:=k)
     have gst:=λk j (h1:i<k) (h2:k<=j) (h3:j<=l.length)=>ZeR (p:=bsF s w m) (h:=λx y:Nte=>decide (y.ca=x.nu)) (l:=l) (x:=nAt l i) h1 h2 h3
     have fbs:fB s w m l i=gwB (bsF s w m) (λx y=>decide (y.ca=x.nu)) l (nAt l i) i l.length:=fe;rw[fbs];have pm:=λb K=>ZeM AV.bool (i:Int) b K
     generalize hxx:nAt l i=x at *;have hlx:l[i]=x:=hx.symm;unfold Zdj;refine Zci (S:=⟨[(0,.int .i64 i),(1,.ptr 1009 0),(2,.ptr 1004 0),(3,.ptr 1005 0),(4,.ptr 1006 0),(5,.ptr 1007 0),(6,.ptr 1010 0)],fcO (.vptr [.vsl (r.map isa),.vsl (l.map na),.vsl ((nums r).map ia),opA l] 0) sV wV m K⟩) (Qga ?_) ?_
     . simp -implicitDefEqProofs[fcO,fcC,hF]
       ((try simp only[ZeT,k1,k2]);refine Ym.sub (by simp[lk,Ya,AV.keys,ZeT,k1,k2]) ?_;simp only[ZeT,k1,k2,Wkl,and_true];(try simp[lk,Yc,Ya,AV.keys,ZeT,k1,k2]))
     refine Zci (S:=⟨[(0,.int .i64 i),(1,.ptr 1009 0),(2,.ptr 1004 0),(3,.ptr 1005 0),(4,.ptr 1006 0),(5,.ptr 1007 0),(6,.ptr 1010 0)],fcO (.vptr [.vsl (r.map isa),.vsl (l.map na),.vsl ((nums r).map ia),opA l] 0) sV wV m K⟩) (Qga ?_) ?_
     . simp -implicitDefEqProofs[fcO,gK]
       ((try simp only[ZeT,k1,k2]);refine Ym.sub (by simp[lk,Ya,AV.keys,ZeT,k1,k2]) ?_;simp only[ZeT,k1,k2,Wkl,and_true];(try simp[lk,Yc,Ya,AV.keys,ZeT,k1,k2]))
     refine Zci (S:=⟨[(0,.int .i64 i),(1,.ptr 1009 0),(2,.ptr 1004 0),(3,.ptr 1005 0),(4,.ptr 1006 0),(5,.ptr 1007 0),(6,.ptr 1010 0),(11,.ptr 11 0)],(11,.box (na x))::fcO (.vptr [.vsl (r.map isa),.vsl (l.map na),.vsl ((nums r).map ia),opA l] 0) sV wV m K⟩) (Qga ?_) ?_
     . simp -implicitDefEqProofs[fcO,hi,hlx,hna]
       ((try simp only[ZeT,k1,k2,hna]);refine Ym.sub (by simp[lk,Ya,AV.keys,ZeT,k1,k2,hna]) ?_;simp only[ZeT,k1,k2,hna,Wkl,and_true];(try simp[lk,Yc,Ya,AV.keys,ZeT,k1,k2,hna]))
     refine Zci (S:=⟨[(0,.int .i64 i),(1,.ptr 1009 0),(2,.ptr 1004 0),(3,.ptr 1005 0),(4,.ptr 1006 0),(5,.ptr 1007 0),(6,.ptr 1010 0),(11,.ptr 11 0),(12,.bool (bsF s w m x))],(11,.box (na x))::fcO (.vptr [.vsl (r.map isa),.vsl (l.map na),.vsl ((nums r).map ia),opA l] 0) sV wV m K⟩) (Qga ?_) ?_
     . unfold bsF;have go3:∀ b:Bool,(decide (x.sg=2)||decide (x.nu∈s))=b->True:=λ_ _=>trivial
       by_cases e1:x.sg=2
       . simp -implicitDefEqProofs[fcO,hna,e1,p1,p2];refine Yd.of c2 (by simp[p2,AV.pure]) ?_;by_cases e2:x.nu∈w
         . simp -implicitDefEqProofs[e2,p1,p2]
           ((try simp only[ZeT,k1,k2,fcO]);refine Ym.sub (by simp[lk,Ya,AV.keys,ZeT,k1,k2,fcO]) ?_;simp only[ZeT,k1,k2,fcO,Wkl,and_true];(try simp[lk,Yc,Ya,AV.keys,ZeT,k1,k2,fcO]))
         . simp -implicitDefEqProofs[e2,p1,p2];refine Qco (c3) ?_;simp -implicitDefEqProofs
           ((try simp only[ZeT,k1,k2,fcO]);refine Ym.sub (by simp[lk,Ya,AV.keys,ZeT,k1,k2,fcO]) ?_;simp only[ZeT,k1,k2,fcO,Wkl,and_true];(try simp[lk,Yc,Ya,AV.keys,ZeT,k1,k2,fcO]))
       . simp -implicitDefEqProofs[fcO,hna,e1,p1,p2];refine Yd.of c1 (by simp[p1,AV.pure]) ?_;by_cases e3:x.nu∈s
         . simp -implicitDefEqProofs[e3,p1,p2];refine Yd.of c2 (by simp[p2,AV.pure]) ?_;by_cases e2:x.nu∈w
           . simp -implicitDefEqProofs[e2,p1,p2]
             ((try simp only[ZeT,k1,k2,fcO]);refine Ym.sub (by simp[lk,Ya,AV.keys,ZeT,k1,k2,fcO]) ?_;simp only[ZeT,k1,k2,fcO,Wkl,and_true];(try simp[lk,Yc,Ya,AV.keys,ZeT,k1,k2,fcO]))
           . simp -implicitDefEqProofs[e2,p1,p2];refine Qco (c3) ?_;simp -implicitDefEqProofs
             ((try simp only[ZeT,k1,k2,fcO]);refine Ym.sub (by simp[lk,Ya,AV.keys,ZeT,k1,k2,fcO]) ?_;simp only[ZeT,k1,k2,fcO,Wkl,and_true];(try simp[lk,Yc,Ya,AV.keys,ZeT,k1,k2,fcO]))
         . simp -implicitDefEqProofs[e3,p1,p2]
           ((try simp only[ZeT,k1,k2,fcO]);refine Ym.sub (by simp[lk,Ya,AV.keys,ZeT,k1,k2,fcO]) ?_;simp only[ZeT,k1,k2,fcO,Wkl,and_true];(try simp[lk,Yc,Ya,AV.keys,ZeT,k1,k2,fcO]))
     rw[<- gb];have w1:i64.wrap ((i:Int)+1)=((i+1:Nat):Int):=Yf;refine Zci (S:=⟨[(0,.int .i64 i),(1,.ptr 1009 0),(12,.bool (gwB (bsF s w m) (λx y=>decide (y.ca=x.nu)) l x i l.length))],fcO (.vptr [.vsl (r.map isa),.vsl (l.map na),.vsl ((nums r).map ia),opA l] 0) sV wV m (lpK s w m l n i K (l.length-(i+1)))⟩) (Qga ?_) ?_
     . simp -implicitDefEqProofs[w1];refine Z1Q (λk=>⟨[(0,.int .i64 i),(1,.ptr 1009 0),(2,.ptr 1004 0),(3,.ptr 1005 0),(4,.ptr 1006 0),(5,.ptr 1007 0),(6,.ptr 1010 0),(11,.ptr 11 0),(12,.bool (gwB (bsF s w m) (λx y=>decide (y.ca=x.nu)) l x i k)),(13,.int .i64 (k:Int))],(11,.box (na x))::fcO (.vptr [.vsl (r.map isa),.vsl (l.map na),.vsl ((nums r).map ia),opA l] 0) sV wV m (lpK s w m l n i K (k-(i+1)))⟩) (λk=>i+1<=k/\k<=l.length) (λk=>l.length-k) (i+1) (by ((try simp only[ZeT,k1,k2,fcO,lpK,List.range_zero,List.foldl_nil,hna,W2q]);refine Ym.sub (by simp[lk,Ya,AV.keys,ZeT,k1,k2,fcO,lpK,List.range_zero,List.foldl_nil,hna,W2q]) ?_;simp only[ZeT,k1,k2,fcO,lpK,List.range_zero,List.foldl_nil,hna,W2q,Wkl,and_true];(try simp[lk,Yc,Ya,AV.keys,ZeT,k1,k2,fcO,lpK,List.range_zero,List.foldl_nil,hna,W2q]))) ⟨by omega,by omega⟩ ?_;rintro k ⟨hk1,hk2⟩;have gst':=gst k l.length hk1 hk2 (W0f _);have lst':=lst (k-(i+1)) ;rw[show i+1+(k-(i+1))=k by omega]at lst';by_cases hb:gwB (bsF s w m) (λx y=>decide (y.ca=x.nu)) l x i k=true
       . rcases W0q k l.length with h5|h5
         . have w2:i64.wrap ((k:Int)+1)=(((k+1:Nat)):Int):=(by rw[Yf (by omega) (by omega)];omega);have hnj:na (nAt l k)=[.int .i64 (nAt l k).nu,.int .i64 (nAt l k).dy,.int .u8 (nAt l k).sg,.int .i64 (nAt l k).dr,.int .i64 (nAt l k).lt,.int .i64 (nAt l k).fr,.int .i64 (nAt l k).tu,.int .i64 (nAt l k).ca,.bool (nAt l k).up,.int .u8 (nAt l k).wy]:=rfl;have hy:=Zbe h5;have hg:=gs k (by omega) h5;have hr:=hrec k (lpK s w m l n i K (k-(i+1))) h5 (by omega) (lok _);have hls:=lsu (k-(i+1));rw[show i+1+(k-(i+1))=k by omega,show k-(i+1)+1=k+1-(i+1) by omega]at hls;rw[hb,W1k]at hg hls;rw[<- hy]at hg;change _ = !(fB s w m l k&&_) at hg;generalize hyy:nAt l k=y at *;have hly:l[k]=y:=hy.symm;by_cases h6:y.ca=x.nu
           . simp only[h6,W1i,W2d,if_true]at hg hls;rw[fcO,hF]at hr;refine Yb mixed 9 ?_;simp -implicitDefEqProofs[hb,h5,hna,h6,fcO,hly,hnj];refine GO0 (Z5m mixed 15 (by decide) ?_);simp -implicitDefEqProofs[hb,h5,hna,h6,fcO,hly,hnj];refine ⟨rfl,Yd.sem (Z1B.byref hr id (by simp) (by simp) (by simp[St.get,lk,AV.ren,AObj.ren,ZeU,r1,r2]) (by simp only[W0g,W0Q,or_false,W1N,forall_eq,ZeT,and_true];simp[lk,Yc,Ya,AV.keys,k1,k2]) (by simp[Ya,AV.keys,lk,rega,fcC]) rfl (by simp[AV.ren,rega,fcC]) rfl rfl) ?_⟩;simp -implicitDefEqProofs[Yl,fcO,AV.ren,AObj.ren,ZeU,r1,r2];refine Qgr ?_;simp -implicitDefEqProofs[w2];refine ⟨k+1,?_,⟨by omega,by omega⟩,(by show l.length-(k+1)<l.length-k;omega)⟩;simp only[hg,hls]
             ((try simp only[ZeT,k1,k2,hna]);refine Ym.sub (by simp[lk,Ya,AV.keys,ZeT,k1,k2,hna]) ?_;simp only[ZeT,k1,k2,hna,Wkl,and_true];(try simp[lk,Yc,Ya,AV.keys,ZeT,k1,k2,hna]))
           . simp only[h6,W1x,W2b,W1F,W05,if_false]at hg hls;refine Qga ?_;simp -implicitDefEqProofs[hb,h5,hna,h6,fcO,hly,hnj,w2];refine ⟨rfl,k+1,?_,⟨by omega,by omega⟩,(by show l.length-(k+1)<l.length-k;omega)⟩;simp only[hg,hls]
             ((try simp only[ZeT,k1,k2,hna]);refine Ym.sub (by simp[lk,Ya,AV.keys,ZeT,k1,k2,hna]) ?_;simp only[ZeT,k1,k2,hna,Wkl,and_true];(try simp[lk,Yc,Ya,AV.keys,ZeT,k1,k2,hna]))
         . obtain rfl:k=l.length:=(by omega);refine Qga ?_;simp -implicitDefEqProofs[hb,fcO];refine Qgr ?_;simp -implicitDefEqProofs
           ((try simp only[ZeT,k1,k2,hna]);refine Ym.sub (by simp[lk,Ya,AV.keys,ZeT,k1,k2,hna]) ?_;simp only[ZeT,k1,k2,hna,Wkl,and_true];(try simp[lk,Yc,Ya,AV.keys,ZeT,k1,k2,hna]))
       . have hb:gwB (bsF s w m) (λx y=>decide (y.ca=x.nu)) l x i k=false:=(by simpa using hb);have e1:=lst' hb (l.length-(i+1)) (by omega) (by omega);rw[e1,gst' hb];refine Qga ?_;simp -implicitDefEqProofs[hb,fcO];refine Qgr ?_;simp -implicitDefEqProofs
         ((try simp only[ZeT,k1,k2,hna]);refine Ym.sub (by simp[lk,Ya,AV.keys,ZeT,k1,k2,hna]) ?_;simp only[ZeT,k1,k2,hna,Wkl,and_true];(try simp[lk,Yc,Ya,AV.keys,ZeT,k1,k2,hna]))
     refine Qga ?_;have pm':=pm (gwB (bsF s w m) (λx y=>decide (y.ca=x.nu)) l x i l.length) (lpK s w m l n i K (l.length-(i+1)));simp -implicitDefEqProofs[fcO,pm'];simp -implicitDefEqProofs[FinB,Yi,newK,ZeV,Zf0,frzA,frz,hF,f1,f2,tupV,Z29,Zdk]
def Zf3 {r:Jr} {l:Jl} (h:Zbh r l=true):(l.map (·.nu)).Nodup:=by
 simp only[Zbh,W01]at h;have h1:=Z8G.1 h.1.2;rw[List.nodup_iff_pairwise_ne,W2o,W0Y];intro i j hi hj hij e;have h2:=h1 j hj;simp only[noteB,W01]at h2;have h3:=h2.1.2;simp only[cN7,W1C,W27]at h3;refine h3 l[i] (W1R.2 ⟨i,by omega,rfl⟩) ?_;rw[Zbe hj];simpa using e
def Zf4 {r:Jr} {l:Jl} (h:Zbh r l=true):(opU l).Nodup/\(opU l).length<=12:=by
 refine ⟨?_,?_⟩
 . exact List.Sublist.nodup (by unfold opU opN;rw[W0v];exact (List.filter_sublist).map _) (Zf3 h)
 . simp only[Zbh,W01,W0b]at h;have:=h.2;unfold opU;rw[W0N];omega
def Zf5 (r:Jr) (l:Jl):(fileA r l).pure=true:=by unfold fileA opA;split <;> simp[AV.pure,isa,na]
def Zf6 (ok:Nat->Bool) (st:St) (r:Jr) (l:Jl):Yh ok st 6 (fileA r l)=some (fileA r l):=by
 have h:=Zf5 r l;unfold fileA at *;simp[Yh,h]
def Zf7 (r:Jr) (l:Jl):(fileA r l).one=true:=by unfold fileA;simp[AV.one,AV.known]
def Zf8 (hG:GC G) (hN:GN G) (r:Jr) (l:Jl) (hw:WfN l) (hr:Wf r):PC prog G 130 [.agg [.vsl (r.map isa),.vsl (l.map na)]] (.int .i64 (chN r l)):=by
 have ho:=Zes hG hN r l hw hr;unfold opdA at ho
 (refine Zda rfl λR hG hrd=>Qga ?_;subst hG)
 simp -implicitDefEqProofs[Zd8,Zd9];refine Qco (ho) ?_;simp -implicitDefEqProofs
def askA (r:Jr) (l:Jl) (s:List Int) (m:Int):AV:=.tup [if asN r l s m=0 then fileA r l else .nilp,.int .i64 (asN r l s m)]
def Zf9 (hG:GC G) (hN:GN G) (r:Jr) (l:Jl) (s:List Int) (m:Int) (hw:WfN l) (hr:Wf r) (hs:Sml s):PC prog G 117 [.agg [.vsl (r.map isa),.vsl (l.map na)],.vsl (s.map ia),.int .i64 m] (askA r l s m):=by
 have ho:=Zes hG hN r l hw hr;have hi:=ZdX (G:=G) 1 999 m;unfold opdA at ho
 (refine Zdg rfl λR hG hrd=>Qga ?_;subst hG)
 unfold askA asN;by_cases h0:chN r l=0
 . have hB:Zbh r l=true:=by
    unfold chN at h0
    split at h0
    . cases q:Zbh r l
      . rw[q]at h0;cases h0
      . rfl
    . rename_i e;exact absurd h0 e
   have hU:=Zf4 hB;have ht:=ZeA (G:=R.G) r l s hs hU.1 hU.2;have hp:=Zf5 r l;have sn:=λok st=>Zf6 ok st r l
   have h1:=Zf7 r l;rw[if_pos h0,h0]at ho;generalize fileA r l=F at *;simp -implicitDefEqProofs[Zde,Zdf];refine Qco (ho) ?_;simp -implicitDefEqProofs[h0];refine Yd.of ht (by simp[hp,AV.pure]) ?_
   cases q:truB l s
   . simp -implicitDefEqProofs[q]
   . simp -implicitDefEqProofs[q];refine Qco (hi) ?_
     cases q2:inR m 1 999
     . simp -implicitDefEqProofs[q2]
     . simp -implicitDefEqProofs[q2,hp,sn]
 . rw[if_neg h0]at ho;simp -implicitDefEqProofs[Zde,Zdf];refine Qco (ho) ?_;simp -implicitDefEqProofs[h0]
def ffC:AV:=.func (.func 162) [] [.ptr 9 0,.ptr 4 0,.ptr 5 0,.ptr 6 0,.ptr 7 0,.ptr 10 0]
def ffO (F sV wV:AV) (m:Int):List (Nat×AObj):=[(4,.box [F]),(5,.box [sV]),(6,.box [wV]),(7,.box [.int .i64 m]),(11,.mp []),(9,.box [.mp 11]),(10,.box [ffC])]
def ffK (k:Nat):Bool:=decide (k<1000) && !(k == 4||k == 5||k == 6||k == 7||k == 9||k == 10||k == 11)
def Zfa (r:Jr) (l:Jl) (ns nw:Bool) (s w:List Int) (m:Int):PB prog G 114 [] [fileA r l,liA ns s,liA nw w,.int .i64 m] ffC (ffO (fileA r l) (liA ns s) (liA nw w) m):=by
 have hF:fileA r l = .vptr [.vsl (r.map isa),.vsl (l.map na),.vsl ((nums r).map ia),opA l] 0:=rfl;have hc:∀ (b:Bool) (s:List Int),liA b s = .nils∨liA b s = .vsl (s.map ia):=λb s=>by unfold liA;split;exact .inl rfl;exact .inr rfl
 refine Z5i ffK (by intro k hk;simp[ffK]at hk;omega) Tryz.func114 rfl (by kernel_rfl) (rc:=Zdh) (by kernel_rfl) (rs:=Zdi) (by kernel_rfl) (W0C rfl) λR _ hG hrd=>Qga ?_
 rw[hF];rcases hc ns s with h1|h1 <;> rcases hc nw w with h2|h2 <;> rw[h1,h2]
 . simp -implicitDefEqProofs[Zdh,Zdi];simp -implicitDefEqProofs[FinO,Yi,ffK,Zf0,frzO,frzA,frz,Yj,AV.keys,tupV,Z29,ffC,ffO]
 . simp -implicitDefEqProofs[Zdh,Zdi];simp -implicitDefEqProofs[FinO,Yi,ffK,Zf0,frzO,frzA,frz,Yj,AV.keys,tupV,Z29,ffC,ffO]
 . simp -implicitDefEqProofs[Zdh,Zdi];simp -implicitDefEqProofs[FinO,Yi,ffK,Zf0,frzO,frzA,frz,Yj,AV.keys,tupV,Z29,ffC,ffO]
 . simp -implicitDefEqProofs[Zdh,Zdi];simp -implicitDefEqProofs[FinO,Yi,ffK,Zf0,frzO,frzA,frz,Yj,AV.keys,tupV,Z29,ffC,ffO]
def frK (s w:List Int) (m:Int) (l:Jl) (i:Nat):List (Int×Bool):=(List.range i).foldl (λK j=>ifK s w m l l.length j K) []
def fcQ (F sV wV:AV) (m:Int) (K:List (Int×Bool)):List (Nat×AObj) :=
 [(204,.box [F]),(205,.box [sV]),(206,.box [wV]),(207,.box [.int .i64 m]),(211,.mp (mpA AV.bool K)),(209,.box [.mp 211]),(210,.box [.func (.func 162) [] [.ptr 209 0,.ptr 204 0,.ptr 205 0,.ptr 206 0,.ptr 207 0,.ptr 210 0]])]
section
open Qq Tryz
def Zfb:RCode :=
 S [r 0 [b 1 0,n 2 .nils],r 1 [L 8 2 1,c 9 65 [8],m 3 9],r 2 [n 4 .nils],S [r 3 [n 5 O],.block 0 (.loop (S [S [r 4 [m 10 5,m 11 3,e 12 11,w 13 (.vop (.sh true) [(.c I),(.t 12)]),o 14 .lss 10 13],.cond (.t 14) .skip (.exit 0)],.block 1 (S [r 6 [w 17 (.bsl true 1 0 [] []),m 6 17],S [r 7 [n 7 O],.block 2 (.loop (S [S [r 8 [m 18 7,m 19 3,e 20 19,o 21 .lss 18 20],.cond (.t 21) .skip (.exit 2)],.block 3 (S [r 10 [m 24 5,m 25 7,w 26 (.vop (.sh false) [(.t 24),(.t 25)]),w 27 (.vop (.bits .and) [(.t 26),(.c I)]),k 28 .eql 27 I],.cond (.t 28) (R 11 [m 29 6,f 30 1 1,a [1] (l 31 30),m 32 3,m 33 7,a [3,4] (i 34 1 32 33),a [5] (l 35 34),a [2,6] (i 36 10 31 35),a [7] (f 37 0 36),a [8] (l 38 37),a [9] (w 39 (.bsl false 1 1 [O] [(0,.t 38)])),a [0,10] (w 40 (.app 1 8 (.t 29) (.t 39))),a [11,11,0,1,2,3,4,5,6,7,8,9,10,11] (m 6 40)]) .skip]),r 9 [m 22 7,k 23 .add 22 I,m 7 23]]))],r 12 [m 41 4,m 42 6,w 43 (.bsl false 1 1 [.nils] [(0,.t 42)]),w 44 (.app 1 24 (.t 41) (.t 43)),m 4 44]]),r 5 [m 15 5,k 16 .add 15 I,m 5 16]]))],r 13 [m 45 4,m 2 45],.ret]
def Zfc:List RRes:=[.t 2]
def Zfd:PCt prog 62 f62 Zfb Zfc:=pcT func62 rfl
end
section
open Qq Tryz
end
section
open Qq Tryz
end
section
open Qq Tryz
end
structure Stq where
 fd:Int
 fl:Int
 td:Int
 tl:Int
 nu:Int
 nt:Bool
 deriving DecidableEq,Inhabited
def sa (x:Stq):List AV:=[.int .i64 x.fd,.int .i64 x.fl,.int .i64 x.td,.int .i64 x.tl,.int .i64 x.nu,.bool x.nt]
def ja (j:Nat):List AV:=[.int .i64 (j:Int)]
def Zfe (o:List (Nat×AObj)) (l:List Nat):Yc o (.row 1 (l.map ja))=true:=by
 simp only[Yc,W03,W0i];rintro x ⟨y,-,rfl⟩ v hv;simp only[ja,W0B]at hv;subst hv;simp[Ya,AV.keys]
def opW (r:Jr) (l:Jl) (i:Nat):St :=
 if opI l i=[] then ⟨[(4,.int .i64 i),(3,.nils),(1,.ptr 1 0)],[(1,.box [.vsl (r.map isa),.vsl (l.map na)])]⟩
 else ⟨[(4,.int .i64 i),(3,.osl 24 (opI l i).length),(1,.ptr 1 0)],[(24,.row 1 ((opI l i).map ja)),(1,.box [.vsl (r.map isa),.vsl (l.map na)])]⟩
def jnK (L:List Nat) (i p:Nat):List Nat:=L.take p++i::L.drop p
def opX (r:Jr) (l:Jl) (i:Nat) (L:List Nat) (p:Nat):St:=⟨[(5,.int .i64 p),(4,.int .i64 i),(3,.osl 24 (L.length+1)),(1,.ptr 1 0)],[(24,.row 1 ((jnK L i p).map ja)),(1,.box [.vsl (r.map isa),.vsl (l.map na)])]⟩
def Zff {L:List Nat} {i p:Nat} (h:p<L.length):(jnK L i (p+1))[p]? = some L[p]/\(jnK L i (p+1))[p+1]? = some i/\(jnK L i (p+1)).length=L.length+1/\((jnK L i (p+1)).set (p+1) L[p]).set p i=jnK L i p:=by
 unfold jnK;have hl:(L.take p).length=p:=(by simp;omega);rw[W08 h,W0U,W1e,W18];refine ⟨?_,?_,?_,?_⟩
 . rw[W0o (by omega),hl,W2q];rfl
 . rw[W0o (by omega),hl,Nat.add_sub_cancel_left];rfl
 . simp;omega
 . rw[W25 _ _ (by omega),W25 _ _ (by omega),hl,W0x h];simp
def Zfg (r:Jr) (l:Jl) (hl:l.length<=12):PC prog G 65 [.agg [.vsl (r.map isa),.vsl (l.map na)]] (Yg ((opI l l.length).map ja)):=by
 (refine Zcb rfl λR hG hrd=>Qga ?_;subst hG)
 simp -implicitDefEqProofs[Zc9,Zca];refine Z8p (opW r l) (λ_=>True) l.length ?_ trivial ?_ ?_
 . have e:opI l 0=[]:=rfl;simp only[opW,e,if_true]
   (refine Wkc ?_;simp only[Wkl,and_true];(try simp[lk,Yc,Ya,AV.keys]))
 . intro i hi _;have hx:=Zbe hi;have hnx:na (nAt l i)=[.int .i64 (nAt l i).nu,.int .i64 (nAt l i).dy,.int .u8 (nAt l i).sg,.int .i64 (nAt l i).dr,.int .i64 (nAt l i).lt,.int .i64 (nAt l i).fr,.int .i64 (nAt l i).tu,.int .i64 (nAt l i).ca,.bool (nAt l i).up,.int .u8 (nAt l i).wy]:=rfl;have hO:opI l (i+1)=if (nAt l i).sg=1 then insK (λj=>(nAt l j).nu) (opI l i) i else opI l i:=rfl
   have hlt:=Zcp l i;have hsr:=Zcr l i;have hln:=Zcn l i;have wi:i64.wrap ((i:Int)+1)=(i:Int)+1:=Yf;unfold opW;generalize opI l i=L at *;have hF:∀ j,(nAt l j).nu=(λj=>(nAt l j).nu) j:=λ_=>rfl
   refine Qga ?_;by_cases c:(nAt l i).sg=1
   . rw [if_pos c]at hO;have hne:opI l (i+1)≠[]:=(by rw[hO];intro h;have:=Zcm (λj=>(nAt l j).nu) L i;rw[h]at this;cases this);have hlen:(opI l (i+1)).length=L.length+1:=(by rw[hO,Zcm]);have bb:(L.length+1)*8<=70368744177664:=(by omega);have wl:i64.wrap (L.length:Int)=(L.length:Int):=(by rw[Yf (by omega) (by omega)]);have wz:i64.wrap 0=0:=rfl;have hmid:=λp (hp:p<L.length)=>Zff (i:=i) hp
     have hend:=λp (h1:p<=L.length)=>Zcs (f:=λj=>(nAt l j).nu) (x:=i) (k:=p) hsr h1
     by_cases c0:L=[]
     case' pos=>simp -implicitDefEqProofs[c0,hi,<- hx,hnx,c,wz]
     case' neg=>simp -implicitDefEqProofs[c0,hi,<- hx,hnx,c,bb,wl]
     all_goals
      refine Z1Q (opX r l i L) (λp=>p<=L.length/\∀ y∈L.drop p,(nAt l i).nu<(nAt l y).nu) (λp=>p) L.length ?_ ⟨W0f _,λy hy=>by rw[W1j (W0f _)]at hy;cases hy⟩ ?_
      . unfold opX jnK;rw[W0J (W0f _),W1j (W0f _),W0r]
        first
         |(subst c0;((try simp only[ja]);refine Ym.sub (by simp[lk,Ya,AV.keys,ja]) ?_;simp only[ja,Wkl,and_true];(try simp[lk,Yc,Ya,AV.keys,ja]));done)
         |(((try simp only[ja]);refine Ym.sub (by simp[lk,Ya,AV.keys,ja]) ?_;simp only[ja,Wkl,and_true];(try simp[lk,Yc,Ya,AV.keys,ja]));done)
      rintro p ⟨hp,hd⟩;refine Qga ?_
      cases p with
      | zero =>
        have he:=hend 0 (W1f _) hd (λq hq=>by omega);simp -implicitDefEqProofs[opX];refine ⟨rfl,?_⟩;refine Qgr ?_;simp -implicitDefEqProofs[wi];simp only[hne,if_false,hlen];change jnK L i 0=_ at he;rw[hO,<- he]
        ((try simp only[ja]);refine Ym.sub (by simp[lk,Ya,AV.keys,ja]) ?_;simp only[ja,Wkl,Zfe,and_true];(try simp[lk,Yc,Ya,AV.keys,ja]))
      | succ p =>
        obtain ⟨m1,m2,m3,m4⟩:=hmid p hp;have he:=hend (p+1) hp hd;obtain ⟨j,hj⟩:=Qex (L[p]);have hji:=(hlt j (by rw[hj];exact W0e _)).1;have hjl:j<l.length:=(by omega);have hpj:L[p]? = some j:=(by rw[hj];exact W07 _);rw[<- hj]at m1 m4;unfold opX;replace he:_->jnK L i (p+1)=_:=he;generalize jnK L i (p+1)=Q at *;obtain ⟨q1,g1⟩:=W02.1 m1;obtain ⟨q2,g2⟩:=W02.1 m2;have hxj:=Zbe hjl;have hnj:na (nAt l j)=[.int .i64 (nAt l j).nu,.int .i64 (nAt l j).dy,.int .u8 (nAt l j).sg,.int .i64 (nAt l j).dr,.int .i64 (nAt l j).lt,.int .i64 (nAt l j).fr,.int .i64 (nAt l j).tu,.int .i64 (nAt l j).ca,.bool (nAt l j).up,.int .u8 (nAt l j).wy]:=rfl;have w2:i64.wrap ((p:Int))=(p:Int):=Yf;have k1:(0:Int)<(p:Int)+1:=(by omega);have k2:((p:Int)+1).toNat=p+1:=(by omega);have k3:(0:Int)<=(p:Int)+1:=(by omega);have k4:p<L.length:=(by omega);have k5:p<=L.length:=(by omega);have k6:p<L.length+1:=(by omega);have k7:(p:Int)<(L.length:Int)+1:=(by omega);have k8:(p:Int)+1<(L.length:Int)+1:=(by omega);by_cases hlt2:(nAt l i).nu<(nAt l j).nu
        . simp -implicitDefEqProofs[w2,k1,k2,k3,k4,k5,k6,k7,k8,g1,g2,m3,ja,hi,hjl,<- hx,<- hxj,hnx,hnj,hlt2];refine ⟨rfl,p,?_,⟨by omega,λu hu=>?_⟩,W2u _⟩
          . have e1:∀ z:Nat,[AV.int .i64 (z:Int)]=ja z:=λ_=>rfl
            simp only[e1];rw[<- W2r,<- W2r,m4]
            (refine Wkc ?_;simp only[Zfe,Wkl,and_true];(try simp[lk,Yc,Ya,AV.keys]))
          . have hps:=(W02.1 hpj).1;have gs:=(W02.1 hpj).2;rw[W0x hps,gs]at hu;rcases W0g.1 hu with rfl|hu
            . exact hlt2
            . exact hd u hu
        . have he:=he (λq hq u hu=>by
           have:q=p:=(by omega);subst this;rw[hpj]at hu
           cases hu
           exact Int.not_lt.1 hlt2)
          simp -implicitDefEqProofs[w2,k1,k2,k3,k4,k5,k6,k7,k8,g1,g2,m3,ja,hi,hjl,<- hx,<- hxj,hnx,hnj,hlt2];refine ⟨rfl,?_⟩;refine Qgr ?_;simp -implicitDefEqProofs[wi];simp only[hne,if_false,hlen];rw[hO,<- he]
          (refine Wkc ?_;simp only[Zfe,Wkl,and_true];(try simp[lk,Yc,Ya,AV.keys]))
   . rw[if_neg c]at hO;by_cases c0:L=[]
     . simp -implicitDefEqProofs[c0,hi,<- hx,hnx,c,wi];simp only[hO,c0,if_true]
       (refine Wkc ?_;simp only[Wkl,and_true];(try simp[lk,Yc,Ya,AV.keys]))
     . simp -implicitDefEqProofs[c0,hi,<- hx,hnx,c,wi];simp only[hO,c0,if_false]
       (refine Wkc ?_;simp only[Zfe,Wkl,and_true];(try simp[lk,Yc,Ya,AV.keys]))
 . intro _;refine Qga ?_;by_cases c:opI l l.length=[]
   . simp -implicitDefEqProofs[opW,c];refine Qgr ?_;simp -implicitDefEqProofs[Yg]
   . simp -implicitDefEqProofs[opW,c];refine Qgr ?_;simp -implicitDefEqProofs[Yg,c,ja]
def nuI (l:Jl):List Int:=(opI l l.length).map λj=>(nAt l j).nu
def Zfh (l:Jl):(nuI l).length=(opI l l.length).length:=W0N _
def Zfi {r:Jr} {l:Jl} (h:chN r l=0):Zbh r l=true:=by
 unfold chN at h
 split at h
 . cases q:Zbh r l
   . rw[q]at h;cases h
   . rfl
 . rename_i e;exact absurd h e
def Zfj {r:Jr} {l:Jl} {s:List Int} {m:Int} (h:asN r l s m=0):chN r l=0/\truB l s=true/\inR m 1 999=true:=by
 unfold asN at h
 split at h
 . rename_i h1
   split at h
   . rename_i h2
     split at h
     . rename_i h3;exact ⟨h1,h2,h3⟩
     . cases h
   . cases h
 . rename_i e;exact absurd h e
def Zfk {r:Jr} {l:Jl} (h:Zbh r l=true):l.length<=12:=by simp only[Zbh,W01,W0b]at h;exact h.1.1
def Nsub (x y:AV):Prop:=∀ (M:Nat->Prop) (W:World) (u:Value),PV M W x u->PV M W y u
def Nsub.rfl' {x:AV}:Nsub x x:=λ_ _ _ h=>h
def Nsub.nils:Nsub .nils (.vsl []):=λ_ _ _ h=>by
 cases h
 exact .vsl [] none 0 1 0 0 (λ_ _=>undef) (W0f _) (W1f _) (λh=>absurd rfl h) (λ_=>⟨rfl,rfl⟩) (by simp) (by simp) (by simp)
def Nsub.orNil (l:List (List AV)):Nsub (Yg l) (.vsl l):=by
 unfold Go.Proofs.YtcdlimgkliklhaaGreatDoor.Yg
 split
 . rename_i e;rw[e];exact .nils
 . exact .rfl'
def NsubL:List AV->List AV->Prop
 |[],[]=>True
 |x::xs,y::ys=>Nsub x y/\NsubL xs ys
 |_,_=>False
def NsubL.len:∀ {xs ys:List AV},NsubL xs ys->xs.length=ys.length
 |[],[],_=>rfl
 |_::_,_::_,h=>by simp only[W1p,NsubL.len h.2]
 |[],_::_,h=>h.elim
 |_::_,[],h=>h.elim
def NsubL.at:∀ {xs ys:List AV},NsubL xs ys->∀ (i:Nat) (y:AV),ys[i]? = some y->∃ x,xs[i]? = some x/\Nsub x y
 |[],[],_,i,y,h=>by simp at h
 | x::xs,y::ys,h,0,z,e=>by
   simp only[W2i,W00]at e;subst e;exact ⟨x,rfl,h.1⟩
 | x::xs,y::ys,h,i+1,z,e=>by
   simp only[List.getElem?_cons_succ]at e;obtain ⟨w,h1,h2⟩:=NsubL.at h.2 i z e;exact ⟨w,by simpa using h1,h2⟩
 |[],_::_,h,_,_,_=>h.elim
 |_::_,[],h,_,_,_=>h.elim
def Nsub.agg {xs ys:List AV} (h:NsubL xs ys):Nsub (.agg xs) (.agg ys):=λM W u hu=>by
 cases hu with
 | agg _ us h1 hx =>
   refine .agg ys us (by rw[h1,h.len]) λi y u hy hu=>?_
   obtain ⟨x,h2,h3⟩:=h.at i y hy;exact h3 _ _ _ (hx i x u h2 hu)
def PC.sub {P:Program} {G:Jg} {f:FuncId} {xs ys:List AV} {v:AV} (h:PC P G f ys v) (hs:NsubL xs ys):PC P G f xs v :=
 ⟨h.1,λM W vs hM hG hz hv=>h.2 M W vs hM hG (hz.trans hs.len) λi y u hi hu=>by
  obtain ⟨x,h2,h3⟩:=hs.at i y hi;exact h3 _ _ _ (hv i x u h2 hu)⟩
def rfp (d l:Int) (x:Iss):Bool:=decide (x.d=d/\x.l=l)
def Zfl {r:Jr} {d l:Int}:(findN d l r).isSome=r.any (rfp d l):=by
 induction r with
 |nil=>rfl
 | cons x r ih =>
   simp only[findN,List.any_cons]
   split
   . rename_i h;simp[rfp,h]
   . rename_i h;have:rfp d l x=false:=W0S h;rw[ih,this,W1P]
abbrev Rf:=Int×Int
def frS (x:Stq):Rf:=(x.fd,x.fl)
def toS (x:Stq):Rf:=(x.td,x.tl)
def edg (L:List Stq):List (Rf×Rf):=L.map λx=>(frS x,toS x)
def pth (E:List (Rf×Rf)) (y:Rf):Nat->Rf->Bool
 |0,x=>decide (x=y)
 |n+1,x=>E.any λe=>decide (e.1=x)&&pth E y n e.2
def diN (E:List (Rf×Rf)) (y x:Rf):Option Nat:=(List.range (E.length+1)).find? λn=>pth E y n x
def diV (E:List (Rf×Rf)) (y x:Rf):Int:=match diN E y x with
 |some n=>n
 |none=>1048576
def md (E:List (Rf×Rf)) (y:Rf) (n:Nat) (x:Rf):Prop:=pth E y n x=true/\∀ m,m<n->pth E y m x=false
section
variable {E:List (Rf×Rf)} {x y z:Rf} {n m:Nat}
def Zfm:pth E y (n+1) x=true↔∃ e∈E,e.1=x/\pth E y n e.2=true:=by
 simp[pth,W14]
def Zfn (h1:md E y n x) (h2:md E y m x):n=m:=by
 rcases W0R n m with h|h|h
 . have:=h2.2 n h;rw[h1.1]at this;cases this
 . exact h
 . have:=h1.2 m h;rw[h2.1]at this;cases this
def md_of:∀ n,pth E y n x=true->∃ m,m<=n/\md E y m x:=by
 intro n
 induction n using Nat.strongRecOn with
 | _ n ih =>
   intro h;by_cases c:∃ m,m<n/\pth E y m x=true
   . obtain ⟨m,h1,h2⟩:=c;obtain ⟨k,h3,h4⟩:=ih m h1 h2;exact ⟨k,by omega,h4⟩
   . refine ⟨n,W0f _,h,λm hm=>?_⟩
     cases q:pth E y m x
     . rfl
     . exact absurd ⟨m,hm,q⟩ c
def Zfo (h:md E y (n+1) x):∃ e∈E,e.1=x/\md E y n e.2:=by
 obtain ⟨e,h1,h2,h3⟩:=Zfm.1 h.1;refine ⟨e,h1,h2,h3,λm hm=>?_⟩
 cases q:pth E y m e.2
 . rfl
 . have:=h.2 (m+1) (by omega);rw[Zfm.2 ⟨e,h1,h2,q⟩]at this;cases this
def Zfp:∀ (n:Nat) (x:Rf),md E y n x->∃ ss:List Rf,ss.length=n/\(∀ s∈ss,s∈E.map (·.1)/\∃ k,k<=n/\0<k/\md E y k s)/\ss.Nodup
 |0,x,_=>⟨[],rfl,by simp,.nil⟩
 | n + 1,x,h=>by
   obtain ⟨e,h1,h2,h3⟩:=Zfo h;obtain ⟨ss,l1,l2,l3⟩:=Zfp n e.2 h3;refine ⟨x::ss,by simp[l1],?_,W1z.2 ⟨λhm=>?_,l3⟩⟩
   . intro s hs;rcases W0g.1 hs with rfl|hs
     . exact ⟨W0i.2 ⟨e,h1,h2⟩,n+1,W0f _,by omega,h⟩
     . obtain ⟨q1,k,q2,q3,q4⟩:=l2 s hs;exact ⟨q1,k,by omega,q3,q4⟩
   . obtain ⟨-,k,q2,-,q4⟩:=l2 x hm;have:=Zfn h q4;omega
def md_le (h:md E y n x):n<=E.length:=by
 obtain ⟨ss,l1,l2,l3⟩:=Zfp n x h;have:=List.Nodup.length_le_of_subset l3 (l₂:=E.map (·.1)) λs hs=>(l2 s hs).1
 simpa [l1] using this
def Zfq:diN E y x=some n↔md E y n x:=by
 unfold diN
 constructor
 . intro h;have h1:=List.find?_some h;refine ⟨h1,λm hm=>?_⟩;obtain ⟨-,us,vs,e,h2⟩:=List.find?_eq_some_iff_append.1 h;have e1:∀ k:Nat,(List.range (E.length+1))[k]? = (us++n::vs)[k]?:=λk=>by rw[e]
   have hn:us.length=n:=by
    have h3:=e1 us.length;rw[W0o (W0f _),W2q,W2i]at h3;obtain ⟨h4,h5⟩:=W02.1 h3;rw[List.getElem_range]at h5;exact h5
   have hm2:m∈us:=by
    have h3:=e1 m;have hl:m<(List.range (E.length+1)).length:=(by rw[e,W0s];omega);rw[W0E (by omega),W07 hl,List.getElem_range]at h3;exact W0d h3.symm
   simpa using h2 m hm2
 . intro h;have hl:=md_le h;rw[List.find?_eq_some_iff_append];refine ⟨h.1,List.range n,(List.range (E.length-n)).map (n+1 + ·),?_,λm hm=>?_⟩
   . have:E.length+1=n+1+(E.length-n):=(by omega);rw[this,List.range_add,W1y,W0U];rfl
   . simp[h.2 m (W1u.1 hm)]
def Zfr:diN E y x=none↔∀ n,pth E y n x=false:=by
 constructor
 . intro h n
   cases q:pth E y n x
   . rfl
   . obtain ⟨m,-,hm⟩:=md_of n q;rw[Zfq.2 hm]at h;cases h
 . intro h
   cases q:diN E y x with
   |none=>rfl
   | some n =>
     have:=(Zfq.1 q).1;rw[h n]at this;cases this
end
def Zfs (o:List (Nat×AObj)) (l:List Rf):Yc o (.row 2 (l.map ita))=true:=by
 simp only[Yc,W03,W0i];rintro x ⟨y,-,rfl⟩ v hv;simp only[ita,W0g,W0Q,or_false]at hv;rcases hv with rfl|rfl <;> simp[Ya,AV.keys]
structure BfI (E:List (Rf×Rf)) (l:List Rf) (y:Rf) (out:List Int):Prop where
 len:out.length=l.length
 ok:∀ (i:Nat) (v:Int) (x:Rf),out[i]? = some v->l[i]? = some x->0<=v/\v<=1048576/\(v=1048576∨pth E y v.toNat x=true)/\(x=y->v=0)
def rlx (l:List Rf) (out:List Int) (e:Rf×Rf):Prop:=∃ (ka kb:Nat) (va vb:Int),l[ka]? = some e.1/\l[kb]? = some e.2/\out[ka]? = some va/\out[kb]? = some vb/\vb+1<va
def NoR (E:List (Rf×Rf)) (l:List Rf) (out:List Int):Prop:=∀ e∈E,¬rlx l out e
def NoI (L:List Stq) (l:List Rf) (out:List Int) (i:Nat):Prop:=∀ j (h:j<L.length),j<i->¬rlx l out (frS L[j],toS L[j])
def NoI.all {L:List Stq} {l:List Rf} {out:List Int} (h:NoI L l out L.length):NoR (edg L) l out:=by
 intro e he;obtain ⟨x,hx,rfl⟩:=W0i.1 he;obtain ⟨j,hj,rfl⟩:=W0k hx;exact h j hj hj
def NoI.step {L:List Stq} {l:List Rf} {out:List Int} {i:Nat} (h:NoI L l out i) (hi:i<L.length) (h1:¬rlx l out (frS L[i],toS L[i])):NoI L l out (i+1):=by
 intro j hj hji;rcases W0q j i with q|q
 . exact h j hj q
 . obtain rfl:j=i:=(by omega);exact h1
def BfI.start {E:List (Rf×Rf)} {l:List Rf} {y:Rf} {k:Nat} (hn:l.Nodup) (hk:l[k]? = some y):BfI E l y ((List.replicate l.length 1048576).set k 0):=by
 refine ⟨by simp,λi v x hv hx=>?_⟩;have hi:i<l.length:=(W02.1 hx).1;rw[W2p]at hv
 split at hv
 . rename_i e;subst e;rw[W1I,if_pos hi,W00]at hv;rw[hk,W00]at hx;subst hv;subst hx;exact ⟨by omega,by omega,.inr (by simp[pth]),λ_=>rfl⟩
 . rename_i e;rw[List.getElem?_replicate,if_pos hi,W00]at hv;subst hv;refine ⟨by omega,by omega,.inl rfl,?_⟩;rintro rfl;exact absurd ((List.getElem?_inj hi hn).1 (hx.trans hk.symm)) (λq=>e q.symm)
def BfI.step {E:List (Rf×Rf)} {l:List Rf} {y:Rf} {out:List Int} (h:BfI E l y out) (hn:l.Nodup) {e:Rf×Rf} (he:e∈E) {ka kb:Nat} {va vb:Int} (h1:l[ka]? = some e.1) (h2:l[kb]? = some e.2) (h3:out[ka]? = some va) (h4:out[kb]? = some vb) (h5:vb+1<va) :
  BfI E l y (out.set ka (vb+1)):=by
 refine ⟨by simp[h.len],λi v x hv hx=>?_⟩;rw[W2p]at hv
 split at hv
 . rename_i q;subst q;have hi:ka<out.length:=(W02.1 h3).1;rw[if_pos hi,W00]at hv;subst hv;obtain ⟨a1,a2,a3,a4⟩:=h.ok kb vb _ h4 h2;obtain ⟨b1,b2,b3,b4⟩:=h.ok ka va x h3 hx;rw[h1,W00]at hx;subst hx;refine ⟨by omega,by omega,.inr ?_,λq=>?_⟩
   . rcases a3 with a3|a3
     . omega
     . rw[show (vb+1).toNat=vb.toNat+1 by omega];exact Zfm.2 ⟨e,he,rfl,a3⟩
   . have:=b4 q;omega
 . exact h.ok i v x hv hx
def BfI.fin {E:List (Rf×Rf)} {l:List Rf} {y:Rf} {out:List Int} (h:BfI E l y out) (hE:E.length<=1000) (hl:∀ e∈E,e.1∈l/\e.2∈l) (hr:∀ e∈E,¬rlx l out e):out=l.map (diV E y):=by
 have low:∀ (m:Nat) (i:Nat) (v:Int) (x:Rf),out[i]? = some v->l[i]? = some x->pth E y m x=true->v<=m:=by
  intro m
  induction m with
  | zero =>
    intro i v x hv hx hp;have:x=y:=(by simpa [pth] using hp);have:=(h.ok i v x hv hx).2.2.2 this;omega
  | succ m ih =>
    intro i v x hv hx hp;obtain ⟨e,he,rfl,hp2⟩:=Zfm.1 hp;obtain ⟨kb,hkb,hb⟩:=W0k (hl e he).2;have hb':l[kb]? = some e.2:=(by rw[W07 hkb,hb]);have hkb2:kb<out.length:=(by rw[h.len];exact hkb);have h2:=ih kb _ _ (W07 hkb2) hb' hp2;rcases Int.lt_or_le (out[kb]+1) v with h3|h3
    . exact absurd ⟨i,kb,v,out[kb],hx,hb',hv,W07 hkb2,h3⟩ (hr e he)
    . omega
 refine List.ext_getElem? λi=>?_
 rw[W09];by_cases hi:i<l.length
 . have hi2:i<out.length:=(by rw[h.len];exact hi);rw[W07 hi2,W07 hi,W0m,W00];obtain ⟨a1,a2,a3,-⟩:=h.ok i _ _ (W07 hi2) (W07 hi);have hlow:=λm=>low m i _ _ (W07 hi2) (W07 hi)
   unfold diV
   cases q:diN E y l[i] with
   | none =>
     rcases a3 with a3|a3
     . exact a3
     . rw[Zfr.1 q]at a3;cases a3
   | some n =>
     have hm:=Zfq.1 q;have hle:=md_le hm;have h1:=hlow n hm.1;rcases a3 with a3|a3
     . omega
     . have h2:n<=out[i].toNat:=by
        rcases W0q out[i].toNat n with h2|h2
        . have:=hm.2 _ h2;rw[a3]at this;cases this
        . exact h2
       simp only;omega
 . rw[W26 (by rw[h.len];omega),W26 (by omega)];rfl
def knLk (x:Rf):List (Rf×Int)->Option Int
 |[]=>none
 |p::r=>if x=p.1 then some p.2 else knLk x r
def Zft {x a:Rf} {v:Int}:∀ {kn:List (Rf×Int)},knLk x (kn++[(a,v)])=match knLk x kn with
  |some w=>some w
  |none=>if x=a then some v else none
 |[]=>by simp[knLk]
 | p::r=>by
   simp only[W1e,knLk]
   split
   . rfl
   . exact Zft
structure LnS where
 left:List Int
 kn:List (Rf×Int)
 nx:List Rf
 deriving Inhabited
def lnS (n:Int) (s:LnS) (i:Nat) (e:Rf×Rf):LnS :=
 if (i:Int)∈s.left then match knLk e.2 s.kn with
  | some k=>if n<=k then s else match knLk e.1 s.kn with
    |some _=>⟨s.left.erase i,s.kn,s.nx⟩
    |none=>⟨s.left.erase i,s.kn++[(e.1,n)],s.nx++[e.1]⟩
  |none=>s
 else s
structure LnV (E:List (Rf×Rf)) (y:Rf) (n:Nat) (s:LnS):Prop where
 a:∀ x d,knLk x s.kn=some d->∃ m:Nat,d=m/\md E y m x/\m<=n
 b:∀ x (m:Nat),md E y m x->m<=n->knLk x s.kn=some (m:Int)
 c:∀ i (h:i<E.length),(i:Int) ∉ s.left->knLk E[i].1 s.kn≠none
structure LnW (E:List (Rf×Rf)) (y:Rf) (n:Nat) (s0 s:LnS) (i:Nat):Prop where
 a:∀ x d,knLk x s.kn=some d->∃ m:Nat,d=m/\md E y m x/\m<=n+1
 b:∀ x (m:Nat),md E y m x->m<=n->knLk x s.kn=some (m:Int)
 c:∀ j (h:j<E.length),(j:Int) ∉ s.left->knLk E[j].1 s.kn≠none
 e:∀ j (h:j<E.length),j<i->∀ m:Nat,md E y m E[j].2->m<=n->knLk E[j].1 s.kn≠none
 f:s.kn=s0.kn++s.nx.map λx=>(x,(n:Int)+1)
 g:∀ x∈s.nx,md E y (n+1) x
section
variable {E:List (Rf×Rf)} {y:Rf} {n m:Nat} {s0 s:LnS} {i:Nat}
def Zfu {x a:Rf} {v:Int} {kn:List (Rf×Int)} (h:knLk x kn≠none):knLk x (kn++[(a,v)])≠none:=by
 rw[Zft]
 cases q:knLk x kn with
 |none=>exact absurd q h
 |some w=>simp
def Zfv {l:List Int} {a b:Int} (h:a ∉ l.erase b):a ∉ l∨a=b:=by
 by_cases q:a=b
 . exact .inr q
 . exact .inl λhm=>h ((List.mem_erase_of_ne q).2 hm)
def LnW.step (h:LnW E y n s0 s i) (hi:i<E.length):LnW E y n s0 (lnS ((n:Int)+1) s i E[i]) (i+1):=by
 have lst:∀ {P:Nat->Prop},(∀ j,j<i->P j)->P i->∀ j,j<i+1->P j:=λh1 h2 j hj=>by
  rcases W0q j i with q|q
  . exact h1 j q
  . obtain rfl:j=i:=(by omega);exact h2
 unfold lnS;by_cases c1:(i:Int)∈s.left
 . rw [if_pos c1]
   cases q:knLk E[i].2 s.kn with
   | none =>
     refine ⟨h.a,h.b,h.c,λj hj hji m hm hmn=>?_,h.f,h.g⟩;rcases W0q j i with p|p
     . exact h.e j hj p m hm hmn
     . obtain rfl:j=i:=(by omega);rw[h.b _ m hm hmn]at q;cases q
   | some k =>
     simp only;obtain ⟨m,hm1,hm2,hm3⟩:=h.a _ _ q;by_cases c2:(n:Int)+1<=k
     . rw[if_pos c2];refine ⟨h.a,h.b,h.c,λj hj hji m' hm' hmn=>?_,h.f,h.g⟩;rcases W0q j i with p|p
       . exact h.e j hj p m' hm' hmn
       . obtain rfl:j=i:=(by omega);have:=Zfn hm' hm2;omega
     . rw [if_neg c2]
       have c3:∀ j (h:j<E.length),(j:Int) ∉ s.left.erase (i:Int)->j≠i->knLk E[j].1 s.kn≠none:=λj hj hn hne=>by
        rcases Zfv hn with p|p
        . exact h.c j hj p
        . exact absurd (by omega) hne
       cases r:knLk E[i].1 s.kn with
       | some w =>
         refine ⟨h.a,h.b,λj hj hn=>?_,λj hj hji m' hm' hmn=>?_,h.f,h.g⟩
         . by_cases p:j=i
           . subst p;rw[r];simp
           . exact c3 j hj hn p
         . rcases W0q j i with p|p
           . exact h.e j hj p m' hm' hmn
           . obtain rfl:j=i:=(by omega);rw[r];simp
       | none =>
         have hp:pth E y (m+1) E[i].1=true:=Zfm.2 ⟨E[i],W0e hi,rfl,hm2.1⟩;obtain ⟨m1,g1,g2⟩:=md_of _ hp
         have g3:m1=n+1:=by
          rcases W0q n m1 with p|p
          . omega
          . rw[h.b _ m1 g2 p]at r;cases r
         subst g3;refine ⟨λx d hx=>?_,λx m' hm' hmn=>?_,λj hj hn=>?_,λj hj hji m' hm' hmn=>?_,?_,λx hx=>?_⟩
         . simp only at hx;rw[Zft]at hx
           cases p:knLk x s.kn with
           |some w=>rw[p]at hx;simp only[W00]at hx;subst hx;exact h.a x _ p
           | none =>
             rw[p]at hx;simp only at hx
             split at hx
             . rename_i e1;subst e1;simp only[W00]at hx;exact ⟨n+1,by omega,g2,W0f _⟩
             . cases hx
         . simp only;rw[Zft,h.b x m' hm' hmn]
         . simp only;by_cases p:j=i
           . subst p;rw[Zft,r];simp
           . exact Zfu (c3 j hj hn p)
         . simp only;rcases W0q j i with p|p
           . exact Zfu (h.e j hj p m' hm' hmn)
           . obtain rfl:j=i:=(by omega);rw[Zft,r];simp
         . simp only[W0r,W0F,W1d];rw[h.f,W0U]
         . simp only[W0h,W0B]at hx;rcases hx with hx|rfl
           . exact h.g x hx
           . exact g2
 . rw[if_neg c1];refine ⟨h.a,h.b,h.c,λj hj hji m hm hmn=>?_,h.f,h.g⟩;rcases W0q j i with p|p
   . exact h.e j hj p m hm hmn
   . obtain rfl:j=i:=(by omega);exact h.c j hj c1
def LnW.fin (h:LnW E y n s0 s E.length):LnV E y (n+1) s:=by
 refine ⟨h.a,λx m hm hmn=>?_,h.c⟩;rcases W0q m (n+1) with p|p
 . exact h.b x m hm (by omega)
 . obtain rfl:m=n+1:=(by omega);obtain ⟨e,he,rfl,h2⟩:=Zfo hm;obtain ⟨j,hj,rfl⟩:=W0k he;have h3:=h.e j hj hj n h2 (W0f _)
   cases q:knLk E[j].1 s.kn with
   |none=>exact absurd q h3
   | some d =>
     obtain ⟨m',h4,h5,h6⟩:=h.a _ _ q;have:=Zfn hm h5;subst this;subst h4;rfl
end
end Go.Proofs.YtcdlimgkliklhaaGreatDoor
