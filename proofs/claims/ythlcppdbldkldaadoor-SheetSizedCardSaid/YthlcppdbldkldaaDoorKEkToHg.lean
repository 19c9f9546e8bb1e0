/-
  The plain law: what the program tells of a register is what the reference tells.
-/
import Derived.Test.YthlcppdbldkldaaDoorKRcxToEj
import Derived.Test.YthlcppdbldkldaaDoorKOpenToOpen
import Derived.Test.YthlcppdbldkldaaDoorKRowToRow
import Derived.Test.YthlcppdbldkldaaDoorKHaToHa
set_option linter.all false
set_option maxHeartbeats 8000000
namespace Go.Proofs.YthlcppdbldkldaaDoor
open Go.Proofs.Tryd (prog)
open IntKind (i64)
open Go.RowKit
variable {G:Jg}
def chL (l:Jr):List Int:=l.flatMap λx=>x.its.map (·.1)
def Zb8 (x:Iss) (l:Jr):chL (x::l)=x.its.map (·.1)++chL l:=rfl
def C (r:Jr) (n:Int):List Int:=chL (issOf r n)
def dvL (f:Int->Int) (m:Int) (l:Jr):Int:=l.foldl (λm x=>dvIt f (max m 1) x.its) m
def Zb9 (r:Jr) (f:Int->Int) (n:Int):∀ i,i<=r.length->dvN r f n i=dvL f 0 (issOf (r.take i) n)
 |0,_=>by simp[dvN,issOf,dvL]
 | i+1,hi=>by
   have hlt:i<r.length:=(by omega);have ih:=Zb9 r f n i (by omega);rw[W08 hlt,issOf,W19,dvN,at_eq hlt];by_cases e:r[i].d=n
   . rw[if_pos e,ih,W27 (by simpa using e),dvL,dvL,W1p];rfl
   . rw[if_neg e,ih,W28 (by simpa using e),List.filter_nil,W1C];rfl
def Zba (f:Int->Int):∀ (its:List (Int×Int)) (m:Int),m<=dvIt f m its/\(∀ y∈its,1+f y.1<=dvIt f m its)/\(dvIt f m its=m∨∃ y∈its,dvIt f m its=1+f y.1)
 |[],m=>⟨W1S _,by simp,.inl rfl⟩
 | y :: its,m=>by
   obtain ⟨h1,h2,h3⟩:=Zba f its (max m (1+f y.1));have e:dvIt f m (y::its)=dvIt f (max m (1+f y.1)) its:=rfl;rw[e];refine ⟨by omega,λz hz=>?_,?_⟩
   . rcases W0g.1 hz with rfl|hz
     . omega
     . exact h2 z hz
   . rcases h3 with h3 | ⟨z,hz,h3⟩
     . rcases Int.le_total m (1+f y.1) with hm|hm
       . exact .inr ⟨y,W0H ..,by omega⟩
       . exact .inl (by omega)
     . exact .inr ⟨z,W0z _ hz,h3⟩
def Zbb (f:Int->Int):∀ (l:Jr) (m:Int),m<=dvL f m l/\(l≠[]->1<=dvL f m l)/\(∀ c∈chL l,1+f c<=dvL f m l)/\(dvL f m l=m∨dvL f m l=1∨∃ c∈chL l,dvL f m l=1+f c)
 |[],m=>⟨W1S _,by simp,by simp[chL],.inl rfl⟩
 | x :: l,m=>by
   obtain ⟨h1,h2,h3⟩:=Zba f x.its (max m 1);obtain ⟨g1,g2,g3,g4⟩:=Zbb f l (dvIt f (max m 1) x.its);have e:dvL f m (x::l)=dvL f (dvIt f (max m 1) x.its) l:=rfl;rw[e];have q1:m<=max m 1:=Int.le_max_left ..;have q2:1<=max m 1:=Int.le_max_right ..;refine ⟨Int.le_trans q1 (Int.le_trans h1 g1),λ_=>Int.le_trans q2 (Int.le_trans h1 g1),λc hc=>?_,?_⟩
   . rw[Zb8]at hc;rcases W0h.1 hc with hc|hc
     . obtain ⟨y,hy,rfl⟩:=W0i.1 hc;exact Int.le_trans (h2 y hy) g1
     . exact g3 c hc
   . rcases g4 with g4|g4 | ⟨c,hc,g4⟩
     . rcases h3 with h3 | ⟨y,hy,h3⟩
       . rcases Int.le_total m 1 with hm|hm
         . exact .inr (.inl (by omega))
         . exact .inl (by omega)
       . exact .inr (.inr ⟨y.1,by rw[Zb8];exact W0h.2 (.inl (W0i.2 ⟨y,hy,rfl⟩)),by omega⟩)
     . exact .inr (.inl g4)
     . exact .inr (.inr ⟨c,by rw[Zb8];exact W0h.2 (.inr hc),g4⟩)
section
variable {r:Jr}
def Zbc (hO:Ord r) {n:Int} (hn:n∈nums r):issOf r n≠[]:=by
 obtain ⟨i,hi,rfl⟩:=Z8U hO hn;exact List.ne_nil_of_mem (a:=r[i]) (W0G.2 ⟨W0e hi,by simp⟩)
def Dv_eq (r:Jr) (k:Nat) (n:Int):Dv r (k+1) n=dvL (Dv r k) 0 (issOf r n):=by
 rw[Dv,Zb9 r _ n _ (W0f _),W0v]
def Dv_ch (k:Nat) (n:Int) {c:Int} (hc:c∈C r n):1+Dv r k c<=Dv r (k+1) n:=by
 rw[Dv_eq];exact (Zbb _ _ _).2.2.1 c hc
def Zbd (hO:Ord r) (k:Nat) {n:Int} (hn:n∈nums r):1<=Dv r (k+1) n:=by
 rw[Dv_eq];exact (Zbb _ _ _).2.1 (Zbc hO hn)
def Dv_or (hO:Ord r) (k:Nat) {n:Int} (hn:n∈nums r):Dv r (k+1) n=1∨∃ c∈C r n,Dv r (k+1) n=1+Dv r k c:=by
 have h1:=Zbd hO k hn;rw[Dv_eq]at *;rcases (Zbb (Dv r k) (issOf r n) 0).2.2.2 with h|h|h
 . omega
 . exact .inl h
 . exact .inr h
def C_in (hin:∀ x∈r,ItsIn r x) {n c:Int} (hc:c∈C r n):c∈nums r:=by
 obtain ⟨x,hx,hc⟩:=W0u.1 hc;obtain ⟨y,hy,rfl⟩:=W0i.1 hc;exact hin x (W0G.1 hx).1 y hy
def Zbe (lf:List Int):∀ (its:List (Int×Int)) (b:Bool),rdIt lf b its=true↔b=true/\∀ y∈its,y.1 ∉ lf
 |[],b=>by simp[rdIt]
 | y::its,b=>by
   have e:rdIt lf b (y::its)=rdIt lf (b && !decide (y.1∈lf)) its:=rfl;rw[e,Zbe lf its];simp[and_assoc]
def Zbf (lf:List Int):∀ (l:Jr) (b:Bool),rdN lf b l=true↔b=true/\∀ c∈chL l,c ∉ lf
 |[],b=>by simp[rdN,chL]
 | x :: l,b=>by
   have e:rdN lf b (x::l)=rdN lf (rdIt lf b x.its) l:=rfl;rw[e,Zbf lf l,Zbe,Zb8];simp only[W0h,W0i]
   constructor
   . rintro ⟨⟨h1,h2⟩,h3⟩;refine ⟨h1,λc hc=>?_⟩;rcases hc with ⟨y,hy,rfl⟩|hc
     . exact h2 y hy
     . exact h3 c hc
   . rintro ⟨h1,h2⟩;exact ⟨⟨h1,λy hy=>h2 _ (.inl ⟨y,hy,rfl⟩)⟩,λc hc=>h2 c (.inr hc)⟩
def Zbg (dp:List (Int×Int)):∀ (its:List (Int×Int)) (m:Int),m<=msIt dp m its/\(∀ y∈its,dpG dp y.1<=msIt dp m its)/\(msIt dp m its=m∨∃ y∈its,msIt dp m its=dpG dp y.1)
 |[],m=>⟨W1S _,by simp,.inl rfl⟩
 | y :: its,m=>by
   obtain ⟨h1,h2,h3⟩:=Zbg dp its (max m (dpG dp y.1));have e:msIt dp m (y::its)=msIt dp (max m (dpG dp y.1)) its:=rfl;rw[e];refine ⟨by omega,λz hz=>?_,?_⟩
   . rcases W0g.1 hz with rfl|hz
     . omega
     . exact h2 z hz
   . rcases h3 with h3 | ⟨z,hz,h3⟩
     . rcases Int.le_total m (dpG dp y.1) with hm|hm
       . exact .inr ⟨y,W0H ..,by omega⟩
       . exact .inl (by omega)
     . exact .inr ⟨z,W0z _ hz,h3⟩
def Zbh (dp:List (Int×Int)):∀ (l:Jr) (m:Int),m<=msN dp m l/\(∀ c∈chL l,dpG dp c<=msN dp m l)/\(msN dp m l=m∨∃ c∈chL l,msN dp m l=dpG dp c)
 |[],m=>⟨W1S _,by simp[chL],.inl rfl⟩
 | x :: l,m=>by
   obtain ⟨h1,h2,h3⟩:=Zbg dp x.its m;obtain ⟨g1,g2,g3⟩:=Zbh dp l (msIt dp m x.its);have e:msN dp m (x::l)=msN dp (msIt dp m x.its) l:=rfl;rw[e];refine ⟨by omega,λc hc=>?_,?_⟩
   . rw[Zb8]at hc;rcases W0h.1 hc with hc|hc
     . obtain ⟨y,hy,rfl⟩:=W0i.1 hc;have:=h2 y hy;omega
     . exact g2 c hc
   . rcases g3 with g3 | ⟨c,hc,g3⟩
     . rcases h3 with h3 | ⟨y,hy,h3⟩
       . exact .inl (by omega)
       . exact .inr ⟨y.1,by rw[Zb8];exact W0h.2 (.inl (W0i.2 ⟨y,hy,rfl⟩)),by omega⟩
     . exact .inr ⟨c,by rw[Zb8];exact W0h.2 (.inr hc),g3⟩
def Zbi {n:Int}:∀ {dp:List (Int×Int)},n∈dp.map (·.1)->∃ v,dpLk n dp=some v
 |[],h=>by simp at h
 | p :: dp,h=>by
   simp only[dpLk]
   split
   . exact ⟨_,rfl⟩
   . rename_i e;simp only[W0F,W0g]at h;exact Zbi (h.resolve_left λe2=>e (by rw[e2]))
def AInv (r:Jr) (s:List (Int×Int)×List Int):Prop:=∀ p∈s.1,∀ j:Nat,p.2<=j->Dv r j p.1=p.2
def AInv.step (hO:Ord r) (hin:∀ x∈r,ItsIn r x) {s:List (Int×Int)×List Int} (hd:DInv r s) (h:AInv r s) {n:Int} (hn:n∈nums r):AInv r (dStep r s n):=by
 unfold dStep
 split
 . rename_i hb;obtain ⟨h1,h2⟩:=(Zbf _ _ _).1 hb
   have kids:∀ c∈C r n,(c,dpG s.1 c)∈s.1:=λc hc=>by
    have hc1:c∈s.1.map (·.1)++s.2:=hd.perm.mem_iff.2 (C_in hin hc);have hc2:c∈s.1.map (·.1):=(W0h.1 hc1).resolve_right (h2 c hc);obtain ⟨v,hv⟩:=Zbi hc2;have:=Zai hv
    rwa [show dpG s.1 c=v by simp[dpG,hv]]
   obtain ⟨m1,m2,m3⟩:=Zbh s.1 (issOf r n) 0;intro p hp j hj;rcases W0h.1 hp with hp|hp
   . exact h p hp j hj
   . simp only[W0B]at hp;subst hp;simp only at hj ⊢;obtain ⟨j,rfl⟩ : ∃ j',j=j'+1:=⟨j-1,by omega⟩
     have same:∀ c∈C r n,Dv r j c=dpG s.1 c:=λc hc=>by
      have:=m2 c hc;exact h _ (kids c hc) j (by simp only;omega)
     have o1:=Zbd hO j hn
     apply Int.le_antisymm
     . rcases Dv_or hO j hn with e | ⟨c,hc,e⟩
       . omega
       . have:=m2 c hc;have:=same c hc;omega
     . rcases m3 with e | ⟨c,hc,e⟩
       . omega
       . have:=Dv_ch (r:=r) j n hc;have:=same c hc;omega
 . exact h
def AInv.fold (hO:Ord r) (hin:∀ x∈r,ItsIn r x):∀ (l:List Int) {s:List (Int×Int)×List Int},(∀ n∈l,n∈nums r)->DInv r s->AInv r s->AInv r (l.foldl (dStep r) s)
 |[],s,_,_,h=>h
 |n::l,s,hl,hd,h=>AInv.fold hO hin l (λm hm=>hl m (W0z _ hm)) (hd.step n) (h.step hO hin hd (hl n (W0H ..)))
def AInv.run (hO:Ord r) (hin:∀ x∈r,ItsIn r x):∀ k,AInv r (dRun r k)
 |0=>by intro p hp;simp[dRun]at hp
 |k+1=>AInv.fold hO hin (nums r) (λ_ h=>h) (DInv.run r k) (AInv.run hO hin k)
def Stuck (r:Jr) (L:List Int):Prop:=∀ n∈L,∃ c∈C r n,c∈L
def Zbj {s:List (Int×Int)×List Int} {n:Int} (h:¬rdN s.2 (decide (n∈s.2)) (issOf r n)=true):dStep r s n=s/\(n∈s.2->∃ c∈C r n,c∈s.2):=by
 refine ⟨by unfold dStep;rw[if_neg h],λhn=>?_⟩;rw[Zbf]at h;by_cases e:∃ c∈C r n,c∈s.2
 . exact e
 . exact absurd ⟨W0M hn,λc hc h2=>e ⟨c,hc,h2⟩⟩ h
def Zbk (s:List (Int×Int)×List Int) (n:Int):(dStep r s n).2.length<=s.2.length:=by
 unfold dStep
 split
 . exact List.length_erase_le
 . exact W0f _
def Zbl:∀ (l:List Int) (s:List (Int×Int)×List Int),(l.foldl (dStep r) s).2.length<=s.2.length
 |[],s=>W0f _
 |n::l,s=>W0O (Zbl l _) (Zbk s n)
def Zbm:∀ (l:List Int) (s:List (Int×Int)×List Int),(l.foldl (dStep r) s).2.length<s.2.length∨(l.foldl (dStep r) s=s/\∀ n∈l,n∈s.2->∃ c∈C r n,c∈s.2)
 |[],s=>.inr ⟨rfl,by simp⟩
 | n :: l,s=>by
   by_cases e:rdN s.2 (decide (n∈s.2)) (issOf r n)=true
   . refine .inl (Nat.lt_of_le_of_lt (Zbl l _) ?_);have hm:=Zah e;unfold dStep;rw[if_pos e];have:=List.length_erase_of_mem hm;have:=List.length_pos_of_mem hm;simp only;omega
   . obtain ⟨h1,h2⟩:=Zbj e;rw[W25,h1];rcases Zbm l s with h | ⟨h3,h4⟩
     . exact .inl h
     . refine .inr ⟨h3,λm hm=>?_⟩;rcases W0g.1 hm with rfl|hm
       . exact h2
       . exact h4 m hm
def Zbn:∀ (l:List Int) {s:List (Int×Int)×List Int},Stuck r s.2->l.foldl (dStep r) s=s
 |[],s,_=>rfl
 | n::l,s,h=>by
   have:¬rdN s.2 (decide (n∈s.2)) (issOf r n)=true:=λe=>by
    have hm:=Zah e;obtain ⟨c,hc,h2⟩:=h n hm;exact ((Zbf _ _ _).1 e).2 c hc h2
   rw[W25,(Zbj this).1];exact Zbn l h
def Zbo (r:Jr):∀ k,(dRun r k).2.length+k<=(nums r).length∨Stuck r (dRun r k).2
 |0=>.inl (by simp[dRun])
 | k + 1=>by
   have hsub:∀ n∈(dRun r k).2,n∈nums r:=λn hn=>(DInv.run r k).perm.mem_iff.1 (W0h.2 (.inr hn))
   rcases Zbo r k with h|h
   . rcases Zbm (r:=r) (nums r) (dRun r k) with h2 | ⟨h2,h3⟩
     . exact .inl (by simp only[dRun,dPass];omega)
     . refine .inr ?_;simp only[dRun,dPass];rw[h2];exact λn hn=>h3 n (hsub n hn) hn
   . refine .inr ?_;simp only[dRun,dPass];rw[Zbn (nums r) h];exact h
def Zbp {L:List Int} (h:Stuck r L):∀ (k:Nat) (n:Int),n∈L->(k:Int)<=Dv r k n
 |0,n,_=>by simp[Dv]
 | k+1,n,hn=>by
   obtain ⟨c,hc,h2⟩:=h n hn;have:=Zbp h k c h2;have:=Dv_ch (r:=r) k n hc;omega
def Zbq (g:Int->Int) (K:Int):∀ (l:List Int) (m:Int),K<l.foldl (λm n=>max m (g n)) m↔K<m∨∃ n∈l,K<g n
 |[],m=>by simp
 | n::l,m=>by
   rw[W25,Zbq g K l];simp only[W0g,exists_eq_or_imp];rw[<- or_assoc];refine or_congr_left ?_;omega
def Zbr {l:List Int} {g:Int->Int} {K:Int} (hK:0<=K):K<mostV l g↔∃ n∈l,K<g n:=by
 rw[mostV,Zbq]
 constructor
 . rintro (h|h)
   . omega
   . exact h
 . exact .inr
def dp_Dv (hL:Z8I r=true) (h:(dRun r (nums r).length).2.length=0) {n:Int} (hn:n∈nums r):(n,dpG (dRun r (nums r).length).1 n)∈(dRun r (nums r).length).1/\Dv r ((nums r).length+1) n=dpG (dRun r (nums r).length).1 n:=by
 have hd:=DInv.run r (nums r).length;have h0:(dRun r (nums r).length).2=[]:=W0l.1 h
 have h1:n∈(dRun r (nums r).length).1.map (·.1):=by
  have:=hd.perm.mem_iff.2 hn
  rwa [h0,W1C]at this
 obtain ⟨v,hv⟩:=Zbi h1;have hm:=Zai hv;have e:dpG (dRun r (nums r).length).1 n=v:=(by simp[dpG,hv]);rw[e];refine ⟨hm,?_⟩;have hb:=hd.bd _ hm;have hl:=hd.len;exact AInv.run (Z8Q hL) (λx hx=>ZaX hL hx) _ _ hm _ (by simp only at hb ⊢;omega)
def Zbs (r:Jr):openV r=chkV r:=by
 unfold openV chkV
 cases hL:Z8I r
 . rfl
 . simp only [if_true];by_cases h:0<(dRun r (nums r).length).2.length
   . rw[if_pos h];have hs:Stuck r (dRun r (nums r).length).2:=(Zbo r (nums r).length).resolve_left (by omega);obtain ⟨n,hn⟩:=List.exists_mem_of_length_pos h;have hn2:n∈nums r:=(DInv.run r _).perm.mem_iff.1 (W0h.2 (.inr hn));have:=Zbp hs ((nums r).length+1) n hn;rw[if_pos ((Zbr (by omega)).2 ⟨n,hn2,by omega⟩)]
   . rw [if_neg h];have h0:(dRun r (nums r).length).2.length=0:=(by omega);have hd:=DInv.run r (nums r).length;have hl:=hd.len
     have e1:(∃ p∈(dRun r (nums r).length).1,6<p.2)↔6<mostV (nums r) (Dv r ((nums r).length+1)):=by
      rw[Zbr (by omega)]
      constructor
      . rintro ⟨p,hp,h6⟩;have hn:p.1∈nums r:=hd.perm.mem_iff.1 (W0h.2 (.inl (W0i.2 ⟨p,hp,rfl⟩)));refine ⟨p.1,hn,?_⟩;have hb:=hd.bd _ hp;rw[AInv.run (Z8Q hL) (λx hx=>ZaX hL hx) _ _ hp _ (by omega)];exact h6
      . rintro ⟨n,hn,h6⟩;obtain ⟨h1,h2⟩:=dp_Dv hL h0 hn;rw[h2]at h6;exact ⟨_,h1,h6⟩
     have e2:¬((nums r).length:Int)<mostV (nums r) (Dv r ((nums r).length+1)):=by
      rw[Zbr (by omega)];rintro ⟨n,hn,h6⟩;obtain ⟨h1,h2⟩:=dp_Dv hL h0 hn;have:=hd.bd _ h1;rw[h2]at h6;simp only at this;omega
     rw[if_neg e2];by_cases c:6<mostV (nums r) (Dv r ((nums r).length+1))
     . rw[if_pos c,if_pos (e1.2 c)]
     . rw[if_neg c,if_neg λe=>c (e1.1 e)]
def Zbt {r:Jr} (h:openV r=0):(dRun r (nums r).length).2.length=0:=by
 unfold openV at h
 split at h
 . split at h
   . cases h
   . omega
 . cases h
def Zbu {i:Nat} (hi:i<r.length) (n:Int):issOf (r.take (i+1)) n=if r[i].d=n then issOf (r.take i) n++[r[i]] else issOf (r.take i) n:=by
 rw[W08 hi,issOf,W19]
 split
 . rename_i e;rw[W27 (by simpa using e)];rfl
 . rename_i e;rw[W28 (by simpa using e),List.filter_nil,W1C];rfl
def Zbv (hL:Z8I r=true):∀ (i:Nat) (hi:i<r.length),r[i].l=((issOf (r.take (i+1)) r[i].d).length:Nat)
 | 0,hi=>by
   have h0:=ZaW hL hi;simp only[ordB,W0b,at_eq hi]at h0;rw[h0,Zbu hi,if_pos rfl];simp[issOf]
 | j + 1,hi=>by
   have hj:j<r.length:=(by omega);have h0:=ZaW hL hi;have ih:=Zbv hL j hj;have hO:=Z8Q hL;rw[Zbu hi,if_pos rfl];simp only[ordB,at_eq hi,at_eq hj]at h0
   split at h0
   . cases h0
   . split at h0
     . rename_i h1 h2
       have e:issOf (r.take (j+1)) r[j+1].d=[]:=by
        rw[issOf,W2b];intro x hx;obtain ⟨k,hk,rfl⟩:=W0k hx;simp only[W15]at hk;have:=hO.mono (i:=k) (j:=j) (by omega) hj;rw[at_eq (show k<r.length by omega),at_eq hj]at this;simp only[W1P,W0b];omega
       rw[e];simpa using h0
     . rename_i h1 h2;simp only[W01,W0b]at h0;have e:r[j+1].d=r[j].d:=(by omega);rw[e,h0.1,ih];simp
def Zbw (hL:Z8I r=true) (n:Int):∀ i,i<=r.length->lastN r n i=((issOf (r.take i) n).length:Nat)
 |0,_=>by simp[lastN,issOf]
 | i + 1,hi=>by
   have hlt:i<r.length:=(by omega);have ih:=Zbw hL n i (by omega);rw[lastN,at_eq hlt,Zbu hlt]
   split
   . rename_i e;have:=Zbv hL i hlt;rw[e,Zbu hlt,if_pos e]at this;rw[ih,this];simp only[W0s,W1o,W1O];omega
   . exact ih
def Zbx (hL:Z8I r=true) (n:Int):lastV r n=cntV r n:=by
 rw[lastV,Zbw hL n _ (W0f _),W0v];rfl
end
def twR (r:Jr) (i:Nat):List (List AV):=(r.take i).map isa
def Zby {r:Jr} {i:Nat} (h:i<=r.length):(twR r i).length=i:=by simp[twR];omega
def Zbz {r:Jr} {i:Nat} (h:i<r.length):twR r (i+1)=twR r i++[[.int .i64 r[i].d,.int .i64 r[i].l,.int .u8 r[i].k,.vsl (r[i].its.map ita),.vsl (r[i].dms.map dma)]]:=by
 rw[twR,W08 h,W0r];rfl
def ZbA {r:Jr} {i:Nat} (o:List (Nat×AObj)):Yc o (.row 5 (twR r i))=true:=by
 simp only[Yc,W03,twR,W0i];rintro x ⟨y,-,rfl⟩ v hv;simp only[isa,W0g,W0Q,or_false]at hv;rcases hv with rfl|rfl|rfl|rfl|rfl <;> simp[Ya,AV.keys]
def ZbB (r:Jr):twR r r.length=r.map isa:=by rw[twR,W0v]
section
open Qq Go.Proofs.Tryd
def ZbC:RCode :=
 S [r 0 [n 4 (.bool false)],S [r 1 [m 6 0,e 7 6,m 8 1,e 9 8,o 10 .neq 7 9],K 10 2 [n 4 (.bool false)]],S [r 3 [n 5 O],.block 0 (.loop (S [S [r 4 [m 11 5,m 12 0,e 13 12,o 14 .lss 11 13],.cond (.t 14) .skip (.exit 0)],.block 1 (S [R 6 [m 17 0,m 18 5,a [0,1] (i 19 4 17 18),a [2] (L 20 4 19),m 21 1,m 22 5,a [4,5] (i 23 4 21 22),a [6] (L 24 4 23),a [3,7] (w 25 (.eqs true [.i,.i,.i,.i] (.t 20) (.t 24)))],K 25 7 [n 4 (.bool false)]]),r 5 [m 15 5,k 16 .add 15 I,m 5 16]]))],r 8 [n 4 (.bool true)],.ret]
def ZbD:List RRes:=[.t 4]
def ZbE:PCt prog 50 f50 ZbC ZbD:=pcT func50 rfl
end
def ltOf (r:Jr) (lt:List Int) (n:Int):Int:=lt.getD ((nums r).idxOf n) 0
def tkV (r:Jr) (lt:List Int) (n:Int):Iss:=(findN n (ltOf r lt n) r).getD zI
def ltB (r:Jr) (lt:List Int):Bool:=decide (lt.length=(nums r).length)&&(List.range (nums r).length).all λi=>inR (lt.getD i 0) 1 (lastV r ((nums r).getD i 0))
def askV (r:Jr) (lt:List Int) (n:Int):Int:=if openV r≠0 then openV r else if ltB r lt=false then 22 else if n∈nums r then 0 else 6
section
variable {r:Jr}
def ZbF (hL:Z8I r=true) (n:Int):∀ (i:Nat),i<=r.length->∀ k:Nat,1<=k->k<=(issOf (r.take i) n).length->∃ j,∃ h:j<r.length,r[j].d=n/\r[j].l=k
 |0,_,k,h1,h2=>by simp[issOf]at h2;omega
 | i + 1,hi,k,h1,h2=>by
   have hlt:i<r.length:=(by omega);by_cases c:k<=(issOf (r.take i) n).length
   . exact ZbF hL n i (by omega) k h1 c
   . have hl:=Zbv hL i hlt;rw[Zbu hlt]at h2
     split at h2
     . rename_i e;simp only[W0s,W1o,W1O]at h2;refine ⟨i,hlt,e,?_⟩;rw[hl,e,Zbu hlt,if_pos e];simp only[W0s,W1o,W1O];omega
     . omega
def ZbG (hL:Z8I r=true) {x:Iss} (hx:x∈r):1<=x.l/\x.l<=cntV r x.d:=by
 obtain ⟨i,hi,rfl⟩:=W0k hx;have h1:=Zbv hL i hi;have h2:(issOf (r.take (i+1)) r[i].d).length<=(issOf r r[i].d).length:=((List.take_sublist (i+1) r).filter _).length_le;have h3:0<(issOf (r.take (i+1)) r[i].d).length:=(by rw[Zbu hi,if_pos rfl];simp);have h4:cntV r r[i].d=((issOf r r[i].d).length:Nat):=rfl;omega
def ZbH (hL:Z8I r=true) {x:Iss} (hx:x∈r):findN x.d x.l r=some x:=Zb2 hL x hx
def ZbI (hL:Z8I r=true) (n l:Int):(findN n l r).isSome=true↔inR l 1 (lastV r n)=true:=by
 rw[inR,W0b,Zbx hL]
 constructor
 . intro h;obtain ⟨x,hx⟩:=W0t.1 h;obtain ⟨h1,rfl,rfl⟩:=Z98 hx;exact ZbG hL h1
 . rintro ⟨h1,h2⟩;have h3:cntV r n=((issOf r n).length:Nat):=rfl;obtain ⟨j,hj,rfl,e⟩:=ZbF hL n r.length (W0f _) l.toNat (by omega) (by rw[W0v];omega);have:=ZbH hL (W0e hj);rw[e,show ((l.toNat:Nat):Int)=l by omega]at this;rw[this];rfl
def ZbJ {n:Int} (hn:n∈nums r):(nums r).idxOf n<(nums r).length/\(nums r).getD ((nums r).idxOf n) 0=n:=by
 have h1:(nums r).idxOf n<(nums r).length:=List.idxOf_lt_length_iff.2 hn;exact ⟨h1,by rw[W0j,W07 h1,List.getElem_idxOf h1];rfl⟩
def ZbK (hL:Z8I r=true) {lt:List Int} (h:ltB r lt=true) {n:Int} (hn:n∈nums r):findN n (ltOf r lt n) r=some (tkV r lt n):=by
 simp only[ltB,W01,W0b]at h;obtain ⟨h1,h2⟩:=ZbJ hn;have:=Z8F.1 h.2 _ h1;rw[h2,<- ZbI hL]at this;obtain ⟨x,hx⟩:=W0t.1 this;have e:findN n (ltOf r lt n) r=some x:=hx;rw[tkV,e];rfl
def ZbL (hL:Z8I r=true) {lt:List Int} (h:ltB r lt=true) {n:Int} (hn:n∈nums r):tkV r lt n∈r/\(tkV r lt n).d=n :=
 let ⟨h1,h2,_⟩:=Z98 (ZbK hL h hn);⟨h1,h2⟩
def ZbM (hL:Z8I r=true) {lt:List Int} (h:ltB r lt=true) {n:Int} (hn:n∈nums r):∀ y∈(tkV r lt n).its,y.1∈nums r:=ZaX hL (ZbL hL h hn).1
def ZbN {x:Iss} (h:issB x=true):1<=x.k/\x.k<=3/\x.its.length<=8/\(x.k≠1->x.its=[]):=by
 simp only[issB,headB,W01,inR,W0b]at h;obtain ⟨⟨⟨⟨-,h1⟩,h2⟩,-⟩,-⟩:=h;refine ⟨by omega,by omega,?_,λhk=>?_⟩
 . split at h2
   . simp only[W01,W0b]at h2;omega
   . simp only[W01,W0b]at h2;omega
 . rw[if_neg hk]at h2;simp only[W01,W0b]at h2;exact W0l.1 h2.2
def dpN (r:Jr) (n:Int):Nat:=(Dv r ((nums r).length+1) n).toNat
def ZbO (ho:openV r=0) {n:Int} (hn:n∈nums r):1<=dpN r n/\dpN r n<=6:=by
 have hL:=ZaS ho;have h0:=Zbt ho;obtain ⟨h1,h2⟩:=dp_Dv hL h0 hn;have hb:=(DInv.run r (nums r).length).bd _ h1
 have h6:dpG (dRun r (nums r).length).1 n<=6:=by
  unfold openV at ho;rw[if_pos hL,if_neg (by omega)]at ho
  split at ho
  . cases ho
  . rename_i h3;exact Int.not_lt.1 λh4=>h3 ⟨_,h1,h4⟩
 unfold dpN;rw[h2];simp only at hb;omega
def ZbP (ho:openV r=0) {n c:Int} (hn:n∈nums r) (hc:c∈C r n):dpN r c<dpN r n:=by
 have hL:=ZaS ho;have h0:=Zbt ho;have hcn:c∈nums r:=C_in (λx hx=>ZaX hL hx) hc;obtain ⟨h1,h2⟩:=dp_Dv hL h0 hcn;have hd:=DInv.run r (nums r).length;have hb:=hd.bd _ h1;have hl:=hd.len;have e:=AInv.run (Z8Q hL) (λx hx=>ZaX hL hx) _ _ h1 (nums r).length (by simp only at hb ⊢;omega);have g1:=Dv_ch (r:=r) (nums r).length n hc;have g2:=(Dv_bd r ((nums r).length+1) n).1;have g3:=(Dv_bd r ((nums r).length+1) c).1;simp only at e;unfold dpN;omega
def its_C (hL:Z8I r=true) {lt:List Int} (h:ltB r lt=true) {n:Int} (hn:n∈nums r) {y:Int×Int} (hy:y∈(tkV r lt n).its):y.1∈C r n:=by
 obtain ⟨h1,h2⟩:=ZbL hL h hn;exact W0u.2 ⟨_,W0G.2 ⟨h1,by simpa using h2⟩,W0i.2 ⟨y,hy,rfl⟩⟩
end
def addW (a b:Int):Int:=i64.wrap (a+b)
def mulW (a b:Int):Int:=i64.wrap (a*b)
def paV (T:Int->Iss):Nat->Int->Int->(Int->Int)->(Int->Int)
 |0,_,_,g=>g
 |k+1,d,m,g=>if 1<(T d).k then (λn=>if n=d then addW (g d) m else g n) else (T d).its.foldl (λg y=>paV T k y.1 (mulW m y.2) g) g
def mpG (l:List (Int×Int)) (n:Int):Int:=dpG l n
def mpPut (n v:Int):List (Int×Int)->List (Int×Int)
 |[]=>[(n,v)]
 |p::l=>if p.1=n then (n,v)::l else p::mpPut n v l
def paM (T:Int->Iss):Nat->Int->Int->List (Int×Int)->List (Int×Int)
 |0,_,_,l=>l
 |k+1,d,m,l=>(T d).its.foldl (λl y=>paM T k y.1 (mulW m y.2) l) (if (T d).k=1 then l else mpPut d (addW (mpG l d) m) l)
def ZbQ (n v:Int):∀ (l:List (Int×Int)) (x:Int),mpG (mpPut n v l) x=if x=n then v else mpG l x
 | [],x=>by
   simp only[mpPut,mpG,dpG,dpLk];by_cases e:x=n
   . rw[if_pos e,if_pos e];rfl
   . rw[if_neg e,if_neg e]
 | p :: l,x=>by
   have ih:=ZbQ n v l x;simp only[mpG,dpG]at ih ⊢;simp only[mpPut];by_cases e:p.1=n
   . rw[if_pos e];simp only[dpLk];by_cases e2:x=n
     . rw[if_pos e2,if_pos e2];rfl
     . rw[if_neg e2,if_neg e2,if_neg (by rw[e];exact e2)]
   . rw[if_neg e];simp only[dpLk];by_cases e2:x=p.1
     . rw[if_pos e2,if_pos e2,if_neg (by rintro rfl;exact e e2.symm)]
     . rw[if_neg e2,if_neg e2];exact ih
def ZbR {T:Int->Iss} {D:List Int} (hk:∀ d∈D,1<=(T d).k/\((T d).k≠1->(T d).its=[])) (hin:∀ d∈D,∀ y∈(T d).its,y.1∈D):∀ (k:Nat) (d m:Int) (l:List (Int×Int)),d∈D->mpG (paM T k d m l)=paV T k d m (mpG l)
 |0,d,m,l,_=>rfl
 | k + 1,d,m,l,hd=>by
   obtain ⟨h1,h2⟩:=hk d hd;simp only[paM,paV];by_cases e:(T d).k=1
   . rw [if_pos e,if_neg (by omega)]
     have key:∀ (its:List (Int×Int)) (l:List (Int×Int)),(∀ y∈its,y.1∈D)->mpG (its.foldl (λl y=>paM T k y.1 (mulW m y.2) l) l)=its.foldl (λg y=>paV T k y.1 (mulW m y.2) g) (mpG l):=by
      intro its
      induction its with
      |nil=>intro l _;rfl
      | cons y its ih =>
        intro l hy;simp only[W25];rw[ih _ λz hz=>hy z (W0z _ hz),ZbR hk hin k y.1 _ l (hy y (W0H ..))]
     exact key _ l (hin d hd)
   . rw[if_neg e,if_pos (by omega),h2 e,List.foldl_nil]
     funext n
     rw[ZbQ]
def ptN (l:List Int) (g:Int->Int) (i:Nat):List (Int×Int):=((l.take i).filter λn=>decide (0<g n)).map λn=>(n,g n)
def ZbS {l:List Int} {g:Int->Int} {i:Nat} (h:i<l.length):ptN l g (i+1)=if 0<g l[i] then ptN l g i++[(l[i],g l[i])] else ptN l g i:=by
 rw[ptN,W08 h,W19,W0r]
 split
 . rename_i e;rw[W27 (by simpa using e)];rfl
 . rename_i e;rw[W28 (by simpa using e),List.filter_nil,W1c,W1C];rfl
def ZbT (l:List Int) (g:Int->Int) (i:Nat):(ptN l g i).length<=i:=by
 simp only[ptN,W0N];exact W0O (W0D _ _) (by simp;omega)
def exV (r:Jr) (lt:List Int) (n:Int):List (Int×Int)×Int:=if askV r lt n=0 then (ptN (nums r) (paV (tkV r lt) 6 n 1 λ_=>0) (nums r).length,0) else ([],askV r lt n)
def ask_0 {r:Jr} {lt:List Int} {n:Int} (h:askV r lt n=0):openV r=0/\ltB r lt=true/\n∈nums r:=by
 unfold askV at h
 split at h
 . rename_i e;exact absurd h e
 . rename_i e
   split at h
   . cases h
   . rename_i e2
     split at h
     . rename_i e3;exact ⟨by simpa using e,by simpa using e2,e3⟩
     . cases h
structure Brn where
 dep:Int
 d:Int
 l:Int
 c:Int
 deriving DecidableEq,Inhabited
def bra (b:Brn):List AV:=[.int .i64 b.dep,.int .i64 b.d,.int .i64 b.l,.int .i64 b.c]
def trV (T:Int->Iss):Nat->Int->Int->Int->List Brn
 |0,_,_,_=>[]
 |k+1,dep,d,c=>⟨dep,d,(T d).l,c⟩::(T d).its.flatMap λy=>trV T k (dep+1) y.1 y.2
def brN (T:Int->Iss):Nat->Int->Nat
 |0,_=>0
 |k+1,d=>(T d).its.foldl (λa y=>a+brN T k y.1) 1
def ZbU {T:Int->Iss}:∀ (k:Nat) (dep d c:Int),(trV T k dep d c).length=brN T k d
 |0,_,_,_=>rfl
 | k+1,dep,d,c=>by
   have key:∀ (its:List (Int×Int)) (a:Nat),its.foldl (λa y=>a+brN T k y.1) a=a+(its.flatMap λy=>trV T k (dep+1) y.1 y.2).length:=by
    intro its
    induction its with
    |nil=>intro a;simp
    | cons y its ih =>
      intro a;rw[W25,ih,List.flatMap_cons,W0s,ZbU k];omega
   rw[brN,key];simp only[trV,W1o];omega
def grV (T:Int->Iss):Nat->Int->Int->Int->List Brn->List Brn
 |0,_,_,_,l=>l
 |k+1,dep,d,c,l=>if 500<l.length then l else (T d).its.foldl (λl y=>grV T k (dep+1) y.1 y.2 l) (l++[⟨dep,d,(T d).l,c⟩])
def ZbV {T:Int->Iss}:∀ (k:Nat) (dep d c:Int) (l:List Brn),l.length<=501->(grV T k dep d c l).length<=501
 |0,_,_,_,_,h=>h
 | k + 1,dep,d,c,l,h=>by
   simp only[grV]
   split
   . exact h
   . have key:∀ (its:List (Int×Int)) (l:List Brn),l.length<=501->(its.foldl (λl y=>grV T k (dep+1) y.1 y.2 l) l).length<=501:=by
      intro its
      induction its with
      |nil=>intro l h;exact h
      |cons y its ih=>intro l h;exact ih _ (ZbV k _ _ _ _ h)
     exact key _ _ (by simp;omega)
def ZbW {T:Int->Iss}:∀ (k:Nat) (dep d c:Int) (l:List Brn),((l++trV T k dep d c).length<=500->grV T k dep d c l=l++trV T k dep d c)/\(500<(l++trV T k dep d c).length->500<(grV T k dep d c l).length)
 |0,dep,d,c,l=>by simp[grV,trV]
 | k + 1, dep,d,c,l=>by
   simp only[grV];by_cases h:500<l.length
   . rw[if_pos h];exact ⟨λh2=>by simp at h2;omega,λ_=>h⟩
   . rw [if_neg h]
     have key:∀ (its:List (Int×Int)) (l:List Brn),((l++its.flatMap λy=>trV T k (dep+1) y.1 y.2).length<=500->its.foldl (λl y=>grV T k (dep+1) y.1 y.2 l) l=l++its.flatMap λy=>trV T k (dep+1) y.1 y.2) /\
       (500<(l++its.flatMap λy=>trV T k (dep+1) y.1 y.2).length->500<(its.foldl (λl y=>grV T k (dep+1) y.1 y.2 l) l).length):=by
      intro its
      induction its with
      |nil=>intro l;simp
      | cons y its ih =>
        intro l;obtain ⟨g1,g2⟩:=ZbW (T:=T) k (dep+1) y.1 y.2 l;obtain ⟨i1,i2⟩:=ih (grV T k (dep+1) y.1 y.2 l);simp only[W25,List.flatMap_cons];rw[<- W0U];by_cases c1:(l++trV T k (dep+1) y.1 y.2).length<=500
        . rw[g1 c1]at i1 i2 ⊢;exact ⟨i1,i2⟩
        . have c2:=g2 (by omega);refine ⟨λh2=>by simp only[W0s]at h2 c1;omega,λ_=>i2 ?_⟩;simp only[W0s];omega
     have:=key (T d).its (l++[⟨dep,d,(T d).l,c⟩]);simp only[trV];rw[W0U,List.singleton_append]at this;exact this
def ZbX {r:Jr} (ho:openV r=0) {n:Int} (hn:n∈nums r) (h:dpN r n<=0):False:=by have:=ZbO ho hn;omega
def ZbY {r:Jr} {lt:List Int} (ho:openV r=0) (hlt:ltB r lt=true) {n:Int} (hn:n∈nums r) {k:Nat} (hk:dpN r n<=k+1) {y:Int×Int} (hy:y∈(tkV r lt n).its):y.1∈nums r/\dpN r y.1<=k:=by
 have hL:=ZaS ho;have:=ZbP ho hn (its_C hL hlt hn hy);exact ⟨ZbM hL hlt hn y hy,by omega⟩
def tk_8 {r:Jr} {lt:List Int} (ho:openV r=0) (hlt:ltB r lt=true):∀ d∈nums r,(tkV r lt d).its.length<=8:=λd hd =>
 (ZbN (ZaV (ZaS ho) (ZbL (ZaS ho) hlt hd).1)).2.2.1
def ZbZ (l:List Brn):(l.map bra).all (λr=>r.length == 4)=true/\(l.map bra).all (λr=>r.all AV.one)=true/\(l.map bra).all (λr=>r.all AV.pure)=true:=by
 refine ⟨by simp[bra],by simp[bra,AV.one],by simp[bra,AV.pure]⟩
def Zc0 (l:List Brn) (o:List (Nat×AObj)):Yc o (.row 4 (l.map bra))=true:=by
 simp only[Yc,W03,W0i];rintro x ⟨y,-,rfl⟩ v hv;simp only[bra,W0g,W0Q,or_false]at hv;rcases hv with rfl|rfl|rfl|rfl <;> simp[Ya,AV.keys]
def GO0 {P:Program} {R:Run} {c:RCode} {ks:List KF} {Φ:Exit->St->Prop} {st:St} (h:AR P R c st (RetP P R ks Φ)):GO P R 0 (.run c) ks Φ st:=h
def Zc1 (l:List (Int×Int)) (o:List (Nat×AObj)):Yc o (.row 2 (l.map ita))=true:=by
 simp only[Yc,W03,W0i];rintro x ⟨y,-,rfl⟩ v hv;simp only[ita,W0g,W0Q,or_false]at hv;rcases hv with rfl|rfl <;> simp[Ya,AV.keys]
def trE (r:Jr) (lt:List Int) (n:Int):List Brn×Int:=if askV r lt n=0 then if 500<brN (tkV r lt) 6 n then ([],4) else (trV (tkV r lt) 6 0 n 1,0) else ([],askV r lt n)
def Zc2 {a b:Brn} (h:¬a=b):(!decide (a.dep=b.dep)||(!decide (a.d=b.d)||(!decide (a.l=b.l) || !decide (a.c=b.c))))=true:=by
 cases h5:(!decide (a.dep=b.dep)||(!decide (a.d=b.d)||(!decide (a.l=b.l) || !decide (a.c=b.c))))
 . simp only[W1N,Bool.not_eq_false',W0b]at h5
   cases a;cases b;simp_all
 . rfl
def Zc3 (a b:List Brn) (ha:Sml a):PC prog G 50 [.vsl (a.map bra),.vsl (b.map bra)] (.bool (decide (a=b))):=by
 (refine ZbE rfl λR hG hrd=>Qga ?_;subst hG)
 by_cases hl:a.length=b.length
 . have hl':(a.length:Int)=b.length:=(by omega);simp -implicitDefEqProofs[ZbC,ZbD,hl'];refine Z8m (λi=>⟨[(5,.int .i64 i),(0,.vsl (a.map bra)),(1,.vsl (b.map bra))],[]⟩) (λi=>∀ j (h:j<a.length),j<i->a[j]=b[j]) a.length (by (first|exact Wka|exact Wkb)) (by simp) ?_ ?_
   . intro i hi he;refine Qga ?_;unfold Sml at ha;have hi2:i<b.length:=(by omega);have w1:i64.wrap ((i:Int)+1)=((i+1:Nat):Int):=Yf;simp -implicitDefEqProofs[hi,hi2,bra];refine ⟨rfl,?_⟩;by_cases h2:a[i]=b[i]
     . simp -implicitDefEqProofs[h2,w1];refine ⟨(by (first|exact Wka|exact Wkb)),λj h1 h3=>?_⟩;by_cases e:j=i
       . subst e;exact h2
       . exact he j h1 (by omega)
     . have h3:¬a=b:=λe=>h2 (by subst e;rfl)
       rw[Zc2 h2];simp -implicitDefEqProofs;refine Qgr ?_;simp -implicitDefEqProofs[h3]
   . intro he;refine Qga ?_;have h3:a=b:=W1E hl λj h1 h2=>he j h1 h1
     simp -implicitDefEqProofs;refine Qgr ?_;simp -implicitDefEqProofs[h3]
 . have hl':¬(a.length:Int)=b.length:=(by omega);have h3:¬a=b:=λe=>hl (by rw[e])
   simp -implicitDefEqProofs[ZbC,ZbD,hl',h3]
section
open Qq Go.Proofs.Tryd
def Zc4:RCode :=
 S [r 0 [b 1 0,w 2 (.alloc [.nils])],r 1 [w 3 (.alloc [.nils])],S [r 2 [n 4 O],.block 0 (.loop (S [S [r 3 [m 5 4,f 6 0 1,l 7 6,e 8 7,o 9 .lss 5 8],.cond (.t 9) .skip (.exit 0)],.block 1 (R 5 [f 12 0 3,a [0] (l 13 12),f 14 0 1,a [2] (l 15 14),m 16 4,a [3,4] (i 17 5 15 16),a [5] (L 18 5 17),a [6] (c 19 32 [18]),a [7] (w 20 (.bsl true 5 1 [O,O,.int .u8 0,.nils,.nils] [(0,.t 19)])),a [1,8,7] (w 21 (.app 5 72 (.t 13) (.t 20))),a [0,1,2,3,4,5,6,7,8,9] (f 22 0 3),a [10,9,9,0,1,2,3,4,5,6,7,8,9] (s 1 22 21)]),r 4 [m 10 4,k 11 .add 10 I,m 4 11]]))],r 6 [L 23 1 3,s 1 2 23],.ret]
def Zc5:List RRes:=[.c 2 true 1]
end
def isZ (x:Iss):List AV:=[.int .i64 x.d,.int .i64 x.l,.int .u8 x.k,.vsl (x.its.map ita),.osl 907 x.dms.length]
def tiK:Nat->Bool:=λk=>decide (k<1000) && !decide (k=7)
def twM (r:Jr) (j:Nat):List (List AV):=(r.map isa).set j (isZ (at' r j))
def twJ (r:Jr) (j:Nat):List (Nat×AObj):=[(907,.row 3 ((at' r j).dms.map dma))]
def twX (r:Jr) (j i:Nat):List (Nat×AObj):=if i<=j then [] else twJ r j
def Zc6 (r:Jr) (j:Nat):(twM r j).length=r.length:=by simp[twM]
def Zc7 {r:Jr} {i j:Nat} (h:i<r.length):(twM r j)[i]'(by rw[Zc6];exact h)=if i=j then isZ r[i] else isa r[i]:=by
 unfold twM;rw[List.getElem_set];by_cases c:j=i
 . subst c;rw[if_pos rfl,if_pos rfl,at_eq h]
 . rw[if_neg c,if_neg (λe=>c e.symm),W1u]
def Zc8 {r:Jr} {i j:Nat} (h:i<r.length):(twM r j).take (i+1)=(twM r j).take i++[if i=j then isZ r[i] else isa r[i]]:=by
 rw[W08 (by rw[Zc6];exact h),Zc7 h]
def Zc9 (r:Jr) (j:Nat):(twM r j).take r.length=twM r j:=by rw[W0J (by rw[Zc6];exact W0f _)]
def Zca (o:List (Nat×AObj)) (x:Iss):(isa x).all (Ya o)=true:=by simp[isa,Ya,AV.keys]
def Zcb {r:Jr} {i j:Nat} (hi:i<=r.length) (hj:j<r.length) {o:List (Nat×AObj)} (h:i<=j∨(lk o 907).isSome=true):Yc o (.row 5 ((twM r j).take i))=true:=by
 simp only[Yc,W03];intro x hx;obtain ⟨k,hk,rfl⟩:=W0k hx
 have hk2:k<i:=by
  have:=hk;rw[W15]at this;omega
 rw[W1P,Zc7 (by omega)];by_cases c:k=j
 . rcases h with h|h
   . omega
   . rw[if_pos c];simp[isZ,Ya,AV.keys,h]
 . rw[if_neg c];exact λv hv=>W03.1 (Zca o _) v hv
def Zcc (r:Jr) (j:Nat) (ok:Nat->Bool) (h:ok 907=false) (st:St):frzO ok st (.row 5 (twM r j)) = .row 5 (twM r j):=by
 simp only[frzO]
 congr 1
 have:∀ x∈twM r j,x.map (frzA ok st)=x:=λx hx=>by
  unfold twM at hx;rcases List.mem_or_eq_of_mem_set hx with hx|rfl
  . obtain ⟨y,-,rfl⟩:=W0i.1 hx;simp[isa,frzA,frz,AV.keys]
  . simp[isZ,frzA,frz,AV.keys,h]
 exact (W0K this).trans (W1W _)
def Zcd (x:Iss) (h1:Sml x.its) (h2:Sml x.dms):PB prog G 32 [] [.agg (isa x)] (.agg [.int .i64 x.d,.int .i64 x.l,.int .u8 x.k,.vsl (x.its.map ita),.osl 7 x.dms.length]) [(7,.row 3 (x.dms.map dma))]:=by
 refine Z5h tiK (by intro k hk;simp[tiK]at hk;omega) Tryd.func32 rfl (by kernel_rfl) (rc:=Z8b) (by kernel_rfl) (rs:=Z8c) (by kernel_rfl) (W0C rfl) λR _ hG' hrd=>Qga ?_
 subst hG';unfold Sml at h1 h2;have b1:x.its.length*16<=70368744177664:=(by omega);have b2:x.dms.length*24<=70368744177664:=(by omega);have k1:(x.its.map ita).all (λr=>r.length == 2)=true:=(by simp[ita]);have k2:(x.its.map ita).all (λr=>r.all AV.one)=true:=(by simp[ita,AV.one]);have k3:(x.dms.map dma).all (λr=>r.length == 3)=true:=(by simp[dma]);have k4:(x.dms.map dma).all (λr=>r.all AV.one)=true:=(by simp[dma,AV.one]);have k5:(x.its.map ita).all (λr=>r.all AV.pure)=true:=(by simp[ita,AV.pure]);have k6:(x.dms.map dma).all (λr=>r.all AV.pure)=true:=by simp[dma,AV.pure]
 have fz:∀ ok st,frzO ok st (.row 3 (x.dms.map dma)) = .row 3 (x.dms.map dma):=λok st=>by
  simp only[frzO,W10]
  congr 2
  funext p;simp[dma,frzA,frz,AV.keys]
 by_cases e1:x.its=[] <;> by_cases e2:x.dms=[]
 . simp -implicitDefEqProofs[Z8b,Z8c,isa,e1,e2,FinO,Yi,tiK,frzA,frz,AV.keys]
   first|rfl|exact ⟨rfl,by simp[frzO]⟩
 . simp -implicitDefEqProofs[Z8b,Z8c,isa,e1,e2,b2,k3,k4,k6,FinO,Yi,tiK,frzA,frz,AV.keys,fz]
   first|rfl|exact ⟨rfl,by simp[frzO]⟩
 . simp -implicitDefEqProofs[Z8b,Z8c,isa,e1,e2,b1,k1,k2,k5,FinO,Yi,tiK,frzA,frz,AV.keys]
   first|rfl|exact ⟨rfl,by simp[frzO]⟩
 . simp -implicitDefEqProofs[Z8b,Z8c,isa,e1,e2,b1,b2,k1,k2,k3,k4,k5,k6,FinO,Yi,tiK,frzA,frz,AV.keys,fz]
   first|rfl|exact ⟨rfl,by simp[frzO]⟩
def twSZ (r:Jr) (j:Nat):Nat->St
 |0=>⟨[(4,.int .i64 0),(3,.ptr 3 0),(1,.ptr 1 0),(2,.ptr 2 0)],[(1,.box [.vsl (r.map isa)]),(2,.box [.nils]),(3,.box [.nils])]⟩
 |i+1=>⟨[(4,.int .i64 (i+1:Nat)),(3,.ptr 3 0),(1,.ptr 1 0),(2,.ptr 2 0)],[(1,.box [.vsl (r.map isa)]),(2,.box [.nils]),(3,.box [.osl 21 (i+1)]),(21,.row 5 ((twM r j).take (i+1)))]++twX r j (i+1)⟩
def twZK:Nat->Bool:=λk=>decide (k<1000) && !decide (k=21) && !decide (k=907)
def Zce (r:Jr) (j:Nat) (hj:j<r.length) (h:SmlR r):PB prog G 7 [] [rega r] (.agg [.osl 21 r.length]) [(21,.row 5 (twM r j)),(907,.row 3 ((at' r j).dms.map dma))]:=by
 have hs:=h.1;unfold Sml at hs;refine Z5h twZK (by intro k hk;simp[twZK]at hk;omega) Tryd.func7 rfl (by kernel_rfl) (rc:=Zc4) (by kernel_rfl) (rs:=Zc5) (by kernel_rfl) (W0C rfl) λR _ hG' hrd=>Qga ?_
 subst hG';simp -implicitDefEqProofs[Zc4,Zc5,rega];refine Z8m (twSZ r j) (λ_=>True) r.length (by simp only[twSZ];(first|exact Wka|exact Wkb)) trivial ?_ ?_
 . intro i hi _;have hx:=h.2 r[i] (W0e hi);have tk:=Zc8 (j:=j) hi;have ln:((twM r j).take i).length=i:=(by rw[W15,Zc6];omega);by_cases c:i=j
   . have cI:=Zcd (G:=R.G) r[i] hx.1 hx.2;rw[if_pos c]at tk;have eD:(at' r j).dms=r[i].dms:=(by rw[<- c,at_eq hi]);obtain ⟨x,hxx⟩:=Qex (r[i]);have hax:isa r[i]=[.int .i64 x.d,.int .i64 x.l,.int .u8 x.k,.vsl (x.its.map ita),.vsl (x.dms.map dma)]:=(by rw[<- hxx];rfl);have haz:isZ r[i]=[.int .i64 x.d,.int .i64 x.l,.int .u8 x.k,.vsl (x.its.map ita),.osl 907 x.dms.length]:=(by rw[<- hxx];rfl);rw[haz]at tk;rw[<- hxx]at cI eD;have eX:isa x=[.int .i64 x.d,.int .i64 x.l,.int .u8 x.k,.vsl (x.its.map ita),.vsl (x.dms.map dma)]:=rfl;rw[eX]at cI
     have rX:∀ ρ,AObj.ren ρ (.row 3 (x.dms.map dma)) = .row 3 (x.dms.map dma):=λρ=>by
      simp only[AObj.ren,W10]
      congr 2
      funext p;simp[dma,AV.ren]
     cases i with
     | zero =>
       have w1:i64.wrap 1=1:=rfl;refine Yb mixed 9 ?_;simp -implicitDefEqProofs[twSZ,hi];refine GO0 (Z5s mixed ?_)
       iterate 7 (rw[RE_op (by simp[wants]) (by simp[Z1y])];simp -implicitDefEqProofs[execE,hi,hax])
       rw[Z5u (by simp[wants])];simp -implicitDefEqProofs;refine CallE.new (NewS.of cI (λk=>k+900) (by simp) (by simp[St.get,lk]) (by simp[AV.pure]) rfl) ?_;simp -implicitDefEqProofs[Yl,rX,AV.ren]
       iterate 4 (rw[RE_op (by simp[wants]) (by simp[Z1y])];simp -implicitDefEqProofs[execE])
       refine ⟨rfl,?_⟩;refine Qgr ?_;simp -implicitDefEqProofs[w1];have tk0:(twM r j).take 1=[[.int .i64 x.d,.int .i64 x.l,.int .u8 x.k,.vsl (x.its.map ita),.osl 907 x.dms.length]]:=(by rw[tk];rfl);simp only[twSZ,twX,twJ,if_neg (show ¬0+1<=j by omega),eD];exact Ym.sub (by simp[lk,Ya,AV.keys]) (by simp[lk,Yc,Ya,AV.keys,tk0,dma])
     | succ i =>
       have w1:i64.wrap ((i:Int)+1+1)=(i:Int)+1+1:=Yf;have k1:(i:Int)+1<r.length:=(by omega);have k2:((i:Int)+1).toNat=i+1:=(by omega);have k3:(0:Int)<=(i:Int)+1:=(by omega);have b2:(i+1+1)*72<=70368744177664:=(by omega);have hX:twX r j (i+1)=[]:=if_pos (by omega);refine Yb mixed 9 ?_;simp -implicitDefEqProofs[twSZ,hi,k1,hX];refine GO0 (Z5s mixed ?_)
       iterate 7 (rw[RE_op (by simp[wants]) (by simp[Z1y])];simp -implicitDefEqProofs[execE,hi,hax,k1,k2,k3])
       rw[Z5u (by simp[wants])];simp -implicitDefEqProofs;refine CallE.new (NewS.of cI (λk=>k+900) (by simp) (by simp[St.get,lk]) (by simp[AV.pure]) rfl) ?_;simp -implicitDefEqProofs[Yl,rX,AV.ren]
       iterate 4 (rw[RE_op (by simp[wants]) (by simp[Z1y])];simp -implicitDefEqProofs[execE,ln,b2])
       refine ⟨rfl,?_⟩;refine Qgr ?_;simp -implicitDefEqProofs[w1];have kp:∀ o,(lk o 907).isSome=true->Yc o (.row 5 ((twM r j).take (i+1+1)))=true:=λo h=>Zcb hi hj (.inr h)
       simp only[twSZ,twX,twJ,if_neg (show ¬i+1+1<=j by omega),eD];refine Ym.sub (by simp[lk,Ya,AV.keys]) ?_;simp only[W1d,W18,W0g,W0Q,or_false,W1I,forall_eq];refine ⟨by simp[lk,Yc,Ya,AV.keys],by simp[lk,Yc,Ya,AV.keys],by simp[lk,Yc,Ya,AV.keys],⟨by simp[lk,tk],kp _ (by simp[lk])⟩,by simp[lk,Yc,Ya,AV.keys,dma]⟩
   . have cI:=Z8D (G:=R.G) r[i] hx.1 hx.2;rw[if_neg c]at tk;obtain ⟨x,hxx⟩:=Qex (r[i]);have hax:isa r[i]=[.int .i64 x.d,.int .i64 x.l,.int .u8 x.k,.vsl (x.its.map ita),.vsl (x.dms.map dma)]:=(by rw[<- hxx];rfl);rw[hax]at tk cI;have kp:∀ o,i+1<=j∨(lk o 907).isSome=true->Yc o (.row 5 ((twM r j).take (i+1)))=true:=λo h=>Zcb hi hj h
     refine Qga ?_
     cases i with
     | zero =>
       have w1:i64.wrap 1=1:=rfl;have hX:twX r j (0+1)=[]:=if_pos (by omega);simp -implicitDefEqProofs[twSZ,hi,hax];refine Qco (cI) ?_;simp -implicitDefEqProofs[w1];refine ⟨rfl,?_⟩;have tk0:(twM r j).take 1=[[.int .i64 x.d,.int .i64 x.l,.int .u8 x.k,.vsl (x.its.map ita),.vsl (x.dms.map dma)]]:=(by rw[tk];rfl);simp only[twSZ,hX];exact Ym.sub (by simp[lk,Ya,AV.keys]) (by simp[lk,Yc,Ya,AV.keys,tk0])
     | succ i =>
       have w1:i64.wrap ((i:Int)+1+1)=(i:Int)+1+1:=Yf;have k1:(i:Int)+1<r.length:=(by omega);have k2:((i:Int)+1).toNat=i+1:=(by omega);have k3:(0:Int)<=(i:Int)+1:=(by omega);have b2:(i+1+1)*72<=70368744177664:=(by omega);rcases Nat.lt_or_gt_of_ne c with c|c
       . have hX:twX r j (i+1)=[]:=if_pos (by omega);have hX2:twX r j (i+1+1)=[]:=if_pos (by omega);simp -implicitDefEqProofs[twSZ,hi,k1,k2,k3,hax,hX];refine Qco (cI) ?_;simp -implicitDefEqProofs[w1,ln,b2];refine ⟨rfl,?_⟩;simp only[twSZ,hX2];refine Ym.sub (by simp[lk,Ya,AV.keys]) ?_;simp only[W1d,W18,W0g,W0Q,or_false,W1I,forall_eq];exact ⟨by simp[lk,Yc,Ya,AV.keys],by simp[lk,Yc,Ya,AV.keys],by simp[lk,Yc,Ya,AV.keys],by simp[lk,tk],kp _ (.inl (by omega))⟩
       . have hX:twX r j (i+1)=twJ r j:=if_neg (by omega);have hX2:twX r j (i+1+1)=twJ r j:=if_neg (by omega);simp -implicitDefEqProofs[twSZ,hi,k1,k2,k3,hax,hX,twJ];refine Qco (cI) ?_;simp -implicitDefEqProofs[w1,ln,b2];refine ⟨rfl,?_⟩;simp only[twSZ,hX2,twJ];refine Ym.sub (by simp[lk,Ya,AV.keys]) ?_;simp only[W1d,W18,W0g,W0Q,or_false,W1I,forall_eq];exact ⟨by simp[lk,Yc,Ya,AV.keys],by simp[lk,Yc,Ya,AV.keys],by simp[lk,Yc,Ya,AV.keys],⟨by simp[lk,tk],kp _ (.inr (by simp[lk]))⟩,by simp[lk,Yc,Ya,AV.keys,dma]⟩
 . intro _;refine Qga ?_;obtain ⟨n,hn⟩ : ∃ n,r.length=n+1:=⟨r.length-1,by omega⟩;have k1:¬(n:Int)+1<n+1:=(by omega);have hX:twX r j (n+1)=twJ r j:=if_neg (by omega);have e1:(twM r j).take (n+1)=twM r j:=(by rw[<- hn,Zc9]);have f1:∀ st,frzO twZK st (.row 5 (twM r j)) = .row 5 (twM r j):=λst=>Zcc r j twZK rfl st
   have f2:∀ ok st,frzO ok st (.row 3 ((at' r j).dms.map dma)) = .row 3 ((at' r j).dms.map dma):=λok st=>by
    simp only[frzO,W10]
    congr 2
    funext p;simp[dma,frzA,frz,AV.keys]
   rw[hn];simp -implicitDefEqProofs[twSZ,hn,k1,e1,hX,twJ];refine Qgr ?_;simp -implicitDefEqProofs[hn,FinO,Yi,twZK,frzA,frz,AV.keys,f1,f2]
section
open Qq Go.Proofs.Tryd
def Zcf:RCode :=
 S [r 0 [b 1 0,n 2 (.bool false)],r 1 [L 3 1 1,c 4 6 [3],t 5 4,m 6 5,g 6 true (L 7 1 1),g 6 true (c 8 47 [7]),g 6 true (k 9 .eql 8 O),v 10 6 9,m 2 10],.ret]
def Zcg:List RRes:=[.t 2]
def Zch:PCt prog 15 f15 Zcf Zcg:=pcT func15 rfl
end
section
open Qq Go.Proofs.Tryd
noncomputable def Zci:RCode :=
 S [r 0 [n 2 .nils],r 1 [n 3 O],S [r 2 [m 9 0,e 10 9,n 11 O],.block 0 (.loop (S [r 3 [o 12 .lss 11 10],.cond (.t 12) .skip (.exit 0),.block 1 (S [r 4 [i 13 1 9 11,l 14 13,m 5 14],r 5 [m 15 3,m 16 5,e 17 16,o 18 .add 15 17,m 3 18],r 6 [m 19 3,k 20 .lss 19 O],.cond (.t 20) (.raw (λ_ _=>true)) .skip]),r 8 [k 22 .add 11 I,m 11 22]]))],r 9 [m 23 3,w 24 (.calln 66 [.c .nils,.t 23]),m 6 24],S [r 10 [m 25 0,e 26 25,n 27 O],.block 2 (.loop (S [r 11 [o 28 .lss 27 26],.cond (.t 28) .skip (.exit 2),.block 3 (S [r 12 [i 29 1 25 27,l 30 29,m 8 30],r 13 [m 31 6,m 32 8,w 33 (.app 5 72 (.t 31) (.t 32)),m 6 33]]),r 14 [k 34 .add 27 I,m 27 34]]))],r 15 [m 35 6,m 2 35],.ret]
def Zcj:List RRes:=[.t 2]
def Zck:PCt prog 36 f36 Zci Zcj:=pcT func36 rfl
def Zcl:RCode :=
 r 0 [m 4 0,m 5 0,e 6 5,m 7 1,c 8 69 [4,6,7]]
def Zcm:List RRes:=[]
def Zcn {G:Jg} {objs objs':List (Nat×AObj)} {args:List AV} {v:AV} (hn:args.length<=f38.ntmps) (h:∀ R:Run,R.G=G->R.Top->AR prog R Zcl ⟨iniT 0 args,objs⟩ (FinB Zcm v objs')):PB prog G 38 objs args v objs' :=
 PB_of func38 rfl (by kernel_rfl) (rc:=Zcl) (by kernel_rfl) (rs:=Zcm) (by kernel_rfl) hn (λR _ hG hr=>h R hG hr)
def Zco:RCode :=
 S [r 0 [n 6 (.int .i64 20)],r 1 [m 10 6,n 7 O,m 8 10],.block 0 (.loop (S [S [r 2 [m 11 8,m 12 1,o 13 .leq 11 12],.cond (.t 13) .skip (.exit 0)],.block 1 (S [r 3 [m 14 0,m 15 7,m 16 8,m 17 2,c 18 83 [14,15,16,17]],r 4 [m 19 8,m 7 19],r 5 [m 20 8,m 21 6,o 22 .add 20 21,m 8 22]])])),r 6 [m 23 0,m 24 7,m 25 1,m 26 2,c 27 83 [23,24,25,26]],.block 2 (.loop (S [S [r 7 [m 28 6,m 29 1,o 30 .lss 28 29],.cond (.t 30) .skip (.exit 2)],.block 3 (S [r 8 [m 31 6,w 32 (.bin .mul (.c (.int .i64 2)) (.t 31)),n 7 O,m 8 32],.block 4 (.loop (S [S [r 9 [m 33 8,m 34 1,o 35 .leq 33 34],.cond (.t 35) .skip (.exit 4)],.block 5 (S [r 10 [m 36 0,m 37 7,m 38 7,m 39 6,o 40 .add 38 39,m 41 8,m 42 2,c 43 84 [36,37,40,41,42]],r 11 [m 44 8,m 7 44],r 12 [m 45 8,m 46 6,w 47 (.bin .mul (.c (.int .i64 2)) (.t 46)),o 48 .add 45 47,m 8 48]])])),S [r 13 [m 49 7,m 50 6,o 51 .add 49 50,m 9 51],r 14 [m 52 9,m 53 1,o 54 .lss 52 53],.cond (.t 54) (r 15 [m 55 0,m 56 7,m 57 9,m 58 1,m 59 2,c 60 84 [55,56,57,58,59]]) .skip],r 16 [m 61 6,k 62 .mul 61 (.int .i64 2),m 6 62]])]))]
def Zcp:List RRes:=[]
def Zcq {G:Jg} {objs objs':List (Nat×AObj)} {args:List AV} {v:AV} (hn:args.length<=f69.ntmps) (h:∀ R:Run,R.G=G->R.Top->AR prog R Zco ⟨iniT 0 args,objs⟩ (FinB Zcp v objs')):PB prog G 69 objs args v objs' :=
 PB_of func69 rfl (by kernel_rfl) (rc:=Zco) (by kernel_rfl) (rs:=Zcp) (by kernel_rfl) hn (λR _ hG hr=>h R hG hr)
def Zcr:RCode :=
 S [r 0 [m 10 1,k 11 .add 10 I,m 8 11],.block 0 (.loop (S [S [r 1 [m 12 8,m 13 2,o 14 .lss 12 13],.cond (.t 14) .skip (.exit 0)],.block 1 (S [r 3 [m 17 8,m 9 17],.block 2 (.loop (S [S [R 4 [m 18 9,m 19 1,a [0,1] (o 20 .gtr 18 19),a [2] (m 21 20),a [3] (g 21 true (m 22 3)),a [3] (g 21 true (m 23 0)),a [3] (g 21 true (m 24 9)),a [5,6,3] (g 21 true (i 25 5 23 24)),a [7,3] (g 21 true (L 26 5 25)),a [3] (g 21 true (m 27 0)),a [3] (g 21 true (m 28 9)),a [10,3] (g 21 true (k 29 .sub 28 I)),a [9,11,3] (g 21 true (i 30 5 27 29)),a [12,3] (g 21 true (L 31 5 30)),a [4,8,13,3,3] (g 21 true (w 32 (.callv (.t 22) [.t 26,.t 31]))),a [14,3] (g 21 true (k 33 .lss 32 O)),a [3,15] (v 34 21 33)],.cond (.t 34) .skip (.exit 2)],.block 3 (R 6 [m 37 0,m 38 9,m 39 0,m 40 9,a [3] (k 41 .sub 40 I),m 42 0,m 43 9,a [6] (k 44 .sub 43 I),a [5,7] (i 45 5 42 44),a [8] (L 46 5 45),m 47 0,m 48 9,a [10,11] (i 49 5 47 48),a [12] (L 50 5 49),a [0,1,0,1,5,6,7,8,9,13] (i 51 5 37 38),a [14,9,0,1,5,6,7,8,9,13] (s 5 51 46),a [2,4,0,1,2,3,4,5,6,7,8,9,10,11,12,13,14,15] (i 52 5 39 41),a [16,13,15,0,1,2,3,4,5,6,7,8,9,10,11,12,13,14,15] (s 5 52 50)]),r 5 [m 35 9,k 36 .sub 35 I,m 9 36]]))]),r 2 [m 15 8,k 16 .add 15 I,m 8 16]]))]
def Zcs:List RRes:=[]
def Zct {G:Jg} {objs objs':List (Nat×AObj)} {args:List AV} {v:AV} (hn:args.length<=f83.ntmps) (h:∀ R:Run,R.G=G->R.Top->AR prog R Zcr ⟨iniT 0 args,objs⟩ (FinB Zcs v objs')):PB prog G 83 objs args v objs' :=
 PB_of func83 rfl (by kernel_rfl) (rc:=Zcr) (by kernel_rfl) (rs:=Zcs) (by kernel_rfl) hn (λR _ hG hr=>h R hG hr)
def Zcu:RCode :=
 S [r 0 [b 2 0,b 3 1,n 4 O],r 1 [f 5 0 2,l 6 5,f 7 0 3,l 8 7,o 9 .sub 6 8,f 10 1 2,l 11 10,f 12 1 3,l 13 12,o 14 .sub 11 13,w 15 (.bsl false 1 2 [O,O] [(0,.t 9),(1,.t 14)]),c 16 40 [15],m 4 16],.ret]
def Zcv:List RRes:=[.t 4]
def Zcw:PCt prog 39 f39 Zcu Zcv:=pcT func39 rfl
def Zcx:RCode :=
 S [r 0 [b 2 0,b 3 1,n 4 (.bool false)],R 1 [L 5 5 2,a [0] (c 6 43 [5]),L 7 5 3,a [2,1] (c 8 43 [7]),a [1,3] (w 9 (.eqs false [.i,.i] (.t 6) (.t 8))),a [4,3,0,1,2,3,4] (m 4 9)],.ret]
def Zcy:List RRes:=[.t 4]
def Zcz:PCt prog 42 f42 Zcx Zcy:=pcT func42 rfl
def ZcA:RCode :=
 S [r 0 [n 2 O],r 1 [n 3 O],S [r 2 [m 6 0,e 7 6,n 8 O],.block 0 (.loop (S [r 3 [o 9 .lss 8 7],.cond (.t 9) .skip (.exit 0),.block 1 (S [r 4 [i 10 1 6 8,l 11 10,m 5 11],r 5 [m 12 5,m 13 3,o 14 .neq 12 13],K 14 6 [m 15 5,m 2 15]]),r 7 [k 16 .add 8 I,m 8 16]]))],r 8 [m 17 3,m 2 17],.ret]
def ZcB:List RRes:=[.t 2]
def ZcC:PCt prog 40 f40 ZcA ZcB:=pcT func40 rfl
def ZcD:RCode :=
 S [r 0 [n 4 .nils],S [r 1 [m 8 0,e 9 8,k 10 .lss 9 (.int .i64 2)],K 10 2 [m 11 0,m 4 11]],S [r 3 [n 5 I],.block 0 (.loop (S [S [r 4 [m 12 5,m 13 0,e 14 13,o 15 .lss 12 14],.cond (.t 15) .skip (.exit 0)],.block 1 (S [R 6 [m 18 1,m 19 0,m 20 5,a [1,2] (i 21 5 19 20),a [3] (L 22 5 21),m 23 0,m 24 5,a [6] (k 25 .sub 24 I),a [5,7] (i 26 5 23 25),a [8] (L 27 5 26),a [0,4,9] (w 28 (.callv (.t 18) [.t 22,.t 27]))],.cond (.t 28) (S [r 7 [m 29 0,m 30 5,w 31 (.slc 5 (.t 29) (some (.t 30)) none),m 6 31],S [r 8 [n 7 I],.block 2 (.loop (S [S [r 9 [m 32 7,m 33 6,e 34 33,o 35 .lss 32 34],.cond (.t 35) .skip (.exit 2)],.block 3 (S [R 11 [m 38 1,m 39 6,m 40 7,a [1,2] (i 41 5 39 40),a [3] (L 42 5 41),m 43 6,m 44 7,a [6] (k 45 .sub 44 I),a [5,7] (i 46 5 43 45),a [8] (L 47 5 46),a [0,4,9] (w 48 (.callv (.t 38) [.t 42,.t 47])),a [10] (t 49 48)],.cond (.t 49) (S [r 12 [m 50 0,m 51 5,m 52 6,m 53 7,i 54 5 52 53,L 55 5 54,i 56 5 50 51,s 5 56 55],r 13 [m 57 5,k 58 .add 57 I,m 5 58]]) .skip]),r 10 [m 36 7,k 37 .add 36 I,m 7 37]]))],r 14 [m 59 0,m 60 5,w 61 (.slc 5 (.t 59) (some (.t 60)) none),z (.clr 5 [O,O,.int .u8 0,.nils,.nils] (.t 61))],r 15 [m 62 0,m 63 5,w 64 (.slc 5 (.t 62) none (some (.t 63))),m 4 64],.ret]) .skip]),r 5 [m 16 5,k 17 .add 16 I,m 5 17]]))],r 16 [m 65 0,m 4 65],.ret]
def ZcE:List RRes:=[.t 4]
def ZcF {G:Jg} {objs objs':List (Nat×AObj)} {args:List AV} {v:AV} (hn:args.length<=f41.ntmps) (h:∀ R:Run,R.G=G->R.Top->AR prog R ZcD ⟨iniT 0 args,objs⟩ (FinB ZcE v objs')):PB prog G 41 objs args v objs' :=
 PB_of func41 rfl (by kernel_rfl) (rc:=ZcD) (by kernel_rfl) (rs:=ZcE) (by kernel_rfl) hn (λR _ hG hr=>h R hG hr)
def ZcG:RCode :=
 S [r 0 [b 2 0,b 3 1,w 4 (.alloc [.nils]),n 5 O],r 1 [L 14 1 2,L 15 1 3,c 16 33 [14,15],m 13 16,x 17 0 13,x 18 1 13,x 19 2 13,m 6 17,m 7 18,m 8 19],S [r 2 [m 20 8,k 21 .neq 20 O],K 21 3 [w 22 (.build [.nils] []),m 23 8,s 1 4 22,m 5 23]],S [r 4 [m 24 6,e 25 24,k 26 .gtr 25 O],K 26 5 [w 27 (.build [.nils] []),s 1 4 27,n 5 (.int .i64 23)]],r 6 [w 9 (.alloc [.nils])],S [r 7 [f 28 0 2,l 29 28,f 30 0 3,l 31 30,w 32 (.bsl false 1 2 [.nils,.nils] [(0,.t 29),(1,.t 31)]),c 33 36 [32],e 34 33,n 35 O],.block 0 (.loop (S [r 8 [o 36 .lss 35 34],.cond (.t 36) .skip (.exit 0),.block 1 (S [r 9 [i 37 5 33 35,L 38 5 37,w 11 (.alloc [O,O,.int .u8 0,.nils,.nils]),s 5 11 38],R 10 [f 39 0 9,a [0] (l 40 39),L 41 5 11,a [2] (c 42 37 [41]),a [3] (w 43 (.bsl false 5 1 [O,O,.int .u8 0,.nils,.nils] [(0,.t 42)])),a [1,4,3] (w 44 (.app 5 72 (.t 40) (.t 43))),a [0,1,2,3,4,5] (f 45 0 9),a [6,5,5,0,1,2,3,4,5] (s 1 45 44)]]),r 11 [k 46 .add 35 I,m 35 46]]))],r 12 [f 47 0 9,l 48 47,w 49 (.call 38 [.t 48,.c (.func (.func 39) [] [])])],r 13 [f 50 0 9,l 51 50,w 52 (.call 41 [.t 51,.c (.func (.func 42) [] [])]),f 53 0 9,s 1 53 52],S [r 14 [L 54 1 9,c 55 17 [54],m 12 55],r 15 [m 56 12,k 57 .neq 56 O],K 57 16 [w 58 (.build [.nils] []),m 59 12,s 1 4 58,m 5 59]],r 17 [L 60 1 9,s 1 4 60,n 5 O],.ret]
def ZcH:List RRes:=[.c 4 true 1,.t 5]
def ZcI:PCt prog 10 f10 ZcG ZcH:=pcT func10 rfl
def ZcJ:RCode :=
 S [r 0 [b 2 0,b 3 1,n 4 .nils,n 5 .nilp,n 6 O],S [r 1 [L 15 1 2,c 16 17 [15],m 7 16],r 2 [m 17 7,k 18 .neq 17 O],K 18 3 [m 19 7,n 4 .nils,n 5 .nilp,m 6 19]],r 4 [L 21 1 3,c 22 53 [21],m 20 22,x 23 0 20,x 24 1 20,m 8 23,m 9 24],S [r 5 [m 25 9,k 26 .neq 25 O],K 26 6 [m 27 9,n 4 .nils,n 5 .nilp,m 6 27]],r 7 [n 10 .nils],S [r 8 [f 28 0 2,l 29 28,e 30 29,n 31 O],.block 0 (.loop (S [r 9 [o 32 .lss 31 30],.cond (.t 32) .skip (.exit 0),.block 1 (S [r 10 [i 33 5 29 31,L 34 5 33,w 12 (.alloc [O,O,.int .u8 0,.nils,.nils]),s 5 12 34],r 11 [m 36 8,L 37 5 12,c 38 43 [37],c 39 62 [36,38],m 35 39,x 40 0 35,x 41 1 35,w 13 (.alloc [O,O,.int .u8 0,.nils,.nils]),s 5 13 40,m 14 41],r 12 [m 42 14,m 43 42,g 43 true (L 44 5 12),g 43 true (L 45 5 13),g 43 true (c 46 65 [44,45]),g 43 true (t 47 46),v 48 43 47],.cond (.t 48) (r 13 [m 49 10,L 50 5 12,c 51 43 [50],w 52 (.bsl false 2 1 [O,O] [(0,.t 51)]),w 53 (.app 2 16 (.t 49) (.t 52)),m 10 53]) .skip]),r 14 [k 54 .add 31 I,m 31 54]]))],r 15 [m 55 10,m 56 8,m 4 55,m 5 56,n 6 O],.ret]
def ZcK:List RRes:=[.t 4,.t 5,.t 6]
def ZcL:PCt prog 33 f33 ZcJ ZcK:=pcT func33 rfl
def ZcM:RCode :=
 S [r 0 [b 2 0,b 3 1,n 4 (.bool false)],R 1 [L 5 5 2,a [0] (c 6 43 [5]),L 7 5 3,a [2,1] (c 8 43 [7]),a [1,3] (w 9 (.eqs false [.i,.i] (.t 6) (.t 8))),a [4,3] (m 10 9),a [5] (g 10 true (f 11 2 2)),a [6,5] (g 10 true (l 12 11)),a [5] (g 10 true (f 13 2 3)),a [8,5] (g 10 true (l 14 13)),a [7,9,5] (g 10 true (o 15 .eql 12 14)),a [5,10] (v 16 10 15),a [11,5] (m 17 16),a [12] (g 17 true (f 18 3 2)),a [13,12] (g 17 true (l 19 18)),a [12] (g 17 true (f 20 3 3)),a [15,12] (g 17 true (l 21 20)),a [12] (g 17 true (w 22 (.mkf (.func 81) [] [.t 2,.t 3]))),a [14,16,17,12,12] (g 17 true (c 23 80 [19,21,22])),a [12,18] (v 24 17 23),a [19,18,0,1,2,3,4,5,6,7,8,9,10,11,12,13,14,15,16,17,18,19] (m 4 24)],.ret]
def ZcN:List RRes:=[.t 4]
def ZcO:PCt prog 65 f65 ZcM ZcN:=pcT func65 rfl
def ZcP:RCode :=
 S [r 0 [n 2 (.bool false)],r 1 [f 3 4 0,l 4 3,f 5 4 1,l 6 5,c 7 82 [4,6],m 2 7],.ret]
def ZcQ:List RRes:=[.t 2]
def ZcR:PCt prog 81 f81 ZcP ZcQ:=pcT func81 rfl
def ZcS:RCode :=
 S [r 0 [n 6 (.bool false)],r 1 [m 7 0,m 8 1,c 9 97 [7,8],m 10 9,g 10 true (m 11 2),g 10 true (w 12 (.callv (.t 11) [])),v 13 10 12,m 6 13],.ret]
def ZcT:List RRes:=[.t 6]
def ZcU:PCt prog 80 f80 ZcS ZcT:=pcT func80 rfl
def ZcV:RCode :=
 S [r 0 [n 4 (.bool false)],S [r 1 [m 6 0,e 7 6,m 8 1,e 9 8,o 10 .neq 7 9],K 10 2 [n 4 (.bool false)]],S [r 3 [m 11 0,e 12 11,n 13 O],.block 0 (.loop (S [r 4 [o 14 .lss 13 12],.cond (.t 14) .skip (.exit 0),.block 1 (S [r 5 [m 15 13,m 5 15],R 6 [m 16 0,m 17 5,a [0,1] (i 18 3 16 17),a [2] (L 19 3 18),m 20 1,m 21 5,a [4,5] (i 22 3 20 21),a [6] (L 23 3 22),a [3,7] (w 24 (.eqs true [.i,.i,.i] (.t 19) (.t 23)))],K 24 7 [n 4 (.bool false)]]),r 8 [k 25 .add 13 I,m 13 25]]))],r 9 [n 4 (.bool true)],.ret]
def ZcW:List RRes:=[.t 4]
def ZcX:PCt prog 82 f82 ZcV ZcW:=pcT func82 rfl
def ZcY:RCode :=
 S [r 0 [n 4 (.bool false)],S [r 1 [m 6 0,e 7 6,m 8 1,e 9 8,o 10 .neq 7 9],K 10 2 [n 4 (.bool false)]],S [r 3 [m 11 0,e 12 11,n 13 O],.block 0 (.loop (S [r 4 [o 14 .lss 13 12],.cond (.t 14) .skip (.exit 0),.block 1 (S [r 5 [m 15 13,m 5 15],R 6 [m 16 0,m 17 5,a [0,1] (i 18 2 16 17),a [2] (L 19 2 18),m 20 1,m 21 5,a [4,5] (i 22 2 20 21),a [6] (L 23 2 22),a [3,7] (w 24 (.eqs true [.i,.i] (.t 19) (.t 23)))],K 24 7 [n 4 (.bool false)]]),r 8 [k 25 .add 13 I,m 13 25]]))],r 9 [n 4 (.bool true)],.ret]
def ZcZ:List RRes:=[.t 4]
def Zd0:PCt prog 97 f97 ZcY ZcZ:=pcT func97 rfl
def Zd1:RCode :=
 S [r 0 [w 0 (.alloc [.nils])],r 1 [w 1 (.call 26 [.c (.int .i64 20),.c (.int .i64 2)]),w 2 (.call 26 [.c (.int .i64 30),.c I]),w 3 (.bsl false 2 2 [O,O,O,O] [(0,.t 1),(1,.t 2)]),w 4 (.call 56 [.c (.int .i64 10),.c I,.t 3]),w 5 (.call 26 [.c (.int .i64 20),.c I]),w 6 (.call 26 [.c (.int .i64 30),.c (.int .i64 2)]),w 7 (.call 26 [.c (.int .i64 40),.c (.int .i64 2)]),w 8 (.bsl false 2 3 [O,O,O,O,O,O] [(0,.t 5),(1,.t 6),(2,.t 7)]),w 9 (.call 56 [.c (.int .i64 10),.c (.int .i64 2),.t 8]),w 10 (.call 26 [.c (.int .i64 30),.c (.int .i64 3)]),w 11 (.call 26 [.c (.int .i64 50),.c I]),w 12 (.bsl false 2 2 [O,O,O,O] [(0,.t 10),(1,.t 11)]),w 13 (.call 56 [.c (.int .i64 20),.c I,.t 12]),w 14 (.build [O,O,O] [(0,1,.c (.int .i64 150)),(1,1,.c (.int .i64 100)),(2,1,.c (.int .i64 200))]),w 15 (.bsl false 3 1 [O,O,O] [(0,.t 14)]),w 16 (.call 57 [.c (.int .i64 30),.c I,.c (.int .u8 2),.t 15]),w 17 (.build [O,O,O] [(0,1,.c (.int .i64 150)),(1,1,.c (.int .i64 120)),(2,1,.c (.int .i64 200))]),w 18 (.bsl false 3 1 [O,O,O] [(0,.t 17)]),w 19 (.call 57 [.c (.int .i64 30),.c (.int .i64 2),.c (.int .u8 2),.t 18]),w 20 (.call 57 [.c (.int .i64 40),.c I,.c (.int .u8 2),.c .nils]),w 21 (.call 57 [.c (.int .i64 50),.c I,.c (.int .u8 3),.c .nils]),w 22 (.bsl false 5 7 [O,O,.int .u8 0,.nils,.nils,O,O,.int .u8 0,.nils,.nils,O,O,.int .u8 0,.nils,.nils,O,O,.int .u8 0,.nils,.nils,O,O,.int .u8 0,.nils,.nils,O,O,.int .u8 0,.nils,.nils,O,O,.int .u8 0,.nils,.nils] [(0,.t 4),(1,.t 9),(2,.t 13),(3,.t 16),(4,.t 19),(5,.t 20),(6,.t 21)]),w 23 (.build [.nils] [(0,1,.t 22)]),s 1 0 23],.ret]
def Zd2:List RRes:=[.c 0 true 1]
def Zd3:PCt prog 19 f19 Zd1 Zd2:=pcT func19 rfl
def Zd4:RCode :=
 S [r 0 [n 0 .nils],r 1 [w 1 (.bsl false 1 5 [O,O,O,O,O] [(0,.c I),(1,.c I),(2,.c I),(3,.c I),(4,.c I)]),m 0 1],.ret]
def Zd5:List RRes:=[.t 0]
def Zd6:PCt prog 23 f23 Zd4 Zd5:=pcT func23 rfl
def Zd7:RCode :=
 S [r 0 [n 0 .nils],r 1 [w 1 (.bsl false 1 5 [O,O,O,O,O] [(0,.c (.int .i64 2)),(1,.c I),(2,.c I),(3,.c I),(4,.c I)]),m 0 1],.ret]
def Zd8:List RRes:=[.t 0]
def Zd9:PCt prog 20 f20 Zd7 Zd8:=pcT func20 rfl
def Zda:RCode :=
 S [r 0 [w 6 (.alloc [O,O,.int .u8 0,.nils,.nils])],r 1 [m 7 0,m 8 1,m 9 2,w 10 (.build [O,O,.int .u8 0,.nils,.nils] [(0,1,.t 7),(1,1,.t 8),(2,1,.c (.int .u8 1)),(3,1,.t 9)]),s 5 6 10],.ret]
def Zdb:List RRes:=[.c 6 true 5]
def Zdc:PCt prog 56 f56 Zda Zdb:=pcT func56 rfl
def Zdd:RCode :=
 S [r 0 [w 8 (.alloc [O,O,.int .u8 0,.nils,.nils])],r 1 [m 9 0,m 10 1,m 11 2,m 12 3,w 13 (.build [O,O,.int .u8 0,.nils,.nils] [(0,1,.t 9),(1,1,.t 10),(2,1,.t 11),(4,1,.t 12)]),s 5 8 13],.ret]
def Zde:List RRes:=[.c 8 true 5]
def Zdf:PCt prog 57 f57 Zdd Zde:=pcT func57 rfl
def Zdg:RCode :=
 S [r 0 [w 4 (.alloc [O,O])],r 1 [m 5 0,m 6 1,w 7 (.build [O,O] [(0,1,.t 5),(1,1,.t 6)]),s 2 4 7],.ret]
def Zdh:List RRes:=[.c 4 true 2]
def Zdi:PCt prog 26 f26 Zdg Zdh:=pcT func26 rfl
def Zdj:RCode :=
 S [r 0 [n 0 (.bool false)],r 1 [c 24 19 [],c 25 49 [24],m 23 25,x 26 0 23,x 27 1 23,m 1 26,m 2 27],r 2 [c 29 19 [],c 30 23 [],w 31 (.call 18 [.t 29,.t 30,.c (.int .i64 10)]),m 28 31,x 32 0 28,x 33 1 28,m 3 32,m 4 33],r 3 [c 35 19 [],w 36 (.bsl false 1 5 [O,O,O,O,O] [(0,.c I),(1,.c I),(2,.c (.int .i64 2)),(3,.c I),(4,.c I)]),w 37 (.call 30 [.t 35,.t 36,.c (.int .i64 10)]),m 34 37,x 38 0 34,x 39 1 34,m 5 38,m 6 39],r 4 [c 41 19 [],w 42 (.call 31 [.t 41,.c (.int .i64 30)]),m 40 42,x 43 0 40,x 44 1 40,m 7 43,m 8 44],r 5 [c 46 19 [],c 47 20 [],w 48 (.call 22 [.t 46,.t 47,.c (.int .i64 40)]),m 45 48,x 49 0 45,x 50 1 45,m 9 49,m 10 50],r 6 [c 52 19 [],w 53 (.call 24 [.t 52,.c (.int .i64 10),.c I,.c (.int .i64 2)]),m 51 53,x 54 0 51,x 55 1 51,x 56 2 51,m 11 54,m 12 55,m 13 56],r 7 [c 58 19 [],w 59 (.call 21 [.t 58,.c (.int .i64 10)]),m 57 59,x 60 0 57,x 61 1 57,m 14 60,m 15 61],r 8 [c 63 19 [],w 64 (.call 28 [.t 63,.c (.int .i64 30)]),m 62 64,x 65 0 62,x 66 1 62,m 16 65,m 17 66],r 9 [c 68 19 [],w 69 (.build [O,O] [(0,1,.c (.int .i64 30)),(1,1,.c (.int .i64 2))]),c 70 29 [68,69],m 67 70,x 71 0 67,x 72 1 67,w 18 (.alloc [O,O,.int .u8 0,.nils,.nils]),s 5 18 71,m 19 72],r 10 [c 74 19 [],c 75 19 [],c 76 10 [74,75],m 73 76,x 77 0 73,x 78 1 73,w 20 (.alloc [.nils]),s 1 20 77,m 21 78],r 11 [w 79 (.build [O,O,O,O] [(0,1,.c O),(1,1,.c (.int .i64 10)),(2,1,.c I),(3,1,.c I)]),w 80 (.build [O,O,O,O] [(0,1,.c I),(1,1,.c (.int .i64 20)),(2,1,.c I),(3,1,.c (.int .i64 2))]),w 81 (.build [O,O,O,O] [(0,1,.c (.int .i64 2)),(1,1,.c (.int .i64 30)),(2,1,.c (.int .i64 2)),(3,1,.c (.int .i64 3))]),w 82 (.build [O,O,O,O] [(0,1,.c (.int .i64 2)),(1,1,.c (.int .i64 50)),(2,1,.c I),(3,1,.c I)]),w 83 (.build [O,O,O,O] [(0,1,.c I),(1,1,.c (.int .i64 30)),(2,1,.c (.int .i64 2)),(3,1,.c I)]),w 84 (.bsl false 4 5 [O,O,O,O,O,O,O,O,O,O,O,O,O,O,O,O,O,O,O,O] [(0,.t 79),(1,.t 80),(2,.t 81),(3,.t 82),(4,.t 83)]),m 22 84],S [r 12 [m 85 2,k 86 .neq 85 O,m 87 86,g 87 false (m 88 1),g 87 false (w 89 (.bsl false 1 5 [O,O,O,O,O] [(0,.c (.int .i64 10)),(1,.c (.int .i64 20)),(2,.c (.int .i64 30)),(3,.c (.int .i64 40)),(4,.c (.int .i64 50))])),g 87 false (c 90 27 [88,89]),g 87 false (t 91 90),u 92 87 91,m 93 92,g 93 false (m 94 4),g 93 false (k 95 .neq 94 O),u 96 93 95,m 97 96,g 97 false (m 98 3),g 97 false (w 99 (.call 26 [.c (.int .i64 30),.c (.int .i64 7)])),g 97 false (w 100 (.call 26 [.c (.int .i64 50),.c (.int .i64 2)])),g 97 false (w 101 (.bsl false 2 2 [O,O,O,O] [(0,.t 99),(1,.t 100)])),g 97 false (c 102 25 [98,101]),g 97 false (t 103 102),u 104 97 103,m 105 104,g 105 false (m 106 6),g 105 false (k 107 .neq 106 O),u 108 105 107,m 109 108,g 109 false (m 110 5),g 109 false (m 111 22),g 109 false (c 112 50 [110,111]),g 109 false (t 113 112),u 114 109 113,m 115 114,g 115 false (m 116 8),g 115 false (k 117 .neq 116 O),u 118 115 117,m 119 118,g 119 false (m 120 7),g 119 false (w 121 (.build [O,O] [(0,1,.c (.int .i64 10)),(1,1,.c I)])),g 119 false (w 122 (.build [O,O] [(0,1,.c (.int .i64 10)),(1,1,.c (.int .i64 2))])),g 119 false (w 123 (.build [O,O] [(0,1,.c (.int .i64 20)),(1,1,.c I)])),g 119 false (w 124 (.bsl false 2 3 [O,O,O,O,O,O] [(0,.t 121),(1,.t 122),(2,.t 123)])),g 119 false (c 125 12 [120,124]),g 119 false (t 126 125),u 127 119 126],K 127 13 [n 0 (.bool false)]],R 14 [m 128 10,a [0] (k 129 .eql 128 O),a [1] (m 130 129),a [2] (g 130 true (m 131 9)),a [2] (g 130 true (w 132 (.bsl false 1 1 [O] [(0,.c (.int .i64 10))]))),a [3,4,2,2] (g 130 true (c 133 27 [131,132])),a [2,5] (v 134 130 133),a [6,5] (m 135 134),a [7] (g 135 true (m 136 13)),a [8,7] (g 135 true (k 137 .eql 136 O)),a [7,9] (v 138 135 137),a [10,7] (m 139 138),a [11] (g 139 true (m 140 11)),a [11] (g 139 true (w 141 (.build [O,O,O] [(0,1,.c (.int .i64 20)),(1,1,.c (.int .i64 2)),(2,1,.c I)]))),a [11] (g 139 true (w 142 (.build [O,O,O] [(0,1,.c (.int .i64 30)),(1,1,.c I),(2,1,.c (.int .i64 2))]))),a [11] (g 139 true (w 143 (.build [O,O,O] [(0,1,.c (.int .i64 40)),(2,1,.c (.int .i64 2))]))),a [13,14,15,11] (g 139 true (w 144 (.bsl false 3 3 [O,O,O,O,O,O,O,O,O] [(0,.t 141),(1,.t 142),(2,.t 143)]))),a [12,16,11,11] (g 139 true (c 145 51 [140,144])),a [11,17] (v 146 139 145),a [18,17] (m 147 146),a [19] (g 147 true (m 148 12)),a [20,19] (g 147 true (e 149 148)),a [21,19] (g 147 true (k 150 .eql 149 O)),a [19,22] (v 151 147 150),a [23,19] (m 152 151),a [24] (g 152 true (m 153 15)),a [25,24] (g 152 true (k 154 .eql 153 O)),a [24,26] (v 155 152 154),a [27,24] (m 156 155),a [28] (g 156 true (m 157 14)),a [29,28] (g 156 true (k 158 .eql 157 (.int .i64 3))),a [28,30] (v 159 156 158),a [31,28] (m 160 159),a [32] (g 160 true (m 161 17)),a [33,32] (g 160 true (k 162 .eql 161 O)),a [32,34] (v 163 160 162),a [35,32] (m 164 163),a [36] (g 164 true (m 165 16)),a [37,36] (g 164 true (k 166 .eql 165 (.int .i64 2))),a [36,38] (v 167 164 166),a [39,36] (m 168 167),a [40] (g 168 true (m 169 19)),a [41,40] (g 168 true (k 170 .eql 169 O)),a [40,42] (v 171 168 170),a [43,40] (m 172 171),a [44] (g 172 true (L 173 5 18)),a [44,44] (g 172 true (c 174 19 [])),a [46,44] (g 172 true (w 175 (.field false 0 1 (.t 174)))),a [47,44] (g 172 true (w 176 (.iaddr 5 (.t 175) (.c (.int .i64 4))))),a [48,44] (g 172 true (L 177 5 176)),a [45,49,46,44] (g 172 true (c 178 48 [173,177])),a [44,50] (v 179 172 178),a [51,50] (m 180 179),a [52] (g 180 true (m 181 21)),a [53,52] (g 180 true (k 182 .eql 181 O)),a [52,54] (v 183 180 182),a [55,52] (m 184 183),a [56] (g 184 true (L 185 1 20)),a [56,56] (g 184 true (c 186 19 [])),a [57,58,58,56] (g 184 true (c 187 13 [185,186])),a [56,59] (v 188 184 187),a [60,59,0,1,2,3,4,5,6,7,8,9,10,11,12,13,14,15,16,17,18,19,20,21,22,23,24,25,26,27,28,29,30,31,32,33,34,35,36,37,38,39,40,41,42,43,44,45,46,47,48,49,50,51,52,53,54,55,56,57,58,59,60] (m 0 188)],.ret]
def Zdk:List RRes:=[.t 0]
def Zdl:PCt prog 14 f14 Zdj Zdk:=pcT func14 rfl
end
section
open Qq Go.Proofs.Tryd
def Zdp:RCode :=
 S [r 0 [n 4 (.bool false)],S [r 1 [m 6 0,e 7 6,m 8 1,e 9 8,o 10 .neq 7 9],K 10 2 [n 4 (.bool false)]],S [r 3 [n 5 O],.block 0 (.loop (S [S [r 4 [m 11 5,m 12 0,e 13 12,o 14 .lss 11 13],.cond (.t 14) .skip (.exit 0)],.block 1 (S [R 6 [m 17 0,m 18 5,a [0,1] (i 19 2 17 18),a [2] (L 20 2 19),m 21 1,m 22 5,a [4,5] (i 23 2 21 22),a [6] (L 24 2 23),a [3,7] (w 25 (.eqs true [.i,.i] (.t 20) (.t 24)))],K 25 7 [n 4 (.bool false)]]),r 5 [m 15 5,k 16 .add 15 I,m 5 16]]))],r 8 [n 4 (.bool true)],.ret]
def Zdq:List RRes:=[.t 4]
def Zdr:PCt prog 12 f12 Zdp Zdq:=pcT func12 rfl
def Zds:RCode :=
 S [r 0 [n 4 (.bool false)],S [r 1 [m 6 0,e 7 6,m 8 1,e 9 8,o 10 .neq 7 9],K 10 2 [n 4 (.bool false)]],S [r 3 [n 5 O],.block 0 (.loop (S [S [r 4 [m 11 5,m 12 0,e 13 12,o 14 .lss 11 13],.cond (.t 14) .skip (.exit 0)],.block 1 (S [R 6 [m 17 0,m 18 5,a [0,1] (i 19 3 17 18),a [2] (L 20 3 19),m 21 1,m 22 5,a [4,5] (i 23 3 21 22),a [6] (L 24 3 23),a [3,7] (w 25 (.eqs true [.i,.i,.i] (.t 20) (.t 24)))],K 25 7 [n 4 (.bool false)]]),r 5 [m 15 5,k 16 .add 15 I,m 5 16]]))],r 8 [n 4 (.bool true)],.ret]
def Zdt:List RRes:=[.t 4]
def Zdu:PCt prog 51 f51 Zds Zdt:=pcT func51 rfl
def Zdv:RCode :=
 S [r 0 [b 2 0,b 3 1,n 4 (.bool false)],r 1 [f 5 3 2,l 6 5,w 7 (.mkf (.func 79) [] [.t 3]),c 8 75 [6,7],m 4 8],.ret]
def Zdw:List RRes:=[.t 4]
def Zdx:PCt prog 61 f61 Zdv Zdw:=pcT func61 rfl
def Zdy:RCode :=
 S [r 0 [b 2 0,n 3 (.bool false)],r 1 [f 4 0 2,l 5 4,l 6 1,o 7 .eql 5 6,m 3 7],.ret]
def Zdz:List RRes:=[.t 3]
def ZdA:PCt prog 79 f79 Zdy Zdz:=pcT func79 rfl
def ZdB:RCode :=
 S [r 0 [b 2 0,n 4 .nils,n 5 O],r 1 [L 12 1 2,m 13 1,c 14 58 [12,13],m 11 14,x 15 0 11,x 16 1 11,m 6 15,m 7 16],S [r 2 [m 17 7,k 18 .neq 17 O],K 18 3 [m 19 7,n 4 .nils,m 5 19]],r 4 [n 8 .nils],S [r 5 [m 20 6,w 21 (.nilck (.t 20)),f 22 0 21,f 23 0 22,l 24 23,e 25 24,n 26 O],.block 0 (.loop (S [r 6 [o 27 .lss 26 25],.cond (.t 27) .skip (.exit 0),.block 1 (S [r 7 [i 28 5 24 26,L 29 5 28,w 10 (.alloc [O,O,.int .u8 0,.nils,.nils]),s 5 10 29],r 8 [L 30 5 10,m 31 1,c 32 61 [30,31]],.cond (.t 32) (r 9 [m 33 8,L 34 5 10,c 35 43 [34],w 36 (.bsl false 2 1 [O,O] [(0,.t 35)]),w 37 (.app 2 16 (.t 33) (.t 36)),m 8 37]) .skip]),r 10 [k 38 .add 26 I,m 26 38]]))],r 11 [m 39 8,m 4 39,n 5 O],.ret]
def ZdC:List RRes:=[.t 4,.t 5]
def ZdD:PCt prog 31 f31 ZdB ZdC:=pcT func31 rfl
def ZdE:RCode :=
 S [r 0 [b 3 0,n 6 .nils,n 7 O],r 1 [L 17 1 3,m 18 1,m 19 2,c 20 54 [17,18,19],m 16 20,x 21 0 16,x 22 1 16,x 23 2 16,w 8 (.alloc [.nilp]),w 9 (.alloc [.nilm]),s 1 8 21,s 1 9 22,m 10 23],S [r 2 [m 24 10,k 25 .neq 24 O],K 25 3 [m 26 10,n 6 .nils,m 7 26]],r 4 [w 27 (.mkmap),w 11 (.alloc [.nilm]),s 1 11 27],r 5 [w 12 (.alloc [.nilf])],r 6 [w 28 (.mkf (.func 60) [] [.t 8,.t 11,.t 9,.t 12]),s 1 12 28],r 7 [l 29 12,m 30 2,w 31 (.callv (.t 29) [.t 30])],r 8 [n 13 .nils],S [r 9 [l 32 8,w 33 (.nilck (.t 32)),f 34 1 33,l 35 34,e 36 35,n 37 O],.block 0 (.loop (S [r 10 [o 38 .lss 37 36],.cond (.t 38) .skip (.exit 0),.block 1 (S [r 11 [i 39 1 35 37,l 40 39,m 15 40],r 12 [l 41 11,m 42 15,w 43 (.look (.i .i64) (.bool false) false (.t 41) (.t 42))],.cond (.t 43) (r 13 [m 44 13,m 45 15,w 46 (.bsl false 1 1 [O] [(0,.t 45)]),w 47 (.app 1 8 (.t 44) (.t 46)),m 13 47]) .skip]),r 14 [k 48 .add 37 I,m 37 48]]))],r 15 [m 49 13,m 6 49,n 7 O],.ret]
def ZdF:List RRes:=[.t 6,.t 7]
def ZdG:PCt prog 22 f22 ZdE ZdF:=pcT func22 rfl
def ZdH:RCode :=
 S [r 0 [l 8 1,w 9 (.nilck (.t 8)),f 10 1 9,l 11 10,e 12 11,n 13 O],.block 0 (.loop (S [r 1 [o 14 .lss 13 12],.cond (.t 14) .skip (.exit 0),.block 1 (S [r 2 [i 15 1 11 13,l 16 15,m 7 16],r 3 [l 17 2,m 18 7,w 19 (.look (.i .i64) (.bool false) false (.t 17) (.t 18)),t 20 19,m 21 20,g 21 true (l 22 3),g 21 true (m 23 7),g 21 true (w 24 (.look (.i .i64) (.agg [O,O,.int .u8 0,.nils,.nils]) false (.t 22) (.t 23))),g 21 true (m 25 0),g 21 true (c 26 61 [24,25]),v 27 21 26],.cond (.t 27) (S [r 4 [l 28 2,m 29 7,z (.mupd (.i .i64) (.t 28) (.t 29) (.c (.bool true)))],r 5 [l 30 4,m 31 7,w 32 (.callv (.t 30) [.t 31])]]) .skip]),r 6 [k 33 .add 13 I,m 13 33]]))]
def ZdI:List RRes:=[]
def ZdJ {G:Jg} {objs objs':List (Nat×AObj)} {args:List AV} {v:AV} (hn:args.length<=f60.ntmps) (h:∀ R:Run,R.G=G->R.Top->AR prog R ZdH ⟨iniT 0 args,objs⟩ (FinB ZdI v objs')):PB prog G 60 objs args v objs' :=
 PB_of func60 rfl (by kernel_rfl) (rc:=ZdH) (by kernel_rfl) (rs:=ZdI) (by kernel_rfl) hn (λR _ hG hr=>h R hG hr)
def ZdK:RCode :=
 S [r 0 [b 4 0,n 8 .nils,n 9 .nils,n 10 O],r 1 [L 26 1 4,c 27 53 [26],m 25 27,x 28 0 25,x 29 1 25,m 11 28,m 10 29],S [r 2 [m 30 10,k 31 .neq 30 O],K 31 3 [m 32 10,n 8 .nils,n 9 .nils,m 10 32]],r 4 [m 34 11,m 35 1,m 36 2,w 37 (.build [O,O] [(0,1,.t 35),(1,1,.t 36)]),c 38 62 [34,37],m 33 38,x 39 0 33,x 40 1 33,w 12 (.alloc [O,O,.int .u8 0,.nils,.nils]),s 5 12 39,m 13 40],r 5 [m 42 11,m 43 1,m 44 3,w 45 (.build [O,O] [(0,1,.t 43),(1,1,.t 44)]),c 46 62 [42,45],m 41 46,x 47 0 41,x 48 1 41,w 14 (.alloc [O,O,.int .u8 0,.nils,.nils]),s 5 14 47,m 15 48],S [r 6 [m 49 13,t 50 49,m 51 50,g 51 false (m 52 15),g 51 false (t 53 52),u 54 51 53],K 54 7 [n 8 .nils,n 9 .nils,n 10 (.int .i64 6)]],r 8 [w 55 (.mkmap),m 16 55],S [r 9 [f 56 3 12,l 57 56,e 58 57,n 59 O],.block 0 (.loop (S [r 10 [o 60 .lss 59 58],.cond (.t 60) .skip (.exit 0),.block 1 (S [r 11 [i 61 2 57 59,L 62 2 61,w 18 (.alloc [O,O]),s 2 18 62],r 12 [m 63 16,f 64 0 18,l 65 64,f 66 0 18,l 67 66,f 68 1 18,l 69 68,w 70 (.build [O,O,O] [(0,1,.t 67),(1,1,.t 69)]),z (.mupd (.i .i64) (.t 63) (.t 65) (.t 70))]]),r 13 [k 71 .add 59 I,m 59 71]]))],S [r 14 [f 72 3 14,l 73 72,e 74 73,n 75 O],.block 2 (.loop (S [r 15 [o 76 .lss 75 74],.cond (.t 76) .skip (.exit 2),.block 3 (S [r 16 [i 77 2 73 75,L 78 2 77,w 20 (.alloc [O,O]),s 2 20 78],r 17 [m 79 16,f 80 0 20,l 81 80,f 82 0 20,l 83 82,m 84 16,f 85 0 20,l 86 85,w 87 (.look (.i .i64) (.agg [O,O,O]) false (.t 84) (.t 86)),w 88 (.field false 1 1 (.t 87)),f 89 1 20,l 90 89,w 91 (.build [O,O,O] [(0,1,.t 83),(1,1,.t 88),(2,1,.t 90)]),z (.mupd (.i .i64) (.t 79) (.t 81) (.t 91))]]),r 18 [k 92 .add 75 I,m 75 92]]))],S [r 19 [m 93 11,w 94 (.nilck (.t 93)),f 95 1 94,l 96 95,e 97 96,n 98 O],.block 4 (.loop (S [r 20 [o 99 .lss 98 97],.cond (.t 99) .skip (.exit 4),.block 5 (S [r 21 [i 100 1 96 98,l 101 100,m 22 101],r 22 [m 102 16,m 103 22,w 104 (.look (.i .i64) (.agg [O,O,O]) false (.t 102) (.t 103)),w 23 (.alloc [O,O,O]),s 3 23 104],r 23 [f 105 1 23,l 106 105,f 107 2 23,l 108 107,o 109 .neq 106 108],.cond (.t 109) (r 24 [m 110 8,L 111 3 23,w 112 (.bsl false 3 1 [O,O,O] [(0,.t 111)]),w 113 (.app 3 24 (.t 110) (.t 112)),m 8 113]) .skip]),r 25 [k 114 .add 98 I,m 98 114]]))],S [r 26 [f 115 4 12,l 116 115,e 117 116,f 118 4 14,l 119 118,e 120 119,w 121 (.mx true (.t 117) [.t 120]),n 122 O],.block 6 (.loop (S [r 27 [o 123 .lss 122 121],.cond (.t 123) .skip (.exit 6),.block 7 (S [r 28 [m 124 122,m 24 124],R 29 [m 125 24,f 126 4 12,a [1] (l 127 126),a [2] (e 128 127),f 129 4 14,a [4] (l 130 129),a [5] (e 131 130),a [3,6] (w 132 (.mx false (.t 128) [.t 131])),a [0,7] (o 133 .geq 125 132),a [8] (m 134 133),a [9] (g 134 false (f 135 4 12)),a [10,9] (g 134 false (l 136 135)),a [9] (g 134 false (m 137 24)),a [11,12,9] (g 134 false (i 138 3 136 137)),a [13,9] (g 134 false (L 139 3 138)),a [9] (g 134 false (f 140 4 14)),a [15,9] (g 134 false (l 141 140)),a [9] (g 134 false (m 142 24)),a [16,17,9] (g 134 false (i 143 3 141 142)),a [18,9] (g 134 false (L 144 3 143)),a [14,19,9] (g 134 false (w 145 (.eqs true [.i,.i,.i] (.t 139) (.t 144)))),a [9,20] (u 146 134 145)],.cond (.t 146) (r 30 [m 147 9,m 148 24,w 149 (.bsl false 1 1 [O] [(0,.t 148)]),w 150 (.app 1 8 (.t 147) (.t 149)),m 9 150]) .skip]),r 31 [k 151 .add 122 I,m 122 151]]))],r 32 [m 152 8,m 153 9,m 8 152,m 9 153,n 10 O],.ret]
def ZdL:List RRes:=[.t 8,.t 9,.t 10]
def ZdM:PCt prog 24 f24 ZdK ZdL:=pcT func24 rfl
end
section
open Qq Go.Proofs.Tryd
def ZdN:RCode :=
 S [r 0 [b 3 0,n 6 .nilp,n 7 .nilm,n 8 O],r 1 [L 16 1 3,c 17 53 [16],m 15 17,x 18 0 15,x 19 1 15,m 9 18,m 10 19],S [r 2 [m 20 10,k 21 .neq 20 O],K 21 3 [m 22 10,n 6 .nilp,n 7 .nilm,m 8 22]],S [r 4 [m 23 1,e 24 23,m 25 9,w 26 (.nilck (.t 25)),f 27 1 26,l 28 27,e 29 28,o 30 .neq 24 29],K 30 5 [n 6 .nilp,n 7 .nilm,n 8 (.int .i64 22)]],r 6 [w 31 (.mkmap),m 11 31],S [r 7 [m 32 1,e 33 32,n 34 O],.block 0 (.loop (S [r 8 [o 35 .lss 34 33],.cond (.t 35) .skip (.exit 0),.block 1 (S [r 9 [m 36 34,m 12 36],R 10 [m 38 9,m 39 9,a [1] (w 40 (.nilck (.t 39))),a [2] (f 41 1 40),a [3] (l 42 41),m 43 12,a [4,5] (i 44 1 42 43),a [6] (l 45 44),m 46 1,m 47 12,a [8,9] (i 48 1 46 47),a [10] (l 49 48),a [7,11] (w 50 (.build [O,O] [(0,1,.t 45),(1,1,.t 49)])),a [0,12] (c 51 62 [38,50]),a [13] (m 37 51),a [14] (x 52 0 37),a [14] (x 53 1 37),w 13 (.alloc [O,O,.int .u8 0,.nils,.nils]),a [17,15,13,0,1,2,3,4,5,6,7,8,9,10,11,12,13,14,15,17] (s 5 13 52),a [16,18,0,1,2,3,4,5,6,7,8,9,10,11,12,13,14,15,16,17,18] (m 14 53)],S [r 11 [m 54 14,t 55 54],K 55 12 [n 6 .nilp,n 7 .nilm,n 8 (.int .i64 22)]],r 13 [m 56 11,f 57 0 13,l 58 57,L 59 5 13,z (.mupd (.i .i64) (.t 56) (.t 58) (.t 59))]]),r 14 [k 60 .add 34 I,m 34 60]]))],S [r 15 [m 61 9,m 62 2,c 63 77 [61,62],t 64 63],K 64 16 [n 6 .nilp,n 7 .nilm,n 8 (.int .i64 6)]],r 17 [m 65 9,m 66 11,m 6 65,m 7 66,n 8 O],.ret]
def ZdO:List RRes:=[.t 6,.t 7,.t 8]
def ZdP:PCt prog 54 f54 ZdN ZdO:=pcT func54 rfl
def ZdQ:RCode :=
 S [r 0 [b 3 0,n 6 .nils,n 7 O],r 1 [L 17 1 3,m 18 1,m 19 2,c 20 54 [17,18,19],m 16 20,x 21 0 16,x 22 1 16,x 23 2 16,w 9 (.alloc [.nilm]),m 8 21,s 1 9 22,m 10 23],S [r 2 [m 24 10,k 25 .neq 24 O],K 25 3 [m 26 10,n 6 .nils,m 7 26]],r 4 [w 27 (.mkmap),w 11 (.alloc [.nilm]),s 1 11 27],r 5 [w 12 (.alloc [.nilf])],r 6 [w 28 (.mkf (.func 55) [] [.t 9,.t 11,.t 12]),s 1 12 28],r 7 [l 29 12,m 30 2,w 31 (.callv (.t 29) [.t 30,.c I])],r 8 [n 13 .nils],S [r 9 [m 32 8,w 33 (.nilck (.t 32)),f 34 1 33,l 35 34,e 36 35,n 37 O],.block 0 (.loop (S [r 10 [o 38 .lss 37 36],.cond (.t 38) .skip (.exit 0),.block 1 (S [r 11 [i 39 1 35 37,l 40 39,m 15 40],r 12 [l 41 11,m 42 15,w 43 (.look (.i .i64) O false (.t 41) (.t 42)),k 44 .gtr 43 O],.cond (.t 44) (r 13 [m 45 13,m 46 15,l 47 11,m 48 15,w 49 (.look (.i .i64) O false (.t 47) (.t 48)),w 50 (.build [O,O] [(0,1,.t 46),(1,1,.t 49)]),w 51 (.bsl false 2 1 [O,O] [(0,.t 50)]),w 52 (.app 2 16 (.t 45) (.t 51)),m 13 52]) .skip]),r 14 [k 53 .add 37 I,m 37 53]]))],r 15 [m 54 13,m 6 54,n 7 O],.ret]
def ZdR:List RRes:=[.t 6,.t 7]
def ZdS:PCt prog 18 f18 ZdQ ZdR:=pcT func18 rfl
def ZdT:RCode :=
 S [r 0 [l 10 2,m 11 0,w 12 (.look (.i .i64) (.agg [O,O,.int .u8 0,.nils,.nils]) false (.t 10) (.t 11)),w 7 (.alloc [O,O,.int .u8 0,.nils,.nils]),s 5 7 12],S [r 1 [f 13 2 7,l 14 13,k 15 .neq 14 (.int .u8 1)],.cond (.t 15) (r 2 [l 16 3,m 17 0,w 18 (.look (.i .i64) O false (.t 16) (.t 17)),m 19 1,o 20 .add 18 19,z (.mupd (.i .i64) (.t 16) (.t 17) (.t 20))]) .skip],r 3 [f 21 3 7,l 22 21,e 23 22,n 24 O],.block 0 (.loop (S [r 4 [o 25 .lss 24 23],.cond (.t 25) .skip (.exit 0),.block 1 (S [r 5 [i 26 2 22 24,L 27 2 26,w 9 (.alloc [O,O]),s 2 9 27],r 6 [l 28 4,f 29 0 9,l 30 29,m 31 1,f 32 1 9,l 33 32,o 34 .mul 31 33,w 35 (.callv (.t 28) [.t 30,.t 34])]]),r 7 [k 36 .add 24 I,m 24 36]]))]
def ZdU:List RRes:=[]
def ZdV {G:Jg} {objs objs':List (Nat×AObj)} {args:List AV} {v:AV} (hn:args.length<=f55.ntmps) (h:∀ R:Run,R.G=G->R.Top->AR prog R ZdT ⟨iniT 0 args,objs⟩ (FinB ZdU v objs')):PB prog G 55 objs args v objs' :=
 PB_of func55 rfl (by kernel_rfl) (rc:=ZdT) (by kernel_rfl) (rs:=ZdU) (by kernel_rfl) hn (λR _ hG hr=>h R hG hr)
def ZdW:RCode :=
 S [r 0 [b 3 0,n 6 .nils,n 7 O],r 1 [L 14 1 3,m 15 1,m 16 2,c 17 54 [14,15,16],m 13 17,x 18 0 13,x 19 1 13,x 20 2 13,w 9 (.alloc [.nilm]),m 8 18,s 1 9 19,m 10 20],S [r 2 [m 21 10,k 22 .neq 21 O],K 22 3 [m 23 10,n 6 .nils,m 7 23]],r 4 [w 11 (.alloc [.nils])],r 5 [w 12 (.alloc [.nilf])],r 6 [w 24 (.mkf (.func 64) [] [.t 11,.t 9,.t 12]),s 1 12 24],r 7 [l 25 12,m 26 2,w 27 (.build [O,O] [(0,1,.t 26),(1,1,.c I)]),w 28 (.callv (.t 25) [.c O,.t 27])],S [r 8 [l 29 11,e 30 29,k 31 .gtr 30 (.int .i64 500)],K 31 9 [n 6 .nils,n 7 (.int .i64 4)]],r 10 [l 32 11,m 6 32,n 7 O],.ret]
def ZdX:List RRes:=[.t 6,.t 7]
def ZdY:PCt prog 30 f30 ZdW ZdX:=pcT func30 rfl
def ZdZ:RCode :=
 S [r 0 [b 6 1],S [r 1 [l 10 2,e 11 10,k 12 .gtr 11 (.int .i64 500)],.cond (.t 12) .ret .skip],r 2 [l 13 3,f 14 0 6,l 15 14,w 16 (.look (.i .i64) (.agg [O,O,.int .u8 0,.nils,.nils]) false (.t 13) (.t 15)),w 7 (.alloc [O,O,.int .u8 0,.nils,.nils]),s 5 7 16],r 3 [l 17 2,m 18 0,f 19 0 7,l 20 19,f 21 1 7,l 22 21,f 23 1 6,l 24 23,w 25 (.build [O,O,O,O] [(0,1,.t 18),(1,1,.t 20),(2,1,.t 22),(3,1,.t 24)]),w 26 (.bsl false 4 1 [O,O,O,O] [(0,.t 25)]),w 27 (.app 4 32 (.t 17) (.t 26)),s 1 2 27],r 4 [f 28 3 7,l 29 28,e 30 29,n 31 O],.block 0 (.loop (S [r 5 [o 32 .lss 31 30],.cond (.t 32) .skip (.exit 0),.block 1 (S [r 6 [i 33 2 29 31,L 34 2 33,w 9 (.alloc [O,O]),s 2 9 34],r 7 [l 35 4,m 36 0,k 37 .add 36 I,L 38 2 9,w 39 (.callv (.t 35) [.t 37,.t 38])]]),r 8 [k 40 .add 31 I,m 31 40]]))]
def Ze0:List RRes:=[]
def Ze1 {G:Jg} {objs objs':List (Nat×AObj)} {args:List AV} {v:AV} (hn:args.length<=f64.ntmps) (h:∀ R:Run,R.G=G->R.Top->AR prog R ZdZ ⟨iniT 0 args,objs⟩ (FinB Ze0 v objs')):PB prog G 64 objs args v objs' :=
 PB_of func64 rfl (by kernel_rfl) (rc:=ZdZ) (by kernel_rfl) (rs:=Ze0) (by kernel_rfl) hn (λR _ hG hr=>h R hG hr)
end
def mpA {α:Type} (f:α->AV) (l:List (Int×α)):List (AV×AV):=l.map λp=>(.int .i64 p.1,f p.2)
def mlk {α:Type} (n:Int):List (Int×α)->Option α
 |[]=>none
 |p::l=>if n=p.1 then some p.2 else mlk n l
def Ze2 {α:Type} (f:α->AV) (n:Int):∀ l:List (Int×α),∃ o:Option Nat,(KK.i .i64).find (.int .i64 n) (mpA f l)=some o/\match o with
  |some j=>∃ v,l[j]? = some (n,v)/\mlk n l=some v
  |none=>mlk n l=none/\∀ p∈l,p.1≠n
 |[]=>⟨none,rfl,rfl,by simp⟩
 | p :: r=>by
   obtain ⟨o,h1,h2⟩:=Ze2 f n r;by_cases e:n=p.1
   . refine ⟨some 0,by simp[mpA,KK.find,KK.eq,e],p.2,by simp[e],by simp[mlk,e]⟩
   . refine ⟨o.map (· + 1),?_,?_⟩
     . simp only[mpA,W0F,KK.find,KK.eq,and_self,if_true,e,W1v];rw[show r.map (λp=>(AV.int .i64 p.1,f p.2))=mpA f r from rfl,h1];rfl
     . cases o with
       |none=>exact ⟨by simp only[mlk,e,if_false];exact h2.1,λq hq=>by
        rcases W0g.1 hq with rfl|hq
        . exact λh=>e h.symm
        . exact h2.2 q hq⟩
       | some j =>
         obtain ⟨v,h3,h4⟩:=h2;exact ⟨v,by simpa using h3,by simp only[mlk,e,if_false];exact h4⟩
def Ze3 {α:Type} (f:α->AV) (n:Int) (l:List (Int×α)):(KK.i .i64).get (.int .i64 n) (mpA f l)=some ((mlk n l).map f):=by
 obtain ⟨o,h1,h2⟩:=Ze2 f n l;have hi:(KK.i .i64).is (.int .i64 n)=true:=(by simp[KK.is]);unfold KK.get;rw[if_pos hi,h1]
 cases o with
 |none=>simp[h2.1]
 |some j=>obtain ⟨v,h3,h4⟩:=h2;simp[mpA,h3,h4]
def Ze4 {α:Type} (f:α->AV) {n:Int} (v:α) {l:List (Int×α)} (h:n ∉ l.map (·.1)):(KK.i .i64).put (.int .i64 n) (f v) (mpA f l)=some (mpA f (l++[(n,v)])):=by
 obtain ⟨o,h1,h2⟩:=Ze2 f n l;have hi:(KK.i .i64).is (.int .i64 n)=true:=(by simp[KK.is]);unfold KK.put;rw[if_pos hi,h1]
 cases o with
 |none=>simp[mpA]
 | some j =>
   obtain ⟨w,h3,h4⟩:=h2;exact absurd (W0i.2 ⟨_,W0d h3,rfl⟩) h
def Ze5 (n v:Int):∀ l:List (Int×Int),∃ o:Option Nat,(KK.i .i64).find (.int .i64 n) (dpA l)=some o/\match o with
  |some j=>j<l.length/\mpPut n v l=l.set j (n,v)
  |none=>mpPut n v l=l++[(n,v)]
 |[]=>⟨none,rfl,rfl⟩
 | p :: r=>by
   obtain ⟨o,h1,h2⟩:=Ze5 n v r;by_cases e:n=p.1
   . exact ⟨some 0,by simp[dpA,KK.find,KK.eq,e],by simp,by simp[mpPut,e]⟩
   . refine ⟨o.map (· + 1),?_,?_⟩
     . simp only[dpA,W0F,KK.find,KK.eq,and_self,if_true,e,W1v];rw[show r.map (λp=>(AV.int .i64 p.1,AV.int .i64 p.2))=dpA r from rfl,h1];rfl
     . have e':¬p.1=n:=λh=>e h.symm
       cases o with
       |none=>simp only[Option.map_none,mpPut,if_neg e',h2];rfl
       |some j=>exact ⟨by simp only[W1o];omega,by simp only[mpPut,if_neg e',h2.2];rfl⟩
def Ze6 (n v:Int) (l:List (Int×Int)):(KK.i .i64).put (.int .i64 n) (.int .i64 v) (dpA l)=some (dpA (mpPut n v l)):=by
 obtain ⟨o,h1,h2⟩:=Ze5 n v l;have hi:(KK.i .i64).is (.int .i64 n)=true:=(by simp[KK.is]);unfold KK.put;rw[if_pos hi,h1]
 cases o with
 |none=>simp only[h2];simp[dpA]
 |some j=>rw[h2.2];simp[dpA,W2e]
def byN (r:Jr) (lt:List Int) (i:Nat):List (Int×Iss):=((nums r).take i).map λn=>(n,tkV r lt n)
def isA (x:Iss):AV:=.agg (isa x)
def byA (r:Jr) (lt:List Int):AV:=.vmap (mpA isA (byN r lt (nums r).length))
def Ze7 {r:Jr} {lt:List Int} {i:Nat} (h:i<(nums r).length):byN r lt (i+1)=byN r lt i++[((nums r)[i],tkV r lt (nums r)[i])]:=by
 rw[byN,W08 h,W0r];rfl
def Ze8 {r:Jr} {lt:List Int} (hO:Ord r) {i:Nat} (h:i<(nums r).length):(nums r)[i] ∉ (byN r lt i).map (·.1):=by
 simp only[byN,W10,W0i,Function.comp];rintro ⟨n,hn,e⟩;obtain ⟨j,hj,rfl⟩:=W0k hn;simp only[W15]at hj;simp only[W1P]at e;have:=W0Y.1 (Z8S hO) j i (by omega) h (by omega);omega
def Ze9 {r:Jr} (hO:Ord r) {i:Nat} (h:i<(nums r).length):(nums r).idxOf (nums r)[i]=i:=by
 have h1:(nums r).idxOf (nums r)[i]<(nums r).length:=List.idxOf_lt_length_iff.2 (W0e h);have h2:=List.getElem_idxOf h1;rcases W0R ((nums r).idxOf (nums r)[i]) i with c|c|c
 . have:=W0Y.1 (Z8S hO) _ i h1 h c;omega
 . exact c
 . have:=W0Y.1 (Z8S hO) i _ h h1 c;omega
def Zea (r:Jr) (lt:List Int) (i:Nat):(mpA isA (byN r lt i)).all (λp=>p.1.pure&&p.2.pure)=true:=by
 simp only[mpA,W03,W0i];rintro _ ⟨y,-,rfl⟩;simp[isA,isa,AV.pure]
def Zeb {r:Jr} {lt:List Int} {n:Int} (hn:n∈nums r):mlk n (byN r lt (nums r).length)=some (tkV r lt n):=by
 rw[byN,W0v]
 have key:∀ l:List Int,n∈l->mlk n (l.map λn=>(n,tkV r lt n))=some (tkV r lt n):=by
  intro l
  induction l with
  |nil=>intro h;cases h
  | cons x l ih =>
    intro h;simp only[W0F,mlk];by_cases e:n=x
    . rw[if_pos e,e]
    . rw[if_neg e];exact ih ((W0g.1 h).resolve_left e)
 exact key _ hn
def Zec (o:List (Nat×AObj)) (l:List (Int×Iss)):Yc o (.mp (mpA isA l))=true:=by
 simp only[Yc,W03,mpA,W0i];rintro _ ⟨y,-,rfl⟩;simp[isA,isa,Ya,AV.keys]
def takA (r:Jr) (lt:List Int) (n:Int):AV:=.tup [if askV r lt n=0 then bkA r (nums r) else .nilp,if askV r lt n=0 then byA r lt else .nilm,.int .i64 (askV r lt n)]
def Zed (hG:GC G) (r:Jr) (lt:List Int) (n:Int) (h:Wf r):PC prog G 54 [rega r,.vsl (lt.map ia),.int .i64 n] (takA r lt n):=by
 (refine ZdP rfl λR hG hrd=>Qga ?_;subst hG)
 simp -implicitDefEqProofs[ZdN,ZdO,rega];refine Qco (ZaB hG r h) ?_;by_cases e:openV r=0
 case neg=>simp -implicitDefEqProofs[openA,e,takA,askV]
 have hL:=ZaS e;have hO:=Z8Q hL;have hl:=ZaT hL;by_cases q:lt.length=(nums r).length
 case neg =>
  have q':¬(lt.length:Int)=(nums r).length:=(by omega);have no:askV r lt n=22:=(by simp[askV,e,ltB,q]);simp -implicitDefEqProofs[openA,e,bkA,q',takA,no]
 have q':(lt.length:Int)=(nums r).length:=(by omega);simp -implicitDefEqProofs[openA,e,bkA,q'];refine Z8m (λi=>⟨[(34,.int .i64 i),(33,.int .i64 (nums r).length),(11,.mp 31),(9,bkA r (nums r)),(1,.vsl (lt.map ia)),(2,.int .i64 n)],[(31,.mp (mpA isA (byN r lt i)))]⟩) (λi=>∀ j,j<i->inR (lt.getD j 0) 1 (lastV r ((nums r).getD j 0))=true) (nums r).length (by (first|exact Ym.tm (by simp[lk,bkA,mpA,byN])|exact Ym.sub (by simp[lk,Ya,AV.keys,bkA,mpA,byN]) (by simp[lk,Yc,Ya,AV.keys,bkA,mpA,byN]))) (by simp) ?_ ?_
 . intro i hi he;refine Qga ?_;have w1:i64.wrap ((i:Int)+1)=((i+1:Nat):Int):=Yf;have hi2:i<lt.length:=(by omega);have e1:lt.getD i 0=lt[i]:=(by simp[List.getD,hi2]);have e2:(nums r).getD i 0=(nums r)[i]:=(by simp[List.getD,hi]);simp -implicitDefEqProofs[hi,hi2,ia,bkA];refine Qco (Za2 r (nums r) (nums r)[i] lt[i] (Zb0 hO) h.1.1 (Zb2 hL)) ?_
   cases f:findN (nums r)[i] lt[i] r with
   | none =>
     have no:askV r lt n=22:=by
      have:ltB r lt=false:=by
       cases hI:ltB r lt
       . rfl
       . simp only[ltB,W01]at hI;have:=Z8F.1 hI.2 i hi;rw[e1,e2,<- ZbI hL,f]at this;cases this
      simp[askV,e,this]
     simp -implicitDefEqProofs[fndA,noIs];refine ⟨rfl,?_⟩;refine Qgr ?_;simp -implicitDefEqProofs[takA,no]
   | some x =>
     simp -implicitDefEqProofs[fndA,isa];obtain ⟨hm,hd,hl2⟩:=Z98 f
     have et:tkV r lt (nums r)[i]=x:=by
      have:ltOf r lt (nums r)[i]=lt[i]:=(by rw[ltOf,Ze9 hO hi,e1]);rw[tkV,this,f];rfl
     have pm:=Ze4 isA x (Ze8 (lt:=lt) hO hi);rw[<- et,<- Ze7 hi,et,isA,isa,hd]at pm;simp -implicitDefEqProofs[hd,pm,w1];refine ⟨rfl,?_,λj hj=>?_⟩
     . refine Ym.sub (by simp[lk,Ya,AV.keys]) ?_;simp only[W0g,W0Q,or_false,forall_eq,Zec,and_true];simp[lk]
     . by_cases ej:j=i
       . subst ej;simp only[W0j]at e1 e2;rw[e1,e2,<- ZbI hL,f];rfl
       . simpa using he j (by omega)
 . intro he;refine Qga ?_;have yes:ltB r lt=true:=(by simp only[ltB,W01,W0b];exact ⟨q,Z8F.2 he⟩);simp -implicitDefEqProofs;refine Qgr ?_;simp -implicitDefEqProofs;refine Qco (Z9Y r (nums r) n (ZaZ hO) (ZaY h.1.1)) ?_;by_cases c:n∈nums r
   . have yes2:askV r lt n=0:=(by simp[askV,e,yes,c]);simp -implicitDefEqProofs[c,takA,yes2];have pu:=Zea r lt (nums r).length;simp -implicitDefEqProofs[pu,bkA,byA]
   . have no:askV r lt n=6:=(by simp[askV,e,yes,c]);simp -implicitDefEqProofs[c,takA,no]
def ctL (n:Int):List (Int×Int)->Int
 |[]=>0
 |y::l=>if y.1=n then y.2 else ctL n l
def needL (n:Int) (l:List (Int×Int)):Bool:=l.any λy=>decide (y.1=n)
def Zee {x:Iss} (h:issB x=true) {j:Nat} (hj:j<x.its.length):1<=x.its[j].1/\1<=x.its[j].2/\x.its[j].2<=20/\x.its[j].1≠x.d/\∀ i (hi:i<j),x.its[i].1<x.its[j].1:=by
 simp only[issB,W01]at h;have all:=Z8F.1 h.1.2;have at1:∀ j (hj:j<x.its.length),itAt x j=x.its[j]:=λj hj=>by simp[itAt,List.getD,hj]
 have one:∀ j (hj:j<x.its.length),1<=x.its[j].1/\1<=x.its[j].2/\x.its[j].2<=20/\x.its[j].1≠x.d/\(∀ hi:0<j,x.its[j-1].1<x.its[j].1):=λj hj=>by
  have h1:=all j hj;simp only[itOk,at1 j hj,W01,inR,W0b,W1z,W1a,W0T,W0A]at h1;refine ⟨by omega,by omega,by omega,h1.1.2,λhi=>?_⟩;have h2:=h1.2;rw[at1 (j-1) (by omega)]at h2;omega
 have lt:∀ (d i:Nat) (h:i+d+1<x.its.length),x.its[i].1<x.its[i+d+1].1:=by
  intro d
  induction d with
  |zero=>intro i h;exact (one (i+1) h).2.2.2.2 (by omega)
  | succ d ih =>
    intro i h;have h1:=ih i (by omega);have h2:=(one (i+(d+1)+1) h).2.2.2.2 (by omega);have h3:i+(d+1)+1-1=i+d+1:=(by omega);simp only[h3]at h2;omega
 have g:=one j hj;refine ⟨g.1,g.2.1,g.2.2.1,g.2.2.2.1,λi hi=>?_⟩;have:=lt (j-i-1) i (by omega);have e:i+(j-i-1)+1=j:=(by omega);simpa only [e] using this
def Zef {x:Iss} (h:issB x=true):(x.its.map (·.1)).Nodup:=by
 unfold List.Nodup;rw[W2c,W0Y];intro i j hi hj hij;have:=(Zee h hj).2.2.2.2 i hij;omega
def usN (r:Jr) (n:Int) (i:Nat):List (Int×Int):=((r.take i).filter λx=>needL n x.its).map λx=>(x.d,x.l)
def Zeg {r:Jr} {n:Int} {i:Nat} (h:i<r.length):usN r n (i+1)=if needL n r[i].its=true then usN r n i++[(r[i].d,r[i].l)] else usN r n i:=by
 rw[usN,W08 h,W19,W0r]
 split
 . rename_i e;simp[usN,List.filter_cons,e]
 . rename_i e;simp[usN,List.filter_cons,e]
def Zeh (r:Jr) (n:Int) (i:Nat):(usN r n i).length<=i:=by
 simp only[usN,W0N];exact W0O (W0D _ _) (by simp;omega)
def useE (r:Jr) (n:Int):List (Int×Int)×Int:=if knV r n=0 then (usN r n r.length,0) else ([],knV r n)
inductive Up (T:Int->Iss) (l:List Int) (d:Int):Int->Prop
 |base (n:Int) (hn:n∈l) (h:needL d (T n).its=true):Up T l d n
 |step (n m:Int) (hn:n∈l) (h:needL m (T n).its=true) (hm:Up T l d m):Up T l d n
def Up.trans {T:Int->Iss} {l:List Int} {d m n:Int} (h1:Up T l d m) (h2:Up T l m n):Up T l d n:=by
 induction h2 with
 |base n hn h=>exact .step n m hn h h1
 |step n k hn h _ ih=>exact .step n k hn h ih
def Up.mem {T:Int->Iss} {l:List Int} {d n:Int} (h:Up T l d n):n∈l:=by cases h <;> assumption
def upV (T:Int->Iss) (l:List Int):Nat->Int->List Int->List Int
 |0,_,s=>s
 |k+1,d,s=>l.foldl (λs n=>if decide (n∈s)=false/\needL d (T n).its=true then upV T l k n (s++[n]) else s) s
def Zei {T:Int->Iss} {l:List Int}:∀ (k:Nat) (d:Int) (s:List Int) (x:Int),x∈s->x∈upV T l k d s
 |0,_,_,_,h=>h
 | k+1,d,s,x,h=>by
   have key:∀ (l1 s:List Int),x∈s->x∈l1.foldl (λs n=>if decide (n∈s)=false/\needL d (T n).its=true then upV T l k n (s++[n]) else s) s:=by
    intro l1
    induction l1 with
    |nil=>intro s h;exact h
    | cons n l1 ih =>
      intro s h;rw[W25];refine ih _ ?_
      split
      . exact Zei k n _ x (W0h.2 (.inl h))
      . exact h
   exact key l s h
def leftN (l s:List Int):Nat:=(l.filter λn=>!decide (n∈s)).length
def Zej {l s s':List Int} (h:∀ x∈s,x∈s'):leftN l s'<=leftN l s:=by
 unfold leftN
 induction l with
 |nil=>exact W0f _
 | cons n l ih =>
   have b:=h n;by_cases a:n∈s
   . simp only[a,b a,List.filter_cons,W1h,W17,if_false,W05];exact ih
   . by_cases b:n∈s' <;> simp[List.filter_cons,a,b] <;> omega
def Zek {l s:List Int} {n:Int} (hn:n∈l) (hs:n ∉ s):leftN l (s++[n])<leftN l s:=by
 unfold leftN
 induction l with
 |nil=>cases hn
 | cons m l ih =>
   have mono:=Zej (l:=l) (s:=s) (s':=s++[n]) λx hx=>W0h.2 (.inl hx)
   unfold leftN at mono;by_cases e:m=n
   . subst e;rw[W28 (by simp),W27 (by simpa using hs),W1o];omega
   . have hn:=(W0g.1 hn).resolve_left (λh=>e h.symm);have:=ih hn;by_cases a:m∈s
     . rw[W28 (by simp[a]),W28 (by simpa using a)];exact this
     . rw[W27 (by simp[a,e]),W27 (by simpa using a),W1o,W1o];omega
def Zel (l s:List Int):leftN l s<=l.length:=W0D _ _
def abV (r:Jr) (lt:List Int) (d:Int):List Int:=(nums r).filter λn=>decide (n∈upV (tkV r lt) (nums r) ((nums r).length+1) d [])
def abE (r:Jr) (lt:List Int) (d:Int):List Int×Int:=if askV r lt d=0 then (abV r lt d,0) else ([],askV r lt d)
def Zem (l:List Int) (o:List (Nat×AObj)):Yc o (.row 1 (l.map ia))=true:=by
 simp only[Yc,W03,W0i];rintro x ⟨y,-,rfl⟩ v hv;simp only[ia,W0g,W0Q,or_false]at hv;subst hv;simp[Ya,AV.keys]
def flN (l:List Int) (g:Int->Bool) (i:Nat):List Int:=(l.take i).filter g
def Zen {l:List Int} {g:Int->Bool} {i:Nat} (h:i<l.length):flN l g (i+1)=if g l[i]=true then flN l g i++[l[i]] else flN l g i:=by
 rw[flN,W08 h,W19]
 split
 . rename_i e;simp[flN,List.filter_cons,e]
 . rename_i e;simp[flN,List.filter_cons,e]
def Zeo (l:List Int) (g:Int->Bool) (i:Nat):(flN l g i).length<=i:=W0O (W0D _ _) (by simp;omega)
def Zep (a b:List (Int×Int)) (ha:Sml a):PC prog G 12 [.vsl (a.map ita),.vsl (b.map ita)] (.bool (decide (a=b))):=by
 (refine Zdr rfl λR hG hrd=>Qga ?_;subst hG)
 by_cases hl:a.length=b.length
 . have hl':(a.length:Int)=b.length:=(by omega);simp -implicitDefEqProofs[Zdp,Zdq,hl'];refine Z8m (λi=>⟨[(5,.int .i64 i),(0,.vsl (a.map ita)),(1,.vsl (b.map ita))],[]⟩) (λi=>∀ j (h:j<a.length),j<i->a[j]=b[j]) a.length (by (first|exact Wka|exact Wkb)) (by simp) ?_ ?_
   . intro i hi he;refine Qga ?_;unfold Sml at ha;have hi2:i<b.length:=(by omega);have w1:i64.wrap ((i:Int)+1)=((i+1:Nat):Int):=Yf;simp -implicitDefEqProofs[hi,hi2,ita];refine ⟨rfl,?_⟩;by_cases h2:a[i]=b[i]
     . simp -implicitDefEqProofs[h2,w1];refine ⟨(by (first|exact Wka|exact Wkb)),λj h1 h3=>?_⟩;by_cases e:j=i
       . subst e;exact h2
       . exact he j h1 (by omega)
     . have h3:¬a=b:=λe=>h2 (by subst e;rfl)
       rw[Z8w h2];simp -implicitDefEqProofs;refine Qgr ?_;simp -implicitDefEqProofs[h3]
   . intro he;refine Qga ?_;have h3:a=b:=W1E hl λj h1 h2=>he j h1 h1
     simp -implicitDefEqProofs;refine Qgr ?_;simp -implicitDefEqProofs[h3]
 . have hl':¬(a.length:Int)=b.length:=(by omega);have h3:¬a=b:=λe=>hl (by rw[e])
   simp -implicitDefEqProofs[Zdp,Zdq,hl',h3]
def Zeq (a b:List Dm) (ha:Sml a):PC prog G 51 [.vsl (a.map dma),.vsl (b.map dma)] (.bool (decide (a=b))):=by
 (refine Zdu rfl λR hG hrd=>Qga ?_;subst hG)
 by_cases hl:a.length=b.length
 . have hl':(a.length:Int)=b.length:=(by omega);simp -implicitDefEqProofs[Zds,Zdt,hl'];refine Z8m (λi=>⟨[(5,.int .i64 i),(0,.vsl (a.map dma)),(1,.vsl (b.map dma))],[]⟩) (λi=>∀ j (h:j<a.length),j<i->a[j]=b[j]) a.length (by (first|exact Wka|exact Wkb)) (by simp) ?_ ?_
   . intro i hi he;refine Qga ?_;unfold Sml at ha;have hi2:i<b.length:=(by omega);have w1:i64.wrap ((i:Int)+1)=((i+1:Nat):Int):=Yf;simp -implicitDefEqProofs[hi,hi2,dma];refine ⟨rfl,?_⟩;by_cases h2:a[i]=b[i]
     . simp -implicitDefEqProofs[h2,w1];refine ⟨(by (first|exact Wka|exact Wkb)),λj h1 h3=>?_⟩;by_cases e:j=i
       . subst e;exact h2
       . exact he j h1 (by omega)
     . have h3:¬a=b:=λe=>h2 (by subst e;rfl)
       rw[dm_ne h2];simp -implicitDefEqProofs;refine Qgr ?_;simp -implicitDefEqProofs[h3]
   . intro he;refine Qga ?_;have h3:a=b:=W1E hl λj h1 h2=>he j h1 h1
     simp -implicitDefEqProofs;refine Qgr ?_;simp -implicitDefEqProofs[h3]
 . have hl':¬(a.length:Int)=b.length:=(by omega);have h3:¬a=b:=λe=>hl (by rw[e])
   simp -implicitDefEqProofs[Zds,Zdt,hl',h3]
def dfN (l:List Int) (f g:Int->Int) (i:Nat):List Dm:=((l.take i).filter λn=>!decide (f n=g n)).map λn=>⟨n,f n,g n⟩
def Zer {l:List Int} {f g:Int->Int} {i:Nat} (h:i<l.length):dfN l f g (i+1)=if f l[i]=g l[i] then dfN l f g i else dfN l f g i++[⟨l[i],f l[i],g l[i]⟩]:=by
 rw[dfN,W08 h,W19,W0r]
 split
 . rename_i e;simp[dfN,List.filter_cons,e]
 . rename_i e;simp[dfN,List.filter_cons,e]
def Zes (l:List Int) (f g:Int->Int) (i:Nat):(dfN l f g i).length<=i:=by
 simp only[dfN,W0N];exact W0O (W0D _ _) (by simp;omega)
def dsB (a b:List Dm) (j:Nat):Bool:=decide (a.length<=j)||decide (b.length<=j) || !decide (a.getD j Dm.zero=b.getD j Dm.zero)
def dsN (a b:List Dm) (i:Nat):List Int:=((List.range i).filter (dsB a b)).map λ(j:Nat)=>(j:Int)
def Zet {a b:List Dm} {i:Nat}:dsN a b (i+1)=if dsB a b i=true then dsN a b i++[(i:Int)] else dsN a b i:=by
 rw[dsN,List.range_succ,W19,W0r]
 split
 . rename_i e;simp[dsN,List.filter_cons,e]
 . rename_i e;simp[dsN,List.filter_cons,e]
def Zeu (a b:List Dm) (i:Nat):(dsN a b i).length<=i:=by
 simp only[dsN,W0N];exact W0O (W0D _ _) (by simp)
def Zev {a b:List Dm} {j:Nat} (ha:j<a.length) (hb:j<b.length):dsB a b j = !decide (a[j]=b[j]):=by
 have h1:¬a.length<=j:=(by omega);have h2:¬b.length<=j:=(by omega);simp[dsB,h1,h2,List.getD,ha,hb]
def difE (r:Jr) (d n m:Int):List Dm×List Int×Int:=if openV r=0 then match findN d n r,findN d m r with
    |some a,some b=>(dfN (nums r) (λn=>ctL n a.its) (λn=>ctL n b.its) (nums r).length,dsN a.dms b.dms (max a.dms.length b.dms.length),0)
    |_,_=>([],[],6)
 else ([],[],openV r)
def Yg (l:List (List AV)):AV:=if l=[] then .nils else .vsl l
def Zew (l:List (List AV)):nz (Yg l) = .vsl l:=by unfold Yg;split <;> simp_all [nz]
def Zex (l:List (List AV)):(Yg l).keys=[]:=by unfold Yg;split <;> simp[AV.keys]
def Zey (l:List (List AV)) (ok:Nat->Bool) (st:St) (n:Nat):Yh ok st n (Yg l)=some (Yg l):=by unfold Yg;split <;> cases n <;> simp[Yh,AV.pure]
def Zez (l:List Dm):(l.map dma).all (λr=>r.all AV.pure)=true:=by simp[dma,AV.pure]
def ZeA (l:List Int):(l.map ia).all (λr=>r.all AV.pure)=true:=by simp[ia,AV.pure]
def ZeB (l:List Dm) (o:List (Nat×AObj)):Yc o (.row 3 (l.map dma))=true:=by
 simp only[Yc,W03,W0i];rintro x ⟨y,-,rfl⟩ v hv;simp only[dma,W0g,W0Q,or_false]at hv;rcases hv with rfl|rfl|rfl <;> simp[Ya,AV.keys]
def dropS:Nat->RCode->RCode
 |n+1,.seq _ b=>dropS n b
 |_,c=>c
def headS:RCode->RCode
 |.seq a _=>a
 |c=>c
def endLp:RCode->RCode
 |.seq _ b=>endLp b
 |.block _ b=>b
 |c=>c
def ZeC (ρ:Nat->Nat) (l:List (Int×Int)):(AObj.mp (dpA l)).ren ρ = .mp (dpA l):=by
 simp only[AObj.ren,dpA,W10]
 congr 2;funext p;simp[AV.ren]
def ZeD (ρ:Nat->Nat) (l:List (Int×Int)):(dpA l).map (λp=>(p.1.ren ρ,p.2.ren ρ))=dpA l:=by
 simp only[dpA,W10];congr 1;funext p;simp[AV.ren]
def ZeE (ok:Nat->Bool) (st:St) (l:List (Int×Int)):frzO ok st (.mp (dpA l)) = .mp (dpA l):=by
 simp only[frzO,dpA,W10]
 congr 2;funext p;simp[frzA,frz,AV.keys]
def ZeF (o:List (Nat×AObj)) (l:List (Int×Int)):Yc o (.mp (dpA l))=true:=by
 simp only[Yc,W03,dpA,W0i];rintro x ⟨y,-,rfl⟩;simp[Ya,AV.keys]
def ZeG (ρ:Nat->Nat) (r:Jr) (lt:List Int):(byA r lt).ren ρ=byA r lt:=by simp[byA,AV.ren]
def ZeH (ok:Nat->Bool) (st:St) (r:Jr) (lt:List Int):frzA ok st (byA r lt)=byA r lt:=by simp[byA,frzA,frz,AV.keys]
def ZeI (ok:Nat->Bool) (st:St) (r:Jr) (lt:List Int):frzO ok st (.box [byA r lt]) = .box [byA r lt]:=by simp[frzO,ZeH]
def ZeJ (st:St) {ok:Nat->Bool} {k:Nat} (h:ok k=false):frzO ok st (.box [.mp k]) = .box [.mp k]:=by simp[frzO,frzA,frz,h]
def ZeK (st:St) {ok:Nat->Bool} {f:Fn} {a b c:Nat} (h1:ok a=false) (h2:ok b=false) (h3:ok c=false):frzO ok st (.box [.func f [] [.ptr a 0,.ptr b 0,.ptr c 0]]) = .box [.func f [] [.ptr a 0,.ptr b 0,.ptr c 0]]:=by simp[frzO,frzA,frz,h1,h2,h3]
def ZeL (r:Jr) (lt:List Int):(byA r lt).keys=[]:=by simp[byA,AV.keys]
def ZeM (r:Jr) (lt:List Int):(byA r lt).one=true:=by simp[byA,AV.one,AV.known]
def exO (r:Jr) (lt:List Int) (l:List (Int×Int)):List (Nat×AObj) :=
 [(1009,.box [byA r lt]),(1011,.box [.mp 1027]),(1012,.box [.func (.func 55) [] [.ptr 1009 0,.ptr 1011 0,.ptr 1012 0]]),(1027,.mp (dpA l))]
def ZeN (r:Jr) (lt:List Int) (l:List (Int×Int)):∀ p∈exO r lt l,Yc (exO r lt l) p.2=true:=by
 simp only[exO,W0g,W0Q,or_false,W1I,forall_eq,ZeF,and_true];simp[lk,Yc,Ya,AV.keys,ZeL]
def exS (r:Jr) (lt:List Int) (m:Int) (x:Iss) (l:List (Int×Int)) (i:Nat):St:=⟨[(24,.int .i64 i),(23,.int .i64 x.its.length),(22,.vsl (x.its.map ita)),(1,.int .i64 m),(4,.ptr 1012 0)],exO r lt l⟩
def ZeO:RCode->RCode
 |.seq _ b=>ZeO b
 |.block _ b=>b
 |c=>c
def ZeP (r:Jr) (lt:List Int) (ho:openV r=0) (hlt:ltB r lt=true):∀ (k:Nat) (n m:Int) (l:List (Int×Int)),n∈nums r->dpN r n<=k ->
  PB prog G 55 (exO r lt l) [.int .i64 n,.int .i64 m,.ptr 1009 0,.ptr 1011 0,.ptr 1012 0] (.tup []) (exO r lt (paM (tkV r lt) k n m l))
 |0,n,_,_,hn,hd=>(ZbX ho hn hd).elim
 | k + 1,n,m,l,hn,hd=>by
   have hL:=ZaS ho;have hrec:=λy (hy:y∈(tkV r lt n).its)=>λm l=>ZeP r lt ho hlt k y.1 m l (ZbY ho hlt hn hd hy).1 (ZbY ho hlt hn hd hy).2
   have gb:=Ze3 isA n (byN r lt (nums r).length);rw[Zeb hn]at gb;have h8:=tk_8 ho hlt n hn;have gc:=Za4 n l;rw[paM];generalize tkV r lt n=x at *;have pc:=Ze6 n (addW (mpG l n) m) l
   (refine ZdV (W0C rfl) λR hG hrd=>Qga ?_;subst hG)
   have key:∀ (l1:List (Int×Int)) (st:St),Ym st (exS r lt m x l1 0)->AR prog R (ZeO ZdT) st (RetP prog R [KF.bk 0] (FinB [] (.tup []) (exO r lt (x.its.foldl (λl y=>paM (tkV r lt) k y.1 (mulW m y.2) l) l1)))):=by
    intro l1 st hw;refine Z8m (λi=>exS r lt m x ((x.its.take i).foldl (λl y=>paM (tkV r lt) k y.1 (mulW m y.2) l) l1) i) (λ_=>True) x.its.length (by simpa using hw) trivial ?_ ?_
    . intro i hi _;refine Qga ?_;have w1:i64.wrap ((i:Int)+1)=((i+1:Nat):Int):=Yf;have ft:=Zam (λl (y:Int×Int)=>paM (tkV r lt) k y.1 (mulW m y.2) l) l1 x.its i hi;have hr:=hrec x.its[i] (W0e hi) (mulW m x.its[i].2) ((x.its.take i).foldl (λl y=>paM (tkV r lt) k y.1 (mulW m y.2) l) l1);generalize (x.its.take i).foldl (λl y=>paM (tkV r lt) k y.1 (mulW m y.2) l) l1=l2 at *;simp -implicitDefEqProofs[ZeO,ZdT,exS,exO,hi,ita];refine Yd.sem (Z1B.byref hr id (by simp[exO]) (by simp[exO]) (by simp[exO,St.get,lk,ZeC,AObj.ren,AV.ren,ZeG,ZeD]) (ZeN _ _ _) (by simp[exO,Ya,AV.keys,lk]) rfl (by simp[AV.ren,mulW]) rfl rfl) ?_;simp -implicitDefEqProofs[Yl,exO,ZeC,AObj.ren,AV.ren,ZeG,ZeD,w1]
      ((try simp only[exS,exO,byA,ft]);refine Ym.sub (by simp[lk,Ya,AV.keys,exS,exO,byA,ft]) ?_;simp only[exS,exO,byA,ft,Wkl,ZeF,and_true];(try simp[lk,Yc,Ya,AV.keys,exS,exO,byA,ft]))
    . intro _;refine Qga ?_;simp -implicitDefEqProofs[ZeO,ZdT,exS,exO];refine Qgr ?_;simp -implicitDefEqProofs[FinB,Yi,newK,ZeE,ZeI,ZeJ,ZeK,exO]
   by_cases e:x.k=1
   . rw[if_pos e];simp -implicitDefEqProofs[ZdT,ZdU,exO,byA,gb,isA,isa,e];exact key l _ (by ((try simp only[exS,exO,byA]);refine Ym.sub (by simp[lk,Ya,AV.keys,exS,exO,byA]) ?_;simp only[exS,exO,byA,Wkl,ZeF,and_true];(try simp[lk,Yc,Ya,AV.keys,exS,exO,byA])))
   . rw[if_neg e];generalize mpPut n (addW (mpG l n) m) l=l1 at *
     cases q:dpLk n l
     . have q2:mpG l n=0:=(by simp[mpG,dpG,q]);simp only[q2,addW,Int.zero_add]at pc;simp -implicitDefEqProofs[ZdT,ZdU,exO,byA,gb,isA,isa,e,gc,q,pc];exact key l1 _ (by ((try simp only[exS,exO,byA]);refine Ym.sub (by simp[lk,Ya,AV.keys,exS,exO,byA]) ?_;simp only[exS,exO,byA,Wkl,ZeF,and_true];(try simp[lk,Yc,Ya,AV.keys,exS,exO,byA])))
     . rename_i v;have q2:mpG l n=v:=(by simp[mpG,dpG,q]);simp only[q2,addW]at pc;simp -implicitDefEqProofs[ZdT,ZdU,exO,byA,gb,isA,isa,e,gc,q,pc];exact key l1 _ (by ((try simp only[exS,exO,byA]);refine Ym.sub (by simp[lk,Ya,AV.keys,exS,exO,byA]) ?_;simp only[exS,exO,byA,Wkl,ZeF,and_true];(try simp[lk,Yc,Ya,AV.keys,exS,exO,byA])))
def ZeQ (ρ:Nat->Nat) (l:List Int):(lfA l).map (λp=>(p.1.ren ρ,p.2.ren ρ))=lfA l:=by
 simp only[lfA,W10];congr 1;funext p;simp[AV.ren]
def ZeR (ok:Nat->Bool) (st:St) (l:List Int):frzO ok st (.mp (lfA l)) = .mp (lfA l):=by
 simp only[frzO,lfA,W10]
 congr 2;funext p;simp[frzA,frz,AV.keys]
def ZeS (o:List (Nat×AObj)) (l:List Int):Yc o (.mp (lfA l))=true:=by
 simp only[Yc,W03,lfA,W0i];rintro x ⟨y,-,rfl⟩;simp[Ya,AV.keys]
def ZeT (ρ:Nat->Nat) (r:Jr) (ds:List Int):(bkA r ds).ren ρ=bkA r ds:=by simp[bkA,AV.ren]
def ZeU (r:Jr) (ds:List Int):(bkA r ds).keys=[]:=by simp[bkA,AV.keys]
def ZeV (ok:Nat->Bool) (st:St) (r:Jr) (ds:List Int):frzO ok st (.box [bkA r ds]) = .box [bkA r ds]:=by simp[frzO,frzA,frz,bkA,AV.keys]
def ZeW (st:St) {ok:Nat->Bool} {f:Fn} {a b c d:Nat} (h1:ok a=false) (h2:ok b=false) (h3:ok c=false) (h4:ok d=false):frzO ok st (.box [.func f [] [.ptr a 0,.ptr b 0,.ptr c 0,.ptr d 0]]) = .box [.func f [] [.ptr a 0,.ptr b 0,.ptr c 0,.ptr d 0]]:=by simp[frzO,frzA,frz,h1,h2,h3,h4]
def abO (r:Jr) (lt:List Int) (s:List Int):List (Nat×AObj) :=
 [(1008,.box [bkA r (nums r)]),(1011,.box [.mp 1027]),(1009,.box [byA r lt]),(1012,.box [.func (.func 60) [] [.ptr 1008 0,.ptr 1011 0,.ptr 1009 0,.ptr 1012 0]]),(1027,.mp (lfA s))]
def ZeX (r:Jr) (lt:List Int) (l:List Int):∀ p∈abO r lt l,Yc (abO r lt l) p.2=true:=by
 simp only[abO,W0g,W0Q,or_false,W1I,forall_eq,ZeS,and_true];simp[lk,Yc,Ya,AV.keys,ZeL,ZeU]
def abS (r:Jr) (lt:List Int) (d:Int) (s:List Int) (i:Nat):St:=⟨[(13,.int .i64 i),(12,.int .i64 (nums r).length),(11,.vsl ((nums r).map ia)),(0,.int .i64 d),(2,.ptr 1011 0),(3,.ptr 1009 0),(4,.ptr 1012 0)],abO r lt s⟩
def abF (l S:List Int) (i:Nat):St:=if flN l (λn=>decide (n∈S)) i=[] then ⟨[(37,.int .i64 i),(36,.int .i64 l.length),(35,.vsl (l.map ia)),(11,.ptr 11 0),(13,.nils)],[(11,.box [.mp 27]),(27,.mp (lfA S))]⟩
 else ⟨[(37,.int .i64 i),(36,.int .i64 l.length),(35,.vsl (l.map ia)),(11,.ptr 11 0),(13,.osl 47 (flN l (λn=>decide (n∈S)) i).length)],[(11,.box [.mp 27]),(27,.mp (lfA S)),(47,.row 1 ((flN l (λn=>decide (n∈S)) i).map ia))]⟩
def upS (r:Jr) (n:Int) (i:Nat):St:=if usN r n i=[] then ⟨[(26,.int .i64 i),(25,.int .i64 r.length),(24,.vsl (r.map isa)),(8,.nils),(1,.int .i64 n)],[]⟩
 else ⟨[(26,.int .i64 i),(25,.int .i64 r.length),(24,.vsl (r.map isa)),(8,.osl 37 (usN r n i).length),(1,.int .i64 n)],[(37,.row 2 ((usN r n i).map ita))]⟩
def upF (T:Int->Iss) (l:List Int) (k:Nat) (d:Int) (s:List Int) (n:Int):List Int:=if decide (n∈s)=false/\needL d (T n).its=true then upV T l k n (s++[n]) else s
def ZeY {T:Int->Iss} {l:List Int} {k:Nat} {d:Int} {s:List Int}:upV T l (k+1) d s=l.foldl (upF T l k d) s:=rfl
def ZeZ {T:Int->Iss} {l:List Int} {k:Nat} {d:Int} {s:List Int} {n:Int} (h:n∈s):upF T l k d s n=s:=by simp[upF,h]
def Zf0 {T:Int->Iss} {l:List Int} {k:Nat} {d:Int} {s:List Int} {n:Int} (h:needL d (T n).its=false):upF T l k d s n=s:=by simp[upF,h]
def Zf1 {T:Int->Iss} {l:List Int} {k:Nat} {d:Int} {s:List Int} {n:Int} (h:n ∉ s) (h2:needL d (T n).its=true):upF T l k d s n=upV T l k n (s++[n]):=by simp[upF,h,h2]
def Zf2 {T:Int->Iss} {l:List Int} {k:Nat} {d:Int} {s:List Int} {n x:Int} (h:x∈s):x∈upF T l k d s n:=by
 unfold upF
 split
 . exact Zei _ _ _ _ (W0h.2 (.inl h))
 . exact h
def Zf3 (y:Int×Int) (n:Int):PC prog G 79 [.agg [.int .i64 y.1,.int .i64 y.2],.vptr [.int .i64 n] 0] (.bool (decide (y.1=n))):=by
 (refine ZdA rfl λR hG hrd=>Qga ?_;subst hG)
 simp -implicitDefEqProofs[Zdy,Zdz]
def Zf4 (x:Iss) (n:Int) (h:Sml x.its):PC prog G 61 [.agg (isa x),.int .i64 n] (.bool (needL n x.its)):=by
 (refine Zdx rfl λR hG hrd=>Qga ?_;subst hG)
 simp -implicitDefEqProofs[Zdv,Zdw,isa]
 (first|refine Yd.flat (Z9h 79 [.vptr [.int .i64 n] 0] (λy=>decide (y.1=n)) x.its (by simp[AV.pure]) h (λy _=>Zf3 y n)) (by simp[AV.flat]) (by simp) ?_|refine Ye.flat (Z9h 79 [.vptr [.int .i64 n] 0] (λy=>decide (y.1=n)) x.its (by simp[AV.pure]) h (λy _=>Zf3 y n)) (by simp[AV.flat]) (by simp) ?_)
 simp -implicitDefEqProofs[needL]
def Zf5 (hG:GC G) (r:Jr) (n:Int) (h:Wf r):PC prog G 31 [rega r,.int .i64 n] (.tup [.vsl ((useE r n).1.map ita),.int .i64 (useE r n).2]):=by
 by_cases k:knV r n=0
 case neg =>
  refine PC.nzR (v:=.tup [.nils,.int .i64 (knV r n)]) ?_ (by simp[nz,useE,k])
  (refine ZdD rfl λR hG hrd=>Qga ?_;subst hG)
  simp -implicitDefEqProofs[ZdB,ZdC,rega];refine Qco (Zb3 hG r n h) ?_;simp -implicitDefEqProofs[k]
 have ev:useE r n=(usN r n r.length,0):=(by simp[useE,k]);have hs:=h.1.1;unfold Sml at hs;rw[ev];refine PC.nzR (v:=.tup [if usN r n r.length=[] then .nils else .vsl ((usN r n r.length).map ita),.int .i64 0]) ?_ (by split <;> simp_all [nz])
 (refine ZdD rfl λR hG hrd=>Qga ?_;subst hG)
 simp -implicitDefEqProofs[ZdB,ZdC,rega];refine Qco (Zb3 hG r n h) ?_;simp -implicitDefEqProofs[k,bkA];refine Z8m (upS r n) (λ_=>True) r.length ?_ trivial ?_ ?_
 . have e0:usN r n 0=[]:=rfl;simp only[upS,e0,if_true]
   (first|exact Wka|exact Wkb)
 . intro i hi _;refine Qga ?_;have w1:i64.wrap ((i:Int)+1)=((i+1:Nat):Int):=Yf;have hx:=h.1.2 r[i] (W0e hi);have hs:=Zeg (n:=n) hi;have bl:=Zeh r n i;have bb:((usN r n i).length+1)*16<=70368744177664:=by omega
   cases q:needL n r[i].its
   . rw[if_neg (by simp[q])]at hs;by_cases z:usN r n i=[]
     . rw[z]at hs;simp -implicitDefEqProofs[upS,z,hi,isa];refine Qco (Zf4 r[i] n hx.1) ?_;simp -implicitDefEqProofs[upS,q,w1,hs]
       ((try simp only[ita]);refine Ym.sub (by simp[lk,Ya,AV.keys,ita]) ?_;simp only[ita,Wkl,Zc1,and_true];(try simp[lk,Yc,Ya,AV.keys,ita]))
     . simp -implicitDefEqProofs[upS,z,hi,isa];refine Qco (Zf4 r[i] n hx.1) ?_;simp -implicitDefEqProofs[upS,q,w1,hs,z]
       ((try simp only[ita]);refine Ym.sub (by simp[lk,Ya,AV.keys,ita]) ?_;simp only[ita,Wkl,Zc1,and_true];(try simp[lk,Yc,Ya,AV.keys,ita]))
   . rw[if_pos q]at hs;by_cases z:usN r n i=[]
     . rw[z]at hs;simp -implicitDefEqProofs[upS,z,hi,isa];refine Qco (Zf4 r[i] n hx.1) ?_;simp -implicitDefEqProofs[q];refine Qco (Z9p r[i]) ?_;simp -implicitDefEqProofs[upS,w1,hs]
       ((try simp only[ita]);refine Ym.sub (by simp[lk,Ya,AV.keys,ita]) ?_;simp only[ita,Wkl,Zc1,and_true];(try simp[lk,Yc,Ya,AV.keys,ita]))
     . simp -implicitDefEqProofs[upS,z,hi,isa];refine Qco (Zf4 r[i] n hx.1) ?_;simp -implicitDefEqProofs[q];refine Qco (Z9p r[i]) ?_;simp -implicitDefEqProofs[upS,w1,hs,z,bb]
       ((try simp only[ita]);refine Ym.sub (by simp[lk,Ya,AV.keys,ita]) ?_;simp only[ita,Wkl,Zc1,and_true];(try simp[lk,Yc,Ya,AV.keys,ita]))
 . intro _;refine Qga ?_;by_cases z:usN r n r.length=[]
   . simp -implicitDefEqProofs[upS,z];refine Qgr ?_;simp -implicitDefEqProofs[z]
   . have pu:((usN r n r.length).map ita).all (λr=>r.all AV.pure)=true:=(by simp[ita,AV.pure]);simp -implicitDefEqProofs[upS,z];refine Qgr ?_;simp -implicitDefEqProofs[z,pu]
def up_pb (r:Jr) (lt:List Int) (h:Wf r) (ho:openV r=0) (hlt:ltB r lt=true):∀ (k:Nat) (d:Int) (s:List Int),leftN (nums r) s<k ->
  PB prog G 60 (abO r lt s) [.int .i64 d,.ptr 1008 0,.ptr 1011 0,.ptr 1009 0,.ptr 1012 0] (.tup []) (abO r lt (upV (tkV r lt) (nums r) k d s))
 |0,_,_,hk=>by omega
 | k + 1,d,s,hk=>by
   have hL:=ZaS ho;have hl:=ZaT hL;have hrec:=λn s1 (c:leftN (nums r) s1<k)=>up_pb r lt h ho hlt k n s1 c
   rw[ZeY]
   (refine ZdJ (W0C rfl) λR hG hrd=>Qga ?_;subst hG)
   simp -implicitDefEqProofs[ZdH,ZdI,abO,bkA];refine Z8m (λi=>abS r lt d (((nums r).take i).foldl (upF (tkV r lt) (nums r) k d) s) i) (λi=>∀ x∈s,x∈((nums r).take i).foldl (upF (tkV r lt) (nums r) k d) s) (nums r).length ?_ (by simp) ?_ ?_
   . ((try simp only[abS,abO,bkA,byA,W1f,List.foldl_nil]);refine Ym.sub (by simp[lk,Ya,AV.keys,abS,abO,bkA,byA,W1f,List.foldl_nil]) ?_;simp only[abS,abO,bkA,byA,W1f,List.foldl_nil,Wkl,ZeS,and_true];(try simp[lk,Yc,Ya,AV.keys,abS,abO,bkA,byA,W1f,List.foldl_nil]))
   . intro i hi hsub;refine Qga ?_;have w1:i64.wrap ((i:Int)+1)=((i+1:Nat):Int):=Yf;have ft:=Zam (upF (tkV r lt) (nums r) k d) s (nums r) i hi;have hsub2:∀ x∈s,x∈((nums r).take (i+1)).foldl (upF (tkV r lt) (nums r) k d) s:=λx hx=>by rw[ft];exact Zf2 (hsub x hx)
     generalize ((nums r).take i).foldl (upF (tkV r lt) (nums r) k d) s=s1 at *;have hn:=W0e hi;have gl:=Za7 (nums r)[i] s1;have gb:=Ze3 isA (nums r)[i] (byN r lt (nums r).length);rw[Zeb hn]at gb;have hx:=ZbL hL hlt hn;have hsz:=h.1.2 _ hx.1;by_cases q:(nums r)[i]∈s1
     . rw[if_pos q]at gl;rw[ZeZ q]at ft;simp -implicitDefEqProofs[abS,abO,hi,ia,gl,w1];exact ⟨(by ((try simp only[abS,abO,bkA,byA,ft]);refine Ym.sub (by simp[lk,Ya,AV.keys,abS,abO,bkA,byA,ft]) ?_;simp only[abS,abO,bkA,byA,ft,Wkl,ZeS,and_true];(try simp[lk,Yc,Ya,AV.keys,abS,abO,bkA,byA,ft]))),hsub2⟩
     . rw[if_neg q]at gl;have hleft:=Zek hn q;have hmo:=Zej (l:=nums r) hsub;have hr:=hrec (nums r)[i] (s1++[(nums r)[i]]) (by omega);have pl:=Za8 q;have f1:=Zf0 (T:=tkV r lt) (l:=nums r) (k:=k) (d:=d) (s:=s1) (n:=(nums r)[i]);have f2:=Zf1 (T:=tkV r lt) (l:=nums r) (k:=k) (d:=d) (n:=(nums r)[i]) q;generalize tkV r lt (nums r)[i]=x at *;simp -implicitDefEqProofs[abS,abO,hi,ia,gl,byA,gb,isA,isa];refine Qco (Zf4 x d hsz.1) ?_
       cases q2:needL d x.its
       . rw[f1 q2]at ft;simp -implicitDefEqProofs[w1,abS,abO];exact ⟨(by ((try simp only[abS,abO,bkA,byA,ft]);refine Ym.sub (by simp[lk,Ya,AV.keys,abS,abO,bkA,byA,ft]) ?_;simp only[abS,abO,bkA,byA,ft,Wkl,ZeS,and_true];(try simp[lk,Yc,Ya,AV.keys,abS,abO,bkA,byA,ft]))),hsub2⟩
       . rw[f2 q2]at ft;simp -implicitDefEqProofs[pl];refine Yd.sem (Z1B.byref hr id (by simp[abO]) (by simp[abO]) (by simp[abO,St.get,lk,AObj.ren,AV.ren,ZeG,ZeT,ZeQ,byA,bkA]) (ZeX _ _ _) (by simp[abO,Ya,AV.keys,lk]) rfl (by simp[AV.ren]) rfl rfl) ?_;simp -implicitDefEqProofs[Yl,abO,AObj.ren,AV.ren,ZeG,ZeT,ZeQ,w1,abS];exact ⟨(by ((try simp only[abS,abO,bkA,byA,ft]);refine Ym.sub (by simp[lk,Ya,AV.keys,abS,abO,bkA,byA,ft]) ?_;simp only[abS,abO,bkA,byA,ft,Wkl,ZeS,and_true];(try simp[lk,Yc,Ya,AV.keys,abS,abO,bkA,byA,ft]))),hsub2⟩
   . intro _;refine Qga ?_;simp -implicitDefEqProofs[abS,abO];refine Qgr ?_;simp -implicitDefEqProofs[FinB,Yi,newK,ZeR,ZeI,ZeJ,ZeV,ZeW,abO];rfl
def Zf6 (hG:GC G) (r:Jr) (lt:List Int) (d:Int) (h:Wf r):PC prog G 22 [rega r,.vsl (lt.map ia),.int .i64 d] (.tup [.vsl ((abE r lt d).1.map ia),.int .i64 (abE r lt d).2]):=by
 by_cases e:askV r lt d=0
 case neg =>
  refine PC.nzR (v:=.tup [.nils,.int .i64 (askV r lt d)]) ?_ (by simp[nz,abE,e])
  (refine ZdG rfl λR hG hrd=>Qga ?_;subst hG)
  simp -implicitDefEqProofs[ZdE,ZdF,rega];refine Qco (Zed hG r lt d h) ?_;simp -implicitDefEqProofs[takA,e]
 obtain ⟨ho,hlt,hn⟩:=ask_0 e;have hl:=ZaT (ZaS ho);have hp:=up_pb (G:=G) r lt h ho hlt ((nums r).length+1) d [] (Nat.lt_succ_of_le (Zel _ _));have ev:abE r lt d=(flN (nums r) (λn=>decide (n∈upV (tkV r lt) (nums r) ((nums r).length+1) d [])) (nums r).length,0):=(by rw[abE,if_pos e,flN,W0v];rfl);rw[ev];generalize upV (tkV r lt) (nums r) ((nums r).length+1) d []=S at *;refine PC.nzR (v:=.tup [if flN (nums r) (λn=>decide (n∈S)) (nums r).length=[] then .nils else .vsl ((flN (nums r) (λn=>decide (n∈S)) (nums r).length).map ia),.int .i64 0]) ?_ (by by_cases q:flN (nums r) (λn=>decide (n∈S)) (nums r).length=[] <;> simp only[q,if_true,if_false] <;> simp[nz])
 (refine ZdG rfl λR hG hrd=>Qga ?_;subst hG)
 simp -implicitDefEqProofs[ZdE,ZdF,rega];refine Qco (Zed hG r lt d h) ?_;simp -implicitDefEqProofs[takA,e,ZeM,bkA,byA];refine Yd.sem (Z1B.byref hp (λk=>k-1000) (by simp[abO]) (by simp[abO]) (by simp[abO,St.get,lk,AObj.ren,AV.ren,ZeG,ZeT,ZeQ,byA,bkA];try simp[lfA]) (ZeX _ _ _) (by simp[abO,Ya,AV.keys,lk]) rfl (by simp[AV.ren]) rfl rfl) ?_;simp -implicitDefEqProofs[Yl,abO,AObj.ren,AV.ren,ZeG,ZeT,ZeQ,bkA];refine Z8m (abF (nums r) S) (λ_=>True) (nums r).length ?_ trivial ?_ ?_
 . have e0:flN (nums r) (λn=>decide (n∈S)) 0=[]:=rfl;simp only[abF,e0,if_true]
   ((try simp only[byA]);refine Ym.sub (by simp[lk,Ya,AV.keys,byA]) ?_;simp only[byA,Wkl,ZeS,and_true];(try simp[lk,Yc,Ya,AV.keys,byA]))
 . intro i hi _;refine Qga ?_;have w1:i64.wrap ((i:Int)+1)=((i+1:Nat):Int):=Yf;have gl:=Za7 (nums r)[i] S;have hs:=Zen (g:=λn=>decide (n∈S)) hi;have bl:=Zeo (nums r) (λn=>decide (n∈S)) i
   have hA:∀ i,abF (nums r) S i=if flN (nums r) (λn=>decide (n∈S)) i=[] then ⟨[(37,.int .i64 i),(36,.int .i64 (nums r).length),(35,.vsl ((nums r).map ia)),(11,.ptr 11 0),(13,.nils)],[(11,.box [.mp 27]),(27,.mp (lfA S))]⟩
    else ⟨[(37,.int .i64 i),(36,.int .i64 (nums r).length),(35,.vsl ((nums r).map ia)),(11,.ptr 11 0),(13,.osl 47 (flN (nums r) (λn=>decide (n∈S)) i).length)],[(11,.box [.mp 27]),(27,.mp (lfA S)),(47,.row 1 ((flN (nums r) (λn=>decide (n∈S)) i).map ia))]⟩:=λ_=>rfl
   simp only[W0b]at hs;generalize flN (nums r) (λn=>decide (n∈S))=F at *;have bb:((F i).length+1)*8<=70368744177664:=(by omega);by_cases q:(nums r)[i]∈S
   . rw[if_pos q]at hs gl;by_cases z:F i=[]
     . rw[z]at hs;simp -implicitDefEqProofs[hA,z,hi,ia,gl,w1,hs]
       ((try simp only[ia]);refine Ym.sub (by simp[lk,Ya,AV.keys,ia]) ?_;simp only[ia,Wkl,ZeS,Zem,and_true];(try simp[lk,Yc,Ya,AV.keys,ia]))
     . simp -implicitDefEqProofs[hA,z,hi,ia,gl,w1,hs,bb]
       ((try simp only[ia]);refine Ym.sub (by simp[lk,Ya,AV.keys,ia]) ?_;simp only[ia,Wkl,ZeS,Zem,and_true];(try simp[lk,Yc,Ya,AV.keys,ia]))
   . rw[if_neg q]at hs gl;by_cases z:F i=[]
     . rw[z]at hs;simp -implicitDefEqProofs[hA,z,hi,ia,gl,w1,hs]
       ((try simp only[ia]);refine Ym.sub (by simp[lk,Ya,AV.keys,ia]) ?_;simp only[ia,Wkl,ZeS,Zem,and_true];(try simp[lk,Yc,Ya,AV.keys,ia]))
     . simp -implicitDefEqProofs[hA,z,hi,ia,gl,w1,hs]
       ((try simp only[ia]);refine Ym.sub (by simp[lk,Ya,AV.keys,ia]) ?_;simp only[ia,Wkl,ZeS,Zem,and_true];(try simp[lk,Yc,Ya,AV.keys,ia]))
 . intro _;refine Qga ?_
   have hA:abF (nums r) S (nums r).length=if flN (nums r) (λn=>decide (n∈S)) (nums r).length=[] then ⟨[(37,.int .i64 (nums r).length),(36,.int .i64 (nums r).length),(35,.vsl ((nums r).map ia)),(11,.ptr 11 0),(13,.nils)],[(11,.box [.mp 27]),(27,.mp (lfA S))]⟩
    else ⟨[(37,.int .i64 (nums r).length),(36,.int .i64 (nums r).length),(35,.vsl ((nums r).map ia)),(11,.ptr 11 0),(13,.osl 47 (flN (nums r) (λn=>decide (n∈S)) (nums r).length).length)],[(11,.box [.mp 27]),(27,.mp (lfA S)),(47,.row 1 ((flN (nums r) (λn=>decide (n∈S)) (nums r).length).map ia))]⟩:=rfl
   generalize flN (nums r) (λn=>decide (n∈S)) (nums r).length=F at *;by_cases z:F=[]
   . simp -implicitDefEqProofs[hA,z];refine Qgr ?_;simp -implicitDefEqProofs[z]
   . have pu:(F.map ia).all (λr=>r.all AV.pure)=true:=(by simp[ia,AV.pure]);simp -implicitDefEqProofs[hA,z];refine Qgr ?_;simp -implicitDefEqProofs[z,pu]
def mpP {α:Type} (n:Int) (v:α):List (Int×α)->List (Int×α)
 |[]=>[(n,v)]
 |p::l=>if n=p.1 then (n,v)::l else p::mpP n v l
def Zf7 {α:Type} (n:Int) (v:α):∀ (l:List (Int×α)) (m:Int),mlk m (mpP n v l)=if m=n then some v else mlk m l
 |[],m=>by simp[mpP,mlk]
 | p :: l,m=>by
   have ih:=Zf7 n v l m;simp only[mpP];by_cases e:n=p.1
   . rw[if_pos e];simp only[mlk];by_cases e2:m=n
     . rw[if_pos e2,if_pos e2]
     . rw[if_neg e2,if_neg e2,if_neg (by rw[<- e];exact e2)]
   . rw[if_neg e];simp only[mlk];by_cases e2:m=p.1
     . rw[if_pos e2,if_pos e2,if_neg (by rintro rfl;exact e e2)]
     . rw[if_neg e2,if_neg e2];exact ih
def Zf8 {α:Type} (f:α->AV) (n:Int) (v:α):∀ l:List (Int×α),∃ o:Option Nat,(KK.i .i64).find (.int .i64 n) (mpA f l)=some o/\match o with
  |some j=>mpP n v l=l.set j (n,v)
  |none=>mpP n v l=l++[(n,v)]
 |[]=>⟨none,rfl,rfl⟩
 | p :: r=>by
   obtain ⟨o,h1,h2⟩:=Zf8 f n v r;by_cases e:n=p.1
   . exact ⟨some 0,by simp[mpA,KK.find,KK.eq,e],by simp[mpP,e]⟩
   . refine ⟨o.map (· + 1),?_,?_⟩
     . simp only[mpA,W0F,KK.find,KK.eq,and_self,if_true,e,W1v];rw[show r.map (λp=>(AV.int .i64 p.1,f p.2))=mpA f r from rfl,h1];rfl
     . cases o with
       |none=>simp only[Option.map_none,mpP,if_neg e,h2];rfl
       |some j=>simp only[W0m,mpP,if_neg e,h2];rfl
def Zf9 {α:Type} (f:α->AV) (n:Int) (v:α) (l:List (Int×α)):(KK.i .i64).put (.int .i64 n) (f v) (mpA f l)=some (mpA f (mpP n v l)):=by
 obtain ⟨o,h1,h2⟩:=Zf8 f n v l;have hi:(KK.i .i64).is (.int .i64 n)=true:=(by simp[KK.is]);unfold KK.put;rw[if_pos hi,h1]
 cases o with
 |none=>simp only[h2];simp[mpA]
 |some j=>rw[h2];simp[mpA,W2e]
def dA (d:Dm):AV:=.agg (dma d)
def Zfa (o:List (Nat×AObj)) (l:List (Int×Dm)):Yc o (.mp (mpA dA l))=true:=by
 simp only[Yc,W03,mpA,W0i];rintro _ ⟨y,-,rfl⟩;simp[dA,dma,Ya,AV.keys]
def Cnt (l:List (Int×Dm)) (f g:Int->Int):Prop:=∀ n,(mlk n l=none/\f n=0/\g n=0)∨mlk n l=some ⟨n,f n,g n⟩
def Zfb {l:List (Int×Int)} (hn:(l.map (·.1)).Nodup) {i:Nat} (h:i<l.length) (n:Int):ctL n (l.take (i+1))=if n=l[i].1 then l[i].2 else ctL n (l.take i):=by
 have app:∀ (l1:List (Int×Int)) (y:Int×Int),y.1 ∉ l1.map (·.1)->ctL n (l1++[y])=if n=y.1 then y.2 else ctL n l1:=by
  intro l1 y
  induction l1 with
  | nil =>
    intro _;simp only[W18,ctL];by_cases e:n=y.1
    . rw[if_pos e,if_pos e.symm]
    . rw[if_neg e,if_neg λq=>e q.symm]
  | cons z l1 ih =>
    intro h;simp only[W0F,W0g,not_or]at h;simp only[W1d,ctL,ih h.2];by_cases e:z.1=n
    . rw[if_pos e,if_pos e,if_neg (λq=>h.1 (by rw[e,q]))]
    . rw[if_neg e,if_neg e]
 rw[W08 h];refine app _ _ λhm=>?_
 obtain ⟨y,hy,e⟩:=W0i.1 hm;obtain ⟨j,hj,rfl⟩:=W0k hy;simp only[W15]at hj;simp only[W1P]at e;have h1:=W0Y.1 hn j i (by simp;omega) (by simpa using h) (by omega);simp only[W1u]at h1;exact h1 e
def by1 (its:List (Int×Int)) (i:Nat):List (Int×Dm):=(its.take i).foldl (λl y=>mpP y.1 ⟨y.1,y.2,0⟩ l) []
def by2 (l:List (Int×Dm)) (its:List (Int×Int)) (i:Nat):List (Int×Dm):=(its.take i).foldl (λl y=>mpP y.1 ⟨y.1,((mlk y.1 l).getD Dm.zero).l,y.2⟩ l) l
def Zfc {its:List (Int×Int)} {i:Nat} (h:i<its.length):by1 its (i+1)=mpP its[i].1 ⟨its[i].1,its[i].2,0⟩ (by1 its i):=Zam _ _ _ _ h
def Zfd {l:List (Int×Dm)} {its:List (Int×Int)} {i:Nat} (h:i<its.length):by2 l its (i+1)=mpP its[i].1 ⟨its[i].1,((mlk its[i].1 (by2 l its i)).getD Dm.zero).l,its[i].2⟩ (by2 l its i):=Zam (λ(l:List (Int×Dm)) (y:Int×Int)=>mpP y.1 ⟨y.1,((mlk y.1 l).getD Dm.zero).l,y.2⟩ l) _ _ _ h
def Zfe {its:List (Int×Int)} (hn:(its.map (·.1)).Nodup):∀ i,i<=its.length->Cnt (by1 its i) (λn=>ctL n (its.take i)) λ_=>0
 |0,_=>λn=>.inl ⟨rfl,by simp[ctL],rfl⟩
 | i+1,hi=>λn=>by
   have hlt:i<its.length:=(by omega);have ih:=Zfe hn i (by omega) n;rw[Zfc hlt,Zf7];simp only[Zfb hn hlt n];by_cases e:n=its[i].1
   . rw[if_pos e,if_pos e];exact .inr (by rw[e])
   . rw[if_neg e,if_neg e];simpa using ih
def Zff {l:List (Int×Dm)} {f:Int->Int} (h0:Cnt l f λ_=>0) {its:List (Int×Int)} (hn:(its.map (·.1)).Nodup):∀ i,i<=its.length->Cnt (by2 l its i) f λn=>ctL n (its.take i)
 |0,_=>λn=>by have:=h0 n;simpa [by2,ctL] using this
 | i + 1,hi=>λn=>by
   have hlt:i<its.length:=(by omega);have ih:=Zff h0 hn i (by omega);rw[Zfd hlt,Zf7];simp only[Zfb hn hlt n];by_cases e:n=its[i].1
   . rw[if_pos e,if_pos e];refine .inr ?_;rcases ih its[i].1 with ⟨h1,h2,-⟩|h1
     . rw[h1,e,h2];rfl
     . rw[h1,e];rfl
   . rw[if_neg e,if_neg e];exact ih n
def f1S (r:Jr) (a b:Iss) (l:List (Int×Dm)) (i:Nat):St:=⟨[(59,.int .i64 i),(58,.int .i64 a.its.length),(57,.vsl (a.its.map ita)),(16,.mp 55),(11,bkA r (nums r)),(12,.ptr 12 0),(14,.ptr 14 0),(8,.nils),(9,.nils)],[(12,.box (isa a)),(14,.box (isa b)),(55,.mp (mpA dA l))]⟩
def f2S (r:Jr) (a b:Iss) (l:List (Int×Dm)) (i:Nat):St:=⟨[(75,.int .i64 i),(74,.int .i64 b.its.length),(73,.vsl (b.its.map ita)),(16,.mp 55),(11,bkA r (nums r)),(12,.ptr 12 0),(14,.ptr 14 0),(8,.nils),(9,.nils)],[(12,.box (isa a)),(14,.box (isa b)),(55,.mp (mpA dA l))]⟩
def f3S (l:List Int) (a b:Iss) (m:List (Int×Dm)) (D:List Dm) (i:Nat):St:=if D=[] then ⟨[(98,.int .i64 i),(97,.int .i64 l.length),(96,.vsl (l.map ia)),(16,.mp 55),(12,.ptr 12 0),(14,.ptr 14 0),(8,.nils),(9,.nils)],[(12,.box (isa a)),(14,.box (isa b)),(55,.mp (mpA dA m))]⟩
 else ⟨[(98,.int .i64 i),(97,.int .i64 l.length),(96,.vsl (l.map ia)),(16,.mp 55),(12,.ptr 12 0),(14,.ptr 14 0),(8,.osl 113 D.length),(9,.nils)],[(12,.box (isa a)),(14,.box (isa b)),(55,.mp (mpA dA m)),(113,.row 3 (D.map dma))]⟩
def f4S (C:AV) (a b:Iss) (i:Nat):St:=if dsN a.dms b.dms i=[] then ⟨[(122,.int .i64 i),(121,.int .i64 (max a.dms.length b.dms.length:Nat)),(8,C),(9,.nils),(12,.ptr 12 0),(14,.ptr 14 0)],[(12,.box (isa a)),(14,.box (isa b))]⟩
 else ⟨[(122,.int .i64 i),(121,.int .i64 (max a.dms.length b.dms.length:Nat)),(8,C),(9,.osl 150 (dsN a.dms b.dms i).length),(12,.ptr 12 0),(14,.ptr 14 0)],[(12,.box (isa a)),(14,.box (isa b)),(150,.row 1 ((dsN a.dms b.dms i).map ia))]⟩
def Zfg {l:List (Int×Dm)} {f g:Int->Int} (h:Cnt l f g) (n:Int):((mlk n l).getD Dm.zero).l=f n/\((mlk n l).getD Dm.zero).u=g n/\(f n≠g n->mlk n l=some ⟨n,f n,g n⟩):=by
 rcases h n with ⟨h1,h2,h3⟩|h1
 . rw[h1,h2,h3];exact ⟨rfl,rfl,λh=>absurd rfl h⟩
 . rw[h1];exact ⟨rfl,rfl,λ_=>rfl⟩
set_option maxRecDepth 4000 in
def Zfh (hG:GC G) (r:Jr) (d n m:Int) (h:Wf r):PC prog G 24 [rega r,.int .i64 d,.int .i64 n,.int .i64 m] (.tup [.vsl ((difE r d n m).1.map dma),.vsl ((difE r d n m).2.1.map ia),.int .i64 (difE r d n m).2.2]):=by
 by_cases e:openV r=0
 case neg =>
  refine PC.nzR (v:=.tup [.nils,.nils,.int .i64 (openV r)]) ?_ (by simp[nz,difE,e])
  (refine ZdM rfl λR hG hrd=>Qga ?_;subst hG)
  simp -implicitDefEqProofs[ZdK,ZdL,rega];refine Qco (ZaB hG r h) ?_;simp -implicitDefEqProofs[openA,e]
 have hL:=ZaS e;have hO:=Z8Q hL;have hl:=ZaT hL
 cases fa:findN d n r with
 | none =>
   have ev:difE r d n m=([],[],6):=(by simp[difE,e,fa]);refine PC.nzR (v:=.tup [.nils,.nils,.int .i64 6]) ?_ (by simp[nz,ev])
   (refine ZdM rfl λR hG hrd=>Qga ?_;subst hG)
   simp -implicitDefEqProofs[ZdK,ZdL,rega];refine Qco (ZaB hG r h) ?_;simp -implicitDefEqProofs[openA,e];refine Qco (Za2 r (nums r) d n (Zb0 hO) h.1.1 (Zb2 hL)) ?_;simp -implicitDefEqProofs[fa,fndA,noIs];refine Qco (Za2 r (nums r) d m (Zb0 hO) h.1.1 (Zb2 hL)) ?_
   cases fb:findN d m r <;> simp -implicitDefEqProofs[fb,fndA,noIs,isa]
 |some a =>
 cases fb:findN d m r with
 | none =>
   have ev:difE r d n m=([],[],6):=(by simp[difE,e,fa,fb]);refine PC.nzR (v:=.tup [.nils,.nils,.int .i64 6]) ?_ (by simp[nz,ev])
   (refine ZdM rfl λR hG hrd=>Qga ?_;subst hG)
   simp -implicitDefEqProofs[ZdK,ZdL,rega];refine Qco (ZaB hG r h) ?_;simp -implicitDefEqProofs[openA,e];refine Qco (Za2 r (nums r) d n (Zb0 hO) h.1.1 (Zb2 hL)) ?_;simp -implicitDefEqProofs[fa,fndA,isa];refine Qco (Za2 r (nums r) d m (Zb0 hO) h.1.1 (Zb2 hL)) ?_;simp -implicitDefEqProofs[fb,fndA,noIs]
 |some b =>
 have ha:=h.1.2 a (Z98 fa).1;have hb:=h.1.2 b (Z98 fb).1;have na:=Zef (ZaV hL (Z98 fa).1);have nb:=Zef (ZaV hL (Z98 fb).1);have h8a:=(ZbN (ZaV hL (Z98 fa).1)).2.2.1;have h8b:=(ZbN (ZaV hL (Z98 fb).1)).2.2.1;have ev:difE r d n m=(dfN (nums r) (λn=>ctL n a.its) (λn=>ctL n b.its) (nums r).length,dsN a.dms b.dms (max a.dms.length b.dms.length),0):=(by simp[difE,e,fa,fb]);rw[ev];refine PC.nzR (v:=.tup [Yg ((dfN (nums r) (λn=>ctL n a.its) (λn=>ctL n b.its) (nums r).length).map dma),Yg ((dsN a.dms b.dms (max a.dms.length b.dms.length)).map ia),.int .i64 0]) ?_ (by simp only[Z8v,W0F,W1c,Zew];simp[nz])
 (refine ZdM rfl λR hG hrd=>Qga ?_;subst hG)
 simp -implicitDefEqProofs[ZdK,ZdL,rega];refine Qco (ZaB hG r h) ?_;simp -implicitDefEqProofs[openA,e];refine Qco (Za2 r (nums r) d n (Zb0 hO) h.1.1 (Zb2 hL)) ?_;simp -implicitDefEqProofs[fa,fndA,isa];refine Qco (Za2 r (nums r) d m (Zb0 hO) h.1.1 (Zb2 hL)) ?_;simp -implicitDefEqProofs[fb,fndA,isa];refine Z8m (λi=>f1S r a b (by1 a.its i) i) (λ_=>True) a.its.length ?_ trivial ?_ ?_
 . ((try simp only[f1S,isa,by1,W1f,List.foldl_nil,mpA,W1c,bkA]);refine Ym.sub (by simp[lk,Ya,AV.keys,f1S,isa,by1,W1f,List.foldl_nil,mpA,W1c,bkA]) ?_;simp only[f1S,isa,by1,W1f,List.foldl_nil,mpA,W1c,bkA,Wkl,Zfa,and_true];(try simp[lk,Yc,Ya,AV.keys,f1S,isa,by1,W1f,List.foldl_nil,mpA,W1c,bkA]))
 . intro i hi _;refine Qga ?_;have w1:i64.wrap ((i:Int)+1)=((i+1:Nat):Int):=Yf;have pm:=Zf9 dA a.its[i].1 ⟨a.its[i].1,a.its[i].2,0⟩ (by1 a.its i);rw[<- Zfc hi,dA,dma]at pm;simp -implicitDefEqProofs[f1S,hi,ita,pm,w1]
   ((try simp only[f1S,isa,bkA]);refine Ym.sub (by simp[lk,Ya,AV.keys,f1S,isa,bkA]) ?_;simp only[f1S,isa,bkA,Wkl,Zfa,and_true];(try simp[lk,Yc,Ya,AV.keys,f1S,isa,bkA]))
 intro _;refine Qga ?_;simp -implicitDefEqProofs[f1S,isa];refine Qgr ?_;simp -implicitDefEqProofs;refine Z8m (λi=>f2S r a b (by2 (by1 a.its a.its.length) b.its i) i) (λ_=>True) b.its.length ?_ trivial ?_ ?_
 . ((try simp only[f2S,isa,by2,W1f,List.foldl_nil,bkA]);refine Ym.sub (by simp[lk,Ya,AV.keys,f2S,isa,by2,W1f,List.foldl_nil,bkA]) ?_;simp only[f2S,isa,by2,W1f,List.foldl_nil,bkA,Wkl,Zfa,and_true];(try simp[lk,Yc,Ya,AV.keys,f2S,isa,by2,W1f,List.foldl_nil,bkA]))
 . intro i hi _;refine Qga ?_;have w1:i64.wrap ((i:Int)+1)=((i+1:Nat):Int):=Yf;have bs:=Zfd (l:=by1 a.its a.its.length) hi;generalize by2 (by1 a.its a.its.length) b.its i=L at *;have pm:=Zf9 dA b.its[i].1 ⟨b.its[i].1,((mlk b.its[i].1 L).getD Dm.zero).l,b.its[i].2⟩ L;rw[<- bs,dA,dma]at pm;have gm:=Ze3 dA b.its[i].1 L
   cases q:mlk b.its[i].1 L with
   | none =>
     rw[q]at gm pm;simp only[W1U,Dm.zero]at pm;simp -implicitDefEqProofs[f2S,hi,ita,gm,pm,w1]
     ((try simp only[f2S,isa,bkA]);refine Ym.sub (by simp[lk,Ya,AV.keys,f2S,isa,bkA]) ?_;simp only[f2S,isa,bkA,Wkl,Zfa,and_true];(try simp[lk,Yc,Ya,AV.keys,f2S,isa,bkA]))
   | some v =>
     rw[q]at gm pm;simp only[W0P]at pm;simp -implicitDefEqProofs[f2S,hi,ita,gm,dA,dma,pm,w1]
     ((try simp only[f2S,isa,bkA]);refine Ym.sub (by simp[lk,Ya,AV.keys,f2S,isa,bkA]) ?_;simp only[f2S,isa,bkA,Wkl,Zfa,and_true];(try simp[lk,Yc,Ya,AV.keys,f2S,isa,bkA]))
 intro _;refine Qga ?_;have hC:=Zff (Zfe na _ (W0f _)) nb _ (W0f b.its.length);simp only[W0v]at hC;generalize by2 (by1 a.its a.its.length) b.its b.its.length=M at *;simp -implicitDefEqProofs[f2S,isa];refine Qgr ?_;simp -implicitDefEqProofs[bkA];refine Z8m (λi=>f3S (nums r) a b M (dfN (nums r) (λn=>ctL n a.its) (λn=>ctL n b.its) i) i) (λ_=>True) (nums r).length ?_ trivial ?_ ?_
 . have e0:dfN (nums r) (λn=>ctL n a.its) (λn=>ctL n b.its) 0=[]:=rfl;simp only[f3S,e0,if_true]
   ((try simp only[isa]);refine Ym.sub (by simp[lk,Ya,AV.keys,isa]) ?_;simp only[isa,Wkl,Zfa,and_true];(try simp[lk,Yc,Ya,AV.keys,isa]))
 . intro i hi _;refine Qga ?_;have w1:i64.wrap ((i:Int)+1)=((i+1:Nat):Int):=Yf;have hs:=Zer (f:=λn=>ctL n a.its) (g:=λn=>ctL n b.its) hi;have bl:=Zes (nums r) (λn=>ctL n a.its) (λn=>ctL n b.its) i;obtain ⟨c1,c2,c3⟩:=Zfg hC (nums r)[i];have gm:=Ze3 dA (nums r)[i] M;generalize dfN (nums r) (λn=>ctL n a.its) (λn=>ctL n b.its) i=D at *;have bb:(D.length+1)*24<=70368744177664:=(by omega);by_cases q:ctL (nums r)[i] a.its=ctL (nums r)[i] b.its
   . rw [if_pos q]at hs;rw[<- c1,<- c2]at q
     cases k:mlk (nums r)[i] M with
     | none =>
       rw[k]at gm;by_cases z:D=[]
       . simp -implicitDefEqProofs[f3S,z,hi,ia,gm,w1];simp only[f3S,hs,z,if_true]
         ((try simp only[isa]);refine Ym.sub (by simp[lk,Ya,AV.keys,isa]) ?_;simp only[isa,Wkl,ZeB,Zfa,and_true];(try simp[lk,Yc,Ya,AV.keys,isa]))
       . simp -implicitDefEqProofs[f3S,z,hi,ia,gm,w1];simp only[f3S,hs,z,if_false]
         ((try simp only[isa]);refine Ym.sub (by simp[lk,Ya,AV.keys,isa]) ?_;simp only[isa,Wkl,ZeB,Zfa,and_true];(try simp[lk,Yc,Ya,AV.keys,isa]))
     | some v =>
       rw[k]at gm q;simp only[W0P]at q;by_cases z:D=[]
       . simp -implicitDefEqProofs[f3S,z,hi,ia,gm,dA,dma,q,w1];simp only[f3S,hs,z,if_true]
         ((try simp only[isa]);refine Ym.sub (by simp[lk,Ya,AV.keys,isa]) ?_;simp only[isa,Wkl,ZeB,Zfa,and_true];(try simp[lk,Yc,Ya,AV.keys,isa]))
       . simp -implicitDefEqProofs[f3S,z,hi,ia,gm,dA,dma,q,w1];simp only[f3S,hs,z,if_false]
         ((try simp only[isa]);refine Ym.sub (by simp[lk,Ya,AV.keys,isa]) ?_;simp only[isa,Wkl,ZeB,Zfa,and_true];(try simp[lk,Yc,Ya,AV.keys,isa]))
   . rw[if_neg q]at hs;have k:=c3 q;rw[k]at gm;by_cases z:D=[]
     . simp -implicitDefEqProofs[f3S,z,hi,ia,gm,dA,dma,q,w1];simp only[f3S,hs,z,W18,List.cons_ne_nil,if_false]
       ((try simp only[isa,dma]);refine Ym.sub (by simp[lk,Ya,AV.keys,isa,dma]) ?_;simp only[isa,dma,Wkl,ZeB,Zfa,and_true];(try simp[lk,Yc,Ya,AV.keys,isa,dma]))
     . simp -implicitDefEqProofs[f3S,z,hi,ia,gm,dA,dma,q,w1,bb];simp only[f3S,hs,List.append_eq_nil_iff,List.cons_ne_nil,and_false,if_false]
       ((try simp only[isa,dma]);refine Ym.sub (by simp[lk,Ya,AV.keys,isa,dma]) ?_;simp only[isa,dma,Wkl,ZeB,Zfa,and_true];(try simp[lk,Yc,Ya,AV.keys,isa,dma]))
 intro _;refine Qga ?_;obtain ⟨C,hC⟩:=Qex (Yg ((dfN (nums r) (λn=>ctL n a.its) (λn=>ctL n b.its) (nums r).length).map dma));have hCk:C.keys=[]:=(by rw[hC];exact Zex _);have hCs:∀ ok st n,Yh ok st n C=some C:=(by rw[hC];exact Zey _);have hmx:max (a.dms.length:Int) (b.dms.length:Int)=((max a.dms.length b.dms.length:Nat):Int):=by omega
 have key : ∀ st:St,Ym st (f4S C a b 0)->AR prog R (endLp (headS (dropS 10 ZdK))) st (RetP prog R [KF.bk 6,KF.sq (dropS 11 ZdK)] (Fin ZdL (.tup [C,Yg ((dsN a.dms b.dms (max a.dms.length b.dms.length)).map ia),.int .i64 0]))):=by
  intro st hw;refine Z8m (f4S C a b) (λ_=>True) (max a.dms.length b.dms.length) hw trivial ?_ ?_
  . intro i hi _;refine Qga ?_;have hza:=ha.2;have hzb:=hb.2;unfold Sml at hza hzb;have w1:i64.wrap ((i:Int)+1)=((i+1:Nat):Int):=Yf;have hs:=Zet (a:=a.dms) (b:=b.dms) (i:=i);have bl:=Zeu a.dms b.dms i;have bb:((dsN a.dms b.dms i).length+1)*8<=70368744177664:=(by omega);by_cases ca:i<a.dms.length
    . by_cases cb:i<b.dms.length
      . have cm:¬min (a.dms.length:Int) (b.dms.length:Int)<=(i:Int):=(by omega);rw[Zev ca cb]at hs;by_cases q:a.dms[i]=b.dms[i]
        . rw[if_neg (by simp[q])]at hs;by_cases z:dsN a.dms b.dms i=[]
          . rw[z]at hs;simp -implicitDefEqProofs[endLp,headS,dropS,ZdK,f4S,z,isa,dma,ca,cb,cm,q,hi,w1];refine ⟨rfl,?_⟩;simp only[f4S,hs,z,if_true,if_false]
            ((try simp only[isa,hCk,ia]);refine Ym.sub (by simp[lk,Ya,AV.keys,isa,hCk,ia]) ?_;simp only[isa,hCk,ia,Wkl,Zem,and_true];(try simp[lk,Yc,Ya,AV.keys,isa,hCk,ia]))
          . simp -implicitDefEqProofs[endLp,headS,dropS,ZdK,f4S,z,isa,dma,ca,cb,cm,q,hi,w1];refine ⟨rfl,?_⟩;simp only[f4S,hs,z,if_true,if_false]
            ((try simp only[isa,hCk,ia]);refine Ym.sub (by simp[lk,Ya,AV.keys,isa,hCk,ia]) ?_;simp only[isa,hCk,ia,Wkl,Zem,and_true];(try simp[lk,Yc,Ya,AV.keys,isa,hCk,ia]))
        . rw[if_pos (by simp[q])]at hs;by_cases z:dsN a.dms b.dms i=[]
          . rw[z]at hs;simp -implicitDefEqProofs[endLp,headS,dropS,ZdK,f4S,z,isa,dma,ca,cb,cm,hi];refine ⟨rfl,?_⟩;rw[dm_ne q];simp -implicitDefEqProofs[w1];simp only[f4S,hs,W18,List.append_eq_nil_iff,List.cons_ne_nil,and_false,if_false]
            ((try simp only[isa,hCk,ia]);refine Ym.sub (by simp[lk,Ya,AV.keys,isa,hCk,ia]) ?_;simp only[isa,hCk,ia,Wkl,Zem,and_true];(try simp[lk,Yc,Ya,AV.keys,isa,hCk,ia]))
          . simp -implicitDefEqProofs[endLp,headS,dropS,ZdK,f4S,z,isa,dma,ca,cb,cm,hi];refine ⟨rfl,?_⟩;rw[dm_ne q];simp -implicitDefEqProofs[w1,bb];simp only[f4S,hs,W18,List.append_eq_nil_iff,List.cons_ne_nil,and_false,if_false]
            ((try simp only[isa,hCk,ia]);refine Ym.sub (by simp[lk,Ya,AV.keys,isa,hCk,ia]) ?_;simp only[isa,hCk,ia,Wkl,Zem,and_true];(try simp[lk,Yc,Ya,AV.keys,isa,hCk,ia]))
      . have cm:min (a.dms.length:Int) (b.dms.length:Int)<=(i:Int):=(by omega);have cb2:b.dms.length<=i:=(by omega);rw[if_pos (by simp[dsB,cb2])]at hs;by_cases z:dsN a.dms b.dms i=[]
        . rw[z]at hs;simp -implicitDefEqProofs[endLp,headS,dropS,ZdK,f4S,z,isa,dma,cm,hi,w1];refine ⟨rfl,?_⟩;simp only[f4S,hs,W18,List.append_eq_nil_iff,List.cons_ne_nil,and_false,if_false]
          ((try simp only[isa,hCk,ia]);refine Ym.sub (by simp[lk,Ya,AV.keys,isa,hCk,ia]) ?_;simp only[isa,hCk,ia,Wkl,Zem,and_true];(try simp[lk,Yc,Ya,AV.keys,isa,hCk,ia]))
        . simp -implicitDefEqProofs[endLp,headS,dropS,ZdK,f4S,z,isa,dma,cm,hi,bb,w1];refine ⟨rfl,?_⟩;simp only[f4S,hs,W18,List.append_eq_nil_iff,List.cons_ne_nil,and_false,if_false]
          ((try simp only[isa,hCk,ia]);refine Ym.sub (by simp[lk,Ya,AV.keys,isa,hCk,ia]) ?_;simp only[isa,hCk,ia,Wkl,Zem,and_true];(try simp[lk,Yc,Ya,AV.keys,isa,hCk,ia]))
    . have cm:min (a.dms.length:Int) (b.dms.length:Int)<=(i:Int):=(by omega);have ca2:a.dms.length<=i:=(by omega);rw[if_pos (by simp[dsB,ca2])]at hs;by_cases z:dsN a.dms b.dms i=[]
      . rw[z]at hs;simp -implicitDefEqProofs[endLp,headS,dropS,ZdK,f4S,z,isa,dma,cm,hi,w1];refine ⟨rfl,?_⟩;simp only[f4S,hs,W18,List.append_eq_nil_iff,List.cons_ne_nil,and_false,if_false]
        ((try simp only[isa,hCk,ia]);refine Ym.sub (by simp[lk,Ya,AV.keys,isa,hCk,ia]) ?_;simp only[isa,hCk,ia,Wkl,Zem,and_true];(try simp[lk,Yc,Ya,AV.keys,isa,hCk,ia]))
      . simp -implicitDefEqProofs[endLp,headS,dropS,ZdK,f4S,z,isa,dma,cm,hi,bb,w1];refine ⟨rfl,?_⟩;simp only[f4S,hs,W18,List.append_eq_nil_iff,List.cons_ne_nil,and_false,if_false]
        ((try simp only[isa,hCk,ia]);refine Ym.sub (by simp[lk,Ya,AV.keys,isa,hCk,ia]) ?_;simp only[isa,hCk,ia,Wkl,Zem,and_true];(try simp[lk,Yc,Ya,AV.keys,isa,hCk,ia]))
  . intro _;refine Qga ?_
    have hM:∀ i,f4S C a b i=if dsN a.dms b.dms i=[] then ⟨[(122,.int .i64 i),(121,.int .i64 (max a.dms.length b.dms.length:Nat)),(8,C),(9,.nils),(12,.ptr 12 0),(14,.ptr 14 0)],[(12,.box (isa a)),(14,.box (isa b))]⟩
     else ⟨[(122,.int .i64 i),(121,.int .i64 (max a.dms.length b.dms.length:Nat)),(8,C),(9,.osl 150 (dsN a.dms b.dms i).length),(12,.ptr 12 0),(14,.ptr 14 0)],[(12,.box (isa a)),(14,.box (isa b)),(150,.row 1 ((dsN a.dms b.dms i).map ia))]⟩:=λ_=>rfl
    generalize max a.dms.length b.dms.length=M at *;by_cases z:dsN a.dms b.dms M=[]
    . simp -implicitDefEqProofs[endLp,headS,dropS,ZdK,hM,z,isa];refine Qgr ?_;simp -implicitDefEqProofs[dropS,ZdK,ZdL,Yg,hCs]
    . have pu:=ZeA (dsN a.dms b.dms M);simp -implicitDefEqProofs[endLp,headS,dropS,ZdK,hM,z,isa];refine Qgr ?_;simp -implicitDefEqProofs[dropS,ZdK,ZdL,Yg,hCs,z,pu]
 rw[<- hC];by_cases z:dfN (nums r) (λn=>ctL n a.its) (λn=>ctL n b.its) (nums r).length=[]
 . rw[z]at hC;simp -implicitDefEqProofs[f3S,z,isa];refine Qgr ?_;simp -implicitDefEqProofs[hmx];refine key _ ?_;simp only[f4S,hC,Yg,if_true,W1c,dsN,List.range_zero,List.filter_nil]
   (first|exact Ym.tm (by simp[lk,isa])|exact Ym.sub (by simp[lk,Ya,AV.keys,isa]) (by simp[lk,Yc,Ya,AV.keys,isa]))
 . have pu:=Zez (dfN (nums r) (λn=>ctL n a.its) (λn=>ctL n b.its) (nums r).length);simp -implicitDefEqProofs[f3S,z,isa];refine Qgr ?_;simp -implicitDefEqProofs[hmx];refine key _ (Ym.trans (b:=⟨[(122,.int .i64 0),(121,.int .i64 (max a.dms.length b.dms.length:Nat)),(8,.osl 113 (dfN (nums r) (λn=>ctL n a.its) (λn=>ctL n b.its) (nums r).length).length),(9,.nils),(12,.ptr 12 0),(14,.ptr 14 0)],[(12,.box (isa a)),(14,.box (isa b)),(113,.row 3 ((dfN (nums r) (λn=>ctL n a.its) (λn=>ctL n b.its) (nums r).length).map dma))]⟩) (by ((try simp only[isa]);refine Ym.sub (by simp[lk,Ya,AV.keys,isa]) ?_;simp only[isa,Wkl,ZeB,and_true];(try simp[lk,Yc,Ya,AV.keys,isa]))) (Ym.trans (Ym.frz (λk=>k == 113) _) ?_));rw[hC];generalize dfN (nums r) (λn=>ctL n a.its) (λn=>ctL n b.its) (nums r).length=L at *;simp only[f4S,Yg,List.map_eq_nil_iff,z,if_false,if_true,W1c,dsN,List.range_zero,List.filter_nil]
   ((try simp only[Yi,frzA,frzO,frz,Yh,Yj,St.get,pu,isa]);refine Ym.sub (by simp[lk,Ya,AV.keys,Yi,frzA,frzO,frz,Yh,Yj,St.get,pu,isa]) ?_;simp only[Yi,frzA,frzO,frz,Yh,Yj,St.get,pu,isa,Wkl,and_true];(try simp[lk,Yc,Ya,AV.keys,Yi,frzA,frzO,frz,Yh,Yj,St.get,pu,isa]))
def ptP (r:Jr) (l:List (Int×Int)) (i:Nat):St:=if ptN (nums r) (mpG l) i=[] then ⟨[(37,.int .i64 i),(36,.int .i64 (nums r).length),(35,.vsl ((nums r).map ia)),(11,.ptr 11 0),(13,.nils)],[(11,.box [.mp 27]),(27,.mp (dpA l))]⟩
 else ⟨[(37,.int .i64 i),(36,.int .i64 (nums r).length),(35,.vsl ((nums r).map ia)),(11,.ptr 11 0),(13,.osl 52 (ptN (nums r) (mpG l) i).length)],[(11,.box [.mp 27]),(27,.mp (dpA l)),(52,.row 2 ((ptN (nums r) (mpG l) i).map ita))]⟩
def Zfi (hG:GC G) (r:Jr) (lt:List Int) (n:Int) (h:Wf r):PC prog G 18 [rega r,.vsl (lt.map ia),.int .i64 n] (.tup [.vsl ((exV r lt n).1.map ita),.int .i64 (exV r lt n).2]):=by
 by_cases e:askV r lt n=0
 case neg =>
  refine PC.nzR (v:=.tup [.nils,.int .i64 (askV r lt n)]) ?_ (by simp[nz,exV,e])
  (refine ZdS rfl λR hG hrd=>Qga ?_;subst hG)
  simp -implicitDefEqProofs[ZdQ,ZdR,rega];refine Qco (Zed hG r lt n h) ?_;simp -implicitDefEqProofs[takA,e]
 obtain ⟨ho,hlt,hn⟩:=ask_0 e;have hL:=ZaS ho;have hl:=ZaT hL;have hp:=ZeP (G:=G) r lt ho hlt 6 n 1 [] hn (ZbO ho hn).2;have hm:=ZbR (T:=tkV r lt) (D:=nums r) (λd hd=>let q:=ZbN (ZaV hL (ZbL hL hlt hd).1);⟨q.1,q.2.2.2⟩) (λd hd=>ZbM hL hlt hd) 6 n 1 [] hn;have e0:mpG []=λ_=>0:=by funext x;rfl
 have ev:exV r lt n=(ptN (nums r) (mpG (paM (tkV r lt) 6 n 1 [])) (nums r).length,0):=(by rw[exV,if_pos e,hm,e0]);rw[ev];generalize paM (tkV r lt) 6 n 1 []=l at *;refine PC.nzR (v:=.tup [if ptN (nums r) (mpG l) (nums r).length=[] then .nils else .vsl ((ptN (nums r) (mpG l) (nums r).length).map ita),.int .i64 0]) ?_ (by split <;> simp_all [nz])
 (refine ZdS rfl λR hG hrd=>Qga ?_;subst hG)
 simp -implicitDefEqProofs[ZdQ,ZdR,rega];refine Qco (Zed hG r lt n h) ?_;simp -implicitDefEqProofs[takA,e,ZeM];unfold byA;simp -implicitDefEqProofs;refine Yd.sem (Z1B.byref hp (λk=>k-1000) (by simp[exO]) (by simp[exO]) (by simp[exO,St.get,lk,ZeC,AObj.ren,AV.ren,ZeG,ZeD,byA];try simp[dpA]) (ZeN _ _ _) (by simp[exO,Ya,AV.keys,lk]) rfl (by simp[AV.ren]) rfl rfl) ?_;simp -implicitDefEqProofs[Yl,exO,ZeC,AObj.ren,AV.ren,ZeG,ZeD,bkA];refine Z8m (ptP r l) (λ_=>True) (nums r).length ?_ trivial ?_ ?_
 . have e0:ptN (nums r) (mpG l) 0=[]:=rfl;simp only[ptP,e0,if_true]
   ((try simp only[byA]);refine Ym.sub (by simp[lk,Ya,AV.keys,byA]) ?_;simp only[byA,Wkl,ZeF,and_true];(try simp[lk,Yc,Ya,AV.keys,byA]))
 . intro i hi _;refine Qga ?_;have w1:i64.wrap ((i:Int)+1)=((i+1:Nat):Int):=Yf;have gd:=Za4 (nums r)[i] l;have hs:=ZbS (g:=mpG l) hi;have bl:=ZbT (nums r) (mpG l) i;have bb:((ptN (nums r) (mpG l) i).length+1)*16<=70368744177664:=(by omega);by_cases c:0<mpG l (nums r)[i]
   . have q:dpLk (nums r)[i] l=some (mpG l (nums r)[i]):=by
      unfold mpG dpG at c ⊢
      cases q:dpLk (nums r)[i] l <;> simp_all
     rw[q]at gd;rw[if_pos c]at hs;by_cases e:ptN (nums r) (mpG l) i=[]
     . rw[e]at hs;simp -implicitDefEqProofs[ptP,e,hi,ia,gd,c,w1,hs]
       ((try simp only[ita]);refine Ym.sub (by simp[lk,Ya,AV.keys,ita]) ?_;simp only[ita,Wkl,ZeF,Zc1,and_true];(try simp[lk,Yc,Ya,AV.keys,ita]))
     . simp -implicitDefEqProofs[ptP,e,hi,ia,gd,c,w1,hs,bb]
       ((try simp only[ita]);refine Ym.sub (by simp[lk,Ya,AV.keys,ita]) ?_;simp only[ita,Wkl,ZeF,Zc1,and_true];(try simp[lk,Yc,Ya,AV.keys,ita]))
   . rw[if_neg c]at hs;have q:(dpLk (nums r)[i] l).getD 0=mpG l (nums r)[i]:=rfl;generalize dpLk (nums r)[i] l=o at gd q;by_cases e:ptN (nums r) (mpG l) i=[] <;> cases o
     . rw[e]at hs;simp -implicitDefEqProofs[ptP,e,hi,ia,gd,w1,hs]
       ((try simp only[ita]);refine Ym.sub (by simp[lk,Ya,AV.keys,ita]) ?_;simp only[ita,Wkl,ZeF,Zc1,and_true];(try simp[lk,Yc,Ya,AV.keys,ita]))
     . rw[e]at hs;obtain rfl:_=mpG l (nums r)[i]:=q;simp -implicitDefEqProofs[ptP,e,hi,ia,gd,c,w1,hs]
       ((try simp only[ita]);refine Ym.sub (by simp[lk,Ya,AV.keys,ita]) ?_;simp only[ita,Wkl,ZeF,Zc1,and_true];(try simp[lk,Yc,Ya,AV.keys,ita]))
     . simp -implicitDefEqProofs[ptP,e,hi,ia,gd,w1,hs]
       ((try simp only[ita]);refine Ym.sub (by simp[lk,Ya,AV.keys,ita]) ?_;simp only[ita,Wkl,ZeF,Zc1,and_true];(try simp[lk,Yc,Ya,AV.keys,ita]))
     . obtain rfl:_=mpG l (nums r)[i]:=q;simp -implicitDefEqProofs[ptP,e,hi,ia,gd,c,w1,hs]
       ((try simp only[ita]);refine Ym.sub (by simp[lk,Ya,AV.keys,ita]) ?_;simp only[ita,Wkl,ZeF,Zc1,and_true];(try simp[lk,Yc,Ya,AV.keys,ita]))
 . intro _;refine Qga ?_;by_cases e:ptN (nums r) (mpG l) (nums r).length=[]
   . simp -implicitDefEqProofs[ptP,e];refine Qgr ?_;simp -implicitDefEqProofs[e]
   . have pu:((ptN (nums r) (mpG l) (nums r).length).map ita).all (λr=>r.all AV.pure)=true:=(by simp[ita,AV.pure]);simp -implicitDefEqProofs[ptP,e];refine Qgr ?_;simp -implicitDefEqProofs[e,pu]
def Zfj (ρ:Nat->Nat) (l:List Brn):(l.map bra).map (λr=>r.map (AV.ren ρ))=l.map bra:=by
 simp only[W10]
 congr 1;funext p;simp[bra,AV.ren]
def Zfk (ρ:Nat->Nat) (a:Brn):(bra a).map (AV.ren ρ)=bra a:=by simp[bra,AV.ren]
def Zfl (ρ:Nat->Nat):((λr:List AV=>r.map (AV.ren ρ)) ∘ bra)=bra:=by funext a;exact Zfk ρ a
def Zfm (ok:Nat->Bool) (st:St) (l:List Brn):frzO ok st (.row 4 (l.map bra)) = .row 4 (l.map bra):=by
 simp only[frzO,W10]
 congr 2;funext p;simp[bra,frzA,frz,AV.keys]
def Zfn (st:St) {ok:Nat->Bool} {k n:Nat} (h:ok k=false):frzO ok st (.box [.osl k n]) = .box [.osl k n]:=by simp[frzO,frzA,frz,h]
def grO (K:Nat) (r:Jr) (lt:List Int) (l:List Brn):List (Nat×AObj) :=
 [(1009,.box [byA r lt]),(1011,.box [.osl K l.length]),(1012,.box [.func (.func 64) [] [.ptr 1011 0,.ptr 1009 0,.ptr 1012 0]]),(K,.row 4 (l.map bra))]
def grZ (r:Jr) (lt:List Int):List (Nat×AObj) :=
 [(1009,.box [byA r lt]),(1011,.box [.nils]),(1012,.box [.func (.func 64) [] [.ptr 1011 0,.ptr 1009 0,.ptr 1012 0]])]
def grS (K:Nat) (r:Jr) (lt:List Int) (dep:Int) (x:Iss) (l:List Brn) (i:Nat):St:=⟨[(31,.int .i64 i),(30,.int .i64 x.its.length),(29,.vsl (x.its.map ita)),(0,.int .i64 dep),(4,.ptr 1012 0)],grO K r lt l⟩
def Zfo (r:Jr) (lt:List Int) (l:List Brn):∀ p∈grO 1027 r lt l,Yc (grO 1027 r lt l) p.2=true:=by
 simp only[grO,W0g,W0Q,or_false,W1I,forall_eq,Zc0,and_true];simp[lk,Yc,Ya,AV.keys,ZeL]
def Zfp (r:Jr) (lt:List Int):∀ p∈grZ r lt,Yc (grZ r lt) p.2=true:=by
 simp only[grZ,W0g,W0Q,or_false,W1I,forall_eq];simp[lk,Yc,Ya,AV.keys,ZeL]
def Zfq (r:Jr) (lt:List Int) (ho:openV r=0) (hlt:ltB r lt=true):∀ (k:Nat) (n dep c:Int) (l:List Brn),n∈nums r->dpN r n<=k->0<=dep->dep+k<=1000->l.length<=501 ->
  PB prog G 64 (grO 1027 r lt l) [.int .i64 dep,.agg [.int .i64 n,.int .i64 c],.ptr 1011 0,.ptr 1009 0,.ptr 1012 0] (.tup []) (grO 1027 r lt (grV (tkV r lt) k dep n c l))
 |0,n,_,_,_,hn,hd,_,_,_=>(ZbX ho hn hd).elim
 | k + 1,n,dep,c,l,hn,hd,hd0,hd1,h5=>by
   have hL:=ZaS ho;have wd:i64.wrap (dep+1)=dep+1:=Yf;have hrec:=λy (hy:y∈(tkV r lt n).its)=>λl h5=>Zfq r lt ho hlt k y.1 (dep+1) y.2 l (ZbY ho hlt hn hd hy).1 (ZbY ho hlt hn hd hy).2 (by omega) (by omega) h5
   have gb:=Ze3 isA n (byN r lt (nums r).length);rw[Zeb hn]at gb;have h8:=tk_8 ho hlt n hn;have hxd:=(ZbL hL hlt hn).2;rw[grV];by_cases c5:500<l.length
   . have c5':(500:Int)<l.length:=(by omega);rw[if_pos c5]
     (refine Ze1 (W0C rfl) λR hG hrd=>Qga ?_;subst hG)
     simp -implicitDefEqProofs[ZdZ,Ze0,grO,c5',FinB,Yi,newK,Zfm,ZeI,Zfn,ZeK]
   have c5':¬(500:Int)<l.length:=(by omega);rw[if_neg c5];generalize tkV r lt n=x at *;subst hxd;obtain ⟨l1,hl1⟩:=Qex (l++[⟨dep,x.d,x.l,c⟩]);have hl1m:l1.map bra=l.map bra++[[.int .i64 dep,.int .i64 x.d,.int .i64 x.l,.int .i64 c]]:=(by rw[hl1,W0r];rfl);have hl1l:l1.length=l.length+1:=(by rw[hl1];simp);have b5:(l.length+1)*32<=70368744177664:=(by omega);rw[<- hl1]
   have fl5:∀ (its:List (Int×Int)) (l:List Brn),l.length<=501->(its.foldl (λl y=>grV (tkV r lt) k (dep+1) y.1 y.2 l) l).length<=501:=by
    intro its
    induction its with
    |nil=>intro l h;exact h
    |cons y its ih=>intro l h;exact ih _ (ZbV k _ _ _ _ h)
   (refine Ze1 (W0C rfl) λR hG hrd=>Qga ?_;subst hG)
   have key:∀ (st:St),Ym st (grS 1027 r lt dep x l1 0)->AR prog R (ZeO ZdZ) st (RetP prog R [KF.bk 0] (FinB [] (.tup []) (grO 1027 r lt (x.its.foldl (λl y=>grV (tkV r lt) k (dep+1) y.1 y.2 l) l1)))):=by
    intro st hw;refine Z8m (λi=>grS 1027 r lt dep x ((x.its.take i).foldl (λl y=>grV (tkV r lt) k (dep+1) y.1 y.2 l) l1) i) (λ_=>True) x.its.length (by simpa using hw) trivial ?_ ?_
    . intro i hi _;refine Qga ?_;have w1:i64.wrap ((i:Int)+1)=((i+1:Nat):Int):=Yf;have ft:=Zam (λl (y:Int×Int)=>grV (tkV r lt) k (dep+1) y.1 y.2 l) l1 x.its i hi;have hr:=hrec x.its[i] (W0e hi) ((x.its.take i).foldl (λl y=>grV (tkV r lt) k (dep+1) y.1 y.2 l) l1) (fl5 _ _ (by omega));generalize (x.its.take i).foldl (λl y=>grV (tkV r lt) k (dep+1) y.1 y.2 l) l1=l2 at *;simp -implicitDefEqProofs[ZeO,ZdZ,grS,grO,hi,ita,wd];refine Yd.sem (Z1B.byref hr id (by simp[grO]) (by simp[grO]) (by simp[grO,St.get,lk,AObj.ren,AV.ren,ZeG,Zfj,Zfk]) (Zfo _ _ _) (by simp[grO,Ya,AV.keys,lk]) rfl (by simp[AV.ren]) rfl rfl) ?_;simp -implicitDefEqProofs[Yl,grO,AObj.ren,AV.ren,ZeG,Zfj,Zfk,w1]
      ((try simp only[grS,grO,byA,ft,Zfk]);refine Ym.sub (by simp[lk,Ya,AV.keys,grS,grO,byA,ft,Zfk]) ?_;simp only[grS,grO,byA,ft,Zfk,Wkl,Zc0,and_true];(try simp[lk,Yc,Ya,AV.keys,grS,grO,byA,ft,Zfk]))
    . intro _;refine Qga ?_;simp -implicitDefEqProofs[ZeO,ZdZ,grS,grO];refine Qgr ?_;simp -implicitDefEqProofs[FinB,Yi,newK,Zfm,ZeI,Zfn,ZeK,grO]
   simp -implicitDefEqProofs[ZdZ,Ze0,grO,byA,gb,isA,isa,c5',b5];exact key _ (by simp only[<- hl1m];((try simp only[grS,grO,byA,hl1l]);refine Ym.sub (by simp[lk,Ya,AV.keys,grS,grO,byA,hl1l]) ?_;simp only[grS,grO,byA,hl1l,Wkl,Zc0,and_true];(try simp[lk,Yc,Ya,AV.keys,grS,grO,byA,hl1l])))
def okT:Nat->Bool:=λk=>decide (k<1000)&&decide (k≠27)
def Zfr (r:Jr) (lt:List Int) (ho:openV r=0) (hlt:ltB r lt=true) (k:Nat) (n dep c:Int) (hn:n∈nums r) (hd:dpN r n<=k+1) (hd0:0<=dep) (hd1:dep+(k+1:Nat)<=1000) :
  PB prog G 64 (grZ r lt) [.int .i64 dep,.agg [.int .i64 n,.int .i64 c],.ptr 1011 0,.ptr 1009 0,.ptr 1012 0] (.tup []) (grO 27 r lt (grV (tkV r lt) (k+1) dep n c [])):=by
 have hL:=ZaS ho;have wd:i64.wrap (dep+1)=dep+1:=Yf;have hrec:=λy (hy:y∈(tkV r lt n).its)=>λl h5=>Zfq (G:=G) r lt ho hlt k y.1 (dep+1) y.2 l (ZbY ho hlt hn hd hy).1 (ZbY ho hlt hn hd hy).2 (by omega) (by omega) h5
 have gb:=Ze3 isA n (byN r lt (nums r).length);rw[Zeb hn]at gb;have h8:=tk_8 ho hlt n hn;have hxd:=(ZbL hL hlt hn).2;rw[grV,if_neg (by simp),W18];generalize tkV r lt n=x at *;subst hxd;obtain ⟨l1,hl1⟩ : ∃ l1:List Brn,l1=[⟨dep,x.d,x.l,c⟩]:=⟨_,rfl⟩;have hl1m:l1.map bra=[[.int .i64 dep,.int .i64 x.d,.int .i64 x.l,.int .i64 c]]:=(by rw[hl1];rfl);have hl1l:l1.length=1:=(by rw[hl1];simp);rw[<- hl1]
 have fl5:∀ (its:List (Int×Int)) (l:List Brn),l.length<=501->(its.foldl (λl y=>grV (tkV r lt) k (dep+1) y.1 y.2 l) l).length<=501:=by
  intro its
  induction its with
  |nil=>intro l h;exact h
  |cons y its ih=>intro l h;exact ih _ (ZbV k _ _ _ _ h)
 refine Z5h okT (by intro k hk;simp[okT]at hk;omega) Tryd.func64 rfl (by kernel_rfl) (rc:=ZdZ) (by kernel_rfl) (rs:=Ze0) (by kernel_rfl) (W0C rfl) λR _ hG hrd=>Qga ?_
 subst hG
 have key:∀ (st:St),Ym st (grS 27 r lt dep x l1 0)->AR prog R (ZeO ZdZ) st (RetP prog R [KF.bk 0] (FinO okT [] (.tup []) (grO 27 r lt (x.its.foldl (λl y=>grV (tkV r lt) k (dep+1) y.1 y.2 l) l1)))):=by
  intro st hw;refine Z8m (λi=>grS 27 r lt dep x ((x.its.take i).foldl (λl y=>grV (tkV r lt) k (dep+1) y.1 y.2 l) l1) i) (λ_=>True) x.its.length (by simpa using hw) trivial ?_ ?_
  . intro i hi _;refine Qga ?_;have w1:i64.wrap ((i:Int)+1)=((i+1:Nat):Int):=Yf;have ft:=Zam (λl (y:Int×Int)=>grV (tkV r lt) k (dep+1) y.1 y.2 l) l1 x.its i hi;have hr:=hrec x.its[i] (W0e hi) ((x.its.take i).foldl (λl y=>grV (tkV r lt) k (dep+1) y.1 y.2 l) l1) (fl5 _ _ (by omega));generalize (x.its.take i).foldl (λl y=>grV (tkV r lt) k (dep+1) y.1 y.2 l) l1=l2 at *;simp -implicitDefEqProofs[ZeO,ZdZ,grS,grO,hi,ita,wd];refine Yd.sem (Z1B.byref hr (λk=>if k=1027 then 27 else k) (by simp[grO]) (by simp[grO]) (by simp[grO,St.get,lk,AObj.ren,AV.ren,ZeG,Zfj,Zfk]) (Zfo _ _ _) (by simp[grO,Ya,AV.keys,lk]) rfl (by simp[AV.ren]) rfl rfl) ?_;simp -implicitDefEqProofs[Yl,grO,AObj.ren,AV.ren,ZeG,Zfj,Zfk,w1]
    ((try simp only[grS,grO,byA,ft,Zfk]);refine Ym.sub (by simp[lk,Ya,AV.keys,grS,grO,byA,ft,Zfk]) ?_;simp only[grS,grO,byA,ft,Zfk,Wkl,Zc0,and_true];(try simp[lk,Yc,Ya,AV.keys,grS,grO,byA,ft,Zfk]))
  . intro _;refine Qga ?_;simp -implicitDefEqProofs[ZeO,ZdZ,grS,grO];refine Qgr ?_;simp -implicitDefEqProofs[FinO,Yi,okT,Zfm,ZeI,Zfn,ZeK,grO]
 simp -implicitDefEqProofs[ZdZ,Ze0,grZ,byA,gb,isA,isa];exact key _ (by simp only[<- hl1m];((try simp only[grS,grO,byA,hl1l]);refine Ym.sub (by simp[lk,Ya,AV.keys,grS,grO,byA,hl1l]) ?_;simp only[grS,grO,byA,hl1l,Wkl,Zc0,and_true];(try simp[lk,Yc,Ya,AV.keys,grS,grO,byA,hl1l])))
def Zfs (hG:GC G) (r:Jr) (lt:List Int) (n:Int) (h:Wf r):PC prog G 30 [rega r,.vsl (lt.map ia),.int .i64 n] (.tup [.vsl ((trE r lt n).1.map bra),.int .i64 (trE r lt n).2]):=by
 by_cases e:askV r lt n=0
 case neg =>
  refine PC.nzR (v:=.tup [.nils,.int .i64 (askV r lt n)]) ?_ (by simp[nz,trE,e])
  (refine ZdY rfl λR hG hrd=>Qga ?_;subst hG)
  simp -implicitDefEqProofs[ZdW,ZdX,rega];refine Qco (Zed hG r lt n h) ?_;simp -implicitDefEqProofs[takA,e]
 obtain ⟨ho,hlt,hn⟩:=ask_0 e;have hp:=Zfr (G:=G) r lt ho hlt 5 n 0 1 hn (ZbO ho hn).2 (W1S _) (by omega);obtain ⟨g1,g2⟩:=ZbW (T:=tkV r lt) 6 0 n 1 [];have g3:=ZbU (T:=tkV r lt) 6 0 n 1;rw[W18,g3]at g1 g2;by_cases c:500<brN (tkV r lt) 6 n
 . have c':=g2 c;refine PC.nzR (v:=.tup [.nils,.int .i64 4]) ?_ (by simp[nz,trE,e,c]);generalize grV (tkV r lt) 6 0 n 1 []=l at *;have c2:(500:Int)<l.length:=by omega
   (refine ZdY rfl λR hG hrd=>Qga ?_;subst hG)
   simp -implicitDefEqProofs[ZdW,ZdX,rega];refine Qco (Zed hG r lt n h) ?_;simp -implicitDefEqProofs[takA,e,ZeM];unfold byA;simp -implicitDefEqProofs;refine Yd.sem (Z1B.refn hp (λk=>if 1000<=k then k-1000 else k) (by simp[grZ]) (by simp[grO]) (by simp[grZ,St.get,lk,AObj.ren,AV.ren,ZeG,byA]) (Zfp _ _) (by simp[grZ,Ya,AV.keys,lk]) (by simp[grZ,grO,isK,lk]) (by simp[grZ,grO,isK,lk,St.get]) (by simp[AV.ren]) rfl rfl) ?_;simp -implicitDefEqProofs[Yl,grO,AObj.ren,AV.ren,ZeG,Zfj,Zfk,c2]
 . have c':=g1 (by omega);have ev:trE r lt n=(grV (tkV r lt) 6 0 n 1 [],0):=(by rw[trE,if_pos e,if_neg c,c']);rw[ev];have lb:(grV (tkV r lt) 6 0 n 1 []).length<=500:=(by rw[c',g3];omega);generalize grV (tkV r lt) 6 0 n 1 []=l at *;have c2:¬(500:Int)<l.length:=(by omega);have pu:=(ZbZ l).2.2
   (refine ZdY rfl λR hG hrd=>Qga ?_;subst hG)
   simp -implicitDefEqProofs[ZdW,ZdX,rega];refine Qco (Zed hG r lt n h) ?_;simp -implicitDefEqProofs[takA,e,ZeM];unfold byA;simp -implicitDefEqProofs;refine Yd.sem (Z1B.refn hp (λk=>if 1000<=k then k-1000 else k) (by simp[grZ]) (by simp[grO]) (by simp[grZ,St.get,lk,AObj.ren,AV.ren,ZeG,byA]) (Zfp _ _) (by simp[grZ,Ya,AV.keys,lk]) (by simp[grZ,grO,isK,lk]) (by simp[grZ,grO,isK,lk,St.get]) (by simp[AV.ren]) rfl rfl) ?_;simp -implicitDefEqProofs[Yl,grO,AObj.ren,AV.ren,ZeG,Zfj,Zfk,Zfl,c2,pu]
section
open Qq Go.Proofs.Tryd
end
open Go.ChangeShapes Go.WideShapes Go.ChangeAt Go.WideMaps Go.WideElems Go.RowKit Go.Deep
def own:ownKnob prog.godebug=none:=by kernel_rfl
def ZfB:laidOutB prog=true:=by kernel_rfl
def ZfC:prog.globalNamed "blueline/sheet.checks" = some 0:=by kernel_rfl
def ZfD:(prog.globals[0]?).map (·.type)=some 131:=by kernel_rfl
def laid2:List (String×DataW Unit):=[("blueline/sheet.checks",Rows.laid_blueline_sheet_checks)]
def ZfE (os:Os) (args:Array Value):laidMetH prog laid2 ((World.doorLaid prog 41 os).forCall (λ_ _=>0) ⟨#[],args,[]⟩).memory :=
 laidMetH_of_parts3 (fuel:=8) (laidMet_of_run' 8 (by kernel_rfl) (by kernel_rfl)) (by kernel_rfl) (by kernel_rfl)
def cF:prog.cellsOf 129=1:=by kernel_rfl
def ZfF:prog.cellsOf 130=1:=by kernel_rfl
def ChkB (W:World):Prop:=∃ t fr,W.heap[0]? = some (.cells #[.func (.func 122) #[] #[],.func (.func 123) #[] #[],.func (.func 124) #[] #[],.func (.func 125) #[] #[]] t fr)
def list4 {α:Type} {l:List α} (h:l.length=4):∃ c0 c1 c2 c3,l=[c0,c1,c2,c3]:=by
 match l,h with
 |[c0,c1,c2,c3],_=>exact ⟨c0,c1,c2,c3,rfl⟩
def ZfG {W:World} {fuel:Nat} {c:Value} {y:DataW (List UInt8)×List MemPlace} {b:UInt8} {s:List UInt8} {f0:FuncId} (hone:((List.range prog.funcs.size).filter λf=>(prog.funcs[f]?).any (·.name.toUTF8.data.toList == b::s))=[f0])
  (h:DataW.trod (funcToken prog) prog W 0 (λ_=>true) true fuel 130 [c]=some y) (hy:y.1 = .agg [.held (b::s)]):c = .func (.func f0) #[] #[]:=by
 obtain ⟨y0,n,rfl,-,h0⟩:=trod_struct1 Tryd.underlying130 h;simp only[W1K]at h0;rw[cF]at h0;simp only[DataW.agg.injEq,W26,and_true]at hy;exact func_of_trod (q:=y0.2) Tryd.underlying129 hone (by rw[<- hy];simpa using h0)
set_option maxRecDepth 100000 in
def ZfH {W:World} (h:laidMetH prog laid2 W):ChkB W:=by
 obtain ⟨g,t,cs,fuel,p,hg,ht,hv,hd⟩:=h.funcs (W0B.2 rfl);obtain rfl:=W1H (ZfC.symm.trans hg);obtain rfl:=W1H (ZfD.symm.trans ht);have hd':DataW.trod (funcToken prog) prog W 0 (λ_=>true) true fuel 131 cs.toList=some (.agg [.agg [.held [98,108,117,101,108,105,110,101,47,115,104,101,101,116,46,99,104,101,99,107,115,36,49]],.agg [.held [98,108,117,101,108,105,110,101,47,115,104,101,101,116,46,99,104,101,99,107,115,36,50]],.agg [.held [98,108,117,101,108,105,110,101,47,115,104,101,101,116,46,99,104,101,99,107,115,36,51]],.agg [.held [98,108,117,101,108,105,110,101,47,115,104,101,101,116,46,99,104,101,99,107,115,36,52]]],p):=hd;obtain ⟨xs,m,rfl,hx,hlen,hn,hel⟩:=DataW.trod_array Tryd.underlying131 hd';have hlen4:cs.toList.length=4:=hlen.trans (by kernel_rfl);obtain ⟨c0,c1,c2,c3,hcs⟩:=list4 hlen4;rw[hcs]at hel;have e0:=hel 0 (by decide);have e1:=hel 1 (by decide);have e2:=hel 2 (by decide);have e3:=hel 3 (by decide);rw[ZfF]at e0 e1 e2 e3
 match xs,hn,hx,e0,e1,e2,e3 with
 | [x0,x1,x2,x3],_,hx,e0,e1,e2,e3 =>
   simp only[W06]at hx;have hx:=hx.1;simp only[W0F,W1c,DataW.agg.injEq,W26]at hx;obtain ⟨hx0,hx1,hx2,hx3,-⟩:=hx;have g0:=ZfG (f0:=122) (by kernel_rfl) e0 hx0.symm;have g1:=ZfG (f0:=123) (by kernel_rfl) e1 hx1.symm;have g2:=ZfG (f0:=124) (by kernel_rfl) e2 hx2.symm;have g3:=ZfG (f0:=125) (by kernel_rfl) e3 hx3.symm;have hcs2:cs = #[c0,c1,c2,c3]:=(by rw[<- Array.toArray_toList (xs:=cs),hcs]);rw[g0,g1,g2,g3]at hcs2;simp only[World.var?,ZfC,W1n]at hv
   split at hv
   . rename_i cs' t fr heq;injection hv with hv
     exact ⟨t,fr,by rw[heq,hv,hcs2]⟩
   . cases hv
def G2:Nat->Option (List AV):=λg=>if g=0 then some [.func (.func 122) [] [],.func (.func 123) [] [],.func (.func 124) [] [],.func (.func 125) [] []] else none
def gc_of:GC G2:=rfl
def gr_of {W:World} (h:ChkB W):GR G2 noM W:=by
 obtain ⟨t,fr,hb⟩:=h;intro g cs hg;simp only[G2]at hg
 split at hg <;> simp only[W00,reduceCtorEq]at hg
 rename_i e;subst e;subst hg;refine .vptr _ 0 0 0 (λj=>((#[.func (.func 122) #[] #[],.func (.func 123) #[] #[],.func (.func 124) #[] #[],.func (.func 125) #[] #[]]:Array Value)[j]?).getD undef) (W0c.1 hb).1 id ?_ ?_
 . intro j hj;have hj':j<4:=(by simpa using hj);simp only[World.cell?,hb]
   match j,hj' with
   |0,_=>rfl
   |1,_=>rfl
   |2,_=>rfl
   |3,_=>rfl
 . intro j x hx;have hfn:∀ fn:Fn,PV noM W (.func fn [] []) (.func fn #[] #[]):=λfn=>.func fn [] [] #[] #[] rfl rfl (by simp) (by simp)
   match j,hx with
   |0,hx=>cases hx;exact hfn _
   |1,hx=>cases hx;exact hfn _
   |2,hx=>cases hx;exact hfn _
   |3,hx=>cases hx;exact hfn _
def ZfI {P:Program} {G:Jg} {f:FuncId} {args:List AV} {W:World} {vs:Array Value} (h:PC P G f args (.bool true)) (hG:GR G noM W) (hs:vs.size=args.length)
  (hv:∀ (i:Nat) (x:AV) (u:Value),args[i]? = some x->vs[i]? = some u->PV noM W x u):Calls P f vs W λe W'=>e = .returned (.bool true)/\Ext W W' :=
 (h.2 noM W vs (λ_ h=>h.elim) hG hs hv).mono λe W' ⟨v,h1,h2,h3⟩=>by
  cases h2
  exact ⟨h1,h3⟩
def itK:List TY:=[.int .i64,.int .i64]
def dmK:List TY:=[.int .i64,.int .i64,.int .i64]
def isK2:List TY:=[.int .i64,.int .i64,.int .u8,.sl itK,.sl dmK]
def ZfJ {xs:List AV} (h:TVs itK xs):∃ p:Int×Int,xs=ita p:=by
 obtain ⟨x0,_,rfl,h0,h⟩:=h.cons_inv;obtain ⟨x1,_,rfl,h1,h⟩:=h.cons_inv;obtain rfl:=h.nil_inv;obtain ⟨n,rfl,-⟩:=h0.int_inv;obtain ⟨l,rfl,-⟩:=h1.int_inv;exact ⟨(n,l),rfl⟩
def ZfK {xs:List AV} (h:TVs dmK xs):∃ d:Dm,xs=dma d:=by
 obtain ⟨x0,_,rfl,h0,h⟩:=h.cons_inv;obtain ⟨x1,_,rfl,h1,h⟩:=h.cons_inv;obtain ⟨x2,_,rfl,h2,h⟩:=h.cons_inv;obtain rfl:=h.nil_inv;obtain ⟨n,rfl,-⟩:=h0.int_inv;obtain ⟨l,rfl,-⟩:=h1.int_inv;obtain ⟨u,rfl,-⟩:=h2.int_inv;exact ⟨⟨n,l,u⟩,rfl⟩
def KOk (x:Iss):Prop:=0<=x.k/\x.k<=255
def ZfL {xs:List AV} (h:TVs isK2 xs):∃ x:Iss,xs=isa x/\KOk x:=by
 obtain ⟨x0,_,rfl,h0,h⟩:=h.cons_inv;obtain ⟨x1,_,rfl,h1,h⟩:=h.cons_inv;obtain ⟨x2,_,rfl,h2,h⟩:=h.cons_inv;obtain ⟨x3,_,rfl,h3,h⟩:=h.cons_inv;obtain ⟨x4,_,rfl,h4,h⟩:=h.cons_inv;obtain rfl:=h.nil_inv;obtain ⟨n,rfl,-⟩:=h0.int_inv;obtain ⟨l,rfl,-⟩:=h1.int_inv;obtain ⟨k,rfl,hk⟩:=h2.int_inv;obtain ⟨r3,rfl,-,g3⟩:=h3.sl_inv;obtain ⟨r4,rfl,-,g4⟩:=h4.sl_inv;obtain ⟨its,rfl⟩:=Zfy (f:=ita) λr hr=>ZfJ (g3 r hr)
 obtain ⟨dms,rfl⟩:=Zfy (f:=dma) λr hr=>ZfK (g4 r hr)
 exact ⟨⟨n,l,k,its,dms⟩,rfl,bounds_u8 hk⟩
def ZfM {α β:Type} {f:α->β} {p:α->Prop} {rows:List β} (h:∀ r∈rows,∃ d,r=f d/\p d):∃ l:List α,rows=l.map f/\∀ x∈l,p x:=by
 induction rows with
 |nil=>exact ⟨[],rfl,by simp⟩
 | cons r rows ih =>
   obtain ⟨d,rfl,hd⟩:=h r (W0H ..);obtain ⟨l,rfl,hl⟩:=ih λr hr=>h r (W0z _ hr)
   exact ⟨d::l,rfl,λx hx=>by
    rcases W0g.1 hx with rfl|hx
    . exact hd
    . exact hl x hx⟩
def ZfN {xs:List AV} (h:TVs [.sl isK2] xs):∃ r:List Iss,AV.agg xs=rega r/\∀ x∈r,KOk x:=by
 obtain ⟨x0,_,rfl,h0,h⟩:=h.cons_inv;obtain rfl:=h.nil_inv;obtain ⟨rows,rfl,-,g⟩:=h0.sl_inv;obtain ⟨r,rfl,hr⟩:=ZfM (f:=isa) (p:=KOk) λr hr=>ZfL (g r hr)
 exact ⟨r,rfl,hr⟩
def ZfO {G:Jg} (r:Jr):PC prog G 6 [rega r] (.bool (Z8B r)):=by
 by_cases h1:80<r.length
 . (refine Z8g rfl λR hG hrd=>Qga ?_;subst hG)
   have h1':(80:Int)<r.length:=(by omega);simp -implicitDefEqProofs[Z8e,Z8f,rega,h1',Z8B,h1]
 . exact Z8E r (by unfold Sml;omega)
def ZfP {r:Jr} (h:Z8B r=false) (hk:∀ x∈r,KOk x):Wf r:=by
 simp only[Z8B,W1N,W1a,W1Y,W0T,W0b,not_or]at h;exact ⟨⟨by unfold Sml;omega,λx hx=>by have:=h.2 x hx;unfold Sml;omega⟩,hk⟩
def okN (x:Iss):Prop:=1<=x.d/\x.d<=9999/\1<=x.l/\x.l<=8
def cmpN (x y:Iss):Int:=if x.d-y.d=0 then x.l-y.l else x.d-y.d
def or_pc (a b:Int):PC prog G 40 [.vsl [[.int .i64 a],[.int .i64 b]]] (.int .i64 (if a=0 then b else a)):=by
 (refine ZcC rfl λR hG hrd=>Qga ?_;subst hG)
 simp -implicitDefEqProofs[ZcA,ZcB];refine Z8m (λi=>⟨[(8,.int .i64 i),(7,.int .i64 2),(6,.vsl [[.int .i64 a],[.int .i64 b]]),(3,.int .i64 0)],[]⟩) (λi=>(0<i->a=0)/\(1<i->b=0)) 2 (by (first|exact Wka|exact Wkb)) (by simp) ?_ ?_
 . intro i hi he;refine Qga ?_
   match i,hi,he with
   | 0,_,_ =>
     have w1:i64.wrap 1=1:=rfl;by_cases h:a=0
     . simp -implicitDefEqProofs[h,w1]
       (first|exact Wka|exact Wkb)
     . simp -implicitDefEqProofs[h];refine Qgr ?_;simp -implicitDefEqProofs[h]
   | 1,_,he =>
     have h0:=he.1 (by omega);have w1:i64.wrap 2=2:=rfl;by_cases h:b=0
     . simp -implicitDefEqProofs[h,w1];exact ⟨(by (first|exact Wka|exact Wkb)),h0⟩
     . simp -implicitDefEqProofs[h];refine Qgr ?_;simp -implicitDefEqProofs[h,h0]
 . rintro ⟨h0,h1⟩;refine Qga ?_;have e0:=h0 (by omega);have e1:=h1 (by omega);simp -implicitDefEqProofs;refine Qgr ?_;simp -implicitDefEqProofs[e0,e1]
def ZfQ (x y:Iss) (hx:okN x) (hy:okN y):PC prog G 39 [.agg (isa x),.agg (isa y)] (.int .i64 (cmpN x y)):=by
 (refine Zcw rfl λR hG hrd=>Qga ?_;subst hG)
 obtain ⟨x1,x2,x3,x4⟩:=hx;obtain ⟨y1,y2,y3,y4⟩:=hy;have w1:i64.wrap (x.d-y.d)=x.d-y.d:=Yf;have w2:i64.wrap (x.l-y.l)=x.l-y.l:=Yf;simp -implicitDefEqProofs[Zcu,Zcv,isa,w1,w2];refine Qco (or_pc (x.d-y.d) (x.l-y.l)) ?_;simp -implicitDefEqProofs[cmpN]
def ZfR (x y:Iss):PC prog G 42 [.agg (isa x),.agg (isa y)] (.bool (decide (x.d=y.d/\x.l=y.l))):=by
 (refine Zcz rfl λR hG hrd=>Qga ?_;subst hG)
 have e1:isa x=[.int .i64 x.d,.int .i64 x.l,.int .u8 x.k,.vsl (x.its.map ita),.vsl (x.dms.map dma)]:=rfl;have e2:isa y=[.int .i64 y.d,.int .i64 y.l,.int .u8 y.k,.vsl (y.its.map ita),.vsl (y.dms.map dma)]:=rfl;simp -implicitDefEqProofs[Zcx,Zcy,e1,e2];refine Qco (Z9p x) ?_;simp -implicitDefEqProofs;refine Qco (Z9p y) ?_;simp -implicitDefEqProofs
 trace_state
 rfl
def ccA (a b:Jr):AV:=.vsl [[.vsl (a.map isa)],[.vsl (b.map isa)]]
def ccR (a b:Jr) (i:Nat):List (List AV):=if i=0 then [] else if i=1 then a.map isa else (a++b).map isa
def ZfS (l:Jr):(l.map isa).all (λr=>r.length == 5)=true:=by simp[isa]
def ZfT (l:Jr):(l.map isa).all (λr=>r.all AV.one)=true:=by simp[isa,AV.one]
def ZfU (l:Jr):(l.map isa).all (λr=>r.all AV.pure)=true:=by simp[isa,AV.pure]
def ZfV (l:Jr) (o:List (Nat×AObj)):Yc o (.row 5 (l.map isa))=true:=by
 simp only[Yc,W03,W0i];rintro x ⟨y,-,rfl⟩ v hv;simp only[isa,W0g,W0Q,or_false]at hv;rcases hv with rfl|rfl|rfl|rfl|rfl <;> simp[Ya,AV.keys]
def ZfW (a b:Jr) (h0:a≠[]) (hb0:b≠[]) (ha:a.length<=400) (hb:b.length<=400):PC prog G 36 [ccA a b] (.vsl ((a++b).map isa)):=by
 (refine Zck rfl λR hG hrd=>Qga ?_;subst hG)
 simp -implicitDefEqProofs[Zci,Zcj,ccA];refine Z8m (λi=>⟨[(11,.int .i64 i),(10,.int .i64 2),(9,ccA a b),(0,ccA a b),(3,.int .i64 (if i=0 then 0 else if i=1 then a.length else a.length+b.length:Nat))],[]⟩) (λi=>True) 2 (by simp only[ccA];(first|exact Wka|exact Wkb)) trivial ?_ ?_
 . intro i hi _;refine Qga ?_
   match i,hi with
   | 0,_ =>
     have w1:i64.wrap 1=1:=rfl;have w2:i64.wrap (a.length:Int)=a.length:=Yf;have k2:¬(a.length:Int)<0:=(by omega);simp -implicitDefEqProofs[ccA,w1,w2,k2]
     (first|exact Wka|exact Wkb)
   | 1,_ =>
     have w1:i64.wrap 2=2:=rfl;have w2:i64.wrap ((a.length:Int)+b.length)=((a.length+b.length:Nat):Int):=Yf;have k2:¬((a.length:Int)+b.length)<0:=(by omega);simp -implicitDefEqProofs[ccA,w1,w2,k2]
     (first|exact Wka|exact Wkb)
 . intro _;refine Qga ?_;have hp:0<a.length:=List.length_pos_iff.2 h0;simp -implicitDefEqProofs[ccA];refine Qgr ?_;have gp:=Zdo (G:=R.G) (a.length+b.length) (by omega) (by omega);rw[Int.natCast_add]at gp;simp -implicitDefEqProofs;refine Z2R.new gp (by simp[AV.pure]) (by rfl) ?_;simp -implicitDefEqProofs;refine Z8m (λi=>⟨[(27,.int .i64 i),(26,.int .i64 2),(25,ccA a b),(6,.osl 24 (ccR a b i).length)],[(24,.row 5 (ccR a b i))]⟩) (λi=>True) 2 (by simp only[ccA,ccR];(first|exact Wka|exact Wkb)) trivial ?_ ?_
   . intro i hi _;refine Qga ?_;have f1:=ZfS a;have f2:=ZfS b;have o1:=ZfT a;have o2:=ZfT b;have p1:=ZfU a;have p2:=ZfU b
     match i,hi with
     | 0,_ =>
       have w1:i64.wrap 1=1:=rfl;have b1:a.length*72<=70368744177664:=(by omega);simp -implicitDefEqProofs[ccA,ccR,w1,b1,f1,o1,p1,h0];refine Ym.sub (by simp[lk,Ya,AV.keys]) ?_;simp only[W0g,W0Q,or_false,W1I,forall_eq,ZfV,and_true];simp[lk]
     | 1,_ =>
       have w1:i64.wrap 2=2:=rfl;have b1:(a.length+b.length)*72<=70368744177664:=(by omega);simp -implicitDefEqProofs[ccA,ccR,w1,b1,f2,o2,p2,hb0];have ik:=ZfV (a++b);simp only[W0r]at ik;refine Ym.sub (by simp[lk,Ya,AV.keys]) ?_;simp only[W0g,W0Q,or_false,W1I,forall_eq,ik,and_true];simp[lk]
   . intro _;refine Qga ?_;simp -implicitDefEqProofs[ccA,ccR];refine Qgr ?_;have p1:=ZfU a;have p2:=ZfU b;simp -implicitDefEqProofs[p1,p2]
def kyN (x:Iss):Int:=x.d*16+x.l
def ZfX {x y:Iss} (hx:okN x) (hy:okN y):cmpN x y<0↔kyN x<kyN y:=by
 obtain ⟨x1,x2,x3,x4⟩:=hx;obtain ⟨y1,y2,y3,y4⟩:=hy;unfold cmpN kyN
 split <;> omega
def ZfY {x y:Iss} (hx:okN x) (hy:okN y):kyN x=kyN y↔(x.d=y.d/\x.l=y.l):=by
 obtain ⟨x1,x2,x3,x4⟩:=hx;obtain ⟨y1,y2,y3,y4⟩:=hy;unfold kyN;omega
def leN (x y:Iss):Bool:=decide (kyN x<=kyN y)
def sortN (l:Jr):List Iss:=l.mergeSort leN
def SrtN (l:Jr):Prop:=l.Pairwise λx y=>kyN x<=kyN y
def InjN (l:Jr):Prop:=∀ x∈l,∀ y∈l,kyN x=kyN y->x=y
def ZfZ (l:Jr):(sortN l).Perm l:=List.mergeSort_perm l _
def Zg0 (l:Jr):SrtN (sortN l):=by
 have:=List.pairwise_mergeSort (le:=leN) (λa b c=>by simp[leN];omega) (λa b=>by simp[leN];omega) l;exact this.imp (by simp[leN])
def InjN.perm {a b:Jr} (h:InjN a) (p:a.Perm b):InjN b:=λx hx y hy=>h x (p.mem_iff.2 hx) y (p.mem_iff.2 hy)
def InjN.sub {a b:Jr} (h:InjN a) (s:∀ x∈b,x∈a):InjN b:=λx hx y hy=>h x (s x hx) y (s y hy)
def Zg1 {a b:Jr} (hi:InjN a) (p:a.Perm b) (ha:SrtN a) (hb:SrtN b):a=b :=
 List.Perm.eq_of_pairwise (le:=λx y=>kyN x<=kyN y) (λx y hx hy h1 h2=>hi x hx y (p.mem_iff.2 hy) (by omega)) ha hb p
def Zg2 {l s:Jr} (hi:InjN l) (p:s.Perm l) (hs:SrtN s):sortN l=s :=
 Zg1 (hi.perm (ZfZ l).symm) ((ZfZ l).trans p.symm) (Zg0 l) hs
def Zg3 (l:Jr):(sortN l).length=l.length:=(ZfZ l).length_eq
def Zg4 {l:Jr} {x:Iss}:x∈sortN l↔x∈l:=(ZfZ l).mem_iff
def srtS (l:Jr) (a b:Nat):List Iss:=l.take a++(sortN ((l.take b).drop a)++l.drop b)
def Zg5 {l:Jr} {a b:Nat} (h1:a<=b) (h2:b<=a+1):srtS l a b=l:=by
 have e:sortN ((l.take b).drop a)=(l.take b).drop a:=by
  generalize hq:(l.take b).drop a=q;have hl:q.length<=1:=by rw[<- hq];simp;omega
  match q,hl with
  |[],_=>simp[sortN]
  |[x],_=>simp[sortN]
 have e2:l.take a=(l.take b).take a:=(by rw[List.take_take,Nat.min_eq_left h1]);rw[srtS,e,<- W0U,e2,W11,W11]
def mvS (l:Jr) (a i p:Nat):List Iss :=
 l.take a++((sortN ((l.take i).drop a)).take p++(l.getD i default::((sortN ((l.take i).drop a)).drop p++l.drop (i+1))))
def Zg6 {l:Jr} {a i:Nat} (h:i<=l.length):(sortN ((l.take i).drop a)).length=i-a:=by rw[Zg3];simp;omega
def Zg7 {l:Jr} {a i:Nat} (h1:a<=i) (h2:i<l.length):srtS l a i=mvS l a i (i-a):=by
 have e:=Zg6 (l:=l) (a:=a) (i:=i) (by omega);rw[mvS,srtS,W0x h2];generalize sortN ((l.take i).drop a)=s at *;rw[W0J (by omega:s.length<=i-a),W1i (by omega:s.length<=i-a)];simp[W0j,h2]
def Zg8 {l:Jr} {a i p:Nat} (h1:a<=i) (h2:i<l.length) (h3:p<=i-a):(mvS l a i p).length=l.length:=by
 have e:=Zg6 (l:=l) (a:=a) (i:=i) (by omega);simp[mvS,e];omega
def Zg9 {α:Type} (D C:List α) (y x:α) (n:Nat) (h:n=D.length):((D++y::x::C).set (n+1) y).set n x=D++x::y::C:=by
 subst h;rw[W1X _ _ (by omega),W1X _ _ (by omega)];simp
def Zga {l:Jr} {a i p:Nat} (h1:a<=i) (h2:i<l.length) (h3:p+1<=i-a) :
  ∃ y,(sortN ((l.take i).drop a))[p]? = some y/\(mvS l a i (p+1))[a+p+1]? = some l[i]/\(mvS l a i (p+1))[a+p]? = some y/\((mvS l a i (p+1)).set (a+p+1) y).set (a+p) l[i]=mvS l a i p/\y∈l:=by
 have e:=Zg6 (l:=l) (a:=a) (i:=i) (by omega);have hm:∀ y∈sortN ((l.take i).drop a),y∈l:=λy hy=>W1q (W1M (Zg4.1 hy))
 unfold mvS;generalize sortN ((l.take i).drop a)=s at *;have hp:p<s.length:=(by omega);have ta:(l.take a).length=a:=(by simp;omega);have e1:s.take (p+1)=s.take p++[s[p]]:=W08 hp;have e2:s.drop p=s[p]::s.drop (p+1):=W0x hp;have e3:l.getD i default=l[i]:=(by simp[W0j,h2]);have tp:(s.take p).length=p:=(by simp;omega);refine ⟨s[p],by simp[hp],?_,?_,?_,hm _ (W0e hp)⟩
 . rw[e1,e3,W0o (by omega),ta,W0o (by simp;omega)];have:a+p+1-a-(s.take p++[s[p]]).length=0:=(by simp;omega);rw[this];rfl
 . rw[e1,W0o (by omega),ta,W0U,W0o (by omega),tp];have:a+p-a-p=0:=(by omega);rw[this];rfl
 . rw[e1,e2,e3,W0U];have q:=Zg9 (l.take a++s.take p) (s.drop (p+1)++l.drop (i+1)) s[p] l[i] (a+p) (by simp;omega);simp only[W0U,W1d,W18]at q ⊢;exact q
def Zgb {l:Jr} {a i p:Nat} (hi:InjN l) (h1:a<=i) (h2:i<l.length) (h3:p<=i-a)
  (hd:∀ y∈(sortN ((l.take i).drop a)).drop p,kyN l[i]<kyN y) (hc:∀ q,p=q+1->∀ y,(sortN ((l.take i).drop a))[q]? = some y->¬kyN l[i]<kyN y):mvS l a i p=srtS l a (i+1):=by
 have e:=Zg6 (l:=l) (a:=a) (i:=i) (by omega);have e3:l.getD i default=l[i]:=by simp[W0j,h2]
 have e4:(l.take (i+1)).drop a=(l.take i).drop a++[l[i]]:=by
  rw[W08 h2,List.drop_append_of_le_length (by simp;omega)]
 have hs:=Zg0 ((l.take i).drop a);have hp:=ZfZ ((l.take i).drop a);have hm:∀ x∈(l.take (i+1)).drop a,x∈l:=λy hy=>W1q (W1M hy)
 rw[srtS,mvS,e3];rw[Zg2 (s:=(sortN ((l.take i).drop a)).take p++l[i]::(sortN ((l.take i).drop a)).drop p) (hi.sub hm)]
 . simp[W0U]
 . rw[e4];refine List.perm_middle.trans ?_;rw[W11];exact (List.perm_cons _).2 hp |>.trans (List.perm_append_singleton _ _).symm
 . generalize sortN ((l.take i).drop a)=s at *;have hs2:=hs;unfold SrtN at hs ⊢;rw[<- W11 p s,W1Z]at hs;obtain ⟨t1,t2,t3⟩:=hs;rw[W1Z];refine ⟨t1,W1k.2 ⟨λy hy=>by have:=hd y hy;omega,t2⟩,λu hu v hv=>?_⟩;rcases W0g.1 hv with rfl|hv
   . match p,hc,h3 with
     |0,_,_=>simp at hu
     | q + 1,hc,h3 =>
       have hq:q<s.length:=(by omega);have hc2:=hc q rfl s[q] (by simp[hq]);obtain ⟨j,hj,rfl⟩:=W0k hu;rw[W1P];have hjq:j<=q:=(by simp at hj;omega);rcases W0q j q with hl|hg
       . have:=W0Y.1 hs2 j q (by omega) hq hl;omega
       . have:j=q:=(by omega);subst this;omega
   . exact t3 u hu v hv
def Zgc (ok:Nat->Bool) (st:St) (l:Jr):frzO ok st (.row 5 (l.map isa)) = .row 5 (l.map isa):=by
 simp only[frzO,W10]
 congr 2
 funext p;simp[isa,frzA,frz,AV.keys]
def fM1:AV:=.func (.func 39) [] []
def Zgd (l:Jr) (a b:Nat) (hv:∀ x∈l,okN x) (hin:InjN l) (h1:a<=b) (h2:b<=l.length) (h3:l.length<=1000) :
  PB prog G 83 [(1000,.row 5 (l.map isa))] [.osl 1000 l.length,.int .i64 a,.int .i64 b,fM1] (.tup []) [(1000,.row 5 ((srtS l a b).map isa))]:=by
 (refine Zct (W0C rfl) λR hG hrd=>Qga ?_;subst hG)
 have w1:i64.wrap ((a:Int)+1)=a+1:=Yf;simp -implicitDefEqProofs[Zcr,Zcs,fM1,w1];refine Z8m (λi=>⟨[(8,.int .i64 ((a:Int)+1+i)),(0,.osl 1000 l.length),(1,.int .i64 a),(2,.int .i64 b),(3,fM1)],[(1000,.row 5 ((srtS l a (a+1+i)).map isa))]⟩) (λi=>True) (b-(a+1)) ?_ trivial ?_ ?_
 . rw[Zg5 (by omega) (by omega)];refine Ym.sub (by simp[lk,Ya,AV.keys,fM1]) ?_;simp only[W0g,W0Q,or_false,W1I,forall_eq,ZfV,and_true];simp[lk]
 . intro i hi _;refine Qga ?_;have k1:(a:Int)+1+i<b:=(by omega);simp -implicitDefEqProofs[fM1,k1];have hI:a+1+i<l.length:=(by omega);have z:=Zg7 (l:=l) (a:=a) (i:=a+1+i) (by omega) hI;have z0:a+1+i-a=i+1:=(by omega);rw[z0]at z;rw[z];have hx:=hv _ (W0e hI);have ex:isa l[a+1+i]=[.int .i64 l[a+1+i].d,.int .i64 l[a+1+i].l,.int .u8 l[a+1+i].k,.vsl (l[a+1+i].its.map ita),.vsl (l[a+1+i].dms.map dma)]:=rfl;have hat:=λp (hp:p+1<=a+1+i-a)=>Zga (l:=l) (a:=a) (i:=a+1+i) (p:=p) (by omega) hI hp
   have hend:=λp=>Zgb (l:=l) (a:=a) (i:=a+1+i) (p:=p) hin (by omega) hI
   have hln:=λp (hp:p<=a+1+i-a)=>Zg8 (l:=l) (a:=a) (i:=a+1+i) (p:=p) (by omega) hI hp
   have hsl:=Zg6 (l:=l) (a:=a) (i:=a+1+i) (by omega);generalize hsg:sortN ((l.take (a+1+i)).drop a)=s at *;generalize hxx:l[a+1+i]=x at *
   refine Z1Q (λp:Nat=>⟨[(9,.int .i64 ((a:Int)+p)),(8,.int .i64 ((a:Int)+1+i)),(0,.osl 1000 l.length),(1,.int .i64 a),(2,.int .i64 b),(3,.func (.func 39) [] [])],[(1000,.row 5 ((mvS l a (a+1+i) p).map isa))]⟩)
    (λp=>p<=i+1/\∀ y∈s.drop p,kyN x<kyN y) (λp=>p) (i+1) ?_ ⟨W0f _,λy hy=>by rw[W1i (by omega)]at hy;cases hy⟩ ?_
   . have e9:(a:Int)+1+i=(a:Int)+(i+1:Nat):=(by omega);rw[e9];refine Ym.sub (by simp[lk,Ya,AV.keys]) ?_;simp only[W0g,W0Q,or_false,W1I,forall_eq,ZfV,and_true];simp[lk]
   . rintro p ⟨hp,hd⟩;refine Qga ?_
     cases p with
     | zero =>
       have k2:¬(a:Int)<a:=(by omega);simp -implicitDefEqProofs;refine ⟨rfl,?_⟩;refine Qgr ?_;have w3:i64.wrap ((a:Int)+1+i+1)=(a:Int)+1+(i+1):=(by rw[Yf (by omega) (by omega)];omega);have he:=hend 0 (W1e _) hd (λq hq=>by omega);have he2:a+1+i+1=a+1+(i+1):=(by omega);rw[he2]at he;simp -implicitDefEqProofs[w3];refine Ym.sub (by simp[lk,Ya,AV.keys]) ?_;simp only[W0g,W0Q,or_false,W1I,forall_eq,ZfV,and_true];simp[lk,he]
     | succ p =>
       obtain ⟨y,hy0,hy1,hy2,hy3,hy4⟩:=hat p (by omega);have ey:isa y=[.int .i64 y.d,.int .i64 y.l,.int .u8 y.k,.vsl (y.its.map ita),.vsl (y.dms.map dma)]:=rfl;have hl2:=hln (p+1) (by omega);have k2:(a:Int)<(a:Int)+(p+1):=(by omega);have k3:((a:Int)+(p+1)).toNat=a+p+1:=(by omega);have w2:i64.wrap ((a:Int)+(p+1)-1)=(a:Int)+p:=(by rw[Yf (by omega) (by omega)];omega);have k4:((a:Int)+p).toNat=a+p:=(by omega);have k5:a+p+1<l.length:=(by omega);have k6:a+p<l.length:=(by omega);have k7:(0:Int)<=(a:Int)+(p+1):=(by omega);have k8:(0:Int)<=(a:Int)+p:=(by omega);have he:=hend (p+1) (by omega) hd;generalize mvS l a (a+1+i) (p+1)=Q at *;obtain ⟨q1,g1⟩:=W02.1 hy1;obtain ⟨q2,g2⟩:=W02.1 hy2;have hcl:=ZfX hx (hv y hy4);simp -implicitDefEqProofs[k2,k3,w2,k4,k5,k6,k7,k8,g1,g2,hl2,ex,ey];refine Ye.of (ZfQ x y hx (hv y hy4)) (by simp[AV.pure]) ?_;by_cases hlt:cmpN x y<0
       . simp -implicitDefEqProofs[hlt,k3,w2,k4,k5,k6,k7,k8,g1,g2,hl2,ex,ey];refine ⟨rfl,rfl,p,?_,⟨by omega,λu hu=>?_⟩,Nat.lt_succ_self _⟩
         . rw[<- ex,<- ey,<- W2e,<- W2e,hy3];refine Ym.sub (by simp[lk,Ya,AV.keys]) ?_;simp only[W0g,W0Q,or_false,W1I,forall_eq,ZfV,and_true];simp[lk]
         . obtain ⟨hps,gs⟩:=W02.1 hy0;rw[W0x hps,gs]at hu;rcases W0g.1 hu with rfl|hu
           . exact hcl.1 hlt
           . exact hd u hu
       . simp -implicitDefEqProofs[hlt];refine ⟨rfl,?_⟩;refine Qgr ?_;have w3:i64.wrap ((a:Int)+1+i+1)=(a:Int)+1+(i+1):=by rw[Yf (by omega) (by omega)];omega
         have he:=he (λq hq u hu hk=>by
          have:q=p:=(by omega);subst this;rw[hy0]at hu
          cases hu
          exact hlt (hcl.2 hk))
         have he2:a+1+i+1=a+1+(i+1):=(by omega);rw[he2]at he;simp -implicitDefEqProofs[w3];refine Ym.sub (by simp[lk,Ya,AV.keys]) ?_;simp only[W0g,W0Q,or_false,W1I,forall_eq,ZfV,and_true];simp[lk,he]
 . intro _;refine Qga ?_;have k1:¬(a:Int)+1+(b-(a+1):Nat)<b:=(by omega);simp -implicitDefEqProofs[fM1,k1];refine Qgr ?_
   have e:srtS l a (a+1+(b-(a+1)))=srtS l a b:=by
    rcases W0q a b with h|h
    . congr 1;omega
    . rw[Zg5 (by omega) (by omega),Zg5 (by omega) (by omega)]
   rw[e];refine ⟨[],rfl,rfl,?_⟩;simp[Yi,newK,Zgc]
def Zge (l:Jr):srtS l 0 l.length=sortN l:=by simp[srtS]
def Zgf (ρ:Nat->Nat) (l:Jr):AObj.ren ρ (.row 5 (l.map isa)) = .row 5 (l.map isa):=by
 simp only[AObj.ren,W10]
 congr 2
 funext p;simp[isa,AV.ren]
def Zgg (l:Jr) (hv:∀ x∈l,okN x) (hin:InjN l) (h3:l.length<20) :
  PB prog G 69 [(1000,.row 5 (l.map isa))] [.osl 1000 l.length,.int .i64 l.length,fM1] (.tup []) [(1000,.row 5 ((sortN l).map isa))]:=by
 (refine Zcq (W0C rfl) λR hG hrd=>Qga ?_;subst hG)
 have k1:¬(20:Int)<=l.length:=(by omega);have k2:¬(20:Int)<l.length:=(by omega);have hp:=Zgd (G:=R.G) l 0 l.length hv hin (W1e _) (W0f _) (by omega);rw[Zge]at hp;simp -implicitDefEqProofs[Zco,Zcp,fM1];refine Z8m (λi=>⟨[(8,.int .i64 20),(7,.int .i64 0),(6,.int .i64 20),(0,.osl 1000 l.length),(1,.int .i64 l.length),(2,fM1)],[(1000,.row 5 (l.map isa))]⟩) (λ_=>True) 0 ?_ trivial (λi hi=>by omega) λ_=>?_
 . refine Ym.sub (by simp[lk,Ya,AV.keys,fM1]) ?_;simp only[W0g,W0Q,or_false,W1I,forall_eq,ZfV,and_true];simp[lk]
 refine Qga ?_;simp -implicitDefEqProofs[fM1,k1];refine Qgr ?_;simp -implicitDefEqProofs;refine Yd.sem (Z1B.byref hp id (by simp) (by simp) (by simp[St.get,lk,Zgf]) (by simp[ZfV]) (by simp[Ya,AV.keys,lk,fM1]) rfl (by simp[AV.ren,fM1]) rfl rfl) ?_;simp -implicitDefEqProofs[Yl,Zgf];refine Z8m (λi=>⟨[(6,.int .i64 20),(1,.int .i64 l.length)],[(1000,.row 5 ((sortN l).map isa))]⟩) (λ_=>True) 0 ?_ trivial (λi hi=>by omega) λ_=>?_
 . refine Ym.sub (by simp[lk,Ya,AV.keys,fM1]) ?_;simp only[W0g,W0Q,or_false,W1I,forall_eq,ZfV,and_true];simp[lk]
 refine Qga ?_;simp -implicitDefEqProofs[k2];refine Qgr ?_;refine ⟨[],rfl,rfl,?_⟩;simp[Yi,newK,Zgc]
def Zgh (l:Jr) (hv:∀ x∈l,okN x) (hin:InjN l) (h3:l.length<20) :
  PB prog G 38 [(1000,.row 5 (l.map isa))] [.osl 1000 l.length,fM1] (.tup []) [(1000,.row 5 ((sortN l).map isa))]:=by
 (refine Zcn (W0C rfl) λR hG hrd=>Qga ?_;subst hG)
 simp -implicitDefEqProofs[Zcl,Zcm,fM1];refine Yd.sem (Z1B.byref (Zgg l hv hin h3) id (by simp) (by simp) (by simp[St.get,lk,Zgf]) (by simp[ZfV]) (by simp[Ya,AV.keys,lk,fM1]) rfl (by simp[AV.ren,fM1]) rfl rfl) ?_;simp -implicitDefEqProofs[Yl,Zgf];refine ⟨[],rfl,rfl,?_⟩;simp[Yi,newK,Zgc]
def smN (x y:Iss):Bool:=decide (x.d=y.d/\x.l=y.l)
def kN (l:Jr):Nat->List Iss
 |0=>[]
 |p+1=>if p≠0/\smN (l.getD p default) (l.getD (p-1) default)=true then kN l p else kN l p++[l.getD p default]
def Zgi (l:Jr):∀ p,(kN l p).length<=p
 |0=>W0f _
 | p+1=>by
   have:=Zgi l p;rw[kN];split <;> simp <;> omega
def noD (l:Jr) (p:Nat):Prop:=∀ j,0<j->j<p->smN (l.getD j default) (l.getD (j-1) default)=false
def Zgj {l:Jr}:∀ {p:Nat},noD l p->p<=l.length->kN l p=l.take p
 |0,_,_=>rfl
 | p + 1,h,hp=>by
   rw[kN,Zgj (p:=p) (λj h1 h2=>h j h1 (by omega)) (by omega),W08 (by omega)];have e:l.getD p default=l[p]:=by simp[W0j,show p<l.length by omega]
   split
   . rename_i h2;rw[h p (by omega) (by omega)]at h2;exact absurd h2.2 (by simp)
   . rw[e]
def cpS (l:Jr) (p:Nat):List Iss:=kN l p++l.drop (kN l p).length
def Zgk {l:Jr} {p:Nat} (h:p<=l.length):(cpS l p).length=l.length:=by
 have:=Zgi l p;simp[cpS];omega
def Zgl {l:Jr} {p j:Nat} (hp:p<l.length) (h1:(kN l p).length<=j) (h2:j<=p):(cpS l p)[j]? = some (l.getD j default):=by
 rw[cpS,W0o h1,W13];have:(kN l p).length+(j-(kN l p).length)=j:=(by omega);rw[this];simp[W0j,show j<l.length by omega]
def Zgm {l:Jr} {p:Nat} (hp:p<l.length) (h:¬(p≠0/\smN (l.getD p default) (l.getD (p-1) default)=true)):(cpS l p).set (kN l p).length (l.getD p default)=cpS l (p+1):=by
 have hl:=Zgi l p;have e:kN l (p+1)=kN l p++[l.getD p default]:=(by rw[kN,if_neg h]);rw[cpS,cpS,e,W1X _ _ (by omega),Nat.sub_self,W0x (by omega:(kN l p).length<l.length)];simp only[List.set_cons_zero,W0s,W2f,W0U,List.singleton_append]
def Zgn {l:Jr} {p:Nat} (h:p≠0/\smN (l.getD p default) (l.getD (p-1) default)=true):cpS l (p+1)=cpS l p/\kN l (p+1)=kN l p:=by
 have e:kN l (p+1)=kN l p:=(by rw[kN,if_pos h]);exact ⟨by rw[cpS,cpS,e],e⟩
def cmpct (l:Jr):List Iss:=kN l l.length
def zrI:List AV:=[.int .i64 0,.int .i64 0,.int .u8 0,.nils,.nils]
def cmpO (l:Jr):List (List AV):=(cmpct l).map isa++List.replicate (l.length-(cmpct l).length) zrI
def cmpV (k:Nat) (l:Jr):AV:=if (cmpct l).length=l.length then .osl k l.length else .oss k l.length 0 (cmpct l).length
def fM2:AV:=.func (.func 42) [] []
def kN_lt {l:Jr} {k:Nat} (hk0:k≠0) (hd:smN (l.getD k default) (l.getD (k-1) default)=true):∀ p,k<p->(kN l p).length<p:=by
 intro p hp
 induction p with
 |zero=>omega
 | succ p ih =>
   by_cases h:p=k
   . subst h;have:=Zgi l p;rw[kN,if_pos ⟨hk0,hd⟩];omega
   . have:=ih (by omega);rw[kN];split <;> simp <;> omega
def Zgo {l:Jr} {p:Nat} (h:p<l.length):l.getD p default=l[p]:=by simp[W0j,h]
def Zgp {l:Jr} (h:noD l l.length):cmpct l=l:=by rw[cmpct,Zgj h (W0f _),W0v]
def Zgq (ok:Nat->Bool) (st:St) (l:Jr):frzO ok st (.row 5 (cmpO l)) = .row 5 (cmpO l):=by
 have h:=Zgc ok st (cmpct l);simp only[frzO,AObj.row.injEq,true_and]at h ⊢;rw[cmpO,W0r,h];simp[zrI,frzA,frz,AV.keys]
def Zgr (l:Jr) (h3:l.length<=1000) :
  PB prog G 41 [(1000,.row 5 (l.map isa))] [.osl 1000 l.length,fM2] (cmpV 1000 l) [(1000,.row 5 (cmpO l))]:=by
 (refine ZcF (W0C rfl) λR hG hrd=>Qga ?_;subst hG)
 simp -implicitDefEqProofs[ZcD,ZcE,fM2];by_cases hs:(l.length:Int)<2
 . have e:cmpct l=l:=Zgp λj h1 h2=>by omega
   simp -implicitDefEqProofs[hs];refine ⟨[.osl 1000 l.length],?_,?_,?_⟩
   . simp[Z29,evRes,Yi,newK,frzA,frz,AV.keys,lk,St.tmp,ZcE]
   . simp[cmpV,e,tupV]
   . simp[Yi,newK,Zgc,cmpO,e]
 simp -implicitDefEqProofs[hs];refine Z8m (λi=>⟨[(5,.int .i64 ((i:Int)+1)),(0,.osl 1000 l.length),(1,fM2)],[(1000,.row 5 (l.map isa))]⟩) (λi=>noD l (i+1)) (l.length-1) ?_ (λj h1 h2=>by omega) ?_ ?_
 . refine Ym.sub (by simp[lk,Ya,AV.keys,fM2]) ?_;simp only[W0g,W0Q,or_false,W1I,forall_eq,ZfV,and_true];simp[lk]
 . intro i hi hn;refine Qga ?_;have k1:(i:Int)+1<l.length:=(by omega);have k2:((i:Int)+1).toNat=i+1:=(by omega);have k3:(0:Int)<=(i:Int)+1:=(by omega);have k4:i+1<l.length:=(by omega);have k5:i<l.length:=(by omega);have w1:i64.wrap (i:Int)=i:=Yf;have w2:i64.wrap ((i:Int)+1+1)=(i:Int)+1+1:=Yf;have ex:∀ x,isa x=[.int .i64 x.d,.int .i64 x.l,.int .u8 x.k,.vsl (x.its.map ita),.vsl (x.dms.map dma)]:=λx=>rfl
   simp -implicitDefEqProofs[fM2,k1,k2,k3,k4,k5,w1,ex];refine Ye.of (ZfR l[i+1] l[i]) (by simp[AV.pure,isa]) ?_;have hsm:smN (l.getD (i+1) default) (l.getD i default)=decide (l[i+1].d=l[i].d/\l[i+1].l=l[i].l):=(by rw[Zgo k4,Zgo k5];rfl);by_cases hd:l[i+1].d=l[i].d/\l[i+1].l=l[i].l
   . simp -implicitDefEqProofs [hd];refine ⟨rfl,?_⟩;rw[W0M hd]at hsm;have hs2:i+1≠0/\smN (l.getD (i+1) default) (l.getD (i+1-1) default)=true:=⟨by omega,hsm⟩;have hk:=Zgj hn (by omega);have hk1:(kN l (i+1)).length=i+1:=(by rw[hk];simp;omega);obtain ⟨c1,c2⟩:=Zgn hs2;have c3:cpS l (i+1)=l:=(by rw[cpS,hk1,hk,W11]);have hkl:=λp=>kN_lt (l:=l) (k:=i+1) (by omega) hsm p
     have k6:i+1<=l.length:=(by omega);simp -implicitDefEqProofs[k2,k3,k6];refine Z8m (λj=>⟨[(7,.int .i64 ((j:Int)+1)),(6,.oss 1000 l.length (i+1) l.length),(5,.int .i64 (kN l (i+1+1+j)).length),(0,.osl 1000 l.length),(1,.func (.func 42) [] [])],[(1000,.row 5 ((cpS l (i+1+1+j)).map isa))]⟩) (λ_=>True) (l.length-(i+1+1)) ?_ trivial ?_ ?_
     . have z1:cpS l (i+1+1+0)=l:=(by rw[W1R,c1,c3]);have z2:(kN l (i+1+1+0)).length=i+1:=(by rw[W1R,c2,hk1]);rw[z1,z2];refine Ym.sub (by simp[lk,Ya,AV.keys]) ?_;simp only[W0g,W0Q,or_false,W1I,forall_eq,ZfV,and_true];simp[lk]
     . intro j hj _;refine Qga ?_;have hq:i+1+1+j<l.length:=(by omega);have hq2:i+1+j<l.length:=(by omega);have hml:=hkl (i+1+1+j) (by omega);have hcl:=Zgk (l:=l) (p:=i+1+1+j) (by omega);have a1:=Zgl (j:=i+1+1+j) hq (by omega) (by omega);have a2:=Zgl (j:=i+1+j) hq (by omega) (by omega);rw[Zgo hq]at a1;rw[Zgo hq2]at a2;have hkeep:=Zgm hq;have hskip:=Zgn (l:=l) (p:=i+1+1+j);have e3:i+1+1+j-1=i+1+j:=(by omega);have hkk:kN l (i+1+1+j+1)=kN l (i+1+1+j+1):=rfl
       conv at hkk=>rhs;rw[kN]
       have hsm2:smN (l.getD (i+1+1+j) default) (l.getD (i+1+j) default)=decide (l[i+1+1+j].d=l[i+1+j].d/\l[i+1+1+j].l=l[i+1+j].l):=(by rw[Zgo hq,Zgo hq2];rfl);rw[e3,hsm2,Zgo hq]at hkeep hkk;rw[e3,hsm2]at hskip;have e4:i+1+1+(j+1)=i+1+1+j+1:=(by omega);have m1:(j:Int)+1<((l.length-(i+1):Nat):Int):=(by omega);have m2:((j:Int)+1).toNat=j+1:=(by omega);have m3:(0:Int)<=(j:Int)+1:=(by omega);have m4:j+1<l.length-(i+1):=(by omega);have m5:j<l.length-(i+1):=(by omega);have m6:i+1+(j+1)=i+1+1+j:=(by omega);have u1:i64.wrap (j:Int)=j:=Yf;have u2:i64.wrap ((j:Int)+1+1)=(j:Int)+1+1:=Yf;have u3:i64.wrap (((kN l (i+1+1+j)).length:Int)+1)=(kN l (i+1+1+j)).length+1:=Yf;have m7:(kN l (i+1+1+j)).length<l.length:=(by omega);have hpl:=Zgi l (i+1+1+j);generalize cpS l (i+1+1+j)=Q at *;obtain ⟨q1,g1⟩:=W02.1 a1;obtain ⟨q2,g2⟩:=W02.1 a2;generalize l[i+1+1+j]=x at *;generalize l[i+1+j]=y at *;have ex1:=ex x;have ey1:=ex y;simp -implicitDefEqProofs[m1,m2,m3,m4,m5,m6,u1,u2,hq,hq2,g1,g2,hcl,ex1,ey1];refine Ye.of (ZfR x y) (by simp[AV.pure,isa]) ?_;by_cases hd2:x.d=y.d/\x.l=y.l
       . obtain ⟨f1,f2⟩:=hskip ⟨by omega,W0M hd2⟩;simp -implicitDefEqProofs[hd2,u2];refine ⟨rfl,?_⟩;rw[e4,f1,f2];refine Ym.sub (by simp[lk,Ya,AV.keys]) ?_;simp only[W0g,W0Q,or_false,W1I,forall_eq,ZfV,and_true];simp[lk]
       . have hn2:¬(i+1+1+j≠0/\decide (x.d=y.d/\x.l=y.l)=true):=by
          rintro ⟨-,h⟩;exact hd2 (W0X h)
         have f1:=hkeep hn2;rw[if_neg hn2]at hkk;have il:∀ z:Iss,(isa z).length=5:=λz=>rfl
         have id5:∀ z:Iss,(isa z).drop 5=[]:=λz=>rfl
         have m8:(((kN l (i+1+1+j)).length:Int)+1)=((kN l (i+1+1+j+1)).length:Nat):=(by rw[hkk];simp);simp -implicitDefEqProofs[hd2,m1,m2,m3,m4,m5,m6,u1,u2,u3,hq,hq2,g1,g2,hcl,ex1,ey1,m7,il,id5];refine ⟨rfl,?_⟩;rw[<- ex1,<- W2e,f1,m8,e4];refine Ym.sub (by simp[lk,Ya,AV.keys]) ?_;simp only[W0g,W0Q,or_false,W1I,forall_eq,ZfV,and_true];simp[lk]
     . intro _;refine Qga ?_;have n1:¬(((l.length-(i+1+1):Nat):Int)+1<((l.length-(i+1):Nat):Int)):=(by omega);have e5:i+1+1+(l.length-(i+1+1))=l.length:=(by omega);rw[e5];have hml:=hkl l.length (by omega);have hcl:=Zgk (l:=l) (p:=l.length) (W0f _);have n2:(kN l l.length).length<=l.length:=(by omega);simp -implicitDefEqProofs[n1,hcl];refine Qgr ?_;simp -implicitDefEqProofs[hcl,n2];refine Qgr ?_
       have t1:List.take (kN l l.length).length ((cpS l l.length).map isa)=(cmpct l).map isa:=by
        rw[<- List.map_take,cpS,List.take_left'];rfl;rfl
       have t2:List.drop l.length ((cpS l l.length).map isa)=[]:=W1i (by simp[hcl]);rw[t1,t2,W1C];have hne:¬(cmpct l).length=l.length:=(by rw[cmpct];omega);refine ⟨[.oss 1000 l.length 0 (kN l l.length).length],?_,?_,?_⟩
       . simp[Z29,evRes,Yi,newK,frzA,frz,AV.keys,lk,St.tmp]
       . rw[cmpV,if_neg hne];rfl
       . have hz:List.map isa (cmpct l)++List.replicate (l.length-(kN l l.length).length) [AV.int .i64 0,AV.int .i64 0,AV.int .u8 0,AV.nils,AV.nils]=cmpO l:=rfl;rw[hz];simp[Yi,newK,Zgq]
   . rw [W0S hd]at hsm;simp -implicitDefEqProofs[hd,w2];refine ⟨rfl,?_,λj h1 h2=>?_⟩
     . ((try simp only[fM2]);refine Ym.sub (by simp[lk,Ya,AV.keys,fM2]) ?_;simp only[fM2,Wkl,ZfV,and_true];(try simp[lk,Yc,Ya,AV.keys,fM2]))
     . rcases W0q j (i+1) with h|h
       . exact hn j h1 h
       . have:j=i+1:=(by omega);subst this;exact hsm
 . intro hn;refine Qga ?_;have k1:¬((l.length-1:Nat):Int)+1<l.length:=(by omega);have el:l.length-1+1=l.length:=(by omega);rw[el]at hn;have e:cmpct l=l:=Zgp hn;simp -implicitDefEqProofs[k1,fM2];refine Qgr ?_;simp -implicitDefEqProofs;refine ⟨[.osl 1000 l.length],?_,?_,?_⟩
   . simp[Z29,evRes,Yi,newK,frzA,frz,AV.keys,lk,St.tmp,ZcE]
   . simp[cmpV,e,tupV]
   . simp[Yi,newK,Zgc,cmpO,e]
def Zgs (a b:List (Int×Int)) (ha:Sml a):PC prog G 97 [.vsl (a.map ita),.vsl (b.map ita)] (.bool (decide (a=b))):=by
 (refine Zd0 rfl λR hG hrd=>Qga ?_;subst hG)
 by_cases hl:a.length=b.length
 . have hl':(a.length:Int)=b.length:=(by omega);simp -implicitDefEqProofs[ZcY,ZcZ,hl'];refine Z8m (λi=>⟨[(13,.int .i64 i),(12,.int .i64 a.length),(0,.vsl (a.map ita)),(1,.vsl (b.map ita))],[]⟩) (λi=>∀ j (h:j<a.length),j<i->a[j]=b[j]) a.length (by rw[hl'];(first|exact Wka|exact Wkb)) (by simp) ?_ ?_
   . intro i hi he;refine Qga ?_;unfold Sml at ha;have hi2:i<b.length:=(by omega);have w1:i64.wrap ((i:Int)+1)=((i+1:Nat):Int):=Yf;simp -implicitDefEqProofs[hi,hi2,ita];refine ⟨rfl,?_⟩;by_cases h2:a[i]=b[i]
     . simp -implicitDefEqProofs[h2,w1];refine ⟨(by (first|exact Wka|exact Wkb)),λj h1 h3=>?_⟩;by_cases e:j=i
       . subst e;exact h2
       . exact he j h1 (by omega)
     . have h3:¬a=b:=λe=>h2 (by subst e;rfl)
       rw[Z8w h2];simp -implicitDefEqProofs;refine Qgr ?_;simp -implicitDefEqProofs[h3]
   . intro he;refine Qga ?_;have h3:a=b:=W1E hl λj h1 h2=>he j h1 h1
     simp -implicitDefEqProofs;refine Qgr ?_;simp -implicitDefEqProofs[h3]
 . have hl':¬(a.length:Int)=b.length:=(by omega);have h3:¬a=b:=λe=>hl (by rw[e])
   simp -implicitDefEqProofs[ZcY,ZcZ,hl',h3]
def Zgt (a b:List Dm) (ha:Sml a):PC prog G 82 [.vsl (a.map dma),.vsl (b.map dma)] (.bool (decide (a=b))):=by
 (refine ZcX rfl λR hG hrd=>Qga ?_;subst hG)
 by_cases hl:a.length=b.length
 . have hl':(a.length:Int)=b.length:=(by omega);simp -implicitDefEqProofs[ZcV,ZcW,hl'];refine Z8m (λi=>⟨[(13,.int .i64 i),(12,.int .i64 a.length),(0,.vsl (a.map dma)),(1,.vsl (b.map dma))],[]⟩) (λi=>∀ j (h:j<a.length),j<i->a[j]=b[j]) a.length (by rw[hl'];(first|exact Wka|exact Wkb)) (by simp) ?_ ?_
   . intro i hi he;refine Qga ?_;unfold Sml at ha;have hi2:i<b.length:=(by omega);have w1:i64.wrap ((i:Int)+1)=((i+1:Nat):Int):=Yf;simp -implicitDefEqProofs[hi,hi2,dma];refine ⟨rfl,?_⟩;by_cases h2:a[i]=b[i]
     . simp -implicitDefEqProofs[h2,w1];refine ⟨(by (first|exact Wka|exact Wkb)),λj h1 h3=>?_⟩;by_cases e:j=i
       . subst e;exact h2
       . exact he j h1 (by omega)
     . have h3:¬a=b:=λe=>h2 (by subst e;rfl)
       rw[dm_ne h2];simp -implicitDefEqProofs;refine Qgr ?_;simp -implicitDefEqProofs[h3]
   . intro he;refine Qga ?_;have h3:a=b:=W1E hl λj h1 h2=>he j h1 h1
     simp -implicitDefEqProofs;refine Qgr ?_;simp -implicitDefEqProofs[h3]
 . have hl':¬(a.length:Int)=b.length:=(by omega);have h3:¬a=b:=λe=>hl (by rw[e])
   simp -implicitDefEqProofs[ZcV,ZcW,hl',h3]
def Zgu (x y:Iss) (h:Sml x.dms):PC prog G 81 [.vptr (isa x) 0,.vptr (isa y) 0] (.bool (decide (x.dms=y.dms))):=by
 (refine ZcR rfl λR hG hrd=>Qga ?_;subst hG)
 simp -implicitDefEqProofs[ZcP,ZcQ,isa];refine Qco (Zgt x.dms y.dms h) ?_;simp -implicitDefEqProofs
def Zgv (a b:List (Int×Int)) (x y:Iss) (h1:Sml a) (h2:Sml x.dms):PC prog G 80 [.vsl (a.map ita),.vsl (b.map ita),.func (.func 81) [] [.vptr (isa x) 0,.vptr (isa y) 0]] (.bool (decide (a=b)&&decide (x.dms=y.dms))):=by
 (refine ZcU rfl λR hG hrd=>Qga ?_;subst hG)
 simp -implicitDefEqProofs[ZcS,ZcT];refine Qco (Zgs a b h1) ?_;by_cases e:a=b
 . simp -implicitDefEqProofs[e];refine Yd.of (Zgu x y h2) (by simp[AV.pure,isa]) ?_;simp -implicitDefEqProofs
 . simp -implicitDefEqProofs[e]
def Zgw (x y:Iss) (h1:Sml x.its) (h2:Sml x.dms):PC prog G 65 [.agg (isa x),.agg (isa y)] (.bool (decide (x=y))):=by
 (refine ZcO rfl λR hG hrd=>Qga ?_;subst hG)
 have hd:decide (x=y)=(decide (x.d=y.d)&&decide (x.l=y.l)&&decide (x.k=y.k)&&(decide (x.its=y.its)&&decide (x.dms=y.dms))):=by
  rw[Bool.eq_iff_iff];simp only[W0b,W01]
  constructor
  . rintro rfl;simp
  . rintro ⟨⟨⟨e1,e2⟩,e3⟩,e4,e5⟩
    cases x;cases y;simp_all
 have ex:isa x=[.int .i64 x.d,.int .i64 x.l,.int .u8 x.k,.vsl (x.its.map ita),.vsl (x.dms.map dma)]:=rfl;have ey:isa y=[.int .i64 y.d,.int .i64 y.l,.int .u8 y.k,.vsl (y.its.map ita),.vsl (y.dms.map dma)]:=rfl;simp -implicitDefEqProofs[ZcM,ZcN,ex,ey,hd];refine Qco (Z9p x) ?_;simp -implicitDefEqProofs;refine Qco (Z9p y) ?_
 cases e1:decide (x.d=y.d)
 . have e1':=of_decide_eq_false e1;simp -implicitDefEqProofs[e1'];exact rfl
 have e1':=W0X e1
 cases e2:decide (x.l=y.l)
 . have e2':=of_decide_eq_false e2;simp -implicitDefEqProofs[e1',e2'];exact rfl
 have e2':=W0X e2
 cases e3:decide (x.k=y.k)
 . have e3':=of_decide_eq_false e3;simp -implicitDefEqProofs[e1',e2',e3'];exact rfl
 have e3':=W0X e3;simp -implicitDefEqProofs[e1',e2',e3'];have al:=Zgv (G:=R.G) x.its y.its x y h1 h2;rw[ex,ey,e1',e2',e3']at al;refine Ye.flat al (by simp[AV.flat]) (by simp) ?_;simp -implicitDefEqProofs;exact rfl
end Go.Proofs.YthlcppdbldkldaaDoor
