/-
  No list serves as an empty one.
-/
import Derived.Test.YtldibfhbaaadcaaGreatDoorKEhToSe
import Derived.Shelf.Sort.Plain
set_option linter.all false
set_option maxHeartbeats 8000000
namespace Go.Proofs.YtldibfhbaaadcaaGreatDoor
open Tryz (prog)
open IntKind (i64)
open Go.RowKit
variable {G:Jg}
def Nsub (x y:AV):Prop:=∀ (M:Nat->Prop) (W:World) (u:Value),PV M W x u->PV M W y u
def Nsub.rfl' {x:AV}:Nsub x x:=λ_ _ _ h=>h
def Nsub.nils:Nsub .nils (.vsl []):=λ_ _ _ h=>by
 cases h
 exact .vsl [] none 0 1 0 0 (λ_ _=>undef) (W0f _) (W1f _) (λh=>absurd rfl h) (λ_=>⟨rfl,rfl⟩) (by simp) (by simp) (by simp)
def Nsub.orNil (l:List (List AV)):Nsub (Yg l) (.vsl l):=by
 unfold Go.Proofs.YtldibfhbaaadcaaGreatDoor.Yg
 split
 . rename_i e;rw[e];exact .nils
 . exact .rfl'
def NsubL:List AV->List AV->Prop
 |[],[]=>True
 |x::xs,y::ys=>Nsub x y/\NsubL xs ys
 |_,_=>False
def NsubL.len:∀ {xs ys:List AV},NsubL xs ys->xs.length=ys.length
 |[],[],_=>rfl
 |_::_,_::_,h=>by simp only[W1p,NsubL.len h.2]
 |[],_::_,h=>h.elim
 |_::_,[],h=>h.elim
def NsubL.at:∀ {xs ys:List AV},NsubL xs ys->∀ (i:Nat) (y:AV),ys[i]? = some y->∃ x,xs[i]? = some x/\Nsub x y
 |[],[],_,i,y,h=>by simp at h
 | x::xs,y::ys,h,0,z,e=>by
   simp only[W2h,W00]at e;subst e;exact ⟨x,rfl,h.1⟩
 | x::xs,y::ys,h,i+1,z,e=>by
   simp only[List.getElem?_cons_succ]at e;obtain ⟨w,h1,h2⟩:=NsubL.at h.2 i z e;exact ⟨w,by simpa using h1,h2⟩
 |[],_::_,h,_,_,_=>h.elim
 |_::_,[],h,_,_,_=>h.elim
def Nsub.agg {xs ys:List AV} (h:NsubL xs ys):Nsub (.agg xs) (.agg ys):=λM W u hu=>by
 cases hu with
 | agg _ us h1 hx =>
   refine .agg ys us (by rw[h1,h.len]) λi y u hy hu=>?_
   obtain ⟨x,h2,h3⟩:=h.at i y hy;exact h3 _ _ _ (hx i x u h2 hu)
def PC.sub {P:Program} {G:Jg} {f:FuncId} {xs ys:List AV} {v:AV} (h:PC P G f ys v) (hs:NsubL xs ys):PC P G f xs v :=
 ⟨h.1,λM W vs hM hG hz hv=>h.2 M W vs hM hG (hz.trans hs.len) λi y u hi hu=>by
  obtain ⟨x,h2,h3⟩:=hs.at i y hi;exact h3 _ _ _ (hv i x u h2 hu)⟩
def rfp (d l:Int) (x:Iss):Bool:=decide (x.d=d/\x.l=l)
def Zgn {r:Jr} {d l:Int}:(findN d l r).isSome=r.any (rfp d l):=by
 induction r with
 |nil=>rfl
 | cons x r ih =>
   simp only[findN,List.any_cons]
   split
   . rename_i h;simp[rfp,h]
   . rename_i h;have:rfp d l x=false:=W0S h;rw[ih,this,W1O]
abbrev Rf:=Int×Int
def frS (x:Stq):Rf:=(x.fd,x.fl)
def toS (x:Stq):Rf:=(x.td,x.tl)
def edg (L:List Stq):List (Rf×Rf):=L.map λx=>(frS x,toS x)
def pth (E:List (Rf×Rf)) (y:Rf):Nat->Rf->Bool
 |0,x=>decide (x=y)
 |n+1,x=>E.any λe=>decide (e.1=x)&&pth E y n e.2
def diN (E:List (Rf×Rf)) (y x:Rf):Option Nat:=(List.range (E.length+1)).find? λn=>pth E y n x
def diV (E:List (Rf×Rf)) (y x:Rf):Int:=match diN E y x with
 |some n=>n
 |none=>1048576
def md (E:List (Rf×Rf)) (y:Rf) (n:Nat) (x:Rf):Prop:=pth E y n x=true/\∀ m,m<n->pth E y m x=false
section
variable {E:List (Rf×Rf)} {x y z:Rf} {n m:Nat}
def Zgo:pth E y (n+1) x=true↔∃ e∈E,e.1=x/\pth E y n e.2=true:=by
 simp[pth,W14]
def Zgp (h1:md E y n x) (h2:md E y m x):n=m:=by
 rcases W0R n m with h|h|h
 . have:=h2.2 n h;rw[h1.1]at this;cases this
 . exact h
 . have:=h1.2 m h;rw[h2.1]at this;cases this
def md_of:∀ n,pth E y n x=true->∃ m,m<=n/\md E y m x:=by
 intro n
 induction n using Nat.strongRecOn with
 | _ n ih =>
   intro h;by_cases c:∃ m,m<n/\pth E y m x=true
   . obtain ⟨m,h1,h2⟩:=c;obtain ⟨k,h3,h4⟩:=ih m h1 h2;exact ⟨k,by omega,h4⟩
   . refine ⟨n,W0f _,h,λm hm=>?_⟩
     cases q:pth E y m x
     . rfl
     . exact absurd ⟨m,hm,q⟩ c
def Zgq (h:md E y (n+1) x):∃ e∈E,e.1=x/\md E y n e.2:=by
 obtain ⟨e,h1,h2,h3⟩:=Zgo.1 h.1;refine ⟨e,h1,h2,h3,λm hm=>?_⟩
 cases q:pth E y m e.2
 . rfl
 . have:=h.2 (m+1) (by omega);rw[Zgo.2 ⟨e,h1,h2,q⟩]at this;cases this
def Zgr:∀ (n:Nat) (x:Rf),md E y n x->∃ ss:List Rf,ss.length=n/\(∀ s∈ss,s∈E.map (·.1)/\∃ k,k<=n/\0<k/\md E y k s)/\ss.Nodup
 |0,x,_=>⟨[],rfl,by simp,.nil⟩
 | n + 1,x,h=>by
   obtain ⟨e,h1,h2,h3⟩:=Zgq h;obtain ⟨ss,l1,l2,l3⟩:=Zgr n e.2 h3;refine ⟨x::ss,by simp[l1],?_,W1z.2 ⟨λhm=>?_,l3⟩⟩
   . intro s hs;rcases W0g.1 hs with rfl|hs
     . exact ⟨W0i.2 ⟨e,h1,h2⟩,n+1,W0f _,by omega,h⟩
     . obtain ⟨q1,k,q2,q3,q4⟩:=l2 s hs;exact ⟨q1,k,by omega,q3,q4⟩
   . obtain ⟨-,k,q2,-,q4⟩:=l2 x hm;have:=Zgp h q4;omega
def md_le (h:md E y n x):n<=E.length:=by
 obtain ⟨ss,l1,l2,l3⟩:=Zgr n x h;have:=List.Nodup.length_le_of_subset l3 (l₂:=E.map (·.1)) λs hs=>(l2 s hs).1
 simpa [l1] using this
def Zgs:diN E y x=some n↔md E y n x:=by
 unfold diN
 constructor
 . intro h;have h1:=List.find?_some h;refine ⟨h1,λm hm=>?_⟩;obtain ⟨-,us,vs,e,h2⟩:=List.find?_eq_some_iff_append.1 h;have e1:∀ k:Nat,(List.range (E.length+1))[k]? = (us++n::vs)[k]?:=λk=>by rw[e]
   have hn:us.length=n:=by
    have h3:=e1 us.length;rw[W0o (W0f _),W2p,W2h]at h3;obtain ⟨h4,h5⟩:=W02.1 h3;rw[List.getElem_range]at h5;exact h5
   have hm2:m∈us:=by
    have h3:=e1 m;have hl:m<(List.range (E.length+1)).length:=(by rw[e,W0s];omega);rw[W0E (by omega),W07 hl,List.getElem_range]at h3;exact W0d h3.symm
   simpa using h2 m hm2
 . intro h;have hl:=md_le h;rw[List.find?_eq_some_iff_append];refine ⟨h.1,List.range n,(List.range (E.length-n)).map (n+1 + ·),?_,λm hm=>?_⟩
   . have:E.length+1=n+1+(E.length-n):=(by omega);rw[this,List.range_add,W1y,W0U];rfl
   . simp[h.2 m (W1u.1 hm)]
def Zgt:diN E y x=none↔∀ n,pth E y n x=false:=by
 constructor
 . intro h n
   cases q:pth E y n x
   . rfl
   . obtain ⟨m,-,hm⟩:=md_of n q;rw[Zgs.2 hm]at h;cases h
 . intro h
   cases q:diN E y x with
   |none=>rfl
   | some n =>
     have:=(Zgs.1 q).1;rw[h n]at this;cases this
end
structure BfI (E:List (Rf×Rf)) (l:List Rf) (y:Rf) (out:List Int):Prop where
 len:out.length=l.length
 ok:∀ (i:Nat) (v:Int) (x:Rf),out[i]? = some v->l[i]? = some x->0<=v/\v<=1048576/\(v=1048576∨pth E y v.toNat x=true)/\(x=y->v=0)
def rlx (l:List Rf) (out:List Int) (e:Rf×Rf):Prop:=∃ (ka kb:Nat) (va vb:Int),l[ka]? = some e.1/\l[kb]? = some e.2/\out[ka]? = some va/\out[kb]? = some vb/\vb+1<va
def NoR (E:List (Rf×Rf)) (l:List Rf) (out:List Int):Prop:=∀ e∈E,¬rlx l out e
def NoI (L:List Stq) (l:List Rf) (out:List Int) (i:Nat):Prop:=∀ j (h:j<L.length),j<i->¬rlx l out (frS L[j],toS L[j])
def NoI.all {L:List Stq} {l:List Rf} {out:List Int} (h:NoI L l out L.length):NoR (edg L) l out:=by
 intro e he;obtain ⟨x,hx,rfl⟩:=W0i.1 he;obtain ⟨j,hj,rfl⟩:=W0k hx;exact h j hj hj
def NoI.step {L:List Stq} {l:List Rf} {out:List Int} {i:Nat} (h:NoI L l out i) (hi:i<L.length) (h1:¬rlx l out (frS L[i],toS L[i])):NoI L l out (i+1):=by
 intro j hj hji;rcases W0q j i with q|q
 . exact h j hj q
 . obtain rfl:j=i:=(by omega);exact h1
def BfI.start {E:List (Rf×Rf)} {l:List Rf} {y:Rf} {k:Nat} (hn:l.Nodup) (hk:l[k]? = some y):BfI E l y ((List.replicate l.length 1048576).set k 0):=by
 refine ⟨by simp,λi v x hv hx=>?_⟩;have hi:i<l.length:=(W02.1 hx).1;rw[W2o]at hv
 split at hv
 . rename_i e;subst e;rw[W1H,if_pos hi,W00]at hv;rw[hk,W00]at hx;subst hv;subst hx;exact ⟨by omega,by omega,.inr (by simp[pth]),λ_=>rfl⟩
 . rename_i e;rw[List.getElem?_replicate,if_pos hi,W00]at hv;subst hv;refine ⟨by omega,by omega,.inl rfl,?_⟩;rintro rfl;exact absurd ((List.getElem?_inj hi hn).1 (hx.trans hk.symm)) (λq=>e q.symm)
def BfI.step {E:List (Rf×Rf)} {l:List Rf} {y:Rf} {out:List Int} (h:BfI E l y out) (hn:l.Nodup) {e:Rf×Rf} (he:e∈E) {ka kb:Nat} {va vb:Int} (h1:l[ka]? = some e.1) (h2:l[kb]? = some e.2) (h3:out[ka]? = some va) (h4:out[kb]? = some vb) (h5:vb+1<va) :
  BfI E l y (out.set ka (vb+1)):=by
 refine ⟨by simp[h.len],λi v x hv hx=>?_⟩;rw[W2o]at hv
 split at hv
 . rename_i q;subst q;have hi:ka<out.length:=(W02.1 h3).1;rw[if_pos hi,W00]at hv;subst hv;obtain ⟨a1,a2,a3,a4⟩:=h.ok kb vb _ h4 h2;obtain ⟨b1,b2,b3,b4⟩:=h.ok ka va x h3 hx;rw[h1,W00]at hx;subst hx;refine ⟨by omega,by omega,.inr ?_,λq=>?_⟩
   . rcases a3 with a3|a3
     . omega
     . rw[show (vb+1).toNat=vb.toNat+1 by omega];exact Zgo.2 ⟨e,he,rfl,a3⟩
   . have:=b4 q;omega
 . exact h.ok i v x hv hx
def BfI.fin {E:List (Rf×Rf)} {l:List Rf} {y:Rf} {out:List Int} (h:BfI E l y out) (hE:E.length<=1000) (hl:∀ e∈E,e.1∈l/\e.2∈l) (hr:∀ e∈E,¬rlx l out e):out=l.map (diV E y):=by
 have low:∀ (m:Nat) (i:Nat) (v:Int) (x:Rf),out[i]? = some v->l[i]? = some x->pth E y m x=true->v<=m:=by
  intro m
  induction m with
  | zero =>
    intro i v x hv hx hp;have:x=y:=(by simpa [pth] using hp);have:=(h.ok i v x hv hx).2.2.2 this;omega
  | succ m ih =>
    intro i v x hv hx hp;obtain ⟨e,he,rfl,hp2⟩:=Zgo.1 hp;obtain ⟨kb,hkb,hb⟩:=W0k (hl e he).2;have hb':l[kb]? = some e.2:=(by rw[W07 hkb,hb]);have hkb2:kb<out.length:=(by rw[h.len];exact hkb);have h2:=ih kb _ _ (W07 hkb2) hb' hp2;rcases Int.lt_or_le (out[kb]+1) v with h3|h3
    . exact absurd ⟨i,kb,v,out[kb],hx,hb',hv,W07 hkb2,h3⟩ (hr e he)
    . omega
 refine List.ext_getElem? λi=>?_
 rw[W09];by_cases hi:i<l.length
 . have hi2:i<out.length:=(by rw[h.len];exact hi);rw[W07 hi2,W07 hi,W0m,W00];obtain ⟨a1,a2,a3,-⟩:=h.ok i _ _ (W07 hi2) (W07 hi);have hlow:=λm=>low m i _ _ (W07 hi2) (W07 hi)
   unfold diV
   cases q:diN E y l[i] with
   | none =>
     rcases a3 with a3|a3
     . exact a3
     . rw[Zgt.1 q]at a3;cases a3
   | some n =>
     have hm:=Zgs.1 q;have hle:=md_le hm;have h1:=hlow n hm.1;rcases a3 with a3|a3
     . omega
     . have h2:n<=out[i].toNat:=by
        rcases W0q out[i].toNat n with h2|h2
        . have:=hm.2 _ h2;rw[a3]at this;cases this
        . exact h2
       simp only;omega
 . rw[W24 (by rw[h.len];omega),W24 (by omega)];rfl
def knLk (x:Rf):List (Rf×Int)->Option Int
 |[]=>none
 |p::r=>if x=p.1 then some p.2 else knLk x r
def Zgu {x a:Rf} {v:Int}:∀ {kn:List (Rf×Int)},knLk x (kn++[(a,v)])=match knLk x kn with
  |some w=>some w
  |none=>if x=a then some v else none
 |[]=>by simp[knLk]
 | p::r=>by
   simp only[W1e,knLk]
   split
   . rfl
   . exact Zgu
structure LnS where
 left:List Int
 kn:List (Rf×Int)
 nx:List Rf
 deriving Inhabited
def lnS (n:Int) (s:LnS) (i:Nat) (e:Rf×Rf):LnS :=
 if (i:Int)∈s.left then match knLk e.2 s.kn with
  | some k=>if n<=k then s else match knLk e.1 s.kn with
    |some _=>⟨s.left.erase i,s.kn,s.nx⟩
    |none=>⟨s.left.erase i,s.kn++[(e.1,n)],s.nx++[e.1]⟩
  |none=>s
 else s
structure LnV (E:List (Rf×Rf)) (y:Rf) (n:Nat) (s:LnS):Prop where
 a:∀ x d,knLk x s.kn=some d->∃ m:Nat,d=m/\md E y m x/\m<=n
 b:∀ x (m:Nat),md E y m x->m<=n->knLk x s.kn=some (m:Int)
 c:∀ i (h:i<E.length),(i:Int) ∉ s.left->knLk E[i].1 s.kn≠none
structure LnW (E:List (Rf×Rf)) (y:Rf) (n:Nat) (s0 s:LnS) (i:Nat):Prop where
 a:∀ x d,knLk x s.kn=some d->∃ m:Nat,d=m/\md E y m x/\m<=n+1
 b:∀ x (m:Nat),md E y m x->m<=n->knLk x s.kn=some (m:Int)
 c:∀ j (h:j<E.length),(j:Int) ∉ s.left->knLk E[j].1 s.kn≠none
 e:∀ j (h:j<E.length),j<i->∀ m:Nat,md E y m E[j].2->m<=n->knLk E[j].1 s.kn≠none
 f:s.kn=s0.kn++s.nx.map λx=>(x,(n:Int)+1)
 g:∀ x∈s.nx,md E y (n+1) x
section
variable {E:List (Rf×Rf)} {y:Rf} {n m:Nat} {s0 s:LnS} {i:Nat}
def Zgv {x a:Rf} {v:Int} {kn:List (Rf×Int)} (h:knLk x kn≠none):knLk x (kn++[(a,v)])≠none:=by
 rw[Zgu]
 cases q:knLk x kn with
 |none=>exact absurd q h
 |some w=>simp
def Zgw {l:List Int} {a b:Int} (h:a ∉ l.erase b):a ∉ l∨a=b:=by
 by_cases q:a=b
 . exact .inr q
 . exact .inl λhm=>h ((List.mem_erase_of_ne q).2 hm)
def LnW.step (h:LnW E y n s0 s i) (hi:i<E.length):LnW E y n s0 (lnS ((n:Int)+1) s i E[i]) (i+1):=by
 have lst:∀ {P:Nat->Prop},(∀ j,j<i->P j)->P i->∀ j,j<i+1->P j:=λh1 h2 j hj=>by
  rcases W0q j i with q|q
  . exact h1 j q
  . obtain rfl:j=i:=(by omega);exact h2
 unfold lnS;by_cases c1:(i:Int)∈s.left
 . rw [if_pos c1]
   cases q:knLk E[i].2 s.kn with
   | none =>
     refine ⟨h.a,h.b,h.c,λj hj hji m hm hmn=>?_,h.f,h.g⟩;rcases W0q j i with p|p
     . exact h.e j hj p m hm hmn
     . obtain rfl:j=i:=(by omega);rw[h.b _ m hm hmn]at q;cases q
   | some k =>
     simp only;obtain ⟨m,hm1,hm2,hm3⟩:=h.a _ _ q;by_cases c2:(n:Int)+1<=k
     . rw[if_pos c2];refine ⟨h.a,h.b,h.c,λj hj hji m' hm' hmn=>?_,h.f,h.g⟩;rcases W0q j i with p|p
       . exact h.e j hj p m' hm' hmn
       . obtain rfl:j=i:=(by omega);have:=Zgp hm' hm2;omega
     . rw [if_neg c2]
       have c3:∀ j (h:j<E.length),(j:Int) ∉ s.left.erase (i:Int)->j≠i->knLk E[j].1 s.kn≠none:=λj hj hn hne=>by
        rcases Zgw hn with p|p
        . exact h.c j hj p
        . exact absurd (by omega) hne
       cases r:knLk E[i].1 s.kn with
       | some w =>
         refine ⟨h.a,h.b,λj hj hn=>?_,λj hj hji m' hm' hmn=>?_,h.f,h.g⟩
         . by_cases p:j=i
           . subst p;rw[r];simp
           . exact c3 j hj hn p
         . rcases W0q j i with p|p
           . exact h.e j hj p m' hm' hmn
           . obtain rfl:j=i:=(by omega);rw[r];simp
       | none =>
         have hp:pth E y (m+1) E[i].1=true:=Zgo.2 ⟨E[i],W0e hi,rfl,hm2.1⟩;obtain ⟨m1,g1,g2⟩:=md_of _ hp
         have g3:m1=n+1:=by
          rcases W0q n m1 with p|p
          . omega
          . rw[h.b _ m1 g2 p]at r;cases r
         subst g3;refine ⟨λx d hx=>?_,λx m' hm' hmn=>?_,λj hj hn=>?_,λj hj hji m' hm' hmn=>?_,?_,λx hx=>?_⟩
         . simp only at hx;rw[Zgu]at hx
           cases p:knLk x s.kn with
           |some w=>rw[p]at hx;simp only[W00]at hx;subst hx;exact h.a x _ p
           | none =>
             rw[p]at hx;simp only at hx
             split at hx
             . rename_i e1;subst e1;simp only[W00]at hx;exact ⟨n+1,by omega,g2,W0f _⟩
             . cases hx
         . simp only;rw[Zgu,h.b x m' hm' hmn]
         . simp only;by_cases p:j=i
           . subst p;rw[Zgu,r];simp
           . exact Zgv (c3 j hj hn p)
         . simp only;rcases W0q j i with p|p
           . exact Zgv (h.e j hj p m' hm' hmn)
           . obtain rfl:j=i:=(by omega);rw[Zgu,r];simp
         . simp only[W0r,W0F,W1d];rw[h.f,W0U]
         . simp only[W0h,W0B]at hx;rcases hx with hx|rfl
           . exact h.g x hx
           . exact g2
 . rw[if_neg c1];refine ⟨h.a,h.b,h.c,λj hj hji m hm hmn=>?_,h.f,h.g⟩;rcases W0q j i with p|p
   . exact h.e j hj p m hm hmn
   . obtain rfl:j=i:=(by omega);exact h.c j hj c1
def LnW.fin (h:LnW E y n s0 s E.length):LnV E y (n+1) s:=by
 refine ⟨h.a,λx m hm hmn=>?_,h.c⟩;rcases W0q m (n+1) with p|p
 . exact h.b x m hm (by omega)
 . obtain rfl:m=n+1:=(by omega);obtain ⟨e,he,rfl,h2⟩:=Zgq hm;obtain ⟨j,hj,rfl⟩:=W0k he;have h3:=h.e j hj hj n h2 (W0f _)
   cases q:knLk E[j].1 s.kn with
   |none=>exact absurd q h3
   | some d =>
     obtain ⟨m',h4,h5,h6⟩:=h.a _ _ q;have:=Zgp hm h5;subst this;subst h4;rfl
end
def IterG (P:Program) (G:Jg) (gf:Nat) (caps els:List AV):Prop :=
 entB P gf=true/\∀ (n l:Nat) (lb:Array Value) (J:Nat->(Nat->Prop)->World->Prop) (K:World->Prop) (M:Nat->Prop) (W:World),2<=n->(∀ k M A B,J k M A->Ext A B->J k M B)->(∀ A B,K A->Ext A B->K B) ->
  (∀ k M A,J k M A->∀ b,M b->b<A.heap.size)->(∀ k M A,J k M A->GR G M A)->CP M W caps lb ->
  (∀ (k:Nat) (x:AV) (u:Value) (M:Nat->Prop) (A:World),J k M A->els[k]? = some x->PV M A x u ->
   YieldAt Fence.wide (n-1) P l #[u] A λe A'=>(e = .returned (.bool true)/\∃ M',J (k+1) M' A'/\Since M A M' A')∨(e = .returned (.bool false)/\K A')) ->
  J 0 M W->CallsIn Fence.wide n P gf (#[.func (.yield l) #[] #[]]++lb) W λe W'=>(∃ v,e = .returned v)/\((∃ M,J els.length M W')∨K W')
def Zgx (ρ:Nat->Nat) (xs:List AV):(AObj.box xs).ren ρ = .box (xs.map (AV.ren ρ)):=rfl
def Zgy (G:Jg) (M:Nat->Prop) (W:World) (N:Nat) (rd:Option Nat):Run :=
 { G:=G,M:=M,X:=λ_=>False,W0:=W,N:=N,E0:={ M:=M,loc:=λ_=>none,row:=λ_=>none },rd:=rd,nm:=true }
def Zgz {G:Jg} {M:Nat->Prop} {W:World} {N:Nat} {rd:Option Nat} {t:List (Nat×AV)} {a:Act} (hgr:GR G M W) (hM:∀ b,M b->b<W.heap.size) (hd:a.defers=[]) (hN:a.tmps.size=N) (ht:TT' M W t a):SR (Zgy G M W N rd) ⟨t,[]⟩ a W:=by
 have hGM:∀ b,b<W.heap.size->¬M b->¬((⟨t,[]⟩ : St).env M (λ_=>none)).M b/\W.heap[b]? = W.heap[b]?:=λb _ h1=>⟨(by rintro (h2 | ⟨k,s,h2⟩) <;> first|exact h1 h2|cases h2),rfl⟩
 refine ⟨λ_=>none,⟨[],by simp[hd,Zgy],.nil,by simp,λ_=>rfl⟩,hN,λn x hx=>.pv ((ht n x hx).mono hGM (W0f _)),(λk o ho=>by simp[St.get,lk]at ho),(λk p hk=>by cases hk),(λk k' b s s' hk=>by cases hk),hM,λ_ _ h=>h,Kp.refl _ _,(hgr.mono hGM (W0f _)),⟨W0f _,hGM,λk p hk=>(by cases hk),λk sz m hk=>(by cases hk)⟩,λ_ _=>⟨rfl,rfl⟩⟩
def endG {G:Jg} {M:Nat->Prop} {W W':World} {N:Nat} {rd:Option Nat} {st:St} {a:Act} (h:SR (Zgy G M W N rd) st a W') {t:List (Nat×AV)} (hw:Ym st ⟨t,[]⟩) (hp:∀ q∈t,q.2.pure=true) :
  a.defers=[]/\a.tmps.size=N/\TT' M W' t a/\Ext W W':=by
 obtain ⟨κ,hk⟩:=hw _ _ _ h;obtain ⟨cs,e,-,-,hz⟩:=hk.defers
 have hκ:∀ k,κ k=none:=λk=>by
  cases e:κ k with
  |none=>rfl
  |some p=>obtain ⟨o,ho⟩:=hk.dom k p e;simp[St.get,lk]at ho
 refine ⟨by rw[e,hz rfl];rfl,hk.size,λn x hx=>?_,⟨hk.kp.os,hk.kp.tape,hk.kp.output,hk.kp.size,λi hi=>hk.kp.block i hi (λh=>h)⟩⟩;refine ((hk.tm n x hx).toPV (hp (n,x) (Z4K hx))).mono (λb _ hb=>⟨λh=>hb (.inl h),rfl⟩) (W0f _)
def sbN (U:List Int) (v:Nat):Nat->List Int
 |0=>[]
 |i+1=>if v / 2 ^ i % 2=1 then sbN U v i++[U.getD i 0] else sbN U v i
def sbT (U:List Int) (v:Nat):List Int:=sbN U v U.length
def ZgA (U:List Int) (v:Nat):∀ i,(sbN U v i).length<=i
 |0=>W0f _
 | i+1=>by
   have:=ZgA U v i;rw[sbN];split
   . simp;omega
   . omega
def ZgB (l:Jl):∀ i,i<=l.length->((opI l i).map λj=>(nAt l j).nu).Perm ((opN l i).map (·.nu))
 |0,_=>by simp[opI,opN]
 | i + 1,h=>by
   have ih:=ZgB l i (by omega);have hi:i<l.length:=(by omega);have e:=ZcG hi;have ea:=ZcF hi;rw[e];unfold opI;rw[ea];by_cases c:l[i].sg=1
   . rw[if_pos c,if_pos c];have:=(Zdb (λj=>(nAt l j).nu) (opI l i) i).map λj=>(nAt l j).nu
     refine this.trans ?_;rw[W0F,W0r,W0F,W1d,ea];exact (List.Perm.cons _ ih).trans (List.perm_append_singleton _ _).symm
   . rw[if_neg c,if_neg c];exact ih
def opQ (l:Jl):List Int:=sortI (opU l)
def ZgC (l:Jl):nuI l=opQ l:=by
 refine (ZcZ (ZgB l l.length (W0f _)) ?_).symm;have:=Zdg l l.length;exact W2n.2 this
def ZgD {r:Jr} {l:Jl} (h:ZcI r l=true):(opQ l).length<=5:=by
 simp only[ZcI,W01,W0b]at h;rw[opQ,Zd0,opU,W0N];exact h.2
def bitU {v i:Nat} (h:v<64) (hi:i<6):i64.wrap ((((v:Int).fdiv (2 ^ (min i IntKind.i64.bits)) % 2 ^ IntKind.i64.bits).toNat &&& (1 % 2 ^ IntKind.i64.bits):Nat):Int)=if v / 2 ^ i % 2=1 then 1 else 0:=by
 have h1:∀ n:_root_.Fin 64,∀ k:_root_.Fin 6,i64.wrap ((((n.val:Int).fdiv (2 ^ (min k.val IntKind.i64.bits)) % 2 ^ IntKind.i64.bits).toNat &&& (1 % 2 ^ IntKind.i64.bits):Nat):Int)=if n.val / 2 ^ k.val % 2=1 then 1 else 0:=by decide +kernel
 exact h1 ⟨v,h⟩ ⟨i,hi⟩
def shU {n:Nat} (h:n<6):i64.wrap (2 ^ (min n IntKind.i64.bits))=((2 ^ n:Nat):Int):=by
 have h1:∀ k:_root_.Fin 6,i64.wrap (2 ^ (min k.val IntKind.i64.bits))=((2 ^ k.val:Nat):Int):=(by decide +kernel);exact h1 ⟨n,h⟩
def pow5 {n:Nat} (h:n<=5):2 ^ n<=32:=by
 have:n=0∨n=1∨n=2∨n=3∨n=4∨n=5:=(by omega);rcases this with rfl|rfl|rfl|rfl|rfl|rfl <;> decide
def PC.out {P:Program} {G:Jg} {f:FuncId} {xs:List AV} {v w:AV} (h:PC P G f xs v) (hs:Nsub v w):PC P G f xs w :=
 ⟨h.1,λM W vs a b c d=>(h.2 M W vs a b c d).mono λ_ _ ⟨u,h1,h2,h3⟩=>⟨u,h1,hs _ _ _ h2,h3⟩⟩
def trR (U:List Int) (v:Nat):List AV:=[.vsl ((sbT U v).map ia)]
def trK (U:List Int) (v:Nat):List (List AV):=(List.range v).map (trR U)
def ZgE (U:List Int) (v:Nat):trK U (v+1)=trK U v++[[.vsl ((sbT U v).map ia)]]:=by simp[trK,trR,W1y]
def ZgF (U:List Int) (v:Nat):(trK U v).length=v:=by simp[trK]
def ZgG (o:List (Nat×AObj)) (U:List Int) (v:Nat):Yc o (.row 1 (trK U v))=true:=by
 simp only[Yc,W03,trK,W0i];rintro x ⟨y,-,rfl⟩ w hw;simp only[trR,W0B]at hw;subst hw;simp[Ya,AV.keys]
def ZgH (U:List Int) (v:Nat):(trK U v).all (λr=>r.all AV.pure)=true:=by simp[trK,trR,AV.pure,ia]
def ZgI (ok:Nat->Bool) (st:St) (U:List Int) (v:Nat):(trK U v).map (λr=>r.map (frzA ok st))=trK U v:=by
 simp only[trK,W10]
 congr 1
 funext w;simp[trR,frzA,frz,AV.keys]
def iaM (l:List Int):List (List AV):=l.map ia
def ZgJ (l:List Int) (x:Int):iaM (l++[x])=iaM l++[[.int .i64 x]]:=by simp[iaM,ia]
def ZgK (l:List Int):(iaM l).length=l.length:=W0N _
def ZgL (o:List (Nat×AObj)) (l:List Int):Yc o (.row 1 (iaM l))=true:=Zf3 o l
def ZgM (l:List Int):(iaM l).all (λr=>r.all AV.pure)=true:=by simp[iaM,ia,AV.pure]
def thT (V:AV) (v:Nat):List (Nat×AV):=[(5,.int .i64 v),(3,V),(1,.ptr 1 0)]
def thO (r:Jr) (l:Jl) (v:Nat):List (Nat×AObj):=if v=0 then [(1,.box [.vsl (r.map isa),.vsl (l.map na)])] else [(44,.row 1 (trK (opQ l) v)),(1,.box [.vsl (r.map isa),.vsl (l.map na)])]
def thL (v:Nat):AV:=if v=0 then .nils else .osl 44 v
def thS (r:Jr) (l:Jl) (V:AV) (v:Nat):St:=⟨(4,thL v)::thT V v,thO r l v⟩
def thI (r:Jr) (l:Jl) (V:AV) (v i:Nat):St:=⟨(7,.int .i64 i)::(6,.osl 17 (sbN (opQ l) v i).length)::(4,thL v)::thT V v,(17,.row 1 (iaM (sbN (opQ l) v i)))::thO r l v⟩
def ZgN (U:List Int) (v i:Nat):sbN U v (i+1)=if v / 2 ^ i % 2=1 then sbN U v i++[U.getD i 0] else sbN U v i:=rfl
def ZgO (r:Jr) (l:Jl) (h:ZcI r l=true):PC prog G 87 [.agg [.vsl (r.map isa),.vsl (l.map na)]] (.vsl (trK (opQ l) (2 ^ (opQ l).length))):=by
 have h12:=Zgi h;have h5:=ZgD h;have hO:=Zg2 (G:=G) r l h12;have hp5:=pow5 h5;have eU:=ZgC l;have lU:(opQ l).length=(opI l l.length).length:=(by rw[<- eU,Zg4]);have hlt:=Zdc l l.length;have sh:=shU (n:=(opQ l).length) (by omega);rw[lU]at sh hp5 h5 ⊢
 have eget:∀ i (hi:i<(opI l l.length).length),(opQ l).getD i 0=(nAt l (opI l l.length)[i]).nu:=λi hi=>by
  rw[<- eU,nuI,W0j,W09,W07 hi];rfl
 have eT:∀ v,sbT (opQ l) v=sbN (opQ l) v (opI l l.length).length:=λv=>by rw[sbT,lU]
 have hpos:0<2 ^ (opI l l.length).length:=Nat.pos_of_ne_zero (by simp);generalize hI:opI l l.length=I at *;have hO:=PC.out hO (.orNil _);generalize hKe:2 ^ I.length=K at *
 (refine ZfZ rfl λR hG hrd=>Qga ?_;subst hG)
 simp -implicitDefEqProofs[ZfX,ZfY];refine Qco (hO) ?_;simp -implicitDefEqProofs;refine Z9H (thS r l (.vsl (I.map ja))) (λ_=>True) K ?_ trivial ?_ ?_
 . simp only[thS,thT,thL,thO,if_true]
   ((try simp only[ja]);refine Ym.sub (by simp[lk,Ya,AV.keys,ja]) ?_;simp only[ja,Wkl,and_true];(try simp[lk,Yc,Ya,AV.keys,ja]))
 . intro v hv _;have wv:i64.wrap ((v:Int)+1)=(v:Int)+1:=Yf;have tk:=ZgE (opQ l) v;have tln:=ZgF (opQ l) v;have eTv:=eT v;have hT1:thL (v+1) = .osl 44 (v+1):=rfl;have hO1:thO r l (v+1)=[(44,.row 1 (trK (opQ l) (v+1))),(1,.box [.vsl (r.map isa),.vsl (l.map na)])]:=rfl;refine Qga ?_;by_cases v0:v=0
   case' pos =>
    have hT:thL v = .nils:=(by simp[thL,v0]);have hO:thO r l v=[(1,.box [.vsl (r.map isa),.vsl (l.map na)])]:=(by simp[thO,v0]);have tk0:trK (opQ l) v=[]:=(by rw[v0];rfl);rw[tk0,W18]at tk;simp -implicitDefEqProofs[thS,thT,hT,hO,sh,hv]
   case' neg =>
    have hT:thL v = .osl 44 v:=(by simp[thL,v0]);have hO:thO r l v=[(44,.row 1 (trK (opQ l) v)),(1,.box [.vsl (r.map isa),.vsl (l.map na)])]:=(by simp[thO,v0]);simp -implicitDefEqProofs[thS,thT,hT,hO,sh,hv]
   all_goals
    refine Z9H (thI r l (.vsl (I.map ja)) v) (λ_=>True) I.length ?_ trivial ?_ ?_
    . have e0:sbN (opQ l) v 0=[]:=rfl;have e1:iaM []=[]:=rfl;simp only[thI,thT,hT,hO,e0,e1]
      ((try simp only[ja]);refine Ym.sub (by simp[lk,Ya,AV.keys,ja]) ?_;simp only[ja,Wkl,ZgG,and_true];(try simp[lk,Yc,Ya,AV.keys,ja]))
    . intro i hi _;have wi:i64.wrap ((i:Int)+1)=(i:Int)+1:=Yf;have bU:=bitU (v:=v) (i:=i) (by omega) (by omega);have sn:=ZgN (opQ l) v i;rw[eget i hi]at sn;have sl:=ZgA (opQ l) v i;obtain ⟨hj,-⟩:=hlt I[i] (W0e hi);have hna:=ZcF hj;have hnx:na l[I[i]]=[.int .i64 l[I[i]].nu,.int .i64 l[I[i]].dy,.int .u8 l[I[i]].sg,.int .i64 l[I[i]].dr,.int .i64 l[I[i]].lt,.int .i64 l[I[i]].fr,.int .i64 l[I[i]].tu,.int .i64 l[I[i]].ca,.bool l[I[i]].up,.int .u8 l[I[i]].wy]:=rfl;have bb:((sbN (opQ l) v i).length+1)*8<=70368744177664:=(by omega);have lnm:=ZgK (sbN (opQ l) v i);have em:=ZgJ (sbN (opQ l) v i) l[I[i]].nu;rw[hna]at sn;refine Qga ?_;by_cases cb:v / 2 ^ i % 2=1
      . rw[if_pos cb]at sn bU;simp -implicitDefEqProofs[thI,thT,hT,hO,hi,bU,ja,wi,sn,hj,hnx,bb,lnm];refine ⟨rfl,?_⟩;rw[<- em]
        ((try simp only[ja]);refine Ym.sub (by simp[lk,Ya,AV.keys,ja]) ?_;simp only[ja,Wkl,ZgG,ZgL,and_true];(try simp[lk,Yc,Ya,AV.keys,ja]))
      . rw[if_neg cb]at sn bU;simp -implicitDefEqProofs[thI,thT,hT,hO,hi,bU,ja,wi,sn]
        ((try simp only[ja]);refine Ym.sub (by simp[lk,Ya,AV.keys,ja]) ?_;simp only[ja,Wkl,ZgG,ZgL,and_true];(try simp[lk,Yc,Ya,AV.keys,ja]))
    . intro _;have k5:=ZgM (sbN (opQ l) v I.length);have k6:=ZgK (sbN (opQ l) v I.length);have k7:(sbN (opQ l) v I.length).map ia=iaM (sbN (opQ l) v I.length):=rfl;rw[eTv,k7]at tk;have bb:(v+1)*24<=70368744177664:=(by omega);refine Qga ?_;simp -implicitDefEqProofs[thI,thT,hT,hO];refine Z2S mixed 2 ?_;simp -implicitDefEqProofs;refine GO0 (Z2R (st':=⟨(6,.vsl (iaM (sbN (opQ l) v I.length)))::(4,thL v)::thT (.vsl (I.map ja)) v,thO r l v⟩) (Ym.trans (Ym.frz (λk=>k == 17) _) ?_) ?_)
      . simp only[thT,hT,hO]
        ((try simp only[Yi,frzA,frzO,frz,Yh,Yj,St.get,AV.pure,ZgM,ZgK,ja,k5,k6,ZgI]);refine Ym.sub (by simp[lk,Ya,AV.keys,Yi,frzA,frzO,frz,Yh,Yj,St.get,AV.pure,ZgM,ZgK,ja,k5,k6,ZgI]) ?_;simp only[Yi,frzA,frzO,frz,Yh,Yj,St.get,AV.pure,ZgM,ZgK,ja,k5,k6,ZgI,Wkl,ZgG,and_true];(try simp[lk,Yc,Ya,AV.keys,Yi,frzA,frzO,frz,Yh,Yj,St.get,AV.pure,ZgM,ZgK,ja,k5,k6,ZgI]))
      refine Qga ?_;simp -implicitDefEqProofs[thT,hT,hO,bb,tln];refine Qgr ?_;simp -implicitDefEqProofs[thS,thT,hT1,hO1,wv];rw[<- tk]
      ((try simp only[ja,v0]);refine Ym.sub (by simp[lk,Ya,AV.keys,ja,v0]) ?_;simp only[ja,v0,Wkl,ZgG,and_true];(try simp[lk,Yc,Ya,AV.keys,ja,v0]))
 . intro _;have k0:¬K=0:=(by omega);have hT:thL K = .osl 44 K:=(by simp[thL,k0]);have hO:thO r l K=[(44,.row 1 (trK (opQ l) K)),(1,.box [.vsl (r.map isa),.vsl (l.map na)])]:=(by simp[thO,k0]);have tp:=ZgH (opQ l) K;have tl:=ZgF (opQ l) K;refine Qga ?_;simp -implicitDefEqProofs[thS,thT,hT,hO,sh];refine Qgr ?_;simp -implicitDefEqProofs[tp,tl]
def zN1:Nte:=⟨0,0,0,0,1,0,0,0,false,0⟩
def byV (s:List Int) (m:Int) (l:Jl) (d:Int):Nat->Nte
 |0=>zN1
 |i+1=>if (nAt l i).dr=d/\fB s [] m l i=true then nAt l i else byV s m l d i
def byK (s:List Int) (m:Int) (l:Jl) (d:Int):Nat->List (Int×Bool)->List (Int×Bool)
 |0,K=>K
 |i+1,K=>if (nAt l i).dr=d then if fB s [] m l i=true then ifK s [] m l l.length i K else byK s m l d i (ifK s [] m l l.length i K) else byK s m l d i K
def z10:List AV:=[.int .i64 0,.int .i64 0,.int .u8 0,.int .i64 0,.int .i64 0,.int .i64 0,.int .i64 0,.int .i64 0,.bool false,.int .u8 0]
def byS (F sV:AV) (m d:Int) (x:Nat×List (Int×Bool)):St :=
 ⟨[(7,.int .i64 ((x.1:Int)-1)),(6,.ptr 6 0),(0,F),(1,.func (.func 103) [] fcC),(2,.int .i64 d)],(6,.box z10)::fcO F sV .nils m x.2⟩
def by_pb (r:Jr) (l:Jl) (s:List Int) (m d:Int) (K:List (Int×Bool)) (hl:l.length<=12) (hs:Sml s) (hK:OkK s [] m l K) :
  PB prog G 81 (fcO (fileA r l) (.vsl (s.map ia)) .nils m K) [fileA r l,.func (.func 103) [] fcC,.int .i64 d] (.agg (na (byV s m l d l.length))) (fcO (fileA r l) (.vsl (s.map ia)) .nils m (byK s m l d l.length K)):=by
 have hI:=λi K hi hK=>is_pb (G:=G) r l false true s [] m hl hs (by simp[Sml]) l.length i K hi (by omega) hK
 have e1:liA false s = .vsl (s.map ia):=(by simp[liA]);have e2:liA true [] = .nils:=(by simp[liA]);rw[e1,e2]at hI;have hF:fileA r l = .vptr [.vsl (r.map isa),.vsl (l.map na),.vsl ((nums r).map ia),opA l] 0:=rfl;have fF:∀ ok st,frz ok st 6 (fileA r l)=some (fileA r l):=λok st=>by rw[hF];simp[frz,AV.keys]
 have kF:(fileA r l).keys=[]:=(by rw[hF];simp[AV.keys]);have rF:=λρ=>AV.ren_pure (ρ:=ρ) (fileA r l) (ZfR r l)
 simp only[hF]at hI fF kF rF ⊢;refine Z6p (W0C rfl) λR hG hrd=>?_
 subst hG;refine Qga ?_;have w0:i64.wrap ((l.length:Int)-1)=(l.length:Int)-1:=Yf;simp -implicitDefEqProofs[Z6n,Z6o,fcO,fcC,w0];refine Z1Q (byS (.vptr [.vsl (r.map isa),.vsl (l.map na),.vsl ((nums r).map ia),opA l] 0) (.vsl (s.map ia)) m d) (λx=>x.1<=l.length/\OkK s [] m l x.2/\byV s m l d x.1=byV s m l d l.length/\byK s m l d x.1 x.2=byK s m l d l.length K) (λx=>x.1) (l.length,K) ?_ ⟨W0f _,hK,rfl,rfl⟩ ?_
 . simp only[byS,z10,fcO,fcC]
   ((try simp only[ia]);refine Ym.sub (by simp[lk,Ya,AV.keys,ia]) ?_;simp only[ia,Wkl,ZfF,and_true];(try simp[lk,Yc,Ya,AV.keys,ia]))
 rintro ⟨i,K'⟩ ⟨h1,h2,h3,h4⟩;simp only at h1 h2 h3 h4
 cases i with
 | zero =>
   refine Qga ?_;simp -implicitDefEqProofs[byS,z10,fcO,fcC];refine Qgr ?_;rw[<- h3,<- h4];simp -implicitDefEqProofs[byV,byK,zN1,na];simp -implicitDefEqProofs[FinB,Yi,newK,ZfH,ZfM,frzA,frz,fF,tupV,Z29,Z6o]
 | succ i =>
   have hi:i<l.length:=h1;have hI:=hI i K' hi h2;have hx:=ZcF hi;rw[byV]at h3;rw[byK]at h4;generalize hxx:nAt l i=x at *;have hlx:l[i]=x:=hx.symm;have hnx:na x=[.int .i64 x.nu,.int .i64 x.dy,.int .u8 x.sg,.int .i64 x.dr,.int .i64 x.lt,.int .i64 x.fr,.int .i64 x.tu,.int .i64 x.ca,.bool x.up,.int .u8 x.wy]:=rfl;have w1:i64.wrap ((i:Int)-1)=(i:Int)-1:=Yf;have w2:((i:Int)+1-1)=(i:Int):=(by omega);refine Qga ?_;by_cases c:x.dr=d
   . simp only[fcO]at hI;simp -implicitDefEqProofs[byS,z10,fcO,fcC,hi,hlx,hnx,c,w2];refine Yd.sem (Z1B.byref hI id (by simp) (by simp) (by simp[St.get,lk,AV.ren,AObj.ren,ZfG,ia,rF]) (by simp only[W0g,W0Q,or_false,W1M,forall_eq,ZfF,and_true];simp[lk,Yc,Ya,AV.keys]) (by simp[Ya,AV.keys,lk,fcC]) rfl (by simp[AV.ren,fcC]) rfl rfl) ?_;simp -implicitDefEqProofs[Yl,AV.ren,AObj.ren,ZfG,ia,rF]
     cases hb:fB s [] m l i
     . rw[if_pos c,hb,if_neg (by simp)]at h4;rw[if_neg (λh=>by rw[hb]at h;cases h.2)]at h3;simp -implicitDefEqProofs[w1];refine ⟨(i,ifK s [] m l l.length i K'),?_,⟨by omega,ZfB _ _ h2,h3,h4⟩,W2u _⟩;simp only[byS,z10,fcO,fcC]
       (refine Wkc ?_;simp only[ZfF,Wkl,and_true];(try simp[lk,Yc,Ya,AV.keys]))
     . rw[if_pos c,hb,if_pos rfl]at h4;rw[if_pos ⟨c,hb⟩]at h3;rw[<- h3,<- h4];have hnd:na x=[.int .i64 x.nu,.int .i64 x.dy,.int .u8 x.sg,.int .i64 d,.int .i64 x.lt,.int .i64 x.fr,.int .i64 x.tu,.int .i64 x.ca,.bool x.up,.int .u8 x.wy]:=(by rw[<- c];rfl);simp -implicitDefEqProofs[hnd];refine Qgr ?_;simp -implicitDefEqProofs[FinB,Yi,newK,ZfH,ZfM,frzA,frz,fF,tupV,Z29,Z6o]
   . rw[if_neg (λh=>c h.1)]at h3;rw[if_neg c]at h4;simp -implicitDefEqProofs[byS,z10,fcO,fcC,hi,hlx,hnx,c,w1,w2];refine ⟨(i,K'),?_,⟨by omega,h2,h3,h4⟩,W2u _⟩;simp only[byS,z10,fcO,fcC]
     ((try simp only[ia]);refine Ym.sub (by simp[lk,Ya,AV.keys,ia]) ?_;simp only[ia,Wkl,ZfF,and_true];(try simp[lk,Yc,Ya,AV.keys,ia]))
section
open Qq Tryz
def ZgP:RCode :=
 S [r 0 [b 3 0,b 4 1,n 6 (.bool false)],r 1 [m 7 2,w 8 (.mkf (.func 65) [] [.t 3,.t 4]),c 9 16 [7,8],t 10 9,m 6 10],.ret]
def ZgQ:List RRes:=[.t 6]
def ZgR:PCt prog 39 f39 ZgP ZgQ:=pcT func39 rfl
def ZgS:RCode :=
 S [r 0 [n 4 (.bool false)],r 1 [m 5 0,l 6 1,o 7 .lss 5 6,m 8 7,g 8 false (m 9 0),g 8 false (l 10 2),g 8 false (o 11 .gtr 9 10),u 12 8 11,m 4 12],.ret]
def ZgT:List RRes:=[.t 4]
def ZgU:PCt prog 65 f65 ZgS ZgT:=pcT func65 rfl
def ZgV:RCode :=
 S [r 0 [b 3 1,n 4 O],r 1 [m 5 0,w 6 (.nilck (.t 5)),f 7 0 6,f 8 2 7,l 9 8,w 10 (.mkf (.func 41) [] [.t 3]),c 11 40 [9,10],m 4 11],.ret]
def ZgW:List RRes:=[.t 4]
def ZgX:PCt prog 15 f15 ZgV ZgW:=pcT func15 rfl
def ZgY:RCode :=
 S [r 0 [b 2 0,n 3 (.bool false)],r 1 [f 4 0 2,l 5 4,l 6 1,o 7 .eql 5 6,m 3 7],.ret]
def ZgZ:List RRes:=[.t 3]
def Zh0:PCt prog 41 f41 ZgY ZgZ:=pcT func41 rfl
def Zh1:RCode :=
 S [r 0 [b 3 1,n 4 (.bool false)],r 1 [f 5 0 3,l 6 5,w 7 (.bsl false 1 1 [O] [(0,.t 6)]),w 8 (.call 39 [.c I,.c (.int .i64 9999),.t 7]),m 9 8,g 9 true (f 10 1 3),g 9 true (l 11 10),g 9 true (w 12 (.bsl false 1 1 [O] [(0,.t 11)])),g 9 true (w 13 (.call 39 [.c O,.c (.int .i64 14610),.t 12])),v 14 9 13,m 4 14],.ret]
def Zh2:List RRes:=[.t 4]
def Zh3:PCt prog 160 f160 Zh1 Zh2:=pcT func160 rfl
def Zh4:RCode :=
 S [r 0 [b 3 1,n 4 (.bool false)],r 1 [m 5 0,f 6 2 3,l 7 6,c 8 15 [5,7],k 9 .geq 8 O,m 4 9],.ret]
def Zh5:List RRes:=[.t 4]
def Zh6:PCt prog 161 f161 Zh4 Zh5:=pcT func161 rfl
def Zh7:RCode :=
 S [r 0 [b 3 1,n 4 (.bool false)],r 1 [m 5 0,w 6 (.nilck (.t 5)),f 7 0 6,f 8 0 7,f 9 0 8,f 10 0 9,l 11 10,w 12 (.mkf (.func 164) [] [.t 3]),c 13 163 [11,12],m 4 13],.ret]
def Zh8:List RRes:=[.t 4]
def Zh9:PCt prog 162 f162 Zh7 Zh8:=pcT func162 rfl
def Zha:RCode :=
 S [r 0 [b 2 0,n 3 (.bool false)],r 1 [f 4 3 1,L 5 2 4,f 6 0 2,l 7 6,f 8 1 2,l 9 8,w 10 (.build [O,O] [(0,1,.t 7),(1,1,.t 9)]),w 11 (.eqs false [.i,.i] (.t 5) (.t 10)),m 3 11],.ret]
def Zhb:List RRes:=[.t 3]
def Zhc:PCt prog 164 f164 Zha Zhb:=pcT func164 rfl
def Zhd:RCode :=
 S [r 0 [b 3 1,n 4 (.bool false)],r 1 [f 5 6 3,l 6 5,k 7 .leq 6 (.int .u8 2),m 4 7],.ret]
def Zhe:List RRes:=[.t 4]
def Zhf:PCt prog 165 f165 Zhd Zhe:=pcT func165 rfl
def Zhg:RCode :=
 S [r 0 [b 3 1,n 4 (.bool false)],r 1 [f 5 5 3,l 6 5,k 7 .eql 6 (.int .i64 (-1)),m 8 7,g 8 false (f 9 1 3),g 8 false (l 10 9),g 8 false (f 11 5 3),g 8 false (l 12 11),g 8 false (w 13 (.bsl false 1 1 [O] [(0,.t 12)])),g 8 false (w 14 (.call 39 [.t 10,.c (.int .i64 14610),.t 13])),g 8 false (m 15 14),g 15 true (f 16 6 3),g 15 true (l 17 16),g 15 true (k 18 .eql 17 (.int .u8 0)),g 8 false (v 19 15 18),u 20 8 19,m 4 20],.ret]
def Zhh:List RRes:=[.t 4]
def Zhi:PCt prog 166 f166 Zhg Zhh:=pcT func166 rfl
def Zhj:RCode :=
 S [r 0 [n 2 (.bool false)],.scope (S [S [r 1 [m 12 0,w 13 (.nilck (.t 12)),f 14 0 13,f 15 2 14,l 16 15,e 17 16,k 18 .gtr 17 (.int .i64 6),m 19 18,g 19 false (m 20 0),g 19 false (w 21 (.nilck (.t 20))),g 19 false (f 22 0 21),g 19 false (f 23 3 22),g 19 false (l 24 23),g 19 false (e 25 24),g 19 false (k 26 .gtr 25 (.int .i64 30)),u 27 19 26],K 27 2 [n 2 (.bool false)]],S [r 3 [m 28 0,w 29 (.nilck (.t 28)),f 30 0 29,f 31 2 30,l 32 31,e 33 32,n 34 O],.block 0 (.loop (S [r 4 [o 35 .lss 34 33],.cond (.t 35) .skip (.exit 0),.block 1 (S [r 5 [m 36 34,i 37 4 32 34,L 38 4 37,w 4 (.alloc [O,O,O,.nils]),m 3 36,s 4 4 38],S [R 6 [f 39 0 4,a [0] (l 40 39),a [1] (w 41 (.bsl false 1 1 [O] [(0,.t 40)])),a [2] (w 42 (.call 39 [.c I,.c (.int .i64 9999),.t 41])),a [3] (t 43 42),a [4,3] (m 44 43),a [5] (g 44 false (m 45 3)),a [6,5] (g 44 false (k 46 .gtr 45 O)),a [7,5,5] (g 44 false (m 47 46)),a [8] (g 47 true (m 48 0)),a [9,8] (g 47 true (w 49 (.nilck (.t 48)))),a [10,8] (g 47 true (f 50 0 49)),a [11,8] (g 47 true (f 51 2 50)),a [12,8] (g 47 true (l 52 51)),a [8] (g 47 true (m 53 3)),a [14,8] (g 47 true (k 54 .sub 53 I)),a [13,15,8] (g 47 true (i 55 4 52 54)),a [16,8] (g 47 true (f 56 0 55)),a [17,8] (g 47 true (l 57 56)),a [8] (g 47 true (f 58 0 4)),a [19,8] (g 47 true (l 59 58)),a [18,20,8] (g 47 true (o 60 .geq 57 59)),a [8,21,5] (g 44 false (v 61 47 60)),a [5,22] (u 62 44 61),a [23,8] (m 63 62),a [24] (g 63 false (f 64 1 4)),a [25,24] (g 63 false (l 65 64)),a [24] (g 63 false (f 66 2 4)),a [27,24] (g 63 false (l 67 66)),a [26,28,24] (g 63 false (w 68 (.bsl false 1 2 [O,O] [(0,.t 65),(1,.t 67)]))),a [29,24,24] (g 63 false (w 69 (.call 39 [.c I,.c (.int .i64 999),.t 68]))),a [30,24] (g 63 false (t 70 69)),a [24,31] (u 71 63 70),a [32,30] (m 72 71),a [33] (g 72 false (f 73 1 4)),a [34,33] (g 72 false (l 74 73)),a [33] (g 72 false (f 75 2 4)),a [36,33] (g 72 false (l 76 75)),a [35,37,33] (g 72 false (o 77 .gtr 74 76)),a [33,38] (u 78 72 77),a [39,33] (m 79 78),a [40] (g 79 false (f 80 3 4)),a [41,40] (g 79 false (l 81 80)),a [42,40] (g 79 false (e 82 81)),a [43,40] (g 79 false (k 83 .gtr 82 (.int .i64 8))),a [40,44] (u 84 79 83)],K 84 7 [n 2 (.bool false)]],r 8 [f 85 3 4,l 86 85,e 87 86,n 88 O],.block 2 (.loop (S [r 9 [o 89 .lss 88 87],.cond (.t 89) .skip (.exit 2),.block 3 (S [r 10 [m 90 88,i 91 1 86 88,l 92 91,m 5 90,m 6 92],r 11 [m 93 0,w 94 (.nilck (.t 93)),f 95 4 94,l 96 95,m 97 6,c 98 18 [96,97],t 99 98,m 100 99,g 100 false (m 101 5),g 100 false (k 102 .gtr 101 O),g 100 false (m 103 102),g 103 true (f 104 3 4),g 103 true (l 105 104),g 103 true (m 106 5),g 103 true (k 107 .sub 106 I),g 103 true (i 108 1 105 107),g 103 true (l 109 108),g 103 true (m 110 6),g 103 true (o 111 .geq 109 110),g 100 false (v 112 103 111),u 113 100 112],K 113 12 [n 2 (.bool false)]]),r 13 [k 114 .add 88 I,m 88 114]]))]),r 14 [k 115 .add 34 I,m 34 115]]))],r 15 [n 7 (.bool true)],(.label 0),S [r 16 [m 116 0,w 117 (.nilck (.t 116)),f 118 0 117,f 119 3 118,l 120 119,e 121 120,n 122 O],.block 4 (.loop (S [r 17 [o 123 .lss 122 121],.cond (.t 123) .skip (.exit 4),.block 5 (S [r 18 [m 124 122,i 125 7 120 122,L 126 7 125,w 9 (.alloc [O,O,O,O,O,O,.int .u8 0]),m 8 124,s 7 9 126],S [R 19 [m 127 8,a [0] (k 128 .gtr 127 O),a [1] (m 129 128),a [2] (g 129 true (m 130 0)),a [3,2] (g 129 true (w 131 (.nilck (.t 130)))),a [4,2] (g 129 true (f 132 0 131)),a [5,2] (g 129 true (f 133 3 132)),a [6,2] (g 129 true (l 134 133)),a [2] (g 129 true (m 135 8)),a [8,2] (g 129 true (k 136 .sub 135 I)),a [7,9,2] (g 129 true (i 137 7 134 136)),a [10,2] (g 129 true (f 138 0 137)),a [11,2] (g 129 true (l 139 138)),a [2] (g 129 true (f 140 0 9)),a [13,2] (g 129 true (l 141 140)),a [12,14,2] (g 129 true (o 142 .geq 139 141)),a [2,15] (v 143 129 142)],K 143 20 [n 2 (.bool false)]],r 21 [w 144 (.load true 5 (.g 0)),n 145 O],.block 6 (.loop (S [r 22 [k 146 .lss 145 (.int .i64 5)],.cond (.t 146) .skip (.exit 6),.block 7 (S [r 23 [w 147 (.vop (.aidx true 5 1) [(.t 144),(.t 145)]),w 11 (.alloc [.nilf]),s 1 11 147],r 24 [f 148 0 11,l 149 148,m 150 0,L 151 7 9,w 152 (.callv (.t 149) [.t 150,.t 151]),m 7 152],r 25 [m 153 7,t 154 153],.cond (.t 154) (.exit 4) .skip]),r 26 [k 155 .add 145 I,m 145 155]]))]),r 27 [k 156 .add 122 I,m 122 156]]))],r 28 [m 157 7,m 2 157],.ret])]
def Zhk:List RRes:=[.t 2]
def Zhl:PCt prog 56 f56 Zhj Zhk:=pcT func56 rfl
def Zhm:RCode :=
 S [r 0 [b 1 0,n 2 .nilp,n 3 O],S [r 1 [f 6 0 1,L 7 2 6,c 8 54 [7],m 4 8],r 2 [m 9 4,k 10 .neq 9 O],K 10 3 [m 11 4,n 2 .nilp,m 3 11]],r 4 [L 12 4 1,w 13 (.build [.nils,.nils,.nils,.nils,.nils] [(0,4,.t 12)]),b 14 13,m 5 14],r 5 [m 16 5,f 17 0 1,f 18 0 17,L 19 1 18,c 20 55 [19],m 15 20,x 21 0 15,x 22 1 15,w 23 (.nilck (.t 16)),f 24 4 23,s 1 24 21],S [r 6 [m 25 5,c 26 56 [25],t 27 26],K 27 7 [n 2 .nilp,n 3 (.int .i64 70)]],r 8 [m 28 5,m 2 28,n 3 O],.ret]
def Zhn:List RRes:=[.t 2,.t 3]
def Zho:PCt prog 28 f28 Zhm Zhn:=pcT func28 rfl
def Zhp:RCode :=
 S [r 0 [b 1 0,n 2 O],r 1 [L 6 4 1,c 7 28 [6],m 5 7,x 8 0 5,x 9 1 5,m 3 8,m 4 9],r 2 [m 10 4,m 2 10],.ret]
def Zhq:List RRes:=[.t 2]
def Zhr:PCt prog 33 f33 Zhp Zhq:=pcT func33 rfl
def Zhs:RCode :=
 S [r 0 [b 3 0,n 6 .nilp,n 7 O],r 1 [L 11 4 3,c 12 28 [11],m 10 12,x 13 0 10,x 14 1 10,m 8 13,m 9 14],S [r 2 [m 15 9,k 16 .neq 15 O],K 16 3 [m 17 9,n 6 .nilp,m 7 17]],S [r 4 [m 18 1,w 19 (.bsl false 1 1 [O] [(0,.t 18)]),w 20 (.call 39 [.c O,.c (.int .i64 14610),.t 19]),t 21 20,m 22 21,g 22 false (m 23 2),g 22 false (w 24 (.bsl false 1 1 [O] [(0,.t 23)])),g 22 false (w 25 (.call 39 [.c I,.c (.int .i64 999),.t 24])),g 22 false (t 26 25),u 27 22 26],K 27 5 [n 6 .nilp,n 7 (.int .i64 2)]],r 6 [m 28 8,m 6 28,n 7 O],.ret]
def Zht:List RRes:=[.t 6,.t 7]
def Zhu:PCt prog 14 f14 Zhs Zht:=pcT func14 rfl
def Zhv:RCode :=
 S [r 0 [b 2 0,b 3 1,n 4 .nilf],r 1 [w 5 (.mkf (.func 66) [] [.t 2,.t 3]),m 4 5],.ret]
def Zhw:List RRes:=[.t 4]
def Zhx:PCt prog 49 f49 Zhv Zhw:=pcT func49 rfl
def Zhy:RCode :=
 S [r 0 [l 7 1,w 8 (.nilck (.t 7)),f 9 0 8,f 10 3 9,l 11 10,e 12 11,n 13 O],.block 0 (.loop (S [r 1 [o 14 .lss 13 12],.cond (.t 14) .skip (.exit 0),.block 1 (S [r 2 [m 15 13,i 16 7 11 13,L 17 7 16,w 5 (.alloc [O,O,O,O,O,O,.int .u8 0]),m 4 15,s 7 5 17],r 3 [f 18 5 5,l 19 18,k 20 .neq 19 (.int .i64 (-1)),m 21 20,g 21 true (f 22 5 5),g 21 true (l 23 22),g 21 true (l 24 2),g 21 true (o 25 .leq 23 24),v 26 21 25,m 6 26],r 4 [f 27 1 5,l 28 27,l 29 2,o 30 .leq 28 29,m 31 30,g 31 true (m 32 6),g 31 true (t 33 32),v 34 31 33,m 35 34,g 35 true (f 36 6 5),g 35 true (l 37 36),g 35 true (k 38 .neq 37 (.int .u8 2)),v 39 35 38,m 40 39,g 40 true (m 41 0),g 40 true (m 42 4),g 40 true (L 43 7 5),g 40 true (w 44 (.callv (.t 41) [.t 42,.t 43])),g 40 true (t 45 44),v 46 40 45],.cond (.t 46) .ret .skip]),r 5 [k 47 .add 13 I,m 13 47]]))]
def Zhz:RCode :=
 S [r 0 [n 4 O],S [r 1 [m 6 0,e 7 6,n 8 O],.block 0 (.loop (S [r 2 [o 9 .lss 8 7],.cond (.t 9) .skip (.exit 0),.block 1 (S [r 3 [m 10 8,m 5 10],r 4 [m 11 1,m 12 0,m 13 5,i 14 4 12 13,L 15 4 14,w 16 (.callv (.t 11) [.t 15])],K 16 5 [m 17 5,m 4 17]]),r 6 [k 18 .add 8 I,m 8 18]]))],r 7 [n 4 (.int .i64 (-1))],.ret]
def ZhA:List RRes:=[.t 4]
def ZhB:PCt prog 40 f40 Zhz ZhA:=pcT func40 rfl
def ZhC:RCode :=
 S [r 0 [n 4 O],S [r 1 [m 6 0,e 7 6,n 8 O],.block 0 (.loop (S [r 2 [o 9 .lss 8 7],.cond (.t 9) .skip (.exit 0),.block 1 (S [r 3 [m 10 8,m 5 10],r 4 [m 11 1,m 12 0,m 13 5,i 14 5 12 13,L 15 5 14,w 16 (.callv (.t 11) [.t 15])],K 16 5 [m 17 5,m 4 17]]),r 6 [k 18 .add 8 I,m 8 18]]))],r 7 [n 4 (.int .i64 (-1))],.ret]
def ZhD:List RRes:=[.t 4]
def ZhE:PCt prog 167 f167 ZhC ZhD:=pcT func167 rfl
def ZhF:RCode :=
 S [r 0 [n 4 (.bool false)],r 1 [m 5 0,m 6 1,c 7 167 [5,6],k 8 .geq 7 O,m 4 8],.ret]
def ZhG:List RRes:=[.t 4]
def ZhH:PCt prog 163 f163 ZhF ZhG:=pcT func163 rfl
def ZhI:RCode :=
 S [r 0 [n 2 .nils],S [r 1 [m 6 0,e 7 6,k 8 .lss 7 (.int .i64 2)],K 8 2 [m 9 0,m 2 9]],S [r 3 [n 3 I],.block 0 (.loop (S [S [r 4 [m 10 3,m 11 0,e 12 11,o 13 .lss 10 12],.cond (.t 13) .skip (.exit 0)],.block 1 (S [R 6 [m 16 0,m 17 3,a [0,1] (i 18 1 16 17),a [2] (l 19 18),m 20 0,m 21 3,a [5] (k 22 .sub 21 I),a [4,6] (i 23 1 20 22),a [7] (l 24 23),a [3,8] (o 25 .eql 19 24)],.cond (.t 25) (S [r 7 [m 26 0,m 27 3,w 28 (.slc 1 (.t 26) (some (.t 27)) none),m 4 28],S [r 8 [n 5 I],.block 2 (.loop (S [S [r 9 [m 29 5,m 30 4,e 31 30,o 32 .lss 29 31],.cond (.t 32) .skip (.exit 2)],.block 3 (S [R 11 [m 35 4,m 36 5,a [0,1] (i 37 1 35 36),a [2] (l 38 37),m 39 4,m 40 5,a [5] (k 41 .sub 40 I),a [4,6] (i 42 1 39 41),a [7] (l 43 42),a [3,8] (o 44 .neq 38 43)],.cond (.t 44) (S [r 12 [m 45 0,m 46 3,m 47 4,m 48 5,i 49 1 47 48,l 50 49,i 51 1 45 46,s 1 51 50],r 13 [m 52 3,k 53 .add 52 I,m 3 53]]) .skip]),r 10 [m 33 5,k 34 .add 33 I,m 5 34]]))],r 14 [m 54 0,m 55 3,w 56 (.slc 1 (.t 54) (some (.t 55)) none),z (.clr 1 [O] (.t 56))],r 15 [m 57 0,m 58 3,w 59 (.slc 1 (.t 57) none (some (.t 58))),m 2 59],.ret]) .skip]),r 5 [m 14 3,k 15 .add 14 I,m 3 15]]))],r 16 [m 60 0,m 2 60],.ret]
def ZhJ:List RRes:=[.t 2]
def ZhK {G:Jg} {objs objs':List (Nat×AObj)} {args:List AV} {v:AV} (hn:args.length<=f69.ntmps) (h:∀ R:Run,R.G=G->R.Top->AR prog R ZhI ⟨iniT 0 args,objs⟩ (FinB ZhJ v objs')):PB prog G 69 objs args v objs' :=
 PB_of func69 rfl (by kernel_rfl) (rc:=ZhI) (by kernel_rfl) (rs:=ZhJ) (by kernel_rfl) hn (λR _ hG hr=>h R hG hr)
end
structure Hld where
 id:Int
 fr:Int
 to:Int
 ds:List Int
structure Prt where
 no:Int
 dy:Int
 ho:Int
 dw:Int
 lt:Int
 bk:Int
 lo:Int
deriving DecidableEq
def hoa (h:Hld):List AV:=[.int .i64 h.id,.int .i64 h.fr,.int .i64 h.to,.vsl (h.ds.map ia)]
def ptA (x:Prt):List AV:=[.int .i64 x.no,.int .i64 x.dy,.int .i64 x.ho,.int .i64 x.dw,.int .i64 x.lt,.int .i64 x.bk,.int .u8 x.lo]
def outB (x:Prt) (day:Int):Bool:=decide (x.dy<=day)&&(decide (x.bk = -1)||decide (day<x.bk)) && !decide (x.lo=2)
def ZhL {a b:List Int} (ha:a.Pairwise (· < ·)) (hb:b.Pairwise (· < ·)) (h:∀ x,x∈a↔x∈b):a=b:=by
 have na:a.Nodup:=ha.imp λh=>Int.ne_of_lt h
 have nb:b.Nodup:=hb.imp λh=>Int.ne_of_lt h
 exact List.Perm.eq_of_pairwise (le:=λx y:Int=>x<y) (λx y _ _ h1 h2=>by omega) ha hb ((List.perm_ext_iff_of_nodup na nb).2 h)
def cmpG (p:Int):List Int->List Int
 |[]=>[]
 |x::t=>if x=p then cmpG p t else x::cmpG x t
def cmpI:List Int->List Int
 |[]=>[]
 |a::t=>a::cmpG a t
def ZhM:∀ (l:List Int) (p:Int),SrtI (p::l)->(cmpG p l).Pairwise (· < ·)/\(∀ x∈cmpG p l,p<x)/\∀ x,x∈cmpG p l↔x∈l/\x≠p
 |[],p,_=>by simp[cmpG]
 | a :: t, p,h=>by
   have h1:SrtI (a::t):=(W1l.1 h).2;have h2:p<=a:=(W1l.1 h).1 a (W0H ..);unfold cmpG;by_cases e:a=p
   . rw[if_pos e];subst e;obtain ⟨g1,g2,g3⟩:=ZhM t a h1;refine ⟨g1,g2,λx=>?_⟩;rw[g3]
     constructor
     . rintro ⟨q1,q2⟩;exact ⟨W0z _ q1,q2⟩
     . rintro ⟨q1,q2⟩;rcases W0g.1 q1 with q|q
       . exact absurd q q2
       . exact ⟨q,q2⟩
   . rw [if_neg e];obtain ⟨g1,g2,g3⟩:=ZhM t a h1;have h3:p<a:=(by omega);refine ⟨W1l.2 ⟨λy hy=>g2 y hy,g1⟩,λx hx=>?_,λx=>?_⟩
     . rcases W0g.1 hx with rfl|hx
       . exact h3
       . have:=g2 x hx;omega
     . rw [W0g,W0g,g3]
       constructor
       . rintro (rfl | ⟨q1,q2⟩)
         . exact ⟨.inl rfl,e⟩
         . refine ⟨.inr q1,λq=>?_⟩;subst q;have:=(W1l.1 h1).1 x q1;omega
       . rintro ⟨q|q,q2⟩
         . exact .inl q
         . by_cases q3:x=a
           . exact .inl q3
           . exact .inr ⟨q,q3⟩
def ZhN {l:List Int} (h:SrtI l):(cmpI l).Pairwise (· < ·):=by
 cases l with
 |nil=>exact .nil
 |cons a t=>exact W1l.2 ⟨(ZhM t a h).2.1,(ZhM t a h).1⟩
def ZhO {l:List Int} (h:SrtI l) {x:Int}:x∈cmpI l↔x∈l:=by
 cases l with
 |nil=>rfl
 | cons a t =>
   show x∈a::cmpG a t↔_;rw[W0g,W0g,(ZhM t a h).2.2];by_cases e:x=a <;> simp[e]
def setI (l:List Int):List Int:=cmpI (sortI l)
def ZhP (l:List Int):(setI l).Pairwise (· < ·):=ZhN (ZcX l)
def ZhQ {l:List Int} {x:Int}:x∈setI l↔x∈l:=(ZhO (ZcX l)).trans Zd1
def ZhR {l s:List Int} (hs:s.Pairwise (· < ·)) (h:∀ x,x∈s↔x∈l):setI l=s:=ZhL (ZhP l) hs λx=>ZhQ.trans (h x).symm
def r9:List Int:=[0,1,2,3,4,5,6,7,8]
abbrev Jh:=List Hld
abbrev Jp:=List Prt
def ltV (l:Jl) (d m:Int) (v:Nat):Int:=(byV (sbT (opQ l) v) m l d l.length).lt
def r8:List Int:=[1,2,3,4,5,6,7,8]
def ZhS {x:Int}:x∈r8↔1<=x/\x<=8:=by simp[r8];omega
def r8_lt:r8.Pairwise (· < ·):=by decide
def posL (l:Jl) (d m:Int):List Int:=r8.filter λx=>(List.range (2 ^ (opQ l).length)).any λv=>decide (ltV l d m v=x)
def mk1 (h:Hld) (x:Nte):List Int:=(if inR x.fr h.fr h.to=true then [x.fr] else [])++(if inR (x.tu+1) h.fr h.to=true then [x.tu+1] else [])
def mks (l:Jl) (h:Hld):List Int:=h.fr::l.flatMap (mk1 h)
def ndsL (l:Jl) (h:Hld) (d:Int):List Int:=if h.ds.contains d=true then r8.filter λx=>(mks l h).any λm=>(posL l d m).contains x else []
def ZhT {n a b:Int}:inR n a b=true↔a<=n/\n<=b:=by simp[inR]
def ZhU {l:Jl} {h:Hld} {m:Int}:m∈mks l h↔m=h.fr∨∃ x∈l,(m=x.fr/\h.fr<=x.fr/\x.fr<=h.to)∨(m=x.tu+1/\h.fr<=x.tu+1/\x.tu+1<=h.to):=by
 unfold mks;rw[W0g,W0u]
 constructor
 . rintro (q | ⟨x,hx,q⟩)
   . exact .inl q
   . right
     refine ⟨x,hx,?_⟩;rcases W0h.1 q with q|q <;> split at q <;> rename_i e
     . exact .inl ⟨W0B.1 q,ZhT.1 e⟩
     . cases q
     . exact .inr ⟨W0B.1 q,ZhT.1 e⟩
     . cases q
 . rintro (q | ⟨x,hx,⟨q,q2⟩ | ⟨q,q2⟩⟩)
   . exact .inl q
   . right
     refine ⟨x,hx,W0h.2 (.inl ?_)⟩;rw[if_pos (ZhT.2 q2)];exact W0B.2 q
   . right
     refine ⟨x,hx,W0h.2 (.inr ?_)⟩;rw[if_pos (ZhT.2 q2)];exact W0B.2 q
def ZhV (l:Jl) (d m:Int):(posL l d m).Pairwise (· < ·):=r8_lt.filter _
def ZhW (l:Jl) (h:Hld) (d:Int):(ndsL l h d).Pairwise (· < ·):=by
 unfold ndsL
 split
 . exact r8_lt.filter _
 . exact .nil
def ZhX {l:Jl} {d m x:Int}:x∈posL l d m↔(1<=x/\x<=8)/\∃ v,v<2 ^ (opQ l).length/\ltV l d m v=x:=by
 simp[posL,ZhS]
def ZhY {l:Jl} {h:Hld} {d x:Int}:x∈ndsL l h d↔d∈h.ds/\∃ m∈mks l h,x∈posL l d m:=by
 unfold ndsL;by_cases e:d∈h.ds
 . rw[if_pos (by simpa using e)];simp only[W0G,W14,W0w,e,true_and]
   constructor
   . exact λq=>q.2
   . rintro ⟨m,h1,h2⟩;exact ⟨(ZhX.1 h2).1 |> ZhS.2,m,h1,h2⟩
 . rw[if_neg (by simpa using e)];simp[e]
def ZhZ {l:Jl} {h:Hld} (h0:h.fr<=h.to) {m:Int} (hm:m∈mks l h):h.fr<=m/\m<=h.to:=by
 rcases ZhU.1 hm with rfl | ⟨x,-,⟨rfl,q⟩ | ⟨rfl,q⟩⟩ <;> omega
def Zi0 {l:Jl} {d m:Int} (h:∀ v,1<=ltV l d m v/\ltV l d m v<=8):posL l d m≠[]:=by
 intro e;have:ltV l d m 0∈posL l d m:=ZhX.2 ⟨h 0,0,Nat.two_pow_pos _,rfl⟩;rw[e]at this
 cases this
def hoF (hs:Jh) (id:Int):Option Hld:=hs.find? λh=>decide (h.id=id)
def stB (l:Jl) (hs:Jh) (day:Int) (x:Prt):Bool:=outB x day&&match hoF hs x.ho with
 |some h=>h.ds.contains x.dw && !(ndsL l h x.dw).contains x.lt
 |none=>false
def staL (l:Jl) (hs:Jh) (ps:Jp) (day:Int):List Prt:=ps.filter (stB l hs day)
def rchB (a b:List Int) (x:Prt):Bool:=a.contains x.ho||b.contains x.dw
def calP (l:Jl) (hs:Jh) (day:Int) (a b:List Int) (x:Prt):Prt:=if (stB l hs day x&&rchB a b x)=true then { x with bk:=day,lo:=0 } else x
def Zi1 {l:Jl} {d m:Int} (h:∀ v,v<2 ^ (opQ l).length->1<=ltV l d m v/\ltV l d m v<=8):setI ((List.range (2 ^ (opQ l).length)).map (ltV l d m))=posL l d m:=by
 refine ZhR (ZhV l d m) λx=>?_
 rw[ZhX,W0i]
 constructor
 . rintro ⟨-,v,hv,rfl⟩;exact ⟨v,W1u.2 hv,rfl⟩
 . rintro ⟨v,hv,rfl⟩;have hv:=W1u.1 hv;exact ⟨h v hv,v,hv,rfl⟩
def Zi2 {l:Jl} {h:Hld} {d:Int} (hd:h.ds.contains d=true):setI ((mks l h).flatMap λm=>posL l d m)=ndsL l h d:=by
 refine ZhR (ZhW l h d) λx=>?_
 rw[ZhY,W0u];exact ⟨λq=>q.2,λq=>⟨by simpa using hd,q⟩⟩
def Zi3 {r:Jr} (h:openV r=0):Za5 r=true:=by
 unfold openV at h
 split at h
 . assumption
 . cases h
def Zi4 {r:Jr} {l:Jl} (hr:openV r=0) (hB:ZcI r l=true) {d:Int} (hd:d∈nums r) (m:Int) (v:Nat):(findN d (ltV l d m v) r).isSome=true:=by
 have hL:=Zi3 hr
 have hone:(findN d 1 r).isSome=true:=by
  rw[ZcE hL];obtain ⟨i,hi,e⟩:=Zah (Zad hL) hd;have hm:=W0e hi;have hf:=ZcD hL hm;have h1:inR r[i].l 1 (lastV r d)=true:=(ZcE hL d r[i].l).1 (by rw[<- e,hf];rfl);have h2:=W0X h1;exact W0M (by omega)
 have hd0:d≠0:=by
  obtain ⟨i,hi,e⟩:=Zah (Zad hL) hd;have hm:=W0e hi;have h1:Za5 r=true:=hL;simp only[Za5,W01,W03]at h1;have h2:=h1.1.1.1.2 _ hm;simp only[issB,headB,W01]at h2;have h3:1<=r[i].d/\r[i].d<=9999:=(by simpa [inR] using h2.1.1.1.1.1);omega
 have key:∀ i,i<=l.length->(findN d (byV (sbT (opQ l) v) m l d i).lt r).isSome=true:=by
  intro i
  induction i with
  |zero=>intro _;exact hone
  | succ i ih =>
    intro hi;rw[byV]
    split
    . rename_i c;simp only[ZcI,W01]at hB;have h1:=Za2.1 hB.1.2 i (by omega);simp only[noteB,W01]at h1;have h4:=h1.1.1.1.1.2;unfold cN4 at h4;rw[if_neg (by rw[c.1];intro q;exact hd0 q.1),c.1]at h4;exact h4
    . exact ih (by omega)
 exact key l.length (W0f _)
def Zi5 {r:Jr} {l:Jl} (hr:openV r=0) (hB:ZcI r l=true) {d:Int} (hd:d∈nums r) (m:Int) (v:Nat):1<=ltV l d m v/\ltV l d m v<=8:=by
 have hL:=Zi3 hr;obtain ⟨x,hx⟩:=W0t.1 (Zi4 hr hB hd m v);obtain ⟨h1,h2,h3⟩:=Zav hx;have h4:=hL;simp only[Za5,W01,W03]at h4;have h5:=h4.1.1.1.2 _ h1;simp only[issB,headB,W01]at h5;have h6:1<=x.l/\x.l<=8:=(by simpa [inR] using h5.1.1.1.1.2);omega
def Zi6 {r:Jr} {l:Jl} (hr:openV r=0) (hB:ZcI r l=true) {h:Hld} {d:Int} (hd:d∈nums r) (hh:d∈h.ds):ndsL l h d≠[]:=by
 intro e;have:ltV l d h.fr 0∈ndsL l h d:=ZhY.2 ⟨hh,h.fr,ZhU.2 (.inl rfl),ZhX.2 ⟨Zi5 hr hB hd h.fr 0,0,Nat.two_pow_pos _,rfl⟩⟩;rw[e]at this
 cases this
def riP (ps:Jp):Prop:=ps.Pairwise λx y=>x.no<y.no
def putP (ps:Jp) (x:Prt) (p:Nat):List Prt:=ps.take p++x::ps.drop p
def plP (ps:Jp) (x:Prt):Nat:=ps.countP λy=>decide (y.no<x.no)
def Zi7 {ps:Jp} {x y:Prt} {p:Nat}:y∈putP ps x p↔y=x∨y∈ps:=by
 unfold putP;rw[W0h,W0g];have:y∈ps↔y∈ps.take p∨y∈ps.drop p:=(by rw[<- W0h,W11]);rw[this]
 constructor
 . rintro (h|h|h)
   . exact .inr (.inl h)
   . exact .inl h
   . exact .inr (.inr h)
 . rintro (h|h|h)
   . exact .inr (.inl h)
   . exact .inl h
   . exact .inr (.inr h)
def Zi8 {ps:Jp} {x:Prt} {p:Nat}:(putP ps x p).length=ps.length+1:=by
 unfold putP;simp only[W0s,W15,W1p,List.length_drop];omega
def Zi9 {ps:Jp} {x y:Prt} {p:Nat} (hy:y∈ps) (e:y.no=x.no):¬riP (putP ps x p):=by
 intro h;unfold putP riP at h;rw[W27]at h;obtain ⟨-,h2,h3⟩:=h;have hm:y∈ps.take p∨y∈ps.drop p:=(by rw[<- W0h,W11];exact hy);rcases hm with hm|hm
 . have:=h3 y hm x (W0H ..);omega
 . have:=(W1l.1 h2).1 y hm;omega
def Zia {ps:Jp} {x:Prt} (h:riP ps):∀ {p:Nat} (_:p<=ps.length) (_:∀ y∈ps.take p,y.no<x.no) (_:∀ y∈ps.drop p,x.no<=y.no),plP ps x=p:=by
 intro p hp h1 h2;unfold plP
 conv=>lhs;rw[<- W11 p ps]
 rw[List.countP_append]
 have a:(ps.take p).countP (λy=>decide (y.no<x.no))=p:=by
  rw[List.countP_eq_length.2 λy hy=>by simpa using h1 y hy];simp;omega
 have b:(ps.drop p).countP (λy=>decide (y.no<x.no))=0:=by
  rw[List.countP_eq_zero];intro y hy;have:=h2 y hy;simp;omega
 omega
def Zib {ps:Jp} {x:Prt} (h:riP ps) (hn:∀ y∈ps,y.no≠x.no) {p:Nat} (hp:p<=ps.length) (h0:p=0∨∃ q:p-1<ps.length,ps[p-1].no<=x.no) (h1:∀ y∈ps.drop p,x.no<y.no):p=plP ps x:=by
 refine (Zia h hp (λy hy=>?_) λy hy=>Int.le_of_lt (h1 y hy)).symm;rcases h0 with rfl | ⟨q,h0⟩
 . simp at hy
 . obtain ⟨i,hi,rfl⟩:=W0k hy;simp only[W15]at hi;rw[W1V];have e1:ps[p-1].no≠x.no:=hn _ (W0e ..);by_cases c:i=p-1
   . subst c;omega
   . have:=W0Y.1 h i (p-1) (by omega) q (by omega);omega
instance:Inhabited Hld:=⟨⟨0,0,0,[]⟩⟩
instance:Inhabited Prt:=⟨⟨0,0,0,0,0,0,0⟩⟩
def hAt (hs:Jh) (i:Nat):Hld:=hs.getD i default
def pAt (ps:Jp) (i:Nat):Prt:=ps.getD i default
def Zic {hs:Jh} {i:Nat} (h:i<hs.length):hAt hs i=hs[i]:=by simp[hAt,W0j,h]
def Zid {ps:Jp} {i:Nat} (h:i<ps.length):pAt ps i=ps[i]:=by simp[pAt,W0j,h]
def wksB (D ds:List Int):Bool:=(List.range ds.length).all λk=>D.contains (ds.getD k 0)&&(k == 0||decide (ds.getD (k-1) 0<ds.getD k 0))
def hoB (D:List Int) (hs:Jh) (i:Nat):Bool:=inR (hAt hs i).id 1 9999&&(i == 0||decide ((hAt hs (i-1)).id<(hAt hs i).id))&&inR (hAt hs i).fr 1 (hAt hs i).to&&decide ((hAt hs i).to<=999)&&decide ((hAt hs i).ds.length<=8)&&wksB D (hAt hs i).ds
def prB (r:Jr) (hs:Jh) (x:Prt):Bool:=inR x.no 1 9999&&inR x.dy 0 14610&&(hoF hs x.ho).isSome&&decide (x.lo<=2)&&(findN x.dw x.lt r).isSome&&(decide (x.bk = -1)||(inR x.bk x.dy 14610&&decide (x.lo=0)))
def shB (r:Jr) (hs:Jh) (ps:Jp) (i:Nat):Bool:=(i == 0||decide ((pAt ps (i-1)).no<(pAt ps i).no))&&prB r hs (pAt ps i)
def ptsB (r:Jr) (hs:Jh) (ps:Jp):Bool:=decide (hs.length<=6)&&decide (ps.length<=30)&&(List.range hs.length).all (hoB (nums r) hs)&&(List.range ps.length).all (shB r hs ps)
def ck7 (r:Jr) (l:Jl) (hs:Jh) (ps:Jp):Int:=if chN r l=0 then if ptsB r hs ps=true then 0 else 70 else chN r l
def Zie {f:Nat->Int} {n:Nat} (h:∀ i,i+1<n->f i<f (i+1)):∀ i j,i<j->j<n->f i<f j:=by
 intro i j hij hj
 induction j with
 |zero=>omega
 | succ j ih =>
   by_cases c:i=j
   . subst c;exact h i hj
   . have:=ih (by omega) (by omega);have:=h j hj;omega
section
variable {r:Jr} {hs:Jh} {ps:Jp}
def Zif:ptsB r hs ps=true↔(hs.length<=6/\(List.range hs.length).all (hoB (nums r) hs)=true)/\ps.length<=30/\riP ps/\∀ x∈ps,prB r hs x=true:=by
 unfold ptsB;rw[W01,W01,W01,W0b,W0b,Za2 (n:=ps.length)]
 constructor
 . rintro ⟨⟨⟨h1,h2⟩,h3⟩,h4⟩;refine ⟨⟨h1,h3⟩,h2,?_,λx hx=>?_⟩
   . unfold riP;rw[W0Y];intro i j hi hj hij
     have:=Zie (f:=λk=>(pAt ps k).no) (n:=ps.length) (λk hk=>by
      have q:=h4 (k+1) hk;simp only[shB,W01,W0T,W0b]at q;simpa using q.1) i j hij hj
     simp only[Zid hi,Zid hj]at this;exact this
   . obtain ⟨i,hi,rfl⟩:=W0k hx;have:=h4 i hi;rw[shB,W01,Zid hi]at this;exact this.2
 . rintro ⟨⟨h1,h3⟩,h2,h4,h5⟩;refine ⟨⟨⟨h1,h2⟩,h3⟩,λi hi=>?_⟩;rw[shB,W01,Zid hi];refine ⟨?_,h5 _ (W0e hi)⟩
   cases i with
   |zero=>rfl
   | succ i =>
     have:=W0Y.1 h4 i (i+1) (by omega) hi (by omega);simp[Zid (show i<ps.length by omega),this]
def Zig {id:Int} {h:Hld} (q:hoF hs id=some h):h∈hs/\h.id=id:=by
 unfold hoF at q;exact ⟨List.mem_of_find?_eq_some q,by simpa using List.find?_some q⟩
variable {l:Jl} {day:Int} {a b:List Int}
end
def prA (r:Jr) (l:Jl) (hs:Jh) (ps:Jp):AV:=.agg [.vsl (r.map isa),.vsl (l.map na),.vsl (hs.map hoa),.vsl (ps.map ptA)]
def ofA (r:Jr) (l:Jl) (hs:Jh) (ps:Jp):AV:=.vptr [.vsl (r.map isa),.vsl (l.map na),.vsl (hs.map hoa),.vsl (ps.map ptA),.vsl ((nums r).map ia)] 0
def Zih (r:Jr) (l:Jl) (hs:Jh) (ps:Jp):(ofA r l hs ps).pure=true:=by unfold ofA;simp[AV.pure,isa,na,hoa,ptA]
def Zii (r:Jr) (l:Jl) (hs:Jh) (ps:Jp):(ofA r l hs ps).keys=[]:=AV.pure_keys _ (Zih r l hs ps)
def POk (x:Prt):Prop:=0<=x.lo/\x.lo<=255
def NOk7 (x:Nte):Prop:=0<=x.sg/\x.sg<=255/\0<=x.wy/\x.wy<=255
structure WfP (hs:Jh) (ps:Jp):Prop where
 hl:hs.length<=8
 pl:ps.length<=41
 dl:∀ h∈hs,h.ds.length<=20
 po:∀ x∈ps,POk x
def outI (ps:Jp) (day:Int) (n:Nat):List Nat:=(List.range n).filter λi=>outB (pAt ps i) day
def outP (ps:Jp) (day:Int):List Prt:=ps.filter λx=>outB x day
def Zij {ps:Jp} {day:Int} {n:Nat}:outI ps day (n+1)=if outB (pAt ps n) day=true then outI ps day n++[n] else outI ps day n:=by
 unfold outI;rw[W1y,W1a]
 split <;> simp_all
def Zik {ps:Jp} {day:Int}:∀ {n i:Nat},i<n->outB (pAt ps i) day=true->(outI ps day n)[(outI ps day i).length]? = some i
 |0,_,h,_=>by omega
 | n + 1,i,h,ho=>by
   rw[Zij];by_cases e:i=n
   . subst e;rw[if_pos ho];simp
   . have ih:=Zik (n:=n) (i:=i) (by omega) ho
     split
     . rw[W0E (W02.1 ih).1];exact ih
     . exact ih
def Zil (ps:Jp) (day:Int):∀ n,n<=ps.length->(outI ps day n).map (pAt ps)=(ps.take n).filter λx=>outB x day
 |0,_=>by simp[outI]
 | n+1,h=>by
   have hn:n<ps.length:=h;rw[Zij,W08 hn,W1a,<- Zil ps day n (by omega),Zid hn];by_cases c:outB ps[n] day=true
   . rw[if_pos c];simp[c,Zid hn]
   . rw[if_neg c];simp[c]
def Zim (ps:Jp) (day:Int):(outI ps day ps.length).map (pAt ps)=outP ps day:=by
 rw[Zil ps day _ (W0f _),W0v];rfl
def Zin (ps:Jp) (day:Int):(outI ps day ps.length).length=(outP ps day).length:=by rw[<- Zim,W0N]
def outE (ps:Jp) (day:Int):List (AV×AV):=(outI ps day ps.length).map λ(i:Nat)=>(.int .i64 (i:Int),.agg (ptA (pAt ps i)))
def Zio (ps:Jp) (day:Int):(outE ps day).length=(outP ps day).length:=by unfold outE;rw[W0N,Zin]
def Zip {ps:Jp} {day:Int} {k:Nat} {x:AV×AV} (h:(outE ps day)[k]? = some x):∃ i:Nat,∃ hk:k<(outP ps day).length,x=(.int .i64 i,.agg (ptA (outP ps day)[k])):=by
 unfold outE at h;rw[W09]at h;obtain ⟨i,hi,rfl⟩:=W04.1 h;have h2:((outI ps day ps.length).map (pAt ps))[k]? = some (pAt ps i):=(by rw[W09,hi];rfl);rw[Zim]at h2;obtain ⟨hk,h3⟩:=W02.1 h2;exact ⟨i,hk,by rw[h3]⟩
def Ziq (n lo hi:Int):PC prog G 65 [.int .i64 n,.vptr [.int .i64 lo] 0,.vptr [.int .i64 hi] 0] (.bool (!inR n lo hi)):=by
 (refine ZgU rfl λR hG hrd=>Qga ?_;subst hG)
 by_cases h1:n<lo
 . have h2:¬lo<=n:=(by omega);simp -implicitDefEqProofs[ZgS,ZgT,h1,h2,inR]
 . have h2:lo<=n:=(by omega);by_cases h3:hi<n
   . have h4:¬n<=hi:=(by omega);simp -implicitDefEqProofs[ZgS,ZgT,h1,h2,h3,h4,inR]
   . have h4:n<=hi:=(by omega);simp -implicitDefEqProofs[ZgS,ZgT,h1,h2,h3,h4,inR]
def Zir (lo hi:Int) (l:List Int) (hl:Sml l):PC prog G 39 [.int .i64 lo,.int .i64 hi,.vsl (l.map ia)] (.bool (l.all λn=>inR n lo hi)):=by
 (refine ZgR rfl λR hG hrd=>Qga ?_;subst hG)
 simp -implicitDefEqProofs[ZgP,ZgQ]
 (first|refine Yd.flat (ZaC 65 [.vptr [.int .i64 lo] 0,.vptr [.int .i64 hi] 0] (λn=>!inR n lo hi) l (by simp[AV.pure]) hl (λn _=>Ziq n lo hi)) (by simp[AV.flat]) (by simp) ?_|refine Ye.flat (ZaC 65 [.vptr [.int .i64 lo] 0,.vptr [.int .i64 hi] 0] (λn=>!inR n lo hi) l (by simp[AV.pure]) hl (λn _=>Ziq n lo hi)) (by simp[AV.flat]) (by simp) ?_)
 have e:(!l.any λn=>!inR n lo hi)=l.all λn=>inR n lo hi:=by simp[W2k]
 simp -implicitDefEqProofs[e]
def Zis (lo hi n:Int):PC prog G 39 [.int .i64 lo,.int .i64 hi,.vsl [[.int .i64 n]]] (.bool (inR n lo hi)):=by
 have h:=Zir (G:=G) lo hi [n] (by simp[Sml]);simpa [ia] using h
def Zit (lo hi n m:Int):PC prog G 39 [.int .i64 lo,.int .i64 hi,.vsl [[.int .i64 n],[.int .i64 m]]] (.bool (inR n lo hi&&inR m lo hi)):=by
 have h:=Zir (G:=G) lo hi [n,m] (by simp[Sml]);simpa [ia] using h
def Ziu (g:Nat) (caps:List AV) (p:Hld->Bool) (l:Jh) (hc:caps.all AV.pure=true) (hl:Sml l)
  (hg:∀ x∈l,PC prog G g (.agg (hoa x)::caps) (.bool (p x))) :
  PC prog G 40 [.vsl (l.map hoa),.func (.func g) [] caps] (.int .i64 (fstOf p l)):=by
 (refine ZhB rfl λR hG hrd=>Qga ?_;subst hG)
 unfold Sml at hl;have hc2:∀ x∈caps,x.pure=true:=W03.1 hc;simp -implicitDefEqProofs[Zhz,ZhA];refine Z9H (λi=>⟨[(8,.int .i64 i),(7,.int .i64 l.length),(0,.vsl (l.map hoa)),(1,.func (.func g) [] caps)],[]⟩) (λi=>∀ j (h:j<l.length),j<i->p l[j]=false) l.length (by (first|exact Wka|exact Wkb)) (by simp) ?_ ?_
 . intro i hi he;refine Qga ?_;have w1:i64.wrap ((i:Int)+1)=((i+1:Nat):Int):=Yf;have hgi:=hg _ (W0e hi);have hln:(hoa l[i]).length=4:=rfl;have htk:(hoa l[i]).take 4=hoa l[i]:=rfl;simp -implicitDefEqProofs[hi,hln,htk];refine Yd.of hgi (by simpa [AV.pure,hoa] using hc2) ?_
   cases h3:p l[i]
   . simp -implicitDefEqProofs[w1];refine ⟨(by (first|exact Wka|exact Wkb)),λj q1 q2=>?_⟩;by_cases e:j=i
     . subst e;exact h3
     . exact he j q1 (by omega)
   . simp -implicitDefEqProofs;refine Qgr ?_;simp -implicitDefEqProofs[Zay hi h3 he]
 . intro he;refine Qga ?_;simp -implicitDefEqProofs;refine Qgr ?_;simp -implicitDefEqProofs[Zaz (p:=p) (l:=l) (λj hj=>he j hj hj)]
def Ziv (g:Nat) (caps:List AV) (p:Iss->Bool) (l:Jr) (hc:caps.all AV.pure=true) (hl:Sml l)
  (hg:∀ x∈l,PC prog G g (.agg (isa x)::caps) (.bool (p x))) :
  PC prog G 167 [.vsl (l.map isa),.func (.func g) [] caps] (.int .i64 (fstOf p l)):=by
 (refine ZhE rfl λR hG hrd=>Qga ?_;subst hG)
 unfold Sml at hl;have hc2:∀ x∈caps,x.pure=true:=W03.1 hc;simp -implicitDefEqProofs[ZhC,ZhD];refine Z9H (λi=>⟨[(8,.int .i64 i),(7,.int .i64 l.length),(0,.vsl (l.map isa)),(1,.func (.func g) [] caps)],[]⟩) (λi=>∀ j (h:j<l.length),j<i->p l[j]=false) l.length (by (first|exact Wka|exact Wkb)) (by simp) ?_ ?_
 . intro i hi he;refine Qga ?_;have w1:i64.wrap ((i:Int)+1)=((i+1:Nat):Int):=Yf;have hgi:=hg _ (W0e hi);have hln:(isa l[i]).length=5:=rfl;have htk:(isa l[i]).take 5=isa l[i]:=rfl;simp -implicitDefEqProofs[hi,hln,htk];refine Yd.of hgi (by simpa [AV.pure,isa] using hc2) ?_
   cases h3:p l[i]
   . simp -implicitDefEqProofs[w1];refine ⟨(by (first|exact Wka|exact Wkb)),λj q1 q2=>?_⟩;by_cases e:j=i
     . subst e;exact h3
     . exact he j q1 (by omega)
   . simp -implicitDefEqProofs;refine Qgr ?_;simp -implicitDefEqProofs[Zay hi h3 he]
 . intro he;refine Qga ?_;simp -implicitDefEqProofs;refine Qgr ?_;simp -implicitDefEqProofs[Zaz (p:=p) (l:=l) (λj hj=>he j hj hj)]
def Ziw (g:Nat) (caps:List AV) (p:Iss->Bool) (l:Jr) (hc:caps.all AV.pure=true) (hl:Sml l)
  (hg:∀ x∈l,PC prog G g (.agg (isa x)::caps) (.bool (p x))) :
  PC prog G 163 [.vsl (l.map isa),.func (.func g) [] caps] (.bool (l.any p)):=by
 have hi:=Ziv (G:=G) g caps p l hc hl hg;have e:=ZaA p l
 (refine ZhH rfl λR hG hrd=>Qga ?_;subst hG)
 have hc2:∀ x∈caps,x.pure=true:=W03.1 hc;simp -implicitDefEqProofs[ZhF,ZhG];refine Yd.of hi (by simpa [AV.pure] using hc2) ?_;simp -implicitDefEqProofs[e]
def hoI (hs:Jh) (id:Int):Int:=fstOf (λh=>decide (h.id=id)) hs
def Zix (h:Hld) (id:Int):PC prog G 41 [.agg (hoa h),.vptr [.int .i64 id] 0] (.bool (decide (h.id=id))):=by
 (refine Zh0 rfl λR hG hrd=>Qga ?_;subst hG)
 simp -implicitDefEqProofs[ZgY,ZgZ,hoa]
def Ziy (r:Jr) (l:Jl) (hs:Jh) (ps:Jp) (id:Int) (hh:Sml hs):PC prog G 15 [ofA r l hs ps,.int .i64 id] (.int .i64 (hoI hs id)):=by
 have h:=Ziu (G:=G) 41 [.vptr [.int .i64 id] 0] (λh=>decide (h.id=id)) hs (by simp[AV.pure]) hh (λh _=>Zix h id);have e:fstOf (λh=>decide (h.id=id)) hs=hoI hs id:=rfl;rw[e]at h;generalize hoI hs id=n at *;unfold ofA
 (refine ZgX rfl λR hG hrd=>Qga ?_;subst hG)
 simp -implicitDefEqProofs[ZgV,ZgW]
 (first|refine Yd.flat (h) (by simp[AV.flat]) (by simp) ?_|refine Ye.flat (h) (by simp[AV.flat]) (by simp) ?_)
 simp -implicitDefEqProofs
def Ziz (o:AV) (x:Prt):PC prog G 160 [o,.agg (ptA x)] (.bool (inR x.no 1 9999&&inR x.dy 0 14610)):=by
 have h1:=Zis (G:=G) 1 9999 x.no;have h2:=Zis (G:=G) 0 14610 x.dy
 (refine Zh3 rfl λR hG hrd=>Qga ?_;subst hG)
 simp -implicitDefEqProofs[Zh1,Zh2,ptA];refine Qco (h1) ?_
 cases inR x.no 1 9999
 . simp -implicitDefEqProofs
 . simp -implicitDefEqProofs;refine Qco (h2) ?_;simp -implicitDefEqProofs
def ZiA (r:Jr) (l:Jl) (hs:Jh) (ps:Jp) (x:Prt) (hh:Sml hs):PC prog G 161 [ofA r l hs ps,.agg (ptA x)] (.bool (decide (0<=hoI hs x.ho))):=by
 have h:=Ziy (G:=G) r l hs ps x.ho hh;have pO:=Zih r l hs ps;generalize ofA r l hs ps=O at *
 (refine Zh6 rfl λR hG hrd=>Qga ?_;subst hG)
 simp -implicitDefEqProofs[Zh4,Zh5,ptA];refine Yd.of h (by simp[pO,AV.pure]) ?_;simp -implicitDefEqProofs
def ZiB (x:Prt) (y:Iss):PC prog G 164 [.agg (isa y),.vptr (ptA x) 0] (.bool (rfp x.dw x.lt y)):=by
 (refine Zhc rfl λR hG hrd=>Qga ?_;subst hG)
 by_cases h1:x.dw=y.d
 . by_cases h2:x.lt=y.l
   . have e:rfp x.dw x.lt y=true:=(by simp[rfp,h1,h2]);rw[e];simp -implicitDefEqProofs[Zha,Zhb,ptA,isa,h1,h2]
   . have e:rfp x.dw x.lt y=false:=(by simp[rfp,h1,Ne.symm h2]);rw[e];simp -implicitDefEqProofs[Zha,Zhb,ptA,isa,h1,h2]
 . have e:rfp x.dw x.lt y=false:=(by simp[rfp,Ne.symm h1]);rw[e];simp -implicitDefEqProofs[Zha,Zhb,ptA,isa,h1]
def ZiC (r:Jr) (l:Jl) (hs:Jh) (ps:Jp) (x:Prt) (hr:Sml r):PC prog G 162 [ofA r l hs ps,.agg (ptA x)] (.bool (findN x.dw x.lt r).isSome):=by
 have h:=Ziw (G:=G) 164 [.vptr (ptA x) 0] (rfp x.dw x.lt) r (by simp[AV.pure,ptA]) hr (λy _=>ZiB x y);rw[Zgn];generalize r.any (rfp x.dw x.lt)=b at *;unfold ofA
 (refine Zh9 rfl λR hG hrd=>Qga ?_;subst hG)
 simp -implicitDefEqProofs[Zh7,Zh8,ptA];unfold ptA at h
 (first|refine Yd.flat (h) (by simp[AV.flat]) (by simp) ?_|refine Ye.flat (h) (by simp[AV.flat]) (by simp) ?_)
 simp -implicitDefEqProofs
def ZiD (o:AV) (x:Prt):PC prog G 165 [o,.agg (ptA x)] (.bool (decide (x.lo<=2))):=by
 (refine Zhf rfl λR hG hrd=>Qga ?_;subst hG)
 simp -implicitDefEqProofs[Zhd,Zhe,ptA]
def ZiE (o:AV) (x:Prt):PC prog G 166 [o,.agg (ptA x)] (.bool (decide (x.bk = -1)||(inR x.bk x.dy 14610&&decide (x.lo=0)))):=by
 have h1:=Zis (G:=G) x.dy 14610 x.bk
 (refine Zhi rfl λR hG hrd=>Qga ?_;subst hG)
 by_cases h0:x.bk = -1
 . simp -implicitDefEqProofs[Zhg,Zhh,ptA,h0]
 . simp -implicitDefEqProofs[Zhg,Zhh,ptA,h0];refine Qco (h1) ?_
   cases inR x.bk x.dy 14610
   . simp -implicitDefEqProofs
   . simp -implicitDefEqProofs
def ZiF (P:Program) (G:Jg) (gf:Nat) (caps:List AV) (els:List (AV×AV)):Prop :=
 entB P gf=true/\∀ (n l:Nat) (lb:Array Value) (J:Nat->(Nat->Prop)->World->Prop) (K:World->Prop) (M:Nat->Prop) (W:World),2<=n->(∀ k M A B,J k M A->Ext A B->J k M B)->(∀ A B,K A->Ext A B->K B) ->
  (∀ k M A,J k M A->∀ b,M b->b<A.heap.size)->(∀ k M A,J k M A->GR G M A)->CP M W caps lb ->
  (∀ (k:Nat) (x:AV×AV) (u v:Value) (M:Nat->Prop) (A:World),J k M A->els[k]? = some x->PV M A x.1 u->PV M A x.2 v ->
   YieldAt Fence.wide (n-1) P l #[u,v] A λe A'=>(e = .returned (.bool true)/\∃ M',J (k+1) M' A'/\Since M A M' A')∨(e = .returned (.bool false)/\K A')) ->
  J 0 M W->CallsIn Fence.wide n P gf (#[.func (.yield l) #[] #[]]++lb) W λe W'=>(∃ v,e = .returned v)/\((∃ M,J els.length M W')∨K W')
def ZiG {n:Nat} {P:Program} {g:Operand} {p q:Nat} {assign body:Code} {Q:Exit->Act->World->Prop} {a:Act} {w:World}
  {gf:Nat} {lb:Array Value} {caps:List AV} {els:List (AV×AV)} (hg:a.eval g = .func (.func gf) #[] lb) {G:Jg} (hit:ZiF P G gf caps els) (hn:3<=n)
  (I:Nat->(Nat->Prop)->World->Prop) (K:World->Prop) (M0:Nat->Prop) (hIe:∀ k M A B,I k M A->Ext A B->I k M B) (hKe:∀ A B,K A->Ext A B->K B)
  (hIo:∀ (k l:Nat) (M:Nat->Prop) (W:World) (r r':Loop),w.heap.size<=l->I k M W->W.heap[l]? = some (.loop r)->I k M (W.putObj l (.loop r')))
  (hKo:∀ (l:Nat) (W:World) (r r':Loop),w.heap.size<=l->K W->W.heap[l]? = some (.loop r)->K (W.putObj l (.loop r')))
  (hIM:∀ k M A,I k M A->(∀ b,M b->b<A.heap.size)/\∀ (b:Nat) (o:Obj),w.heap.size<=b->A.heap[b]? = some o->Odd o->¬M b)
  (hIG:∀ k M A,I k M A->GR G M A) (hcaps:CP M0 w caps lb) (h0:I 0 M0 w)
  (hround:∀ (l k m:Nat) (x:AV×AV) (u v:Value) (M:Nat->Prop) (W:World) (lr:Loop),w.heap.size<=l->I k M W->W.heap[l]? = some (.loop lr)->els[k]? = some x->PV M W x.1 u->PV M W x.2 v ->
   assign.wpIn (FW (some l)) m P (Exit.then (λa1 W1=>(∀ (b:Nat) (o:Obj),W.heap[b]? = some o->Odd o->W1.heap[b]? = some o) /\
     body.wpIn (FW (some l)) m P (λe _ W'=>((∀ (b:Nat) (o:Obj),W.heap[b]? = some o->Odd o->b≠l->W'.heap[b]? = some o)/\W'.heap[l]? = some (.loop { lr with state:=.busy })) /\
      ((e = .normal/\∃ M',I (k+1) M' W'/\W.heap.size<=W'.heap.size/\∀ b,b<W.heap.size->¬M b->¬M' b/\(b≠l->W'.heap[b]? = W.heap[b]?))∨(e = .ret/\K W'))) a1 (W1.putObj l (.loop { lr with state:=.busy }))) (λ_ _ _=>False))
    { tmps:=(a.tmps.setIfInBounds p u).setIfInBounds q v,defers:=[] } W)
  (hdone:∀ (D:Nat) (M:Nat->Prop) (W:World),w.heap.size<=D->I els.length M W->W.heap[D]? = some (.deferred (some []))->Q .normal { a with defers:=coll D::a.defers } W)
  (hstop:∀ (D:Nat) (W:World),w.heap.size<=D->K W->W.heap[D]? = some (.deferred (some []))->Q .ret { a with defers:=coll D::a.defers } W) :
  (Code.rangeFunc g #[p,q] assign body).wpIn (FW none) n P Q a w:=by
 refine wpIn_rangeFunc ?_;intro fn hfn;obtain ⟨rec,hrec⟩ : ∃ rec:LoopState->Option Code->Loop,rec=λst pe=>{ state:=st,pending:=pe,fn,tmps:=a.tmps,params:=#[p,q],assign,body,defers:=w.heap.size }:=⟨_,rfl⟩
 obtain ⟨W1,hW1⟩ : ∃ W1,(w.alloc (.deferred (some []))).alloc (.loop (rec .ready none))=W1:=⟨_,rfl⟩;have hE1:Ext w W1:=by rw[<- hW1];exact (Ext.refl w).al.al
 have hL1:W1.heap[w.heap.size+1]? = some (.loop (rec .ready none)):=by
  rw[<- hW1];have:=World.alloc_heap_new (w.alloc (.deferred (some []))) (.loop (rec .ready none));rwa [World.size_alloc]at this
 have hK1:W1.heap[w.heap.size]? = some (.deferred (some [])):=by
  rw[<- hW1];exact (Below.heap_alloc _ _ _ (by simp)).trans (World.alloc_heap_new w _)
 have hI1:I 0 M0 W1:=hIe _ _ _ _ h0 hE1;have hC1:CP M0 W1 caps lb:=⟨hcaps.1,λi x u hx hu=>(hcaps.2 i x u hx hu).mono (λb hb hM=>⟨hM,hE1.block b hb⟩) hE1.size⟩
 refine ⟨w.heap.size+1,[{ target:=.collected w.heap.size,args:=#[] }],W1,{ target:=.fn (.func gf) lb,args:=#[.func (.yield (w.heap.size+1)) #[] #[]] },W1,gf,
  #[.func (.yield (w.heap.size+1)) #[] #[]]++lb,W1,?_,?_,λ_ _=>trivial,?_,Z24,?_⟩
 . rw[<- hW1,hrec];exact run_enterLoop_outer _ _ _ _ _
 . simp only[resolve,hg];simp[go_sem]
 . simp[invoke,go_sem,Z1W hit.1]
 . have stay : ∀ {A B:World} {b:Nat} {o:Obj},Ext A B->A.heap[b]? = some o->B.heap[b]? = some o:=λh hb=>(h.block _ (W0c.1 hb).1).trans hb
   refine (hit.2 (n-1) (w.heap.size+1) lb
    (λk M W=>I k M W/\W.heap[w.heap.size+1]? = some (.loop (rec .ready none))/\W.heap[w.heap.size]? = some (.deferred (some [])))
    (λW=>K W/\W.heap[w.heap.size+1]? = some (.loop (rec .done (some .ret)))/\W.heap[w.heap.size]? = some (.deferred (some [])))
    M0 W1 (by omega) (λk M A B h e=>⟨hIe k M A B h.1 e,stay e h.2.1,stay e h.2.2⟩) (λA B h e=>⟨hKe A B h.1 e,stay e h.2.1,stay e h.2.2⟩) (λk M A h=>(hIM k M A h.1).1) (λk M A h=>hIG k M A h.1) hC1 ?_ ⟨hI1,hL1,hK1⟩).mono ?_
   . rintro k x u v M W ⟨hi,hl,hk⟩ hr hus hvs;have hls:w.heap.size+1<W.heap.size:=(W0c.1 hl).1;have hy:=run_yield (P:=P) (args:=#[u,v]) hl (by rw[hrec];rfl);rw[hrec]at hy
     have hfold:(#[p,q].zip #[u,v]).foldl (λt (x:Nat×Value)=>match x with|(p,v)=>t.setIfInBounds p v) a.tmps=(a.tmps.setIfInBounds p u).setIfInBounds q v:=by
      rw[<- Array.foldl_toList,Array.toList_zip];rfl
     have hy:(Instr.yield (w.heap.size+1) #[u,v]).run P W = .ok (.round (w.heap.size+1) fn ((a.tmps.setIfInBounds p u).setIfInBounds q v) assign body) W:=(by rw[<- hfold];exact hy);refine ⟨fn,_,assign,body,hy,roundIn_of_wpIn hfn (wpIn_mono (hround (w.heap.size+1) k _ x u v M W _ (by omega) hi hl hr hus hvs) ?_)⟩;rintro e a1 W2 hp
     cases e with
     | normal =>
       obtain ⟨hodd0,hp⟩:=hp;have hl2:=hodd0 _ _ hl trivial;have hk2:=hodd0 _ _ hk trivial;have hls2:w.heap.size+1<W2.heap.size:=(W0c.1 hl2).1;refine ⟨_,run_beginRound hl2 (by rw[hrec]),wpIn_mono hp ?_⟩;rintro e a3 W3 ⟨⟨hodd,hl3⟩,hp3⟩;have hd3:=hodd _ _ hk trivial (by omega);have hls3:=(W0c.1 hl3).1
       have fin:∀ jump:Option Code,(W3.putObj (w.heap.size+1) (.loop (rec (if jump.isNone then .ready else .done) jump))).heap[w.heap.size+1]? = some (.loop (rec (if jump.isNone then .ready else .done) jump)) /\
         (W3.putObj (w.heap.size+1) (.loop (rec (if jump.isNone then .ready else .done) jump))).heap[w.heap.size]? = some (.deferred (some [])):=λjump =>
        ⟨World.putObj_heap_same hls3,(World.putObj_heap_other (by omega)).trans hd3⟩
       rcases hp3 with ⟨rfl,M',hi3,hsz3,hs3⟩ | ⟨rfl,hk3⟩
       . have hr3:=run_endRound (P:=P) none hl3;have f1:=fin none;rw[hrec]at hr3 f1;refine ⟨_,_,hr3,.inl ⟨rfl,M',⟨hIo _ _ _ _ _ _ (by omega) hi3 hl3,?_,f1.2⟩,by simpa using hsz3,λb hb hM=>⟨(hs3 b hb hM).1,?_⟩⟩⟩
         . rw[hrec];exact f1.1
         . by_cases e:b=w.heap.size+1
           . subst e;rw[hl,hrec];exact f1.1
           . rw[World.putObj_heap_other e];exact (hs3 b hb hM).2 e
       . have hr3:=run_endRound (P:=P) (some .ret) hl3;have f1:=fin (some .ret);rw[hrec]at hr3 f1;refine ⟨_,_,hr3,.inr ⟨rfl,hKo _ _ _ _ (by omega) hk3 hl3,?_,f1.2⟩⟩;rw[hrec];exact f1.1
     |_=>exact hp.elim
   . rintro e W2 ⟨⟨v,rfl⟩,⟨M,hi,hl,hk⟩ | ⟨hi,hl,hk⟩⟩
     . exact ⟨none,_,by have:=run_endLoop (P:=P) hl (by rw[hrec];simp);rw[hrec]at this;exact this,hdone _ M _ (W0f _) (hIo _ _ _ _ _ _ (by omega) hi hl) ((World.putObj_heap_other (by omega)).trans hk)⟩
     . exact ⟨some .ret,_,by have:=run_endLoop (P:=P) hl (by rw[hrec];simp);rw[hrec]at this;exact this,wpIn_ret (hstop _ _ (W0f _) (hKo _ _ _ _ (by omega) hi hl) ((World.putObj_heap_other (by omega)).trans hk))⟩
section
variable {P:Program} {R:Run} {st:St} {a:Act} {W:World} {κ:Nat->Option (Nat×Nat)}
def ZiH {g:RA} {p q gf:Nat} {assign body:RCode} {Φ:Exit->St->Prop} {caps:List AV} {els:List (AV×AV)} (hrd:R.Top) (hpq:p≠q) (hit:ZiF P R.G gf caps els) (hg:evA R.G st g = .func (.func gf) [] caps) (hp:caps.all AV.pure=true)
  (ok:Nat->Bool) (hok:∀ k,ok k=true->k<1000) (ρ:Nat->Nat) (t0:List (Nat×AV)) (objs outs:Nat->List (Nat×AObj)) (Iv:Nat->Prop) (hI0:Iv 0) (hK:∀ k,∀ q∈objs k,1000<=q.1) (hinj:∀ k,((objs k).map λq=>ρ q.1).Nodup) (hinj2:∀ k,((outs k).map λq=>ρ q.1).Nodup)
  (hsub:∀ k,∀ q∈objs k,isK (outs k) q.1=true) (hnew:∀ k,∀ q∈outs k,isK (objs k) q.1=true∨(Yl ρ (objs k) st).get (ρ q.1)=none) (hnext:∀ k,Yl ρ (outs k) st=Yl ρ (objs (k+1)) st)
  (h0:Yl ρ (objs 0) st=st) (hin:∀ k,∀ q∈objs k,Yc (objs k) q.2=true)
  (ht0:∀ z∈t0,lk st.t z.1=some (z.2.ren ρ)/\z.1≠p/\z.1≠q/\∀ j,∀ k∈z.2.keys,isK (objs j) k=true)
  (hround:∀ (k:Nat) (x:AV×AV),els[k]? = some x->Iv k->∀ R':Run,R'.G=R.G->R'.N=R.N->AR P R' assign ⟨(p,x.1)::(q,x.2)::t0,objs k⟩ λe s1=>e = .normal/\∀ R'':Run,R''.G=R.G->R''.N=R.N ->
   AR P R'' body s1 (λe s2=>e = .normal/\(Yi ok s2).o=outs k/\Iv (k+1)))
  (hdone:Iv els.length->Φ .normal (Yl ρ (objs els.length) st)):AR P R (.rngf g [p,q] assign body) st Φ:=by
 intro c hc m a W hs
 cases c <;> simp only[Z1A,W05,W01,W0A]at hc
 rename_i g' ps' ca cb;obtain ⟨⟨⟨⟨hcg,hps⟩,hpn⟩,hca⟩,hcb⟩:=hc;have hpn2:p<R.N/\q<R.N:=(by simpa using hpn);have hpn:=hpn2.1;have hqn:=hpn2.2;obtain rfl:ps' = #[p,q]:=(by rw[<- W16];exact hps);rw[hrd.1];refine wpFW.2 ((wpFW (n:=3)).1 ?_);obtain ⟨κ0,hs⟩:=hs;obtain ⟨S,hS⟩ : ∃ S:Nat->St,S=λk=>Yl ρ (objs k) st:=⟨_,rfl⟩
 have hSt:∀ k,(S k).t=st.t:=λk=>by rw[hS];exact Z53 ρ _ _
 have nod:∀ k,((objs k).map λp=>ρ p.1).Nodup:=hinj
 have memK:∀ {o:List (Nat×AObj)} {q:Nat},isK o q=true->∃ x,(q,x)∈o:=λ{o q} h=>by
  obtain ⟨x,h1⟩:=W0t.1 h;exact ⟨x,Z4K h1⟩
 have injK:∀ {o:List (Nat×AObj)},(o.map λp=>ρ p.1).Nodup->∀ q q',isK o q=true->isK o q'=true->ρ q=ρ q'->q=q':=λ{o} hn q q' h1 h2 e=>by
  have m1:=Z56.1 h1;have m2:=Z56.1 h2;have:(o.map (·.1)).map ρ=o.map (λp=>ρ p.1):=(by simp[W10,W0y]);rw[<- this]at hn;exact Z57 hn m1 m2 e
 have hevg:∀ k,evA R.G (S k) g = .func (.func gf) [] caps:=λk=>by
  rw[<- hg]
  cases g <;> simp only[evA,St.tmp,hSt]
 have hv0:=hs.ev hcg;rw[hg]at hv0;obtain ⟨us0,lb,hav,hus0,hlb0⟩:=hv0.func_inv
 obtain rfl:us0 = #[]:=by
  have:=hus0.1;rw[<- W16];exact W0l.1 (by simpa using this)
 have hcaps:∀ k W κ,SK R (S k) a W κ->CP ((S k).env R.M κ).M W caps lb:=λk W κ h=>by
  have h1:=h.ev hcg;rw[hevg,hav]at h1;obtain ⟨us1,lb1,h2,-,h3⟩:=h1.func_inv;simp only[Value.func.injEq]at h2;obtain ⟨-,-,rfl⟩:=h2;exact ⟨by simpa using h3.1,λi x u hx hu=>(h3.2 i x u hx (by simpa using hu)).toPV (W03.1 hp x (W0d hx))⟩
 obtain ⟨cs0,e0,nd0,hc0,-⟩:=hs.defers
 have marks:∀ (D:Nat) (st1:St) (W1:World) (κ1:Nat->Option (Nat×Nat)),W.heap.size<=D->SK R st1 a W1 κ1->W1.heap[D]? = some (.deferred (some []))->SK R st1 { a with defers:=coll D::a.defers } W1 κ1:=λD st1 W1 κ1 hD h hd=>by
  obtain ⟨cs1,e1,nd1,hc1,-⟩:=h.defers;obtain rfl:cs1=cs0:=Z59 (List.append_cancel_right (e1.symm.trans e0));refine h.odd ⟨rfl,λb=>.inl rfl⟩ rfl rfl rfl (λb _=>rfl) rfl ⟨D::cs1,by simp[e1],W1z.2 ⟨λhm=>?_,nd1⟩,λc hm=>?_,λe=>by rw[hrd.2]at e;cases e⟩
  . have:=(W0c.1 (hc0 D hm).2).1;omega
  . rcases W0g.1 hm with rfl|hm
    . exact ⟨W0O hs.kp.size hD,hd⟩
    . exact hc1 c hm
 have put:∀ (l:Nat) (st1:St) (W1:World) (κ1:Nat->Option (Nat×Nat)) (r r':Loop),W.heap.size<=l->SK R st1 a W1 κ1->W1.heap[l]? = some (.loop r)->SK R st1 a (W1.putObj l (.loop r')) κ1:=λl st1 W1 κ1 r r' hl h hr=>by
  obtain ⟨cs1,e1,nd1,hc1,hz1⟩:=h.defers;have:=hs.kp.size;refine h.odd (.put hr trivial) rfl rfl rfl (λb hb=>World.putObj_heap_other (by omega)) rfl ⟨cs1,e1,nd1,λc hm=>⟨(hc1 c hm).1,?_⟩,hz1⟩;rw[World.putObj_heap_other (by rintro rfl;have:=(hc1 _ hm).2;rw[hr]at this;cases this)];exact (hc1 c hm).2
 have hs0:SK R (S 0) a W κ0:=by rw[hS];show SK R (Yl ρ (objs 0) st) a W κ0;rw[h0];exact hs
 refine ZiG (I:=λk M W'=>∃ κ,(M=((S k).env R.M κ).M/\Iv k)/\SK R (S k) a W' κ) (K:=λW'=>∃ s κ,Φ .ret s/\SK R s a W' κ) (M0:=((S 0).env R.M κ0).M) (caps:=caps) (els:=els) hav hit (by omega) (λk M A B h e=>h.imp λκ h=>⟨h.1,h.2.grow e⟩) (λA B ⟨s,κ,h1,h2⟩ e=>⟨s,κ,h1,h2.grow e⟩)
  (λk l M W' r r' hl ⟨κ,hM,h⟩ hr=>⟨κ,hM,put l _ _ _ r r' hl h hr⟩) (λl W' r r' hl ⟨s,κ,h1,h⟩ hr=>⟨s,κ,h1,put l _ _ _ r r' hl h hr⟩) (λk M A ⟨κ,⟨hM,_⟩,h⟩=>?_) (λk M A ⟨κ,⟨hM,_⟩,h⟩=>hM ▸ h.gr) (hcaps 0 W κ0 hs0) ⟨κ0,⟨rfl,hI0⟩,hs0⟩ ?_ ?_ ?_
 . subst hM;refine ⟨λb hb=>h.owned_lt hb,λb o hb ho hodd hM=>?_⟩;rcases hM with hM | ⟨q,s,hq⟩
   . have:=h.low b hM;have:=hs.kp.size;omega
   . exact h.notOdd hq ho hodd
 . intro l k m x u v M W1 lr hl hI hlr hx hxu hxv;obtain ⟨κ,⟨rfl,hIk⟩,h⟩:=hI
   have enterAt:∀ W',SK R (S k) a W' κ->SK (rC (objs k) ρ R (S k) κ W') (obSt (objs k)) noAct W' (kC (objs k) ρ κ)/\∀ (x:AV) (v:Value),inK (objs k) x->VR ((S k).env R.M κ) W' (x.ren ρ) v->VR ((obSt (objs k)).env (mC (objs k) ρ R (S k) κ) (kC (objs k) ρ κ)) W' x v:=λW' h =>
    Z50 h (λq hq=>by obtain ⟨x,hx⟩:=memK hq;exact hK k _ hx) (injK (hinj k)) (λq o hq=>by rw[hS];exact Z55 ρ _ _ q o (nod k) hq)
     (λq o hq=>by
      have h2:=hin k (q,o) (Z4K hq);have kept:∀ x,Ya (objs k) x=true->inK (objs k) x:=λx hx k' hk'=>W03.1 hx k' hk'
      cases o with
      |box cells=>exact λx hx=>kept x (W03.1 h2 x hx)
      |row sz rows=>exact λr hr x hx=>kept x (W03.1 (W03.1 h2 r hr) x hx)
      | mp kvs =>
        intro p hp;have:=W03.1 h2 p hp;simp only[W01]at this;exact ⟨kept _ this.1,kept _ this.2⟩)
   obtain ⟨h1,conv⟩:=enterAt W1 h
   have hXo:∀ W',SK R (S k) a W' κ->∀ b,(rC (objs k) ρ R (S k) κ W').X b->∀ o,W'.heap[b]? = some o->¬Odd o:=λW' h b ⟨q,s,hq⟩ o ho hodd=>by
    simp only[kC]at hq
    split at hq
    . exact h.notOdd hq ho hodd
    . cases hq
   have hMM:∀ b,((obSt (objs k)).env (mC (objs k) ρ R (S k) κ) (kC (objs k) ρ κ)).M b->((S k).env R.M κ).M b:=λb hb=>by
    rcases hb with hb | ⟨q,s,hq⟩
    . exact hb.1
    . simp only[kC]at hq
      split at hq
      . exact .inr ⟨ρ q,s,hq⟩
      . cases hq
   let R1:Run:={ rC (objs k) ρ R (S k) κ W1 with N:=R.N,rd:=some l }
   have hN:R.N=a.tmps.size:=h.size.symm
   have start:SK R1 ⟨(p,x.1)::(q,x.2)::t0,objs k⟩ { tmps:=(a.tmps.setIfInBounds p u).setIfInBounds q v,defers:=[] } W1 (kC (objs k) ρ κ):=by
    refine ⟨.nil _ _ _ _,by show ((a.tmps.setIfInBounds p u).setIfInBounds q v).size=R.N;simp[hN],λn y hy=>?_,h1.obj,h1.dom,h1.inj,h1.low,h1.apart,h1.kp,h1.gr,h1.mono,h1.ent⟩;have hy:lk ((p,x.1)::(q,x.2)::t0) n=some y:=hy;show VR ((obSt (objs k)).env (mC (objs k) ρ R (S k) κ) (kC (objs k) ρ κ)) W1 y (((a.tmps.setIfInBounds p u).setIfInBounds q v).getD n Go.undef);have hlt:p<a.tmps.size:=(by rw[<- hN];exact hpn);have hlq:q<a.tmps.size:=(by rw[<- hN];exact hqn);simp only[lk]at hy
    split at hy
    . rename_i e;subst e;obtain rfl:x.1=y:=(by simpa using hy);have e:((a.tmps.setIfInBounds p u).setIfInBounds q v).getD p Go.undef=u:=(by simp[W0a,W0p,Ne.symm hpq,hlt]);rw[e];exact .pv (hxu.mono (λb _ hb=>⟨λhb'=>hb (hMM b hb'),rfl⟩) (W0f _))
    . rename_i e0
      split at hy
      . rename_i e;subst e;obtain rfl:x.2=y:=(by simpa [hpq] using hy);have e:((a.tmps.setIfInBounds p u).setIfInBounds q v).getD q Go.undef=v:=(by simp[W0a,W0p,hlq]);rw[e];exact .pv (hxv.mono (λb _ hb=>⟨λhb'=>hb (hMM b hb'),rfl⟩) (W0f _))
      . rename_i e
        have e2:((a.tmps.setIfInBounds p u).setIfInBounds q v).getD n Go.undef=a.tmps.getD n Go.undef:=by
         simp only[W0a,W0p,if_neg e,if_neg e0]
        rw[e2];obtain ⟨g1,g2,g3,g5⟩:=ht0 (n,y) (Z4K hy);have g4:=h.tm n (y.ren ρ) (by show lk (S k).t n=_;rw[hSt];exact g1);exact conv y _ (λq hq=>g5 k q hq) g4
   refine wpIn_mono (hround k x hx hIk R1 rfl rfl ca hca m _ W1 ⟨_,start⟩) ?_;rintro e a1 W2 ⟨s1,⟨rfl,hbody⟩,κ1,h2⟩;refine ⟨λb o hb ho=>h2.keepOdd (hXo W1 h) hb ho,?_⟩;have hl2:W2.heap[l]? = some (.loop lr):=h2.keepOdd (hXo W1 h) hlr trivial;have h3:=SK.both rfl h2 (o':=.loop { lr with state:=.busy }) hl2 hlr;have hb:=put l _ W1 κ lr { lr with state:=.busy } hl h hlr;refine wpIn_mono (hbody { R1 with W0:=W1.putObj l (.loop { lr with state:=.busy }) } rfl rfl cb hcb m _ _ ⟨_,h3⟩) ?_;rintro e a2 W3 ⟨s2,hrnd,hs2⟩
   have hodd:∀ κ2,SK { R1 with W0:=W1.putObj l (.loop { lr with state:=.busy }) } s2 a2 W3 κ2->(∀ (b:Nat) (o:Obj),W1.heap[b]? = some o->Odd o->b≠l->W3.heap[b]? = some o)/\W3.heap[l]? = some (.loop { lr with state:=.busy }):=λκ2 h4 =>
    ⟨λb o hb1 ho hne=>h4.keepOdd (hXo _ hb) ((World.putObj_heap_other hne).trans hb1) ho,
     h4.keepOdd (hXo _ hb) (o:=.loop { lr with state:=.busy }) (World.putObj_heap_same (W0c.1 hlr).1) trivial⟩
   have leave:(Yi ok s2).o=outs k->∃ κ3,SK R (Yl ρ (outs k) st) a W3 κ3/\Mono ((S k).env R.M κ) (W1.putObj l (.loop { lr with state:=.busy })) ((Yl ρ (outs k) st).env R.M κ3) W3:=λhe=>by
    obtain ⟨κ2,h4⟩:=Ym.frz ok s2 (λk hk=>by
     cases e:ok k
     . rfl
     . have:=hok k e;omega) _ a2 W3 hs2
    have g:=h4.sub (t':=[]) (λn x hx=>by simp[lk]at hx);have e:({ Yi ok s2 with t:=[] }:St)=obSt (outs k):=(by rw[<- he];rfl);rw[e]at g
    have g2:SK (rC (objs k) ρ R (S k) κ (W1.putObj l (.loop { lr with state:=.busy }))) (obSt (outs k)) noAct W3 κ2 :=
     ⟨.nil _ _ _ _,rfl,λn x hx=>by simp[obSt,St.tmp,lk]at hx,g.obj,g.dom,g.inj,g.low,g.apart,g.kp,g.gr,g.mono,g.ent⟩
    obtain ⟨κ3,h5,h6,-⟩:=Z5k hb (objs':=outs k) (st1:=Yl ρ (outs k) st) (injK (hinj2 k)) (λq o hq=>by rw[hS];exact Z55 ρ _ _ q o (nod k) hq)
     (λq hq=>by obtain ⟨x,hx⟩:=memK hq;exact hsub k _ hx)
     (λq h1 h2=>by
      obtain ⟨x,hx⟩:=memK h1;rcases hnew k _ hx with h3|h3
      . rw[h2]at h3;cases h3
      . rw[hS];exact h3) g2 ((Z53 ρ _ _).trans (hSt k).symm) (λq o hq=>Z55 ρ _ _ q o (hinj2 k) hq)
     (λj hj=>by
      have o1:(Yl ρ (outs k) st).get j=st.get j:=Z54 ρ j _ _ λq hq=>hj q.1 (Z56.2 (W0i.2 ⟨q,hq,rfl⟩))
      have o2:(Yl ρ (objs k) st).get j=st.get j:=Z54 ρ j _ _ λq hq=>hj q.1 (hsub k q hq)
      rw[hS];exact o1.trans o2.symm)
    exact ⟨κ3,h5,h6⟩
   obtain ⟨κ2,h4⟩:=id hs2;refine ⟨hodd κ2 h4,?_⟩;obtain ⟨rfl,hro,hri⟩:=hrnd;obtain ⟨κ3,h5,h6⟩:=leave hro;rw[hnext k]at h5 h6;refine .inl ⟨rfl,_,⟨κ3,⟨rfl,hri⟩,by rw[hS];exact h5⟩,by have:=h6.size;simpa using this,λb hb1 hM=>?_⟩;obtain ⟨g1,g2⟩:=h6.imm b (by simpa using hb1) hM;exact ⟨by rw[hS];exact g1,λhne=>g2.trans (World.putObj_heap_other hne)⟩
 . rintro D M W1 hD ⟨κ,⟨-,hIk⟩,h⟩ hd;refine ⟨_,?_,κ,marks D _ _ _ hD h hd⟩;rw[hS];exact hdone hIk
 . rintro D W1 hD ⟨s,κ,h1,h⟩ hd;exact ⟨s,h1,κ,marks D _ _ _ hD h hd⟩
end
structure ItH (G:Jg) (J:Nat->(Nat->Prop)->World->Prop) (K:World->Prop):Prop where
 je:∀ k M A B,J k M A->Ext A B->J k M B
 ke:∀ A B,K A->Ext A B->K B
 jm:∀ k M A,J k M A->∀ b,M b->b<A.heap.size
 jg:∀ k M A,J k M A->GR G M A
def ItS (G:Jg) (N:Nat) (J:Nat->(Nat->Prop)->World->Prop) (k:Nat) (st:St) (a:Act) (A:World):Prop:=∃ M A0,J k M A0/\SR (Zgy G M A0 N none) st a A
def ItQ (G:Jg) (N:Nat) (J:Nat->(Nat->Prop)->World->Prop) (K:World->Prop) (Φ:Exit->Nat->St->Prop) (e:Exit) (a:Act) (A:World):Prop :=
 (∃ k st,Φ e k st/\ItS G N J k st a A)∨(e = .ret/\K A/\a.defers=[])
def ItW (P:Program) (G:Jg) (N n:Nat) (J:Nat->(Nat->Prop)->World->Prop) (K:World->Prop) (rc:RCode) (k:Nat) (st:St) (Φ:Exit->Nat->St->Prop):Prop :=
 ∀ c,Z1A P N c rc=true->∀ a A,ItS G N J k st a A->c.wpIn (FW none) n P (ItQ G N J K Φ) a A
def YOK (P:Program) (n l:Nat) (J:Nat->(Nat->Prop)->World->Prop) (K:World->Prop) (els:List (List AV)):Prop :=
 ∀ (k:Nat) (xs:List AV) (us:Array Value) (M:Nat->Prop) (A:World),J k M A->els[k]? = some xs->CP M A xs us ->
   YieldAt Fence.wide n P l us A λe A'=>(e = .returned (.bool true)/\∃ M',J (k+1) M' A'/\Since M A M' A')∨(e = .returned (.bool false)/\K A')
def PV.flatW {M M':Nat->Prop} {W W':World} {x:AV} {v:Value} (h:PV M W x v):x.flat=true->PV M' W' x v:=by
 induction h with
 |hole=>exact λ_=>.hole
 |int k n=>exact λ_=>.int k n
 |bool b=>exact λ_=>.bool b
 |abool b=>exact λ_=>.abool b
 |str s=>exact λ_=>.str s
 |nilp=>exact λ_=>.nilp
 |nils=>exact λ_=>.nils
 |nilm=>exact λ_=>.nilm
 |nilf=>exact λ_=>.nilf
 |nes a c h=>exact λ_=>.nes a c h
 | agg xs us h1 hx ih =>
   intro h;simp only[AV.flat,W03,W0V,W1B,W1n]at h;exact .agg xs us h1 (λi x u hi hu=>ih i x u hi hu (h x (W0d hi)))
 | tup xs us h1 hx ih =>
   intro h;simp only[AV.flat,W03,W0V,W1B,W1n]at h;exact .tup xs us h1 (λi x u hi hu=>ih i x u hi hu (h x (W0d hi)))
 |_=>intro h;simp[AV.flat]at h
def ZiI {P:Program} {R:Run} {st:St} {a:Act} {W:World} {κ:Nat->Option (Nat×Nat)} {rd:Option Nat} {m:Nat} {ops:Array Oper} {r:ROper} {j l:Nat} {o:Oper} {f:RA} {ys:List RA} {K:Act->World->Prop} {Q:Exit->Act->World->Prop}
  (hr:r.op = .callv f ys) (hf:evA R.G st f = .func (.yield l) [] []) (hw:wants st r.guard=some true) (ho:ops[j]? = some o) (hk:Z1z P R.N ops o r=true) (hκ:SK R st a W κ)
  (hc:∀ us:Array Value,us.size=ys.length->(∀ (i:Nat) (y:RA) (u:Value),ys[i]? = some y->us[i]? = some u->VR (st.env R.M κ) W (evA R.G st y) u)->YieldAt (FW rd) (m-1) P l us W fun
   |.returned v,W'=>K (a.put o.dst v) W'
   |.panicked ch,W'=>Q (.panic ch) a W'
   |.outgrown,_=>LetsOut Q):wpOpIn (FW rd) m P ops Q j K a W:=by
 simp only[Z1z,W01,W0b]at hk;obtain ⟨⟨⟨hd,hdn⟩,hop⟩,hg⟩:=hk;unfold wpOpIn;simp only[ho];rw[if_pos (Z20 hκ hg hw)];rw[hr]at hop;simp only[Z1y,if_true,Z1x]at hop
 split at hop <;> try (simp at hop;done)
 . simp_all
 . simp_all
 . rename_i r0 x xs ats y' ys e1 e2;simp only[W01]at hop;simp only[ROp.callv.injEq]at e2;obtain ⟨rfl,rfl⟩:=e2;have hx:=hκ.ev hop.1;rw[hf]at hx;obtain ⟨us,vs,hv1,hv2,hv3⟩:=hx.func_inv
   obtain rfl:us = #[]:=by
    have:=hv2.1;rw[<- W16];exact W0l.1 (by simpa using this)
   obtain rfl:vs = #[]:=by
    have:=hv3.1;rw[<- W16];exact W0l.1 (by simpa using this)
   obtain ⟨hl,ha⟩:=Zc hop.2
   obtain ⟨fn,tmps,assign,body,h1,h2⟩:=hc ((⟨xs⟩ : Array Operand).map a.eval) (by simpa using hl) (λi y u hy hu=>by
    have hi:i<xs.length:=by
     have:=(W0c.1 hu).1;simpa using this
    have hu2:u=a.eval xs[i]:=by
     have:=(W0c.1 hu).2;simpa using this.symm
    rw[hu2];exact hκ.ev (ha i _ y (W07 hi) hy))
   refine ⟨λ_ _=>trivial,?_⟩;rw[Oper.semAt_eq _ _ _ (λc e=>by rw[e1]at e;cases e)]
   have:(execOp a.eval o).run P W = .ok (.round l fn tmps assign body) W:=by
    rw[<- h1];simp[execOp,e1,resolve,hv1,Deferred.ofValue,invoke,Sem.run_bind]
   rw[this];exact ⟨Z24,h2⟩
section
variable {P:Program} {G:Jg} {N n l:Nat} {J:Nat->(Nat->Prop)->World->Prop} {K:World->Prop} {k:Nat} {st:St} {Φ Ψ:Exit->Nat->St->Prop} {rc:RCode}
def ZiJ (h:ItW P G N n J K rc k st Φ) (hm:∀ e k t,Φ e k t->Ψ e k t):ItW P G N n J K rc k st Ψ:=λc hc a A hs =>
 wpIn_mono (h c hc a A hs) λ_ _ _ q=>q.imp (λ⟨k,t,h1,h2⟩=>⟨k,t,hm _ _ _ h1,h2⟩) id
def ZiK (h:∀ M A,AR P (Zgy G M A N none) rc st λe s=>∃ s',Φ e k s'/\Ym s s'):ItW P G N n J K rc k st Φ:=by
 rintro c hc a A ⟨M,A0,hJ,hs⟩;refine wpIn_mono (h M A0 c hc n a A hs) ?_;rintro e a' A' ⟨s,⟨s',hΦ,hw⟩,hs'⟩;exact .inl ⟨k,s',hΦ,M,A0,hJ,hw _ _ _ hs'⟩
def ZiL {a b:RCode} (h:ItW P G N n J K a k st λe k' t'=>match e with | .normal=>ItW P G N n J K b k' t' Φ|e=>Φ e k' t'):ItW P G N n J K (.seq a b) k st Φ:=by
 intro c hc x A hs;obtain ⟨c1,c2,rfl,h1,h2⟩:=Zb3 hc;refine wpIn_seq (wpIn_mono (h c1 h1 x A hs) ?_);rintro e a' A' (⟨k',t',hΦ,hs'⟩ | ⟨rfl,hK,hd⟩)
 . cases e with
   |normal=>exact hΦ c2 h2 a' A' hs'
   |_=>exact .inl ⟨k',t',hΦ,hs'⟩
 . exact .inr ⟨rfl,hK,hd⟩
def ZiM {a b:RCode} (h:ItW P G N n J K a k st λe k' t'=>e = .normal/\ItW P G N n J K b k' t' Φ):ItW P G N n J K (.seq a b) k st Φ :=
 ZiL (ZiJ h λe k t ⟨he,h⟩=>by subst he;exact h)
def ZiN {a b:RCode} (st':St) (h:∀ M A,AR P (Zgy G M A N none) a st λe s=>e = .normal/\Ym s st') (hb:ItW P G N n J K b k st' Φ):ItW P G N n J K (.seq a b) k st Φ :=
 ZiM (ZiK λM A=>Z2I (h M A) λe s ⟨he,hw⟩=>⟨st',⟨he,hb⟩,hw⟩)
def ZiO {a:RCode} (e0:Exit) (st':St) (h:∀ M A,AR P (Zgy G M A N none) a st λe s=>e=e0/\Ym s st') (hb:Φ e0 k st'):ItW P G N n J K a k st Φ :=
 ZiK λM A=>Z2I (h M A) λe s ⟨he,hw⟩=>⟨st',he ▸ hb,hw⟩
def ItBk (id:Nat) (Φ:Exit->Nat->St->Prop):Exit->Nat->St->Prop
 |.exit id',k,t=>if id'=id then Φ .normal k t else Φ (.exit id') k t
 |e,k,t=>Φ e k t
def ZiP {id:Nat} {a:RCode} (h:ItW P G N n J K a k st (ItBk id Φ)):ItW P G N n J K (.block id a) k st Φ:=by
 intro c hc x A hs;obtain ⟨c1,rfl,h1⟩:=Zb4 hc;refine wpIn_block (wpIn_mono (h c1 h1 x A hs) ?_);rintro e a' A' (⟨k',t',hΦ,hs'⟩ | ⟨rfl,hK,hd⟩)
 . cases e
   case exit j =>
    simp only[ItBk,Exit.inBlock]at *
    split at hΦ
    . rename_i e;rw[if_pos e];exact .inl ⟨k',t',hΦ,hs'⟩
    . rename_i e;rw[if_neg e];exact .inl ⟨k',t',hΦ,hs'⟩
   all_goals exact .inl ⟨k',t',hΦ,hs'⟩
 . exact .inr ⟨rfl,hK,hd⟩
def ZiQ {α:Type} {b:RCode} (kf:α->Nat) (tf:α->St) (I:α->Prop) (μ:α->Nat) (x0:α) (h0:kf x0=k) (ht:tf x0=st) (hi:I x0)
  (hr:∀ x,I x->ItW P G N n J K b (kf x) (tf x) λe k' t'=>match e with | .normal=>∃ y,kf y=k'/\tf y=t'/\I y/\μ y<μ x|e=>Φ e k' t'):ItW P G N n J K (.loop b) k st Φ:=by
 intro c hc x A hs;obtain ⟨c1,rfl,h1⟩:=Zb5 hc;subst h0;subst ht;refine wpIn_loop_ghost (λm a A=>∃ x,I x/\m=μ x/\ItS G N J (kf x) (tf x) a A) (μ x0) ⟨x0,hi,rfl,hs⟩ ?_;rintro m a A ⟨x,hx,rfl,hs⟩;refine wpIn_mono (hr x hx c1 h1 a A hs) ?_;rintro e a' A' (⟨k',t',hΦ,hs'⟩ | ⟨rfl,hK,hd⟩)
 . cases e with
   | normal =>
     obtain ⟨y,rfl,rfl,hy,hm⟩:=hΦ;exact ⟨μ y,hm,y,hy,rfl,hs'⟩
   |_=>exact .inl ⟨k',t',hΦ,hs'⟩
 . exact .inr ⟨rfl,hK,hd⟩
def ZiR (H:ItH G J K) {els:List (List AV)} (hY:YOK P (n-1) l J K els) {id d:Nat} {gd:Option (Nat×Bool)} {pre post:List ROper} {f:RA} {ys:List RA} {rest:RCode} {xs:List AV} {t1 tf tF:List (Nat×AV)} {st2:St}
  (hdN:d<N) (hx:els[k]? = some xs) (hpx:∀ x∈xs,x.pure=true) (hp1:∀ q∈t1,q.2.pure=true)
  (hpre:RW P G pre st λe s=>e = .normal/\Ym s ⟨t1,[]⟩) (hw:wants ⟨t1,[]⟩ gd=some true) (hf:evA G ⟨t1,[]⟩ f = .func (.yield l) [] []) (hy:ys.map (evA G ⟨t1,[]⟩)=xs)
  (hpost:RW P G post ⟨(d,.bool true)::t1,[]⟩ λe s=>e = .normal/\Ym s st2) (hrest:ItW P G N n J K rest (k+1) st2 Φ)
  (htf:∀ q∈tf,lk t1 q.1=some q.2/\q.2.flat=true) (hpostF:RW P (λ_=>none) post ⟨(d,.bool false)::tf,[]⟩ λe s=>e = .normal/\Ym s ⟨tF,[]⟩)
  (hrestF:∀ A,AR P (Zgy (λ_=>none) (λ_=>False) A N none) rest ⟨tF,[]⟩ λe s=>e = .ret/\Ym s ⟨[],[]⟩) :
  ItW P G N n J K (.seq (.reg id false (pre++{ d:=some d,op:=.callv f ys,guard:=gd }::post)) rest) k st Φ:=by
 rintro c hc a A ⟨M,A0,hJ,hs0⟩;obtain ⟨c1,c2,rfl,hc1,hc2⟩:=Zb3 hc;obtain ⟨ops,rfl,hops⟩:=Zb6 hc1;obtain ⟨hol,hoo⟩:=Zc hops
 have hol:ops.size=pre.length+(1+post.length):=by
  have:ops.toList.length=ops.size:=rfl;rw[<- this,hol];simp;omega
 refine wpIn_seq (wpIn_region ?_)
 have okAt:∀ (i:Nat) (r:ROper),(pre++{ d:=some d,op:=.callv f ys,guard:=gd }::post)[i]? = some r->∃ o,ops[i]? = some o/\Z1z P N ops o r=true:=λi r hi=>by
  have hlt:i<ops.size:=by
   have:=(W02.1 hi).1;rw[hol];simp at this;omega
  exact ⟨ops[i],by simp[hlt],hoo i _ r (by simp[hlt]) hi⟩
 have hrg:List.range ops.size=List.range pre.length++(pre.length::(List.range post.length).map (λi=>pre.length+1+i)):=by
  rw[hol,List.range_add,List.range_add];simp[W1y,W0y,W1v]
 rw[hrg];refine Zb7 (R:=Zgy G M A0 N none) _ _ pre st (λs=>Ym s ⟨t1,[]⟩) a A ?_ (by simp) ?_ hpre hs0
 . intro i r hi;have hlt:=(W02.1 hi).1;obtain ⟨o,h1,h2⟩:=okAt i r (by rw[W0E hlt];exact hi);exact ⟨i,o,by simp[hlt],h1,h2⟩
 intro s4 b4 B4 w4 hs4;obtain ⟨κ4,hk4⟩:=w4 _ _ _ hs4;obtain ⟨d4,n4,t4,e4⟩:=endG hs4 w4 hp1;obtain ⟨o2,ho2,hk2⟩:=okAt pre.length { d:=some d,op:=.callv f ys,guard:=gd } (by rw[W0o (W0f _)];simp);rw[wpOpsIn_cons];refine ZiI (R:=Zgy G M A0 N none) (l:=l) (f:=f) (ys:=ys) rfl hf hw ho2 hk2 hk4 λus hus hval=>?_
 have hcp:CP M B4 xs us:=by
  refine ⟨by rw[hus,<- hy,W0N],λi x u hi hu=>?_⟩
  have hlt:i<ys.length:=by
   have:=(W02.1 hi).1;rw[<- hy,W0N]at this;exact this
  have h1:=hval i ys[i] u (W07 hlt) hu
  have hxe:evA G ⟨t1,[]⟩ ys[i]=x:=by
   rw[<- hy,W09,W07 hlt]at hi;simpa using hi
  rw[show evA (Zgy G M A0 N none).G ⟨t1,[]⟩ ys[i]=x from hxe]at h1;exact (h1.toPV (hpx x (W0d hi))).mono (λb _ hb=>⟨λh=>hb (.inl h),rfl⟩) (W0f _)
 have hdst:o2.dst=some d:=by
  simp only[Z1z,W01,W0b]at hk2;exact hk2.1.1.1
 have suffix:∀ (b:Bool) (T:List (Nat×AV)) (st2:St) (G':Jg) (M':Nat->Prop) (A':World),GR G' M' A'->(∀ x,M' x->x<A'.heap.size)->TT' M' A' T b4 ->
   RW P G' post ⟨(d,.bool b)::T,[]⟩ (λe s=>e = .normal/\Ym s st2)->∀ (Qx:Exit->Act->World->Prop),
    (∀ a5 A5,SR (Zgy G' M' A' N none) st2 a5 A5->Qx .normal a5 A5)->wpOpsIn (FW none) n P ops Qx ((List.range post.length).map (λi=>pre.length+1+i)) (b4.put (some d) (.bool b)) A':=by
  intro b T st2 G' M' A' hGR hM' hT hrw Qx hQx
  have hsr:SR (Zgy G' M' A' N none) ⟨(d,.bool b)::T,[]⟩ (b4.put (some d) (.bool b)) A':=by
   refine Zgz hGR hM' d4 (by simpa [Act.put] using n4) λk x hx=>?_
   show PV M' A' x ((b4.tmps.setIfInBounds d (.bool b)).getD k Go.undef);simp only[lk]at hx
   split at hx
   . rename_i e;subst e
     cases hx
     have:(b4.tmps.setIfInBounds d (.bool b)).getD d Go.undef = .bool b:=(by simp[Array.getD,n4,hdN]);rw[this];exact .bool b
   . rename_i e
     have h3:(b4.tmps.setIfInBounds d (.bool b)).getD k Go.undef=b4.tmps.getD k Go.undef:=by
      simp only[W0a,W0p,if_neg e]
     rw[h3];exact hT k x hx
  refine Z27 (R:=Zgy G' M' A' N none) _ post ⟨(d,.bool b)::T,[]⟩ (λe s=>e = .normal/\Ym s st2) Qx _ A' ?_ (by simp) ?_ hrw hsr
  . intro i r hi;have hlt:=(W02.1 hi).1
    obtain ⟨o,h1,h2⟩:=okAt (pre.length+1+i) r (by
     rw[W0o (by omega),show pre.length+1+i-pre.length=i+1 by omega];simpa using hi)
    exact ⟨pre.length+1+i,o,by simp[hlt],h1,h2⟩
  . rintro e s5 a5 A5 ⟨rfl,w5⟩ hs5;exact hQx a5 A5 (w5 _ _ _ hs5)
 obtain ⟨fn,tm,asg,bo,y1,y2⟩:=hY k xs us M B4 (H.je _ _ _ _ hJ e4) hx hcp;refine ⟨fn,tm,asg,bo,y1,y2.mono ?_⟩;rintro e A' (⟨rfl,M',hJ',hSi⟩ | ⟨rfl,hK'⟩)
 . show wpOpsIn (FW none) n P ops _ _ (b4.put o2.dst (.bool true)) A';rw[hdst];have hT':TT' M' A' t1 b4:=λk x hx=>(t4 k x hx).mono hSi.2 hSi.1
   exact suffix true t1 st2 G M' A' (H.jg _ _ _ hJ') (H.jm _ _ _ hJ') hT' hpost _ λa5 A5 h5=>hrest c2 hc2 a5 A5 ⟨M',A',hJ',h5⟩
 . show wpOpsIn (FW none) n P ops _ _ (b4.put o2.dst (.bool false)) A';rw[hdst]
   refine suffix false tf ⟨tF,[]⟩ (λ_=>none) (λ_=>False) A' (λg cs hg=>by cases hg) (λ_ h=>h.elim) (λk x hx=>by
    obtain ⟨g1,g2⟩:=htf (k,x) (Z4K hx);exact (t4 k x g1).flatW g2) hpostF _ λa5 A5 h5=>?_
   refine wpIn_mono (hrestF A' c2 hc2 n a5 A5 h5) ?_;rintro e b6 B6 ⟨s6,⟨rfl,w6⟩,hs6⟩;obtain ⟨d6,-,-,e6⟩:=endG hs6 w6 (by simp);exact .inr ⟨rfl,H.ke _ _ hK' e6,d6⟩
def ZiS (H:ItH G J K) {els:List (List AV)} (hY:YOK P (n-1) l J K els) {id d:Nat} {gd:Option (Nat×Bool)} {rs:List ROper} (i:Nat) {f:RA} {ys:List RA} (hri:rs[i]? = some { d:=some d,op:=.callv f ys,guard:=gd }) {rest:RCode} {xs:List AV} (t1:List (Nat×AV)) (st2:St) (tf tF:List (Nat×AV))
  (hdN:d<N) (hx:els[k]? = some xs) (hpx:∀ x∈xs,x.pure=true) (hp1:∀ q∈t1,q.2.pure=true)
  (hpre:RW P G (rs.take i) st λe s=>e = .normal/\Ym s ⟨t1,[]⟩) (hw:wants ⟨t1,[]⟩ gd=some true) (hf:evA G ⟨t1,[]⟩ f = .func (.yield l) [] []) (hy:ys.map (evA G ⟨t1,[]⟩)=xs)
  (hpost:RW P G (rs.drop (i+1)) ⟨(d,.bool true)::t1,[]⟩ λe s=>e = .normal/\Ym s st2) (hrest:ItW P G N n J K rest (k+1) st2 Φ)
  (htf:∀ q∈tf,lk t1 q.1=some q.2/\q.2.flat=true) (hpostF:RW P (λ_=>none) (rs.drop (i+1)) ⟨(d,.bool false)::tf,[]⟩ λe s=>e = .normal/\Ym s ⟨tF,[]⟩)
  (hrestF:∀ A,AR P (Zgy (λ_=>none) (λ_=>False) A N none) rest ⟨tF,[]⟩ λe s=>e = .ret/\Ym s ⟨[],[]⟩):ItW P G N n J K (.seq (.reg id false rs) rest) k st Φ:=by
 have e:rs=rs.take i++{ d:=some d,op:=.callv f ys,guard:=gd }::rs.drop (i+1):=by
  obtain ⟨hi,h⟩:=W02.1 hri;rw[<- h,<- W0x hi,W11]
 rw[e];exact ZiR H hY hdN hx hpx hp1 hpre hw hf hy hpost hrest htf hpostF hrestF
end
def ZiT {P:Program} {gf:Nat} {fn:Func} (hf:P.funcs[gf]? = some fn) (hE:entB P gf=true) {rc:RCode} (hb:(match fn.body with|some c=>Z1A P fn.ntmps c rc|none=>false)=true) (hr:fn.results = #[])
  {G:Jg} {caps:List AV} {els:List (List AV)} (hn:caps.length+1<=fn.ntmps)
  (h:∀ (n l:Nat) (J:Nat->(Nat->Prop)->World->Prop) (K:World->Prop),2<=n->ItH G J K->YOK P (n-1) l J K els ->
   ItW P G fn.ntmps n J K rc 0 ⟨iniT 0 (.func (.yield l) [] []::caps),[]⟩ λe k s=>(e = .ret∨e = .normal)/\k=els.length/\Ym s ⟨[],[]⟩) :
  entB P gf=true/\∀ (n l:Nat) (lb:Array Value) (J:Nat->(Nat->Prop)->World->Prop) (K:World->Prop) (M:Nat->Prop) (W:World),2<=n->ItH G J K->CP M W caps lb->YOK P (n-1) l J K els ->
   J 0 M W->CallsIn Fence.wide n P gf (#[.func (.yield l) #[] #[]]++lb) W λe W'=>(∃ v,e = .returned v)/\((∃ M,J els.length M W')∨K W'):=by
 refine ⟨hE,λn l lb J K M W hn2 H hC hY hJ0=>?_⟩
 obtain ⟨c,hc⟩ : ∃ c,fn.body=some c:=by
  cases e:fn.body with
  |none=>rw[e]at hb;cases hb
  |some c=>exact ⟨c,rfl⟩
 rw[hc]at hb;have hb:Z1A P fn.ntmps c rc=true:=hb;refine callsIn_of_wp (F:=Fence.wide) hf hc trivial ?_ rfl
 have hres:∀ (tm:Array Value) (W':World),(results fn tm).run P W' = .ok (.tuple #[]) W':=λtm W'=>by
  simp[results,hr,Sem.run_bind]
 have hwide:Fence.wide=FW none:=rfl;rw[hwide];have hsz:lb.size=caps.length:=hC.1
 have hs0:ItS G fn.ntmps J 0 ⟨iniT 0 (.func (.yield l) [] []::caps),[]⟩ { tmps:=(#[.func (.yield l) #[] #[]]++lb:Array Value)++Array.replicate (fn.ntmps-(#[.func (.yield l) #[] #[]]++lb:Array Value).size) Go.undef,defers:=[] } W:=by
  refine ⟨M,W,hJ0,Zgz (H.jg _ _ _ hJ0) (H.jm _ _ _ hJ0) rfl (by simp;omega) λk x hx=>?_⟩
  have hini:∀ (xs:List AV) (m k:Nat) (x:AV),lk (iniT m xs) k=some x->m<=k/\xs[k-m]? = some x:=by
   intro xs
   induction xs with
   |nil=>intro m k x h;simp[iniT,lk]at h
   | cons y ys ih =>
     intro m k x h;simp only[iniT,lk]at h
     split at h
     . rename_i e;subst e;cases h;exact ⟨W0f _,by simp⟩
     . obtain ⟨h1,h2⟩:=ih (m+1) k x h;refine ⟨by omega,?_⟩;rw[show k-m=(k-(m+1))+1 by omega];simpa using h2
  obtain ⟨-,h2⟩:=hini _ 0 k x hx;rw[W1W]at h2
  cases k with
  | zero =>
    have h3:AV.func (.yield l) [] []=x:=(by simpa using h2);subst h3
    have g0:((#[.func (.yield l) #[] #[]]++lb:Array Value)++Array.replicate (fn.ntmps-(#[.func (.yield l) #[] #[]]++lb:Array Value).size) Go.undef).getD 0 Go.undef = .func (.yield l) #[] #[]:=by
     rw[W0a,W26 (by simp;omega),W26 (by simp)];rfl
    rw[g0];exact .func _ [] [] #[] #[] rfl rfl (by simp) (by simp)
  | succ k =>
    have h3:caps[k]? = some x:=(by simpa using h2);have hk:k<lb.size:=by rw[hsz];exact (W02.1 h3).1
    have g1:((#[.func (.yield l) #[] #[]]++lb:Array Value)++Array.replicate (fn.ntmps-(#[.func (.yield l) #[] #[]]++lb:Array Value).size) Go.undef).getD (k+1) Go.undef=lb[k]:=by
     rw[W0a,W26 (by simp;omega),Array.getElem?_append_right (by simp)];simp[hk]
    rw[g1];exact hC.2 k x lb[k] h3 (by simp[hk])
 refine wpIn_mono (h n l J K hn2 H hY c hb _ W hs0) ?_;rintro e a A (⟨k,t,⟨he,rfl,hw⟩,M',A',hJ',hs⟩ | ⟨rfl,hK,hd⟩)
 . obtain ⟨hd,-,-,e'⟩:=endG hs hw (by simp);rcases he with rfl|rfl
   . exact ⟨hd,_,hres _ _,⟨_,rfl⟩,.inl ⟨M',H.je _ _ _ _ hJ' e'⟩⟩
   . exact ⟨hd,_,hres _ _,⟨_,rfl⟩,.inl ⟨M',H.je _ _ _ _ hJ' e'⟩⟩
 . exact ⟨hd,_,hres _ _,⟨_,rfl⟩,.inr hK⟩
def ZiU {M:Nat->Prop} {W:World} {x y:AV} {us:Array Value} (h:CP M W [x,y] us):∃ u v,us = #[u,v]/\PV M W x u/\PV M W y v:=by
 obtain ⟨h1,h2⟩:=h
 match us,h1,h2 with
 | ⟨[u,v]⟩,_,h2=>exact ⟨u,v,rfl,h2 0 x u rfl rfl,h2 1 y v rfl rfl⟩
def ZiV {P:Program} {gf:Nat} {fn:Func} (hf:P.funcs[gf]? = some fn) (hE:entB P gf=true) {rc:RCode} (hb:(match fn.body with|some c=>Z1A P fn.ntmps c rc|none=>false)=true) (hr:fn.results = #[])
  {G:Jg} {caps:List AV} {els:List (AV×AV)} (hn:caps.length+1<=fn.ntmps)
  (h:∀ (n l:Nat) (J:Nat->(Nat->Prop)->World->Prop) (K:World->Prop),2<=n->ItH G J K->YOK P (n-1) l J K (els.map λx=>[x.1,x.2]) ->
   ItW P G fn.ntmps n J K rc 0 ⟨iniT 0 (.func (.yield l) [] []::caps),[]⟩ λe k s=>(e = .ret∨e = .normal)/\k=els.length/\Ym s ⟨[],[]⟩):ZiF P G gf caps els:=by
 obtain ⟨h1,h2⟩:=ZiT (els:=els.map λx=>[x.1,x.2]) hf hE hb hr hn (by simpa using h);refine ⟨h1,λn l lb J K M W hn2 je ke jm jg hC hY hJ0=>?_⟩
 have:=h2 n l lb J K M W hn2 ⟨je,ke,jm,jg⟩ hC (λk xs us M A hJ hx hc=>by
  rw[W09]at hx;obtain ⟨x,hx1,rfl⟩:=W04.1 hx;obtain ⟨u,v,rfl,hu,hv⟩:=ZiU hc;exact hY k x u v M A hJ hx1 hu hv) hJ0
 simpa using this
def oiT (O:AV) (ps:Jp) (day:Int) (l i:Nat):List (Nat×AV):=[(13,.int .i64 i),(12,.int .i64 ps.length),(11,.vsl (ps.map ptA)),(2,.vptr [.int .i64 day] 0),(1,.vptr [O] 0),(0,.func (.yield l) [] [])]
def outIt (r:Jr) (l:Jl) (hs:Jh) (ps:Jp) (day:Int) (hp:ps.length<=41) :
  ZiF prog G 66 [.vptr [ofA r l hs ps] 0,.vptr [.int .i64 day] 0] (outE ps day):=by
 have pO:=Zih r l hs ps;have eO:ofA r l hs ps = .vptr [.vsl (r.map isa),.vsl (l.map na),.vsl (hs.map hoa),.vsl (ps.map ptA),.vsl ((nums r).map ia)] 0:=rfl;refine ZiV Tryz.func66 (by kernel_rfl) (rc:=Zhy) (by kernel_rfl) rfl (W0C rfl) λn l' J K hn H hY=>?_
 obtain ⟨O,hO⟩:=Qex (ofA r l hs ps);rw[<- hO]at pO eO ⊢;clear hO
 have pT:∀ i,∀ q∈oiT O ps day l' i,q.2.pure=true:=λi q hq=>by
  simp only[oiT,W0g,W0Q,or_false]at hq;rcases hq with rfl|rfl|rfl|rfl|rfl|rfl <;> simp[AV.pure,ptA,pO]
 unfold Zhy;refine ZiN ⟨oiT O ps day l' 0,[]⟩ (λM A=>?_) (ZiP (ZiQ (λi=>(outI ps day i).length) (λi=>⟨oiT O ps day l' i,[]⟩) (λi=>i<=ps.length) (λi=>ps.length-i) 0 rfl rfl (W1f _) λi hi=>?_))
 . refine Qga ?_;simp -implicitDefEqProofs[iniT,eO,oiT]
   (refine Wkc ?_;simp only[Wkl,and_true];(try simp[lk,Yc,Ya,AV.keys]))
 by_cases hlt:i<ps.length
 case neg =>
  obtain rfl:i=ps.length:=(by omega);refine ZiN ⟨(14,.bool false)::oiT O ps day l' ps.length,[]⟩ (λM A=>?_) (ZiL (ZiO (.exit 0) ⟨[],[]⟩ (λM A=>?_) ?_))
  . refine Qga ?_;simp -implicitDefEqProofs[oiT];exact (by (first|exact Wka|exact Wkb))
  . refine Qga ?_;simp -implicitDefEqProofs[oiT];exact (by (first|exact Wka|exact Wkb))
  . simp only[ItBk,if_true];refine ⟨by simp,by simp[outE],λ_ _ _ h=>h⟩
 have wi:i64.wrap ((i:Int)+1)=((i+1:Nat):Int):=Yf;have hx:=Zid hlt;have hsu:=Zij (ps:=ps) (day:=day) (n:=i);have hgt:=Zik (ps:=ps) (day:=day) (n:=ps.length) (i:=i) hlt;obtain ⟨x,hxe⟩:=Qex (ps[i]);rw[<- hxe]at hx;rw[hx]at hsu hgt;have hlx:ps[i]=x:=hxe.symm;have hpt:ptA x=[.int .i64 x.no,.int .i64 x.dy,.int .i64 x.ho,.int .i64 x.dw,.int .i64 x.lt,.int .i64 x.bk,.int .u8 x.lo]:=rfl;refine ZiN ⟨(14,.bool true)::oiT O ps day l' i,[]⟩ (λM A=>?_) (ZiN ⟨oiT O ps day l' i,[]⟩ (λM A=>?_) (ZiM (ZiP ?_)))
 . refine Qga ?_;simp -implicitDefEqProofs[oiT,hlt];exact (by (first|exact Wka|exact Wkb))
 . refine Qga ?_;simp -implicitDefEqProofs[oiT];exact (by (first|exact Wka|exact Wkb))
 obtain ⟨bk,hbk⟩:=Qex ((!decide (x.bk = -1)&&decide (x.bk<=day)));refine ZiN ⟨(5,.ptr 5 0)::(4,.int .i64 i)::oiT O ps day l' i,[(5,.box (ptA x))]⟩ (λM A=>?_) (ZiN ⟨(6,.bool bk)::(5,.ptr 5 0)::(4,.int .i64 i)::oiT O ps day l' i,[(5,.box (ptA x))]⟩ (λM A=>?_) ?_)
 . refine Qga ?_;simp -implicitDefEqProofs[oiT,hlt,hlx,hpt]
   (refine Wkc ?_;simp only[Wkl,and_true];(try simp[lk,Yc,Ya,AV.keys]))
 . refine Qga ?_;by_cases c1:x.bk = -1
   . have e:bk=false:=(by rw[hbk];simp[c1]);simp -implicitDefEqProofs[oiT,hpt,c1,e]
     (refine Wkc ?_;simp only[Wkl,and_true];(try simp[lk,Yc,Ya,AV.keys]))
   . by_cases c2:x.bk<=day
     . have e:bk=true:=(by rw[hbk];simp[c1,c2]);simp -implicitDefEqProofs[oiT,hpt,c1,c2,e]
       (refine Wkc ?_;simp only[Wkl,and_true];(try simp[lk,Yc,Ya,AV.keys]))
     . have e:bk=false:=(by rw[hbk];simp[c2]);simp -implicitDefEqProofs[oiT,hpt,c1,c2,e]
       (refine Wkc ?_;simp only[Wkl,and_true];(try simp[lk,Yc,Ya,AV.keys]))
 have hout:outB x day=(decide (x.dy<=day) && !bk && !decide (x.lo=2)):=by
  rw[hbk,outB];by_cases c1:x.bk = -1
  . simp only[c1,W1i,Bool.true_or,W17,W1K,W1E]
  . by_cases c2:x.bk<=day
    . have c3:¬day<x.bk:=(by omega);simp only[c1,c2,c3,W1i,W1x,W1E,W17,W1k,Bool.or_self]
    . have c3:day<x.bk:=(by omega);simp only[c1,c2,c3,W1i,W1x,W1E,W1k,Bool.or_true]
 clear hbk;by_cases ho:outB x day=true
 . rw [if_pos ho]at hsu;have hg:=hgt ho;rw[hout]at ho;simp only[W01,W1C,W0b,W1b]at ho;obtain ⟨⟨o1,rfl⟩,o3⟩:=ho
   refine ZiS H hY 17 (d:=44) (f:=.t 41) (ys:=[.t 42,.t 43]) (gd:=some (40,true)) rfl (xs:=[.int .i64 i,.agg (ptA x)])
    ((43,.agg (ptA x))::(42,.int .i64 i)::(41,.func (.yield l') [] [])::(40,.bool true)::oiT O ps day l' i) ⟨(46,.bool false)::oiT O ps day l' i,[]⟩ [(40,.bool true)] [(46,.bool true)] (W0C rfl) ?_ (by simp[AV.pure,ptA]) ?_ ?_ (by simp[wants,St.tmp,lk]) (by simp[evA,St.tmp,lk]) (by simp[evA,St.tmp,lk]) ?_ ?_ ?_ ?_ ?_
   . rw[outE,W10,W09,hg];simp[hx]
   . intro q hq;simp only[W0g]at hq;rcases hq with rfl|rfl|rfl|rfl|hq
     . simp[AV.pure,ptA]
     . simp[AV.pure]
     . simp[AV.pure]
     . simp[AV.pure]
     . exact pT i q hq
   . simp -implicitDefEqProofs[oiT,hpt,o1,o3]
     (refine Wkc ?_;simp only[Wkl,and_true];(try simp[lk,Yc,Ya,AV.keys]))
   . simp -implicitDefEqProofs[oiT];exact (by (first|exact Wka|exact Wkb))
   . refine ZiO .normal ⟨oiT O ps day l' i,[]⟩ (λM A=>?_) ⟨rfl,ZiO .normal ⟨oiT O ps day l' (i+1),[]⟩ (λM A=>?_) ⟨i+1,by rw[hsu];simp,rfl,by omega,by omega⟩⟩
     . refine Qga ?_;simp -implicitDefEqProofs[oiT];exact (by (first|exact Wka|exact Wkb))
     . refine Qga ?_;simp -implicitDefEqProofs[oiT,wi];exact (by (first|exact Wka|exact Wkb))
   . intro q hq;simp at hq;subst hq;exact ⟨by simp[lk],by simp[AV.flat]⟩
   . simp -implicitDefEqProofs;exact (by (first|exact Wka|exact Wkb))
   . intro A;refine Qga ?_;simp -implicitDefEqProofs;exact (by (first|exact Wka|exact Wkb))
 . rw [if_neg ho]at hsu;rw[hout]at ho;refine ZiN ⟨(46,.bool false)::oiT O ps day l' i,[]⟩ (λM A=>?_) (ZiO .normal ⟨oiT O ps day l' i,[]⟩ (λM A=>?_) ⟨rfl,ZiO .normal ⟨oiT O ps day l' (i+1),[]⟩ (λM A=>?_) ⟨i+1,by rw[hsu],rfl,by omega,by omega⟩⟩)
   . refine Qga ?_;by_cases o1:x.dy<=day
     . cases bk
       . by_cases o3:x.lo=2
         . simp -implicitDefEqProofs[oiT,hpt,o1,o3]
           (refine Wkc ?_;simp only[Wkl,and_true];(try simp[lk,Yc,Ya,AV.keys]))
         . exact absurd (by simp[o1,o3]) ho
       . simp -implicitDefEqProofs[oiT,hpt,o1]
         (refine Wkc ?_;simp only[Wkl,and_true];(try simp[lk,Yc,Ya,AV.keys]))
     . simp -implicitDefEqProofs[oiT,hpt,o1]
       (refine Wkc ?_;simp only[Wkl,and_true];(try simp[lk,Yc,Ya,AV.keys]))
   . refine Qga ?_;simp -implicitDefEqProofs[oiT];exact (by (first|exact Wka|exact Wkb))
   . refine Qga ?_;simp -implicitDefEqProofs[oiT,wi];exact (by (first|exact Wka|exact Wkb))
def K5p:List AV:=[.func (.func 160) [] [],.func (.func 161) [] [],.func (.func 162) [] [],.func (.func 165) [] [],.func (.func 166) [] []]
def GP (G:Jg):Prop:=G 0=some K5p
def ckP (r:Jr) (hs:Jh) (x:Prt):Nat->Bool
 |0=>inR x.no 1 9999&&inR x.dy 0 14610
 |1=>decide (0<=hoI hs x.ho)
 |2=>(findN x.dw x.lt r).isSome
 |3=>decide (x.lo<=2)
 |_=>decide (x.bk = -1)||(inR x.bk x.dy 14610&&decide (x.lo=0))
def hoF_I (hs:Jh) (id:Int):decide (0<=hoI hs id)=(hoF hs id).isSome:=by
 unfold hoI hoF;rw[ZaA,W2g,W14,List.find?_isSome]
def ZiW {r:Jr} {hs:Jh} {x:Prt}:prB r hs x=true↔∀ j,j<5->ckP r hs x j=true:=by
 simp only[prB,W01];rw[<- hoF_I]
 constructor
 . rintro ⟨⟨⟨⟨⟨h1,h2⟩,h3⟩,h4⟩,h5⟩,h6⟩ j hj
   match j,hj with
   |0,_=>simp only[ckP,h1,h2,Bool.and_self]
   |1,_=>exact h3
   |2,_=>exact h5
   |3,_=>exact h4
   |4,_=>exact h6
 . intro h;have h1:=h 0 (by omega);simp only[ckP,W01]at h1;exact ⟨⟨⟨⟨h1,h 1 (by omega)⟩,h 3 (by omega)⟩,h 2 (by omega)⟩,h 4 (by omega)⟩
def ZiX {r:Jr} {hs:Jh} {ps:Jp} {i:Nat} (hi:i<hs.length) (h:hoB (nums r) hs i=false):ptsB r hs ps=false:=by
 cases q:ptsB r hs ps
 . rfl
 . simp only[ptsB,W01]at q;have:=Za2.1 q.1.2 i hi;rw[h]at this;cases this
def ZiY {r:Jr} {hs:Jh} {ps:Jp} {i:Nat} (hi:i<ps.length) (h:shB r hs ps i=false):ptsB r hs ps=false:=by
 cases q:ptsB r hs ps
 . rfl
 . simp only[ptsB,W01]at q;have:=Za2.1 q.2 i hi;rw[h]at this;cases this
def hoC (hs:Jh) (i:Nat):Bool:=inR (hAt hs i).id 1 9999&&(i == 0||decide ((hAt hs (i-1)).id<(hAt hs i).id))&&inR (hAt hs i).fr 1 (hAt hs i).to&&decide ((hAt hs i).to<=999)&&decide ((hAt hs i).ds.length<=8)
def wkC (D ds:List Int) (k:Nat):Bool:=D.contains (ds.getD k 0)&&(k == 0||decide (ds.getD (k-1) 0<ds.getD k 0))
def ZiZ (D:List Int) (hs:Jh) (i:Nat):hoB D hs i=(hoC hs i&&(List.range (hAt hs i).ds.length).all (wkC D (hAt hs i).ds)):=rfl
def rgT (r:Jr) (l:Jl) (hs:Jh) (ps:Jp) (i:Nat):List (Nat×AV):=[(34,.int .i64 i),(33,.int .i64 hs.length),(32,.vsl (hs.map hoa)),(0,ofA r l hs ps)]
def rgD (r:Jr) (l:Jl) (hs:Jh) (ps:Jp) (h:Hld) (i k:Nat):St:=⟨(88,.int .i64 k)::(87,.int .i64 h.ds.length)::(86,.vsl (h.ds.map ia))::(4,.ptr 4 0)::(3,.int .i64 i)::rgT r l hs ps i,[(4,.box (hoa h))]⟩
def rgP (r:Jr) (l:Jl) (hs:Jh) (ps:Jp) (i:Nat):List (Nat×AV):=[(122,.int .i64 i),(121,.int .i64 ps.length),(120,.vsl (ps.map ptA)),(7,.bool true),(0,ofA r l hs ps)]
def rgK (r:Jr) (l:Jl) (hs:Jh) (ps:Jp) (x:Prt) (i j:Nat):St:=⟨(145,.int .i64 j)::(144,.agg K5p)::(9,.ptr 9 0)::(8,.int .i64 i)::rgP r l hs ps i,[(9,.box (ptA x))]⟩
def kPall {r:Jr} {l:Jl} {hs:Jh} {ps:Jp} (x:Prt) (hr:Sml r) (hh:Sml hs) (j:Nat) (hj:j<5) :
  ∃ f,(K5p.drop j).take 1=[.func (.func f) [] []]/\PC prog G f [ofA r l hs ps,.agg (ptA x)] (.bool (ckP r hs x j)):=by
 match j,hj with
 |0,_=>exact ⟨_,rfl,Ziz _ x⟩
 |1,_=>exact ⟨_,rfl,ZiA r l hs ps x hh⟩
 |2,_=>exact ⟨_,rfl,ZiC r l hs ps x hr⟩
 |3,_=>exact ⟨_,rfl,ZiD _ x⟩
 |4,_=>exact ⟨_,rfl,ZiE _ x⟩
def Zj0 (hP:GP G) (r:Jr) (l:Jl) (hs:Jh) (ps:Jp) (hr:Sml r) (hd:Sml (nums r)) (hw:WfP hs ps):PC prog G 56 [ofA r l hs ps] (.bool (ptsB r hs ps)):=by
 have hh:Sml hs:=(by have:=hw.hl;unfold Sml;omega);have hl:=hw.hl;have hp:=hw.pl;have hk2:=λx j hj=>kPall (G:=G) (r:=r) (l:=l) (hs:=hs) (ps:=ps) x hr hh j hj
 have pO:=Zih r l hs ps;have kO:=Zii r l hs ps;have eO:ofA r l hs ps = .vptr [.vsl (r.map isa),.vsl (l.map na),.vsl (hs.map hoa),.vsl (ps.map ptA),.vsl ((nums r).map ia)] 0:=rfl;have hC:=λn=>ZfO (G:=G) false (nums r) n hd
 have eC:liA false (nums r) = .vsl ((nums r).map ia):=(by simp[liA]);rw[eC]at hC;unfold GP at hP;refine Zhl rfl λR hG hrd=>?_
 subst hG;refine Qga ?_;by_cases h6:6<hs.length
 . have h6':(6:Int)<hs.length:=by omega
   have e:ptsB r hs ps=false:=by
    have:¬hs.length<=6:=(by omega);simp[ptsB,this]
   simp -implicitDefEqProofs[Zhj,Zhk,eO,h6',e]
 have h6':¬(6:Int)<hs.length:=(by omega);by_cases h30:30<ps.length
 . have h30':(30:Int)<ps.length:=by omega
   have e:ptsB r hs ps=false:=by
    have:¬ps.length<=30:=(by omega);simp[ptsB,this]
   simp -implicitDefEqProofs[Zhj,Zhk,eO,h6',h30',e]
 have h30':¬(30:Int)<ps.length:=(by omega);simp -implicitDefEqProofs[Zhj,Zhk,eO,h6',h30'];refine Z9H (λi=>⟨rgT r l hs ps i,[]⟩) (λi=>∀ j,j<i->hoB (nums r) hs j=true) hs.length ?_ (by simp) ?_ ?_
 . simp only[rgT,eO]
   (refine Wkc ?_;simp only[Wkl,and_true];(try simp[lk,Yc,Ya,AV.keys]))
 . intro i hi he;have hno:hoB (nums r) hs i=false->ptsB r hs ps=false:=ZiX hi;have hx:=Zic hi;have hds:=hw.dl _ (W0e hi);have heq:=ZiZ (nums r) hs i;have wi:i64.wrap ((i:Int)+1)=(i:Int)+1:=Yf;obtain ⟨h,hhe⟩:=Qex (hs[i]);rw[<- hhe]at hx hds;have hlx:hs[i]=h:=hhe.symm;have hho:hoa h=[.int .i64 h.id,.int .i64 h.fr,.int .i64 h.to,.vsl (h.ds.map ia)]:=rfl;have c1:=Zis (G:=R.G) 1 9999 h.id;have c2:=Zit (G:=R.G) 1 999 h.fr h.to;have hC0:hoC hs i=(inR h.id 1 9999&&(i == 0||decide ((hAt hs (i-1)).id<h.id))&&inR h.fr 1 h.to&&decide (h.to<=999)&&decide (h.ds.length<=8)):=by unfold hoC;rw[hx]
   have hfin:inR h.id 1 9999=true->(i == 0||decide ((hAt hs (i-1)).id<h.id))=true->hoC hs i=(inR h.fr 1 999&&inR h.to 1 999 && !decide (h.to<h.fr) && !decide (8<h.ds.length)):=λq1 q2=>by
    rw[hC0,q1,q2,W2g];simp only[W1k,W01,ZhT,W0b,W1C,W1b];omega
   have hno2:hoC hs i=false->ptsB r hs ps=false:=λq=>hno (by rw[heq,q];rfl)
   have hst:∀ k:Nat,k<=h.ds.length->(∀ j,j<k->wkC (nums r) h.ds j=true)->k=h.ds.length->hoC hs i=true->∀ j,j<i+1->hoB (nums r) hs j=true:=λk _ hk1 hk2 hc j hj=>by
    rcases W0q j i with h1|h1
    . exact he j h1
    . obtain rfl:j=i:=(by omega);rw[heq,hc,hx,W1k];exact Za2.2 (by rw[<- hk2];exact hk1)
   refine Qga ?_
   cases q1:inR h.id 1 9999
   . have e:=hno2 (by rw[hC0,q1];rfl);rw[q1]at c1
     cases i
     case' zero=>simp -implicitDefEqProofs[rgT,hi,hlx,hho]
     case' succ k =>
      have k1:(k:Int)+1<hs.length:=(by omega);have k2:((k:Int)+1).toNat=k+1:=(by omega);have k3:(0:Int)<=(k:Int)+1:=(by omega);simp -implicitDefEqProofs[rgT,k1,k2,k3,hi,hlx,hho]
     all_goals
      refine Qco (c1) ?_;simp -implicitDefEqProofs;refine ⟨rfl,?_⟩;refine Qgr ?_;simp -implicitDefEqProofs[e]
      done
   rw[q1]at c1;obtain ⟨I,hIe⟩:=Qex i
   cases i
   case' zero =>
    have q2:=hfin q1 rfl;simp -implicitDefEqProofs[rgT,hi,hlx,hho];refine Qco (c1) ?_;simp -implicitDefEqProofs
   case' succ k =>
    have hk:k<hs.length:=(by omega);have w0:i64.wrap ((k:Int)+1-1)=(k:Int):=(by rw[Yf (by omega) (by omega)];omega);have w2:i64.wrap (k:Int)=(k:Int):=Yf;have g0:(0:Int)<(k:Int)+1:=(by omega);have k1:(k:Int)+1<hs.length:=(by omega);have k2:((k:Int)+1).toNat=k+1:=(by omega);have k3:(0:Int)<=(k:Int)+1:=(by omega);have hhk:hoa hs[k]=[.int .i64 hs[k].id,.int .i64 hs[k].fr,.int .i64 hs[k].to,.vsl (hs[k].ds.map ia)]:=rfl;simp -implicitDefEqProofs[rgT,k1,k2,k3,hi,hlx,hho];refine Qco (c1) ?_;by_cases hp:hs[k].id<h.id
    case' neg =>
     have e:=hno2 (by rw[hC0,W19,Zic hk,W0S hp];simp);have hp2:h.id<=hs[k].id:=(by omega);simp -implicitDefEqProofs[hk,w0,w2,g0,hhk,hp2,eO,hho];refine ⟨rfl,?_⟩;refine Qgr ?_;simp -implicitDefEqProofs[e]
     done
    have hp2:¬h.id<=hs[k].id:=(by omega);have q2:=hfin q1 (by rw[W19,Zic hk,W0M hp];simp);simp -implicitDefEqProofs[hk,w0,w2,g0,hhk,hp2,eO,hho]
   all_goals
    refine Qco (c2) ?_
    cases q3:(inR h.fr 1 999&&inR h.to 1 999)
    case false =>
     have e:=hno2 (by rw[q2,q3];rfl);simp -implicitDefEqProofs;refine ⟨rfl,?_⟩;refine Qgr ?_;simp -implicitDefEqProofs[e]
    by_cases q4:h.to<h.fr
    case pos =>
     have e:=hno2 (by rw[q2,q3,W0M q4];rfl);simp -implicitDefEqProofs[hho,q4];refine ⟨rfl,?_⟩;refine Qgr ?_;simp -implicitDefEqProofs[e]
    by_cases q5:8<h.ds.length
    case pos =>
     have q5':(8:Int)<h.ds.length:=(by omega);have e:=hno2 (by rw[q2,W0M q5];simp);simp -implicitDefEqProofs[hho,q4,q5'];refine ⟨rfl,?_⟩;refine Qgr ?_;simp -implicitDefEqProofs[e]
    have q5':¬(8:Int)<h.ds.length:=(by omega);rw[q3,W0S q4,W0S q5]at q2;simp -implicitDefEqProofs[hho,q4,q5'];refine ⟨rfl,?_⟩;refine Z9H (rgD r l hs ps h I) (λk=>∀ j,j<k->wkC (nums r) h.ds j=true) h.ds.length ?_ (by simp) ?_ ?_
    . simp only[rgD,rgT,eO,hIe]
      ((try simp only[hho]);refine Ym.sub (by simp[lk,Ya,AV.keys,hho]) ?_;simp only[hho,Wkl,and_true];(try simp[lk,Yc,Ya,AV.keys,hho]))
    . intro k hk hK
      have hwf:wkC (nums r) h.ds k=false->ptsB r hs ps=false:=λq=>hno (by
       rw[heq,q2,hx,W1k]
       cases q6:(List.range h.ds.length).all (wkC (nums r) h.ds)
       . rfl
       . have:=Za2.1 q6 k hk;rw[q]at this;cases this)
      have wk:i64.wrap ((k:Int)+1)=(k:Int)+1:=Yf;have hcd:=hC h.ds[k];have gd:h.ds.getD k 0=h.ds[k]:=(by simp[W0j,hk]);refine Qga ?_;by_cases m1:h.ds[k]∈nums r
      case neg =>
       have e:=hwf (by rw[wkC,gd];simp[m1]);rw[W0S m1]at hcd;simp -implicitDefEqProofs[rgD,rgT,hk,ia,eO];refine Qco (hcd) ?_;simp -implicitDefEqProofs;refine Qgr ?_;simp -implicitDefEqProofs;refine Qgr ?_;simp -implicitDefEqProofs[e]
      rw[W0M m1]at hcd
      cases k with
      | zero =>
        have e:wkC (nums r) h.ds 0=true:=(by rw[wkC,gd];simp[m1]);have w1:i64.wrap 1=1:=rfl;simp -implicitDefEqProofs[rgD,rgT,hk,ia,eO];refine Qco (hcd) ?_;simp -implicitDefEqProofs[w1];refine ⟨?_,e⟩;simp only[rgD,rgT,eO]
        ((try simp only[hho]);refine Ym.sub (by simp[lk,Ya,AV.keys,hho]) ?_;simp only[hho,Wkl,and_true];(try simp[lk,Yc,Ya,AV.keys,hho]))
      | succ p =>
        have hp:p<h.ds.length:=(by omega);have g2:h.ds.getD p 0=h.ds[p]:=(by simp[W0j,hp]);have w0:i64.wrap ((p:Int)+1-1)=(p:Int):=(by rw[Yf (by omega) (by omega)];omega);have w2:i64.wrap (p:Int)=(p:Int):=Yf;have g0:(0:Int)<(p:Int)+1:=(by omega);have k1:(p:Int)+1<h.ds.length:=(by omega);have k2:((p:Int)+1).toNat=p+1:=(by omega);have k3:(0:Int)<=(p:Int)+1:=(by omega);have wk2:i64.wrap ((p:Int)+1+1)=(p:Int)+1+1:=Yf;by_cases m2:h.ds[p]<h.ds[p+1]
        . have e:wkC (nums r) h.ds (p+1)=true:=(by rw[wkC,gd,W19,g2];simp[m1,m2]);have m3:¬h.ds[p+1]<=h.ds[p]:=(by omega);simp -implicitDefEqProofs[rgD,rgT,k1,k2,k3,hk,ia,eO];refine Qco (hcd) ?_;simp -implicitDefEqProofs[hp,w0,w2,g0,hho,ia,m3,wk2];refine ⟨?_,λj hj=>?_⟩
          . simp only[rgD,rgT,eO]
            ((try simp only[hho]);refine Ym.sub (by simp[lk,Ya,AV.keys,hho]) ?_;simp only[hho,Wkl,and_true];(try simp[lk,Yc,Ya,AV.keys,hho]))
          . rcases W0q j (p+1) with h4|h4
            . exact hK j h4
            . obtain rfl:j=p+1:=(by omega);exact e
        . have e:=hwf (by rw[wkC,gd,W19,g2];simp[m2]);have m3:h.ds[p+1]<=h.ds[p]:=(by omega);simp -implicitDefEqProofs[rgD,rgT,k1,k2,k3,hk,ia,eO];refine Qco (hcd) ?_;simp -implicitDefEqProofs[hp,w0,w2,g0,hho,ia,m3];refine Qgr ?_;simp -implicitDefEqProofs;refine Qgr ?_;simp -implicitDefEqProofs[e]
    . intro hK;have hst2:=hst h.ds.length (W0f _) hK rfl q2;refine Qga ?_;have wI:i64.wrap ((I:Int)+1)=(I:Int)+1:=Yf;simp -implicitDefEqProofs[rgD,rgT];refine Qgr ?_;simp -implicitDefEqProofs[wI];refine ⟨?_,by first|exact hst2|exact hst2 0 (by omega)⟩;simp only[rgT,eO]
      ((try simp only[hIe]);refine Ym.sub (by simp[lk,Ya,AV.keys,hIe]) ?_;simp only[hIe,Wkl,and_true];(try simp[lk,Yc,Ya,AV.keys,hIe]))
 . intro he;refine Qga ?_;simp -implicitDefEqProofs[rgT,eO];refine Qgr ?_;simp -implicitDefEqProofs;refine Z9H (λi=>⟨rgP r l hs ps i,[]⟩) (λi=>∀ j,j<i->shB r hs ps j=true) ps.length ?_ (by simp) ?_ ?_
   . simp only[rgP,eO]
     (refine Wkc ?_;simp only[Wkl,and_true];(try simp[lk,Yc,Ya,AV.keys]))
   . intro i hi hE;have hno:shB r hs ps i=false->ptsB r hs ps=false:=ZiY hi;have hx:=Zid hi;have wi:i64.wrap ((i:Int)+1)=(i:Int)+1:=Yf;obtain ⟨x,hxe⟩:=Qex (ps[i]);rw[<- hxe]at hx;have hlx:ps[i]=x:=hxe.symm;have hpt:ptA x=[.int .i64 x.no,.int .i64 x.dy,.int .i64 x.ho,.int .i64 x.dw,.int .i64 x.lt,.int .i64 x.bk,.int .u8 x.lo]:=rfl;have hsh:shB r hs ps i=((i == 0||decide ((pAt ps (i-1)).no<x.no))&&prB r hs x):=(by unfold shB;rw[hx]);have t5:K5p.take 5=K5p:=rfl;have l5:K5p.length=5:=rfl;obtain ⟨I,hIe⟩:=Qex i;refine Qga ?_
     cases i
     case' zero =>
      have q2:shB r hs ps 0=prB r hs x:=(by rw[hsh];rfl);simp -implicitDefEqProofs[rgP,hi,hlx,hpt]
     case' succ k =>
      have hk:k<ps.length:=(by omega);have w0:i64.wrap ((k:Int)+1-1)=(k:Int):=(by rw[Yf (by omega) (by omega)];omega);have w2:i64.wrap (k:Int)=(k:Int):=Yf;have g0:(0:Int)<(k:Int)+1:=(by omega);have k1:(k:Int)+1<ps.length:=(by omega);have k2:((k:Int)+1).toNat=k+1:=(by omega);have k3:(0:Int)<=(k:Int)+1:=(by omega);have hpk:ptA ps[k]=[.int .i64 ps[k].no,.int .i64 ps[k].dy,.int .i64 ps[k].ho,.int .i64 ps[k].dw,.int .i64 ps[k].lt,.int .i64 ps[k].bk,.int .u8 ps[k].lo]:=rfl;by_cases hp:ps[k].no<x.no
      case' neg =>
       have e:=hno (by rw[hsh,W19,Zid hk,W0S hp];simp);have hp2:x.no<=ps[k].no:=(by omega);simp -implicitDefEqProofs[rgP,k1,k2,k3,hi,hlx,hpt,hk,w0,w2,g0,hpk,hp2,eO];refine ⟨rfl,?_⟩;refine Qgr ?_;simp -implicitDefEqProofs[e]
       done
      have hp2:¬x.no<=ps[k].no:=(by omega);have q2:shB r hs ps (k+1)=prB r hs x:=(by rw[hsh,W19,Zid hk,W0M hp];simp);simp -implicitDefEqProofs[rgP,k1,k2,k3,hi,hlx,hpt,hk,w0,w2,g0,hpk,hp2,eO]
     all_goals
      refine ⟨rfl,?_⟩;simp -implicitDefEqProofs[hP,t5,l5];refine Z9H (rgK r l hs ps x I) (λj=>∀ k,k<j->ckP r hs x k=true) 5 ?_ (by simp) ?_ ?_
      . simp only[rgK,rgP,eO,hIe]
        ((try simp only[hpt,K5p]);refine Ym.sub (by simp[lk,Ya,AV.keys,hpt,K5p]) ?_;simp only[hpt,K5p,Wkl,and_true];(try simp[lk,Yc,Ya,AV.keys,hpt,K5p]))
      . intro j hj hJ;refine Qga ?_;obtain ⟨f,hf1,hf2⟩:=hk2 x j hj;have wj:i64.wrap ((j:Int)+1)=(j:Int)+1:=Yf;have j1:(j:Int)<5:=(by omega);have j2:j+1<=5:=(by omega);have j3:j<=4:=(by omega);simp -implicitDefEqProofs[rgK,rgP,j1,j2,j3,l5,hf1,hj,hpt];rw[hpt]at hf2;refine Yd.of hf2 (by simp[pO,AV.pure]) ?_
        cases hb:ckP r hs x j
        . have e:=hno (by
           rw[q2]
           cases q:prB r hs x
           . rfl
           . have:=ZiW.1 q j hj;rw[hb]at this;cases this)
          simp -implicitDefEqProofs;refine Qgr ?_;simp -implicitDefEqProofs;refine Qgr ?_;simp -implicitDefEqProofs[e]
        . simp -implicitDefEqProofs[wj];refine ⟨?_,λk hk=>?_⟩
          . simp only[rgK,rgP,eO]
            ((try simp only[hpt,K5p]);refine Ym.sub (by simp[lk,Ya,AV.keys,hpt,K5p]) ?_;simp only[hpt,K5p,Wkl,and_true];(try simp[lk,Yc,Ya,AV.keys,hpt,K5p]))
          . rcases W0q k j with h1|h1
            . exact hJ k h1
            . obtain rfl:k=j:=(by omega);exact hb
      . intro hJ;rw[ZiW.2 hJ]at q2
        have hE2:∀ j,j<I+1->shB r hs ps j=true:=λj hj=>by
         rcases W0q j I with h1|h1
         . exact hE j (by omega)
         . obtain rfl:j=I:=(by omega);rw[hIe];exact q2
        have wI:i64.wrap ((I:Int)+1)=(I:Int)+1:=Yf;refine Qga ?_;simp -implicitDefEqProofs[rgK,rgP];refine Qgr ?_;simp -implicitDefEqProofs[wI];refine ⟨?_,by first|exact q2|exact λj hj=>hE2 j (by omega)⟩;simp only[rgP,eO]
        ((try simp only[hIe]);refine Ym.sub (by simp[lk,Ya,AV.keys,hIe]) ?_;simp only[hIe,Wkl,and_true];(try simp[lk,Yc,Ya,AV.keys,hIe]))
   . intro hE
     have e:ptsB r hs ps=true:=by
      simp only[ptsB,W01,W0b];exact ⟨⟨⟨by omega,by omega⟩,Za2.2 he⟩,Za2.2 hE⟩
     refine Qga ?_;simp -implicitDefEqProofs[rgP];refine Qgr ?_;simp -implicitDefEqProofs[e]
def opP (r:Jr) (l:Jl) (hs:Jh) (ps:Jp):AV:=.tup [if ck7 r l hs ps=0 then ofA r l hs ps else .nilp,.int .i64 (ck7 r l hs ps)]
def Zj1 {r:Jr} {l:Jl} {hs:Jh} {ps:Jp}:ck7 r l hs ps=0↔chN r l=0/\ptsB r hs ps=true:=by
 unfold ck7;by_cases h:chN r l=0
 . rw[if_pos h];by_cases h2:ptsB r hs ps=true
   . simp[h,h2]
   . simp[h,h2]
 . simp[h]
def Zj2 {r:Jr} {l:Jl} (h:chN r l=0):openV r=0:=by
 unfold chN at h
 split at h
 . assumption
 . rename_i e;exact absurd h e
def as7 (r:Jr) (l:Jl) (hs:Jh) (ps:Jp) (day m:Int):Int:=if ck7 r l hs ps=0 then if inR day 0 14610=true/\inR m 1 999=true then 0 else 2 else ck7 r l hs ps
def ab7 (r:Jr) (l:Jl) (hs:Jh) (ps:Jp) (day m id:Int) (ds:List Int):Int:=if as7 r l hs ps day m=0 then if 0<=hoI hs id/\(ds.all λd=>decide (d∈nums r))=true then 0 else 6 else as7 r l hs ps day m
def Zj3 (hG:GC G) (hN:GN G) (hP:GP G) (r:Jr) (l:Jl) (hs:Jh) (ps:Jp) (hl:WfN l) (hr:Wf r) (hd:Sml (nums r)) (hw:WfP hs ps):PC prog G 28 [prA r l hs ps] (opP r l hs ps):=by
 have hc:=ZfU hG hN r l hl hr;have hD:=Zc6 hG r hr;rw[rega]at hD;have hR:=Zj0 hP r l hs ps hr.1.1 hd hw;have pO:=Zih r l hs ps;have kO:=Zii r l hs ps;have eO:ofA r l hs ps = .vptr [.vsl (r.map isa),.vsl (l.map na),.vsl (hs.map hoa),.vsl (ps.map ptA),.vsl ((nums r).map ia)] 0:=rfl;have sO:∀ ok st,Yh ok st 6 (ofA r l hs ps)=some (ofA r l hs ps):=λok st=>by rw[eO];rw[eO]at pO;simp[Yh,pO]
 unfold opP prA;by_cases h0:chN r l=0
 case neg =>
  have e:ck7 r l hs ps=chN r l:=(by rw[ck7,if_neg h0]);rw[e,if_neg h0]
  (refine Zho rfl λR hG hrd=>Qga ?_;subst hG)
  simp -implicitDefEqProofs[Zhm,Zhn];refine Qco (hc) ?_;simp -implicitDefEqProofs[h0]
 have ho:=Zj2 h0;rw[if_pos ho,ho]at hD;rw[h0]at hc;refine Zho rfl λR hG hrd=>?_
 subst hG;refine Qga ?_;simp -implicitDefEqProofs[Zhm,Zhn];refine Qco (hc) ?_;simp -implicitDefEqProofs;refine Qco (hD) ?_;simp -implicitDefEqProofs;rw[eO]at hR
 (first|refine Yd.flat (hR) (by simp[AV.flat]) (by simp) ?_|refine Ye.flat (hR) (by simp[AV.flat]) (by simp) ?_)
 cases q:ptsB r hs ps
 . have e:ck7 r l hs ps=70:=(by rw[ck7,if_pos h0,q];rfl);simp -implicitDefEqProofs[e]
 . have e:ck7 r l hs ps=0:=(by rw[ck7,if_pos h0,q];rfl);simp -implicitDefEqProofs[e,eO]
def Zj4 (hG:GC G) (hN:GN G) (hP:GP G) (r:Jr) (l:Jl) (hs:Jh) (ps:Jp) (hl:WfN l) (hr:Wf r) (hd:Sml (nums r)) (hw:WfP hs ps):PC prog G 33 [prA r l hs ps] (.int .i64 (ck7 r l hs ps)):=by
 have ho:=Zj3 hG hN hP r l hs ps hl hr hd hw;unfold opP prA at ho;unfold prA
 (refine Zhr rfl λR hG hrd=>Qga ?_;subst hG)
 simp -implicitDefEqProofs[Zhp,Zhq];refine Qco (ho) ?_;simp -implicitDefEqProofs
def asP (r:Jr) (l:Jl) (hs:Jh) (ps:Jp) (day m:Int):AV:=.tup [if as7 r l hs ps day m=0 then ofA r l hs ps else .nilp,.int .i64 (as7 r l hs ps day m)]
def Zj5 (hG:GC G) (hN:GN G) (hP:GP G) (r:Jr) (l:Jl) (hs:Jh) (ps:Jp) (day m:Int) (hl:WfN l) (hr:Wf r) (hd:Sml (nums r)) (hw:WfP hs ps) :
  PC prog G 14 [prA r l hs ps,.int .i64 day,.int .i64 m] (asP r l hs ps day m):=by
 have ho:=Zj3 hG hN hP r l hs ps hl hr hd hw;have c1:=Zis (G:=G) 0 14610 day;have c2:=Zis (G:=G) 1 999 m;have pO:=Zih r l hs ps;have kO:=Zii r l hs ps;have eO:ofA r l hs ps = .vptr [.vsl (r.map isa),.vsl (l.map na),.vsl (hs.map hoa),.vsl (ps.map ptA),.vsl ((nums r).map ia)] 0:=rfl;have sO:∀ ok st,Yh ok st 6 (ofA r l hs ps)=some (ofA r l hs ps):=λok st=>by rw[eO];rw[eO]at pO;simp[Yh,pO]
 unfold opP at ho;unfold asP as7;by_cases h0:ck7 r l hs ps=0
 case neg =>
  rw[if_neg h0]at ho;unfold prA at *
  (refine Zhu rfl λR hG hrd=>Qga ?_;subst hG)
  simp -implicitDefEqProofs[Zhs,Zht];refine Qco (ho) ?_;simp -implicitDefEqProofs[h0]
 rw[if_pos h0,h0]at ho;unfold prA at *;generalize ofA r l hs ps=O at *
 (refine Zhu rfl λR hG hrd=>Qga ?_;subst hG)
 simp -implicitDefEqProofs[Zhs,Zht];refine Qco (ho) ?_;simp -implicitDefEqProofs;refine Qco (c1) ?_
 cases q1:inR day 0 14610
 . simp -implicitDefEqProofs[h0]
 simp -implicitDefEqProofs;refine Qco (c2) ?_
 cases q2:inR m 1 999
 . simp -implicitDefEqProofs[h0]
 . simp -implicitDefEqProofs[h0,pO,sO]
def Zj6 (ok:Nat->Bool) (st:St) (l:List Int):frzO ok st (.row 1 (l.map ia)) = .row 1 (l.map ia):=by
 simp only[frzO,W10]
 congr 2
 funext p;simp[ia,frzA,frz,AV.keys]
def smI (x y:Int):Bool:=decide (x=y)
def kI (l:List Int):Nat->List Int
 |0=>[]
 |p+1=>if p≠0/\smI (l.getD p default) (l.getD (p-1) default)=true then kI l p else kI l p++[l.getD p default]
def Zj7 (l:List Int):∀ p,(kI l p).length<=p
 |0=>W0f _
 | p+1=>by
   have:=Zj7 l p;rw[kI];split <;> simp <;> omega
def noI (l:List Int) (p:Nat):Prop:=∀ j,0<j->j<p->smI (l.getD j default) (l.getD (j-1) default)=false
def Zj8 {l:List Int}:∀ {p:Nat},noI l p->p<=l.length->kI l p=l.take p
 |0,_,_=>rfl
 | p + 1,h,hp=>by
   rw[kI,Zj8 (p:=p) (λj h1 h2=>h j h1 (by omega)) (by omega),W08 (by omega)];have e:l.getD p default=l[p]:=by simp[W0j,show p<l.length by omega]
   split
   . rename_i h2;rw[h p (by omega) (by omega)]at h2;exact absurd h2.2 (by simp)
   . rw[e]
def cpI (l:List Int) (p:Nat):List Int:=kI l p++l.drop (kI l p).length
def Zj9 {l:List Int} {p:Nat} (h:p<=l.length):(cpI l p).length=l.length:=by
 have:=Zj7 l p;simp[cpI];omega
def Zja {l:List Int} {p j:Nat} (hp:p<l.length) (h1:(kI l p).length<=j) (h2:j<=p):(cpI l p)[j]? = some (l.getD j default):=by
 rw[cpI,W0o h1,W13];have:(kI l p).length+(j-(kI l p).length)=j:=(by omega);rw[this];simp[W0j,show j<l.length by omega]
def Zjb {l:List Int} {p:Nat} (hp:p<l.length) (h:¬(p≠0/\smI (l.getD p default) (l.getD (p-1) default)=true)):(cpI l p).set (kI l p).length (l.getD p default)=cpI l (p+1):=by
 have hl:=Zj7 l p;have e:kI l (p+1)=kI l p++[l.getD p default]:=(by rw[kI,if_neg h]);rw[cpI,cpI,e,W23 _ _ (by omega),W2p,W0x (by omega:(kI l p).length<l.length)];simp only[List.set_cons_zero,W0s,W2r,W0U,List.singleton_append]
def Zjc {l:List Int} {p:Nat} (h:p≠0/\smI (l.getD p default) (l.getD (p-1) default)=true):cpI l (p+1)=cpI l p/\kI l (p+1)=kI l p:=by
 have e:kI l (p+1)=kI l p:=(by rw[kI,if_pos h]);exact ⟨by rw[cpI,cpI,e],e⟩
def cpcI (l:List Int):List Int:=kI l l.length
def zrO:List AV:=[.int .i64 0]
def cpoI (l:List Int):List (List AV):=(cpcI l).map ia++List.replicate (l.length-(cpcI l).length) zrO
def cpvI (k:Nat) (l:List Int):AV:=if (cpcI l).length=l.length then .osl k l.length else .oss k l.length 0 (cpcI l).length
def kI_lt {l:List Int} {k:Nat} (hk0:k≠0) (hd:smI (l.getD k default) (l.getD (k-1) default)=true):∀ p,k<p->(kI l p).length<p:=by
 intro p hp
 induction p with
 |zero=>omega
 | succ p ih =>
   by_cases h:p=k
   . subst h;have:=Zj7 l p;rw[kI,if_pos ⟨hk0,hd⟩];omega
   . have:=ih (by omega);rw[kI];split <;> simp <;> omega
def Zjd {l:List Int} {p:Nat} (h:p<l.length):l.getD p default=l[p]:=by simp[W0j,h]
def Zje {l:List Int} (h:noI l l.length):cpcI l=l:=by rw[cpcI,Zj8 h (W0f _),W0v]
def Zjf (ok:Nat->Bool) (st:St) (l:List Int):frzO ok st (.row 1 (cpoI l)) = .row 1 (cpoI l):=by
 have h:=Zj6 ok st (cpcI l);simp only[frzO,AObj.row.injEq,true_and]at h ⊢;rw[cpoI,W0r,h];simp[zrO,frzA,frz,AV.keys]
def Zjg (x:Int):∀ (t:List Int) (p:Int),cmpG p (t++[x])=if (p::t).getLast (by simp)=x then cmpG p t else cmpG p t++[x]
 | [],p=>by
   by_cases e:x=p
   . subst e;simp[cmpG]
   . simp[cmpG,e,Ne.symm e]
 | y :: t,p=>by
   have ih:=Zjg x t y;rw[W1e,cmpG,cmpG,List.getLast_cons (by simp)];by_cases e:y=p
   . rw[if_pos e,if_pos e,<- e,ih]
   . rw[if_neg e,if_neg e,ih]
     split <;> simp
def Zjh (l:List Int):∀ p,p<=l.length->kI l p=cmpI (l.take p)
 |0,_=>by simp[kI,cmpI]
 | p + 1,h=>by
   have hp:p<l.length:=h;have ih:=Zjh l p (by omega);rw[kI,ih,Zjd hp,W08 hp]
   cases p with
   | zero =>
     simp[cmpI,cmpG]
   | succ q =>
     have hq:q<l.length:=(by omega);have e1:(q+1-1)=q:=(by omega);rw[e1,Zjd hq];have e2:l.take (q+1)=l.take q++[l[q]]:=W08 hq
     obtain ⟨a,t,hat⟩ : ∃ a t,l.take (q+1)=a::t:=by
      cases hh:l.take (q+1) with
      |nil=>exact absurd (congrArg List.length hh) (by simp only[W15,W1U];omega)
      |cons a t=>exact ⟨a,t,rfl⟩
     have hl:(a::t).getLast (by simp)=l[q]:=by
      have:(l.take (q+1)).getLast (by rw[hat];simp)=l[q]:=by
       simp only[List.getLast_eq_getElem,W1V,W15]
       congr 1;omega
      simpa [hat] using this
     rw[hat,W1e,cmpI,cmpI,Zjg,hl];by_cases c:l[q]=l[q+1]
     . rw[if_pos c,if_pos ⟨by omega,by simp[smI,c]⟩]
     . rw[if_neg c,if_neg (λh=>c (by have:=h.2;simp[smI]at this;exact this.symm))];simp
def Zji (l:List Int):cpcI l=cmpI l:=by rw[cpcI,Zjh l _ (W0f _),W0v]
def Zjj (l:List Int) (h3:l.length<=1000) :
  PB prog G 69 [(1000,.row 1 (l.map ia))] [.osl 1000 l.length] (cpvI 1000 l) [(1000,.row 1 (cpoI l))]:=by
 (refine ZhK (W0C rfl) λR hG hrd=>Qga ?_;subst hG)
 simp -implicitDefEqProofs[ZhI,ZhJ];by_cases hs:(l.length:Int)<2
 . have e:cpcI l=l:=Zje λj h1 h2=>by omega
   simp -implicitDefEqProofs[hs];refine ⟨[.osl 1000 l.length],?_,?_,?_⟩
   . simp[Z29,evRes,Yi,newK,frzA,frz,AV.keys,lk,St.tmp,ZhJ]
   . simp[cpvI,e,tupV]
   . simp[Yi,newK,Zj6,cpoI,e]
 simp -implicitDefEqProofs[hs];refine Z9H (λi=>⟨[(3,.int .i64 ((i:Int)+1)),(0,.osl 1000 l.length)],[(1000,.row 1 (l.map ia))]⟩) (λi=>noI l (i+1)) (l.length-1) ?_ (λj h1 h2=>by omega) ?_ ?_
 . refine Ym.sub (by simp[lk,Ya,AV.keys]) ?_;simp only[W0g,W0Q,or_false,W1M,forall_eq,Zf3,and_true];simp[lk]
 . intro i hi hn;refine Qga ?_;have k1:(i:Int)+1<l.length:=(by omega);have k2:((i:Int)+1).toNat=i+1:=(by omega);have k3:(0:Int)<=(i:Int)+1:=(by omega);have k4:i+1<l.length:=(by omega);have k5:i<l.length:=(by omega);have w1:i64.wrap (i:Int)=i:=Yf;have w2:i64.wrap ((i:Int)+1+1)=(i:Int)+1+1:=Yf;have ex:∀ x,ia x=[.int .i64 x]:=λx=>rfl
   have hsm:smI (l.getD (i+1) default) (l.getD i default)=decide (l[i+1]=l[i]):=(by rw[Zjd k4,Zjd k5];rfl);by_cases hd:l[i+1]=l[i]
   . simp -implicitDefEqProofs [k1,k2,k3,k4,k5,w1,ex,hd];refine ⟨rfl,?_⟩;rw[W0M hd]at hsm;have hs2:i+1≠0/\smI (l.getD (i+1) default) (l.getD (i+1-1) default)=true:=⟨by omega,hsm⟩;have hk:=Zj8 hn (by omega);have hk1:(kI l (i+1)).length=i+1:=(by rw[hk];simp;omega);obtain ⟨c1,c2⟩:=Zjc hs2;have c3:cpI l (i+1)=l:=(by rw[cpI,hk1,hk,W11]);have hkl:=λp=>kI_lt (l:=l) (k:=i+1) (by omega) hsm p
     have k6:i+1<=l.length:=(by omega);simp -implicitDefEqProofs[k2,k3,k6];refine Z9H (λj=>⟨[(5,.int .i64 ((j:Int)+1)),(4,.oss 1000 l.length (i+1) l.length),(3,.int .i64 (kI l (i+1+1+j)).length),(0,.osl 1000 l.length)],[(1000,.row 1 ((cpI l (i+1+1+j)).map ia))]⟩) (λ_=>True) (l.length-(i+1+1)) ?_ trivial ?_ ?_
     . have z1:cpI l (i+1+1+0)=l:=(by rw[W1X,c1,c3]);have z2:(kI l (i+1+1+0)).length=i+1:=(by rw[W1X,c2,hk1]);rw[z1,z2];refine Ym.sub (by simp[lk,Ya,AV.keys]) ?_;simp only[W0g,W0Q,or_false,W1M,forall_eq,Zf3,and_true];simp[lk]
     . intro j hj _;refine Qga ?_;have hq:i+1+1+j<l.length:=(by omega);have hq2:i+1+j<l.length:=(by omega);have hml:=hkl (i+1+1+j) (by omega);have hcl:=Zj9 (l:=l) (p:=i+1+1+j) (by omega);have a1:=Zja (j:=i+1+1+j) hq (by omega) (by omega);have a2:=Zja (j:=i+1+j) hq (by omega) (by omega);rw[Zjd hq]at a1;rw[Zjd hq2]at a2;have hkeep:=Zjb hq;have hskip:=Zjc (l:=l) (p:=i+1+1+j);have e3:i+1+1+j-1=i+1+j:=(by omega);have hkk:kI l (i+1+1+j+1)=kI l (i+1+1+j+1):=rfl
       conv at hkk=>rhs;rw[kI]
       have hsm2:smI (l.getD (i+1+1+j) default) (l.getD (i+1+j) default)=decide (l[i+1+1+j]=l[i+1+j]):=(by rw[Zjd hq,Zjd hq2];rfl);rw[e3,hsm2,Zjd hq]at hkeep hkk;rw[e3,hsm2]at hskip;have e4:i+1+1+(j+1)=i+1+1+j+1:=(by omega);have m1:(j:Int)+1<((l.length-(i+1):Nat):Int):=(by omega);have m2:((j:Int)+1).toNat=j+1:=(by omega);have m3:(0:Int)<=(j:Int)+1:=(by omega);have m4:j+1<l.length-(i+1):=(by omega);have m5:j<l.length-(i+1):=(by omega);have m6:i+1+(j+1)=i+1+1+j:=(by omega);have u1:i64.wrap (j:Int)=j:=Yf;have u2:i64.wrap ((j:Int)+1+1)=(j:Int)+1+1:=Yf;have u3:i64.wrap (((kI l (i+1+1+j)).length:Int)+1)=(kI l (i+1+1+j)).length+1:=Yf;have m7:(kI l (i+1+1+j)).length<l.length:=(by omega);have hpl:=Zj7 l (i+1+1+j);generalize cpI l (i+1+1+j)=Q at *;obtain ⟨q1,g1⟩:=W02.1 a1;obtain ⟨q2,g2⟩:=W02.1 a2;generalize l[i+1+1+j]=x at *;generalize l[i+1+j]=y at *;have ex1:=ex x;have ey1:=ex y;by_cases hd2:x=y
       . obtain ⟨f1,f2⟩:=hskip ⟨by omega,W0M hd2⟩;simp -implicitDefEqProofs[m1,m2,m3,m4,m5,m6,u1,u2,hq,hq2,g1,g2,hcl,ex1,ey1,hd2];refine ⟨rfl,?_⟩;rw[e4,f1,f2];refine Ym.sub (by simp[lk,Ya,AV.keys]) ?_;simp only[W0g,W0Q,or_false,W1M,forall_eq,Zf3,and_true];simp[lk]
       . have hn2:¬(i+1+1+j≠0/\decide (x=y)=true):=by
          rintro ⟨-,h⟩;exact hd2 (W0X h)
         have f1:=hkeep hn2;rw[if_neg hn2]at hkk;have il:∀ z:Int,(ia z).length=1:=λz=>rfl
         have id5:∀ z:Int,(ia z).drop 1=[]:=λz=>rfl
         have m8:(((kI l (i+1+1+j)).length:Int)+1)=((kI l (i+1+1+j+1)).length:Nat):=(by rw[hkk];simp);simp -implicitDefEqProofs[hd2,m1,m2,m3,m4,m5,m6,u1,u2,u3,hq,hq2,g1,g2,hcl,ex1,ey1,m7,il,id5];refine ⟨rfl,?_⟩;rw[<- ex1,<- W2q,f1,m8,e4];refine Ym.sub (by simp[lk,Ya,AV.keys]) ?_;simp only[W0g,W0Q,or_false,W1M,forall_eq,Zf3,and_true];simp[lk]
     . intro _;refine Qga ?_;have n1:¬(((l.length-(i+1+1):Nat):Int)+1<((l.length-(i+1):Nat):Int)):=(by omega);have e5:i+1+1+(l.length-(i+1+1))=l.length:=(by omega);rw[e5];have hml:=hkl l.length (by omega);have hcl:=Zj9 (l:=l) (p:=l.length) (W0f _);have n2:(kI l l.length).length<=l.length:=(by omega);simp -implicitDefEqProofs[n1,hcl];refine Qgr ?_;simp -implicitDefEqProofs[hcl,n2];refine Qgr ?_
       have t1:List.take (kI l l.length).length ((cpI l l.length).map ia)=(cpcI l).map ia:=by
        rw[<- List.map_take,cpI,List.take_left'];rfl;rfl
       have t2:List.drop l.length ((cpI l l.length).map ia)=[]:=W1j (by simp[hcl]);rw[t1,t2,W1G];have hne:¬(cpcI l).length=l.length:=(by rw[cpcI];omega);refine ⟨[.oss 1000 l.length 0 (kI l l.length).length],?_,?_,?_⟩
       . simp[Z29,evRes,Yi,newK,frzA,frz,AV.keys,lk,St.tmp]
       . rw[cpvI,if_neg hne];rfl
       . have hz:List.map ia (cpcI l)++List.replicate (l.length-(kI l l.length).length) [AV.int .i64 0]=cpoI l:=rfl;rw[hz];simp[Yi,newK,Zjf]
   . rw [W0S hd]at hsm;simp -implicitDefEqProofs[k1,k2,k3,k4,k5,w1,ex,hd,w2];refine ⟨rfl,?_,λj h1 h2=>?_⟩
     . (refine Wkc ?_;simp only[Zf3,Wkl,and_true];(try simp[lk,Yc,Ya,AV.keys]))
     . rcases W0q j (i+1) with h|h
       . exact hn j h1 h
       . have:j=i+1:=(by omega);subst this;exact hsm
 . intro hn;refine Qga ?_;have k1:¬((l.length-1:Nat):Int)+1<l.length:=by omega
   have hn2:noI l l.length:=by
    have:l.length-1+1=l.length:=by omega
    rwa [this]at hn
   have e:cpcI l=l:=Zje hn2;simp -implicitDefEqProofs[k1];refine Qgr ?_;simp -implicitDefEqProofs;refine ⟨[.osl 1000 l.length],?_,?_,?_⟩
   . simp[Z29,evRes,Yi,newK,frzA,frz,AV.keys,lk,St.tmp,ZhJ]
   . simp[cpvI,e,tupV]
   . simp[Yi,newK,Zj6,cpoI,e]
end Go.Proofs.YtldibfhbaaadcaaGreatDoor

namespace Go.Proofs
open Go.Shelf
def Tryz.lays189_ren:Go.Shelf.Ren:=⟨fun|189=>68|125=>84|257=>83|128=>114|129=>115|294=>105|295=>106|296=>107|297=>108|298=>109|299=>110|216=>111|300=>112|301=>113|328=>130|329=>131|330=>132|331=>133|332=>134|215=>57|343=>140|n=>n,fun|28=>32|3=>3|46=>103|0=>0|51=>190|53=>57|4=>4|183=>183|182=>182|131=>73|5=>5|9=>9|218=>199|222=>203|228=>208|229=>209|n=>n,fun|n=>n⟩
def Tryz.lays189:Go.Proofs.Lays.n189 prog Tryz.lays189_ren:={
 mixed:=by kernel_rfl
 f125:=Tryz.func84.trans (congrArg some (by kernel_rfl))
 f128:=Tryz.func114.trans (congrArg some (by kernel_rfl))
 f129:=Tryz.func115.trans (congrArg some (by kernel_rfl))
 f189:=Tryz.func68.trans (congrArg some (by kernel_rfl))
 f215:=Tryz.func57.trans (congrArg some (by kernel_rfl))
 f216:=Tryz.func111.trans (congrArg some (by kernel_rfl))
 f257:=Tryz.func83.trans (congrArg some (by kernel_rfl))
 f294:=Tryz.func105.trans (congrArg some (by kernel_rfl))
 f295:=Tryz.func106.trans (congrArg some (by kernel_rfl))
 f296:=Tryz.func107.trans (congrArg some (by kernel_rfl))
 f297:=Tryz.func108.trans (congrArg some (by kernel_rfl))
 f298:=Tryz.func109.trans (congrArg some (by kernel_rfl))
 f299:=Tryz.func110.trans (congrArg some (by kernel_rfl))
 f300:=Tryz.func112.trans (congrArg some (by kernel_rfl))
 f301:=Tryz.func113.trans (congrArg some (by kernel_rfl))
 f328:=Tryz.func130.trans (congrArg some (by kernel_rfl))
 f329:=Tryz.func131.trans (congrArg some (by kernel_rfl))
 f330:=Tryz.func132.trans (congrArg some (by kernel_rfl))
 f331:=Tryz.func133.trans (congrArg some (by kernel_rfl))
 f332:=Tryz.func134.trans (congrArg some (by kernel_rfl))
 f343:=Tryz.func140.trans (congrArg some (by kernel_rfl))
 t0:=Tryz.underlying0
 a0:=Tryz.isAgg0
 z0:=Tryz.sizeOf0
 v0:=Tryz.zeroValue0
 t3:=Tryz.underlying3
 a3:=Tryz.isAgg3
 z3:=Tryz.sizeOf3
 v3:=Tryz.zeroValue3
 t4:=Tryz.underlying4
 a4:=Tryz.isAgg4
 z4:=Tryz.sizeOf4
 v4:=Tryz.zeroValue4
 t5:=Tryz.underlying5
 a5:=Tryz.isAgg5
 z5:=Tryz.sizeOf5
 v5:=Tryz.zeroValue5
 t9:=Tryz.underlying9
 a9:=Tryz.isAgg9
 z9:=Tryz.sizeOf9
 v9:=Tryz.zeroValue9
 t28:=Tryz.underlying32
 a28:=Tryz.isAgg32
 z28:=Tryz.sizeOf32
 v28:=Tryz.zeroValue32
 t46:=Tryz.underlying103
 a46:=Tryz.isAgg103
 z46:=Tryz.sizeOf103
 v46:=Tryz.zeroValue103
 t51:=Tryz.underlying190
 a51:=Tryz.isAgg190
 z51:=Tryz.sizeOf190
 v51:=Tryz.zeroValue190
 t53:=Tryz.underlying57
 a53:=Tryz.isAgg57
 z53:=Tryz.sizeOf57
 v53:=Tryz.zeroValue57
 t131:=Tryz.underlying73
 a131:=Tryz.isAgg73
 z131:=Tryz.sizeOf73
 v131:=Tryz.zeroValue73
 t182:=Tryz.underlying182
 a182:=Tryz.isAgg182
 z182:=Tryz.sizeOf182
 v182:=Tryz.zeroValue182
 t183:=Tryz.underlying183
 a183:=Tryz.isAgg183
 z183:=Tryz.sizeOf183
 v183:=Tryz.zeroValue183
 t218:=Tryz.underlying199
 a218:=Tryz.isAgg199
 z218:=Tryz.sizeOf199
 v218:=Tryz.zeroValue199
 t222:=Tryz.underlying203
 a222:=Tryz.isAgg203
 z222:=Tryz.sizeOf203
 v222:=Tryz.zeroValue203
 t228:=Tryz.underlying208
 a228:=Tryz.isAgg208
 z228:=Tryz.sizeOf208
 v228:=Tryz.zeroValue208
 t229:=Tryz.underlying209
 a229:=Tryz.isAgg209
 z229:=Tryz.sizeOf209
 v229:=Tryz.zeroValue209 }
open Go.Sort Go.RowKit in
def Tryz.slices_Sort_int (blk off cap:Nat) (zs:List Int) (w:World) (hH:Holds (Value.int .i64) w blk off zs.toArray) (hblk:blk<w.heap.size) (hsz:zs.length<4611686018427387904) :
 Calls prog 68 #[.slice (some ⟨blk,off,none⟩) zs.length cap] w λe w' =>
  e = .returned (.tuple #[])/\∃ n os,w'=grow (putRow (Value.int .i64) (Sort.ahead w n) blk off (zs.mergeSort λx y=>decide (x<=y)).toArray) os:=Any.slices_Sort_int Tryz.lays189 blk off cap zs w hH hblk hsz
end Go.Proofs

namespace Go.Proofs.YtldibfhbaaadcaaGreatDoor
open Tryz (prog)
open IntKind (i64)
open Go.RowKit
variable {G:Jg}
def Zjk (W:World) (os:Array Obj):Ext W (Go.Sort.grow W os):=by
 refine ⟨rfl,rfl,rfl,?_,λk hk=>?_⟩
 . simp[Go.Sort.grow]
 . simp only[Go.Sort.grow];exact W26 hk
def Zjl (l:List Int) (hm:l.length<4611686018427387904) :
  PB prog G 68 [(1000,.row 1 (l.map ia))] [.osl 1000 l.length] (.tup []) [(1000,.row 1 ((sortI l).map ia))]:=by
 refine ⟨by kernel_rfl,λR W κ vs hG hN hW hX hE hk hsz hvs=>?_⟩;have hg:(obSt [(1000,.row 1 (l.map ia))]).get 1000=some (.row 1 (l.map ia)):=rfl;obtain ⟨vs⟩:=vs
 match vs,hsz with
 |[v],_ =>
 have hv:=hvs 0 _ v rfl rfl;obtain ⟨b,s,c,cs,t,hκ,rfl,hnc,hc,hb,hs,hr,hx⟩:=hk.osl hv hg (by simp)
 have hcell:∀ i,i<l.length->cs[s+i]? = some (.int .i64 l[i]!):=by
  intro i hi;obtain ⟨u,hu,hu2⟩:=hx i 0 (ia l[i]) (.int .i64 l[i]) (by simp[hi]) rfl
  have hu3:u = .int .i64 l[i]:=by
   cases hu2 with|pv h=>cases h;rfl
  subst hu3;rw[getElem!_pos l i hi];simpa using hu
 have hH:Go.Sort.Holds (Value.int .i64) W b s l.toArray:=by
  intro j hj;have hj':j<l.length:=(by simpa using hj);refine ⟨?_,by simp[World.frozen?,hb]⟩;rw[World.cell?,hb];simpa using hcell j hj'
 have hlt:=hk.loc_lt hκ;refine (Go.Proofs.Tryz.slices_Sort_int b s c l W hH hlt hm).mono ?_;rintro e W' ⟨rfl,n,os,rfl⟩;have hsl:(sortI l).length=l.length:=Zd0 l;refine ⟨_,κ,rfl,?_,.tup [] #[] rfl (by simp)⟩;refine SK.grow ?_ (Zjk _ _)
 have:=hk.change (o':=.row 1 ((sortI l).map ia)) (W':=Go.Sort.putRow (Value.int .i64) (Go.Sort.ahead W n) b s (l.mergeSort λx y=>decide (x<=y)).toArray)
  (cs':=Go.Sort.putCells (Value.int .i64) s (l.mergeSort λx y=>decide (x<=y)).toArray cs) hg hκ hb (by simp[AObj.dim,hsl]) (by simp[Go.Sort.putCells])
  (by simp[Go.Sort.putRow,Go.Sort.mapBlock,Go.Sort.ahead])
  (by simp[Go.Sort.putRow,Go.Sort.mapBlock,Go.Sort.ahead,Array.getElem?_modify,hb,Go.Sort.onCells])
  (by intro i hi hne;simp[Go.Sort.putRow,Go.Sort.mapBlock,Go.Sort.ahead,Array.getElem?_modify,Ne.symm hne]) rfl rfl rfl ?_
 . exact this
 . refine ⟨by simp[ia],by simp[Go.Sort.putCells];omega,?_⟩;intro i j r x hi hj
   have hi2:i<l.length:=by
    have:=(W02.1 hi).1;simpa [hsl] using this
   have hi3:i<(sortI l).length:=(by omega);rw[W09,W07 hi3,W0m,W00]at hi;subst hi
   match j,hj with
   |0,hj =>
   have ex:AV.int .i64 (sortI l)[i]=x:=(by simpa [ia] using hj);subst ex;refine ⟨.int .i64 (sortI l)[i],?_,.pv (.int _ _)⟩;have hz:s+i*1+0<cs.size:=(by omega);have e1:s+i*1+0-s=i:=(by omega);have e2:(l.mergeSort λx y=>decide (x<=y))=sortI l:=rfl;simp only[Go.Sort.putCells,e2];rw[Array.getElem?_mapIdx,W0n hz,W0m,if_pos (by simp;omega),e1];simp[hi3]
def herB (id day:Int) (x:Prt):Bool:=decide (x.ho=id)&&outB x day
def sureM (ps:Jp) (day id d:Int):Int:=((ps.filter λx=>herB id day x&&decide (x.dw=d)&&decide (x.lo=0)).map (·.lt)).foldl max 0
def perhL (ps:Jp) (day id d:Int):List Int:=(ps.filter λx=>herB id day x&&decide (x.dw=d) && !decide (x.lo=0)).map (·.lt)
def wkL (ps:Jp) (day id d:Int):List Int:=sureM ps day id d::r9.filter λn=>decide (sureM ps day id d<n)&&(perhL ps day id d).contains n
def r1K (k:Nat):Nat:=if 1000<=k then k-1000 else k
def nlV (k:Nat) (S:List Int):AV:=if S=[] then .nils else .osl k S.length
def nlO (k:Nat) (S:List Int):List (Nat×AObj):=if S=[] then [] else [(k,.row 1 (S.map ia))]
def nlN (k:Nat) (S:List Int):Nat:=if S=[] then k-1000 else k
def Zjm (o:List (Nat×AObj)) (k:Nat) (S:List Int):∀ q∈nlO k S,Yc o q.2=true:=by
 intro q hq;unfold nlO at hq
 split at hq
 . cases hq
 . simp at hq;subst hq;exact Zf3 o S
def Zjn (ρ:Nat->Nat) (l:List Int):(AObj.row 1 (l.map ia)).ren ρ = .row 1 (l.map ia):=by
 simp only[AObj.ren,W10]
 congr 2
 funext p;simp[ia,AV.ren]
def Zjo (r:Jr) (l:Jl) (hs:Jh) (ps:Jp) (day:Int):PC prog G 49 [ofA r l hs ps,.int .i64 day] (.func (.func 66) [] [.vptr [ofA r l hs ps] 0,.vptr [.int .i64 day] 0]):=by
 have pO:=Zih r l hs ps;obtain ⟨cs,eS⟩ : ∃ cs,ofA r l hs ps = .vptr cs 0:=⟨_,rfl⟩;rw[eS]at pO ⊢
 (refine Zhx rfl λR hG hrd=>Qga ?_;subst hG)
 simp -implicitDefEqProofs[Zhv,Zhw,pO]
def smS (U:List Int) (v i:Nat):St:=⟨[(10,.int .i64 i),(9,.int .i64 U.length),(8,.vsl (U.map ia)),(5,nlV 23 (sbN U v i)),(1,.int .i64 v)],nlO 23 (sbN U v i)⟩
def drA (r:Jr) (l:Jl) (d m:Int):AV:=.tup [if asN r l [] m=0/\d∈nums r then fileA r l else .nilp,.int .i64 (if asN r l [] m=0 then if d∈nums r then 0 else 6 else asN r l [] m)]
def truE (U:List Int):List (AV×AV):=(List.range (2 ^ U.length)).map λ(v:Nat)=>(.int .i64 (v:Int),Yg ((sbT U v).map ia))
def Zjp {U:List Int} {v:Nat} (h:v<2 ^ U.length):(truE U)[v]? = some (.int .i64 v,Yg ((sbT U v).map ia)):=by
 unfold truE;rw[W09,W0L h];rfl
def Zjq (U:List Int):(truE U).length=2 ^ U.length:=by simp[truE]
def Zjr (U:List Int) (v:Nat) (hv:v<64) (hU:U.length<=5):PC prog G 102 [.vsl (U.map ia),.int .i64 v] (Yg ((sbT U v).map ia)):=by
 refine Z64 rfl λR hG hrd=>?_
 subst hG;refine Qga ?_;simp -implicitDefEqProofs[Z62,Z63];refine Z9H (smS U v) (λ_=>True) U.length ?_ trivial ?_ ?_
 . have e0:sbN U v 0=[]:=rfl;simp only[smS,nlV,nlO,e0,if_true]
   (refine Wkc ?_;simp only[Wkl,and_true];(try simp[lk,Yc,Ya,AV.keys]))
 . intro i hi _;have sc:sbN U v (i+1)=if v / 2 ^ i % 2=1 then sbN U v i++[U.getD i 0] else sbN U v i:=rfl
   have hle:=ZgA U v i;have bU:=bitU (v:=v) (i:=i) hv (by omega);have hg:U.getD i 0=U[i]:=(by rw[W0j,W07 hi];rfl);rw[hg]at sc;have wi:i64.wrap ((i:Int)+1)=(i:Int)+1:=Yf;obtain ⟨S,hS⟩:=Qex (sbN U v i);rw[<- hS]at sc hle;obtain ⟨T,hT⟩:=Qex (sbN U v (i+1));rw[<- hT]at sc;have bb:(S.length+1)*8<=70368744177664:=(by omega);by_cases cS:S=[]
   case' pos =>
    have hV:nlV 23 S = .nils:=(by simp[nlV,cS]);have hQ:nlO 23 S=[]:=by simp[nlO,cS]
   case' neg =>
    have hV:nlV 23 S = .osl 23 S.length:=(by simp[nlV,cS]);have hQ:nlO 23 S=[(23,.row 1 (S.map ia))]:=by simp[nlO,cS]
   all_goals
    refine Qga ?_;by_cases q:v / 2 ^ i % 2=1
    . rw[if_pos q]at sc bU;have hne:¬T=[]:=(by rw[sc];simp);have hV2:nlV 23 T = .osl 23 (S.length+1):=(by rw[nlV,if_neg hne,sc];simp);have hQ2:nlO 23 T=[(23,.row 1 (S.map ia++[ia U[i]]))]:=(by rw[nlO,if_neg hne,sc];simp);simp -implicitDefEqProofs[smS,<- hS,hV,hQ,hi,ia,bU,wi,bb];simp only[smS,<- hT,hV2,hQ2]
      ((try simp only[ia,cS]);refine Ym.sub (by simp[lk,Ya,AV.keys,ia,cS]) ?_;simp only[ia,cS,Wkl,Zf3,and_true];(try simp[lk,Yc,Ya,AV.keys,ia,cS]))
    . rw[if_neg q]at sc bU;have sc:T=S:=sc;subst sc;simp -implicitDefEqProofs[smS,<- hS,hV,hQ,hi,ia,bU,wi];simp only[smS,<- hT,hV,hQ]
      ((try simp only[ia]);refine Ym.sub (by simp[lk,Ya,AV.keys,ia]) ?_;simp only[ia,Wkl,Zf3,and_true];(try simp[lk,Yc,Ya,AV.keys,ia]))
 . intro _;obtain ⟨S,hS⟩:=Qex (sbN U v U.length);have eT:sbT U v=S:=hS.symm;refine Qga ?_;by_cases cS:S=[]
   . have hV:nlV 23 S = .nils:=(by simp[nlV,cS]);have hQ:nlO 23 S=[]:=(by simp[nlO,cS]);simp -implicitDefEqProofs[smS,<- hS,hV,hQ];refine Qgr ?_;simp -implicitDefEqProofs[eT,cS,Yg]
   . have hV:nlV 23 S = .osl 23 S.length:=(by simp[nlV,cS]);have hQ:nlO 23 S=[(23,.row 1 (S.map ia))]:=(by simp[nlO,cS]);simp -implicitDefEqProofs[smS,<- hS,hV,hQ];refine Qgr ?_;simp -implicitDefEqProofs[eT,cS,Yg,ia]
def Zjs (hG:GC G) (hN:GN G) (r:Jr) (l:Jl) (d m:Int) (hw:WfN l) (hr:Wf r) (hd:Sml (nums r)):PC prog G 79 [.agg [.vsl (r.map isa),.vsl (l.map na)],.nils,.int .i64 m,.int .i64 d] (drA r l d m):=by
 have ha:=PC.sub (ZfV hG hN r l [] m hw hr (by simp[Sml])) (xs:=[.agg [.vsl (r.map isa),.vsl (l.map na)],.nils,.int .i64 m]) ⟨.rfl',.nils,.rfl',trivial⟩;have hc:=Zfo (G:=G) (nums r) d hd;have pF:=ZfR r l;have kF:(fileA r l).keys=[]:=AV.pure_keys _ pF;have hF:fileA r l = .vptr [.vsl (r.map isa),.vsl (l.map na),.vsl ((nums r).map ia),opA l] 0:=rfl;unfold drA;unfold askA at ha;by_cases h0:asN r l [] m=0
 . rw[h0]at ha ⊢;rw[hF]at ha pF ⊢
   (refine Z5X rfl λR hG hrd=>Qga ?_;subst hG)
   simp -implicitDefEqProofs[Z5V,Z5W];refine Qco (ha) ?_;simp -implicitDefEqProofs[pF];refine Qco (hc) ?_;by_cases h1:d∈nums r
   . simp -implicitDefEqProofs[h1,pF]
   . simp -implicitDefEqProofs[h1,pF]
 . rw[if_neg h0]at ha
   (refine Z5X rfl λR hG hrd=>Qga ?_;subst hG)
   simp -implicitDefEqProofs[Z5V,Z5W];refine Qco (ha) ?_;simp -implicitDefEqProofs[h0]
def Zjt (r:Jr) (l:Jl):PC prog G 80 [fileA r l] (.func (.func 101) [] [.vptr [fileA r l] 0]):=by
 have pO:=ZfR r l;obtain ⟨cs,eS⟩ : ∃ cs,fileA r l = .vptr cs 0:=⟨_,rfl⟩;rw[eS]at pO ⊢
 (refine Z60 rfl λR hG hrd=>Qga ?_;subst hG)
 simp -implicitDefEqProofs[Z5Y,Z5Z,pO]
def toT (F:AV) (K:Nat) (l i:Nat):List (Nat×AV):=[(10,.int .i64 i),(9,.int .i64 K),(1,.vptr [F] 0),(0,.func (.yield l) [] [])]
def Zju (S:List Int):(Yg (S.map ia)).pure=true:=by unfold Yg;split <;> simp_all [AV.pure,ia]
def Zjv (r:Jr) (l:Jl) (hU:(opQ l).length<=5) :
  ZiF prog G 101 [.vptr [fileA r l] 0] (truE (opQ l)):=by
 have pO:=ZfR r l;have hpw:=pow5 hU;have sh:=shU (n:=(opQ l).length) (by omega)
 have oA:opA l=Yg ((opQ l).map ia):=by
  unfold opA Yg opQ;by_cases c:opU l=[]
  . simp[c,sortI]
  . have h2:sortI (opU l)≠[]:=λh=>c (by have:=congrArg List.length h;rw[Zd0]at this;exact W0l.1 this)
    rw[if_neg c,if_neg (by simpa using h2)]
 have hA:=λ(v:Nat) (hv:v<64)=>PC.sub (Zjr (G:=G) (opQ l) v hv hU) (xs:=[opA l,.int .i64 v]) ⟨by rw[oA];exact .orNil _,.rfl',trivial⟩
 have eO:fileA r l = .vptr [.vsl (r.map isa),.vsl (l.map na),.vsl ((nums r).map ia),opA l] 0:=rfl;have pA:(opA l).pure=true:=by rw[oA];exact Zju _
 have lenO:opA l = .nils/\(opQ l).length=0∨opA l = .vsl ((opQ l).map ia):=by
  rw[oA];unfold Yg
  split
  . rename_i h;left;exact ⟨rfl,by simpa using h⟩
  . right;rfl
 have hat:=λv (h:v<2 ^ (opQ l).length)=>Zjp (U:=opQ l) h
 have hln:=Zjq (opQ l);refine ZiV Tryz.func101 (by kernel_rfl) (rc:=Z61) (by kernel_rfl) rfl (W0C rfl) λn l' J K hn H hY=>?_
 generalize truE (opQ l)=E at *;obtain ⟨k,hk⟩:=Qex (2 ^ (opQ l).length);rw[<- hk]at hpw sh hat hln
 have pT:∀ i,∀ q∈toT (fileA r l) k l' i,q.2.pure=true:=λi q hq=>by
  simp only[toT,W0g,W0Q,or_false]at hq;rcases hq with rfl|rfl|rfl|rfl <;> simp[AV.pure,pO]
 unfold Z61;refine ZiN ⟨toT (fileA r l) k l' 0,[]⟩ (λM A=>?_) (ZiP (ZiQ (λi=>i) (λi=>⟨toT (fileA r l) k l' i,[]⟩) (λi=>i<=k) (λi=>k-i) 0 rfl rfl (W1f _) λi hi=>?_))
 . refine Qga ?_;rcases lenO with ⟨h1,h2⟩|h1
   . rw[h2]at sh;have k1:k=1:=(by rw[hk,h2]);have sh0:i64.wrap 1=(k:Int):=(by rw[k1];rfl);simp -implicitDefEqProofs[iniT,eO,toT,h1,sh0]
     (refine Wkc ?_;simp only[Wkl,and_true];(try simp[lk,Yc,Ya,AV.keys]))
   . simp -implicitDefEqProofs[iniT,eO,toT,h1,sh]
     (refine Wkc ?_;simp only[Wkl,and_true];(try simp[lk,Yc,Ya,AV.keys]))
 by_cases hlt:i<k
 case neg =>
  obtain rfl:i=k:=(by omega);refine ZiN ⟨(11,.bool false)::toT (fileA r l) i l' i,[]⟩ (λM A=>?_) (ZiL (ZiO (.exit 0) ⟨[],[]⟩ (λM A=>?_) ?_))
  . refine Qga ?_;simp -implicitDefEqProofs[toT];exact (by (first|exact Wka|exact Wkb))
  . refine Qga ?_;simp -implicitDefEqProofs[toT];exact (by (first|exact Wka|exact Wkb))
  . simp only[ItBk,if_true];refine ⟨by simp,by simp[hln],λ_ _ _ h=>h⟩
 have wi:i64.wrap ((i:Int)+1)=((i+1:Nat):Int):=Yf;have hA:=hA i (by omega);have hat:=hat i hlt;have pV:=Zju (sbT (opQ l) i);obtain ⟨V,hV⟩:=Qex (Yg ((sbT (opQ l) i).map ia));rw[<- hV]at hA hat pV;refine ZiN ⟨(11,.bool true)::toT (fileA r l) k l' i,[]⟩ (λM A=>?_) (ZiN ⟨toT (fileA r l) k l' i,[]⟩ (λM A=>?_) (ZiM (ZiP ?_)))
 . refine Qga ?_;simp -implicitDefEqProofs[toT,hlt];exact (by (first|exact Wka|exact Wkb))
 . refine Qga ?_;simp -implicitDefEqProofs[toT];exact (by (first|exact Wka|exact Wkb))
 refine ZiN ⟨(3,.int .i64 i)::toT (fileA r l) k l' i,[]⟩ (λM A=>?_) ?_
 . refine Qga ?_;simp -implicitDefEqProofs[toT];exact (by (first|exact Wka|exact Wkb))
 refine ZiS H hY 8 (d:=21) (f:=.t 13) (ys:=[.t 14,.t 20]) (gd:=none) rfl (xs:=[.int .i64 i,V])
  ((20,V)::(14,.int .i64 i)::(13,.func (.yield l') [] [])::toT (fileA r l) k l' i) ⟨(22,.bool false)::toT (fileA r l) k l' i,[]⟩ [] [(22,.bool true)] (W0C rfl) ?_ ?_ ?_ ?_ rfl rfl ?_ ?_ ?_ ?_ ?_ ?_
 . rw[W09,hat];rfl
 . intro x hx;simp only[W0g,W0Q,or_false]at hx;rcases hx with rfl|rfl
   . simp[AV.pure]
   . exact pV
 . intro q hq;simp only[W0g]at hq;rcases hq with rfl|rfl|rfl|hq
   . exact pV
   . simp[AV.pure]
   . simp[AV.pure]
   . exact pT i q hq
 . simp -implicitDefEqProofs[toT,eO]
   first|refine Yd.of hA (by simp[pA]) ?_|refine Ye.of hA (by simp[pA]) ?_
   simp -implicitDefEqProofs[pV]
   ((try simp only[AV.pure_keys _ pV]);refine Ym.sub (by simp[lk,Ya,AV.keys,AV.pure_keys _ pV]) ?_;simp only[AV.pure_keys _ pV,Wkl,and_true];(try simp[lk,Yc,Ya,AV.keys,AV.pure_keys _ pV]))
 . rfl
 . simp -implicitDefEqProofs[toT];exact (by (first|exact Wka|exact Wkb))
 . refine ZiO .normal ⟨toT (fileA r l) k l' i,[]⟩ (λM A=>?_) ⟨rfl,ZiO .normal ⟨toT (fileA r l) k l' (i+1),[]⟩ (λM A=>?_) ⟨i+1,rfl,rfl,by omega,by omega⟩⟩
   . refine Qga ?_;simp -implicitDefEqProofs[toT];exact (by (first|exact Wka|exact Wkb))
   . refine Qga ?_;simp -implicitDefEqProofs[toT,wi];exact (by (first|exact Wka|exact Wkb))
 . intro q hq
   cases hq
 . simp -implicitDefEqProofs;exact (by (first|exact Wka|exact Wkb))
 . intro A;refine Qga ?_;simp -implicitDefEqProofs;exact (by (first|exact Wka|exact Wkb))
def Z1B.sub {P:Program} {G:Jg} {st st1:St} {f:FuncId} {xs ys:List AV} {v:AV} (h:Z1B P G st f ys v st1) (hp:xs.all AV.pure=true) (hs:NsubL xs ys):Z1B P G st f xs v st1 :=
 λR a W κ vs hG hk ha=>h R a W κ vs hG hk ⟨ha.1.trans hs.len,λi y u hi hu=>by
  obtain ⟨x,h2,h3⟩:=hs.at i y hi;exact .pv (h3 _ _ _ ((ha.2 i x u h2 hu).toPV (W03.1 hp x (W0d h2))))⟩
def NewS.sub {P:Program} {G:Jg} {st:St} {ρ:Nat->Nat} {os:List (Nat×AObj)} {f:FuncId} {xs ys:List AV} {v:AV} (h:NewS P G st ρ os f ys v) (hp:xs.all AV.pure=true) (hs:NsubL xs ys):NewS P G st ρ os f xs v:=by
 obtain ⟨pre,h1,h2⟩:=h;exact ⟨pre,h1,λst' h'=>(h2 st' h').sub hp hs⟩
structure SetP (P:Program) (G:Jg) (so co:FuncId) (U:List Int):Prop where
 hsp:PB P G so [(1000,.row 1 (U.map ia))] [.osl 1000 U.length] (.tup []) [(1000,.row 1 ((sortI U).map ia))]
 hcp:PB P G co [(1000,.row 1 ((sortI U).map ia))] [.osl 1000 U.length] (if (setI U).length=U.length then .osl 1000 U.length else .oss 1000 U.length 0 (setI U).length) [(1000,.row 1 (cpoI (sortI U)))]
 hOl:(cpoI (sortI U)).length=U.length
 hOt:(cpoI (sortI U)).take (setI U).length=(setI U).map ia
 hOf:(setI U).length=U.length->cpoI (sortI U)=(setI U).map ia
 kO:∀ o,Yc o (.row 1 (cpoI (sortI U)))=true
 rO:∀ ρ,AObj.ren ρ (.row 1 (cpoI (sortI U))) = .row 1 (cpoI (sortI U))
 hCl:(setI U).length<=U.length
def poK (l:Jl) (d m:Int) (k:Nat):List Int:=(List.range k).map (ltV l d m)
def ZjH {l:Jl} {d m:Int} {k:Nat}:poK l d m (k+1)=poK l d m k++[ltV l d m k]:=by simp[poK,W1y]
def ZjI {l:Jl} {d m:Int} {k:Nat}:(poK l d m k).length=k:=by simp[poK]
def poB (F:AV) (d m:Int) (S:List Int):List (Nat×AObj):=[(1004,.box [.int .i64 d]),(1005,.box [.int .i64 m]),(1008,.box [F]),(1010,.box [nlV 1037 S])]++nlO 1037 S
def poU (F:AV) (d m:Int) (S T:List Int):List (Nat×AObj):=[(1004,.box [.int .i64 d]),(1005,.box [.int .i64 m]),(1008,.box [F]),(1010,.box [nlV (nlN 1037 S) T])]++nlO (nlN 1037 S) T
def poF (k:Nat):Bool:=decide (k<1000)&&(k == 12||k == 204||k == 205||k == 206||k == 207||k == 209||k == 210||k == 211)
def poA (r:Jr) (l:Jl) (d m:Int):AV:=.tup [if asN r l [] m=0/\d∈nums r then .vsl ((posL l d m).map ia) else .nils,.int .i64 (if asN r l [] m=0 then if d∈nums r then 0 else 6 else asN r l [] m)]
def ZjJ (U:List Int) (h:U.length<=1000):SetP prog G 68 69 U:=by
 have hsp:=Zjl (G:=G) U (by omega);have sl:(sortI U).length=U.length:=Zd0 U;have hcp:=Zjj (G:=G) (sortI U) (by omega);rw[sl]at hcp;have hC:cpcI (sortI U)=setI U:=Zji _
 have hCl:(setI U).length<=U.length:=by
  have:=Zj7 (sortI U) (sortI U).length;rw[<- hC];unfold cpcI;omega
 have hOl:(cpoI (sortI U)).length=U.length:=by
  unfold cpoI;rw[W0s,W0N,W1H,hC,sl];omega
 have hOt:(cpoI (sortI U)).take (setI U).length=(setI U).map ia:=by
  unfold cpoI;rw[hC];exact List.take_left' (by simp)
 have hOf:(setI U).length=U.length->cpoI (sortI U)=(setI U).map ia:=λh=>by
  rw[<- hOt,h,<- hOl,W0v]
 have hcv:∀ k,cpvI k (sortI U)=if (setI U).length=U.length then .osl k U.length else .oss k U.length 0 (setI U).length:=λk=>by unfold cpvI;rw[hC,sl]
 rw[hcv]at hcp;have hz:∀ n,List.replicate n zrO=(List.replicate n (0:Int)).map ia:=λn=>by rw[List.map_replicate];rfl
 exact ⟨hsp,hcp,hOl,hOt,hOf,λo=>by unfold cpoI;rw[hz,<- W0r];exact Zf3 _ _,λρ=>by unfold cpoI;rw[hz,<- W0r];exact Zf2 _ _,hCl⟩
def ZjK (hG:GC G) (hN:GN G) (r:Jr) (l:Jl) (d m:Int) (hw:WfN l) (hr:Wf r) (hd:Sml (nums r)):PC prog G 67 [.agg [.vsl (r.map isa),.vsl (l.map na)],.int .i64 d,.int .i64 m] (poA r l d m):=by
 have c1:=Zjs hG hN r l d m hw hr hd;unfold drA at c1;unfold poA;by_cases h0:asN r l [] m=0/\d∈nums r
 case neg =>
  rw[if_neg h0]at c1 ⊢;obtain ⟨e,he⟩:=Qex ((if asN r l [] m=0 then if d∈nums r then (0:Int) else 6 else asN r l [] m))
  have e0:¬e=0:=by
   rw[he];by_cases h1:asN r l [] m=0
   . rw[if_pos h1,if_neg λh=>h0 ⟨h1,h⟩];decide
   . rw[if_neg h1];exact h1
  rw[<- he]at c1 ⊢
  (refine Z67 rfl λR hG hrd=>Qga ?_;subst hG)
  simp -implicitDefEqProofs[Z65,Z66];refine Qco (c1) ?_;simp -implicitDefEqProofs[e0]
 rw[if_pos h0,if_pos h0.1,if_pos h0.2]at c1;rw[if_pos h0,if_pos h0.1,if_pos h0.2];have hop:=Zj2 (Zgh h0.1).1;have hB:=Zgg (Zgh h0.1).1;have hU:=ZgD hB;have h12:=Zgi hB;have hp2:=pow5 hU;have hpos:0<2 ^ (opQ l).length:=Nat.pos_of_ne_zero (by simp);have hps:=Zi1 (l:=l) (d:=d) (m:=m) λv _=>Zi5 hop hB h0.2 m v
 have e3:(List.range (2 ^ (opQ l).length)).map (ltV l d m)=poK l d m (2 ^ (opQ l).length):=rfl;rw[e3]at hps;have hlv:∀ v,ltV l d m v=(byV (sbT (opQ l) v) m l d l.length).lt:=λv=>rfl
 have tf:=Zjt (G:=G) r l;have hit:=Zjv (G:=G) r l hU;have hat:=λv (h:v<2 ^ (opQ l).length)=>Zjp (U:=opQ l) h
 have hln:=Zjq (opQ l);have sbl:=λv=>ZgA (opQ l) v (opQ l).length
 have hSP:=ZjJ (G:=G) (poK l d m (2 ^ (opQ l).length)) (by rw[ZjI];omega);have hff:=λv=>ZfW (G:=G) r l false true (sbT (opQ l) v) [] m
 have hby:=λv=>by_pb (G:=G) r l (sbT (opQ l) v) m d [] h12 (by have:=sbl v;unfold Sml sbT;omega) (λ_ _ h=>by cases h)
 have l1:∀ s,liA false s = .vsl (s.map ia):=λs=>by simp[liA]
 have l2:liA true [] = .nils:=(by simp[liA]);simp only[l1,l2]at hff;generalize truE (opQ l)=E at *;obtain ⟨N,hN'⟩:=Qex (2 ^ (opQ l).length);rw[<- hN']at hp2 hpos hps hat hln hSP;have pF:=ZfR r l;have kF:(fileA r l).keys=[]:=AV.pure_keys _ pF;have rF:=λρ=>AV.ren_pure (ρ:=ρ) (fileA r l) pF
 have fF:∀ ok st,frz ok st 6 (fileA r l)=some (fileA r l):=λok st=>by unfold fileA;simp[frz,AV.keys]
 obtain ⟨cs,hF⟩ : ∃ cs,fileA r l = .vptr cs 0:=⟨_,rfl⟩;simp only[hF]at c1 tf hit hff hby pF kF rF fF;clear hF;refine Z67 rfl λR hG' hrd=>?_
 subst hG';refine Qga ?_;simp -implicitDefEqProofs[Z65,Z66];refine Qco (c1) ?_;simp -implicitDefEqProofs;refine Yd.of tf (by simp[pF]) ?_;simp -implicitDefEqProofs
 refine ZiH hrd (by decide) hit (by simp[evA,St.tmp,lk]) (by simp[AV.pure,pF]) poF (by intro k hk;simp[poF]at hk;omega) r1K [(4,.ptr 1004 0),(5,.ptr 1005 0),(8,.ptr 1008 0),(10,.ptr 1010 0)]
  (λk=>poB (.vptr cs 0) d m (poK l d m k)) (λk=>poU (.vptr cs 0) d m (poK l d m k) (poK l d m (k+1))) (λk=>k<=N) (W1f _) ?_ ?_ ?_ ?_ ?_ ?_ ?_ ?_ ?_ ?_ ?_
 . intro k q hq;simp only[poB,nlO]at hq
   split at hq <;> simp at hq
   . rcases hq with rfl|rfl|rfl|rfl <;> simp
   . rcases hq with rfl|rfl|rfl|rfl|rfl <;> simp
 . intro k;simp only[poB,nlO]
   split <;> simp[r1K]
 . intro k;simp only[poU,nlO,nlN]
   split <;> split <;> simp[r1K]
 . intro k q hq;have hne:poK l d m (k+1)≠[]:=(by rw[ZjH];simp);simp only[poB,poU,nlO,nlN]at *;by_cases c:poK l d m k=[]
   . simp only[c,if_true]at *
     split <;> simp at hq ⊢ <;> rcases hq with rfl|rfl|rfl|rfl <;> simp[isK,lk]
   . simp only[c,hne,if_false]at *;simp at hq ⊢;rcases hq with rfl|rfl|rfl|rfl|rfl <;> simp[isK,lk]
 . intro k q hq;simp only[poB,poU,nlO,nlN]at *;by_cases c:poK l d m k=[]
   . simp only[c,if_true]at *
     split at hq <;> simp at hq
     . rcases hq with rfl|rfl|rfl|rfl <;> exact .inl (by simp[isK,lk])
     . rcases hq with rfl|rfl|rfl|rfl|rfl
       . exact .inl (by simp[isK,lk])
       . exact .inl (by simp[isK,lk])
       . exact .inl (by simp[isK,lk])
       . exact .inl (by simp[isK,lk])
       . exact .inr (by simp[Yl,r1K,St.get,St.set,putO,lk])
   . simp only[c,if_false]at *
     split at hq <;> simp at hq
     . rcases hq with rfl|rfl|rfl|rfl <;> exact .inl (by simp[isK,lk])
     . rcases hq with rfl|rfl|rfl|rfl|rfl <;> exact .inl (by simp[isK,lk])
 . intro k;have hne:poK l d m (k+1)≠[]:=(by rw[ZjH];simp);simp only[poB,poU,nlO,nlV,nlN];by_cases c:poK l d m k=[]
   . simp[c,hne,Yl,r1K,AV.ren,Zgx,Zjn]
   . simp[c,hne,Yl,r1K,AV.ren,Zgx,Zjn]
 . have e0:poK l d m 0=[]:=rfl;simp[poB,nlO,nlV,e0,Yl,r1K,St.set,putO,AObj.ren,AV.ren,rF]
 . intro k q hq;simp only[poB,W0h]at hq;rcases hq with hq|hq
   . simp only[poB,nlO];simp at hq;rcases hq with rfl|rfl|rfl|rfl
     . simp[Yc,Ya,AV.keys]
     . simp[Yc,Ya,AV.keys]
     . simp[Yc,Ya,kF]
     . unfold nlV
       split <;> simp[Yc,Ya,AV.keys,lk]
   . exact Zjm _ _ _ q hq
 . intro q hq;simp at hq;rcases hq with rfl|rfl|rfl|rfl
   all_goals
    refine ⟨by simp[lk,AV.ren,r1K],by simp,by simp,λj k hk=>?_⟩;simp[AV.keys]at hk;subst hk;simp only[poB];simp[isK,lk]
 . intro k x hx hk R' hG hN;have hkl:k<N:=(by rw[<- hln];exact (W02.1 hx).1);rw[hat k hkl]at hx;obtain rfl:=W1L hx;have hff:=hff k;have hby:=hby k;have sc:=ZjH (l:=l) (d:=d) (m:=m) (k:=k);have hle:=ZjI (l:=l) (d:=d) (m:=m) (k:=k);rw[hlv]at sc;have pV:=Zju (sbT (opQ l) k);have kV:=AV.pure_keys _ pV;have nV:Nsub (Yg ((sbT (opQ l) k).map ia)) (.vsl ((sbT (opQ l) k).map ia)):=.orNil _;obtain ⟨V,hV'⟩:=Qex (Yg ((sbT (opQ l) k).map ia));rw[<- hV']at pV kV nV ⊢;obtain ⟨x,hx'⟩:=Qex (byV (sbT (opQ l) k) m l d l.length);have hnx:na x=[.int .i64 x.nu,.int .i64 x.dy,.int .u8 x.sg,.int .i64 x.dr,.int .i64 x.lt,.int .i64 x.fr,.int .i64 x.tu,.int .i64 x.ca,.bool x.up,.int .u8 x.wy]:=rfl;rw[<- hx',hnx]at hby;rw[<- hx']at sc;obtain ⟨B,hB'⟩:=Qex (AV.vsl ((sbT (opQ l) k).map ia));rw[<- hB']at hff hby nV;have pB:B.pure=true:=(by rw[hB'];simp[AV.pure,ia]);have rB:=λρ=>AV.ren_pure (ρ:=ρ) B pB
   have kB:B.keys=[]:=AV.pure_keys _ pB;generalize byK (sbT (opQ l) k) m l d l.length []=K at *;clear hB';generalize poK l d m k=S at *;generalize poK l d m (k+1)=T at *;have bb:(S.length+1)*8<=70368744177664:=(by omega);have hne:¬T=[]:=(by rw[sc];simp);have hTl:T.length=S.length+1:=(by rw[sc];simp);have em:T.map ia=S.map ia++[[.int .i64 x.lt]]:=(by rw[sc,W0r];rfl);by_cases cS:S=[]
   case' pos =>
    have hV:nlV 1037 S = .nils:=(by simp[nlV,cS]);have hQ:nlO 1037 S=[]:=(by simp[nlO,cS]);have hM:nlN 1037 S=37:=by simp[nlN,cS]
   case' neg =>
    have hV:nlV 1037 S = .osl 1037 S.length:=(by simp[nlV,cS]);have hQ:nlO 1037 S=[(1037,.row 1 (S.map ia))]:=(by simp[nlO,cS]);have hM:nlN 1037 S=1037:=by simp[nlN,cS]
   all_goals
    refine Qga ?_;simp only[poB,hV,hQ,W1e,W18];simp -implicitDefEqProofs;intro R'' hG'' hN'';refine Z1P (ZjE mixed ?_);rw[hG'']
    iterate 5 (rw[RE_op (by simp[wants]) (by simp[Z1y])];simp -implicitDefEqProofs[execE])
    rw[ZjG (by simp[wants])];simp -implicitDefEqProofs;refine CallE.new (NewS.sub (ys:=[.vptr cs 0,B,.nils,.int .i64 m]) (NewS.of hff (λk=>k+200) (by simp[ffO]) (by simp[ffO,St.get,lk]) (by simp[AV.pure,pF,pB]) rfl) (by simp[AV.pure,pF,pV]) ⟨.rfl',nV,.rfl',.rfl',trivial⟩) ?_;simp -implicitDefEqProofs[Yl,ffO,ffC,AV.ren,AObj.ren,rF,rB,kV,kF,kB]
    iterate 1 (rw[RE_op (by simp[wants]) (by simp[Z1y])];simp -implicitDefEqProofs[execE])
    rw[ZjG (by simp[wants])];simp -implicitDefEqProofs;refine CallE.new (NewS.ref hby (λk=>k-800) (by simp[fcO]) (by simp[fcO]) (by simp[fcO,St.get,lk,AV.ren,AObj.ren,mpA,rF,rB,fcC]) (by simp only[fcO,W0g,W0Q,or_false,W1M,forall_eq,ZfF,and_true];simp[lk,Yc,Ya,AV.keys,kF,kB,fcC]) (by simp[Ya,AV.keys,kF,lk,fcC,fcO]) rfl (by simp[AV.ren,rF,fcC]) rfl) ?_;simp -implicitDefEqProofs[Yl,fcO,fcC,AV.ren,AObj.ren,ZfG,rF,rB,kV,kF,kB]
    iterate 4 (rw[RE_op (by simp[wants]) (by simp[Z1y])];simp -implicitDefEqProofs[execE,bb])
    refine ⟨rfl,?_⟩;refine ⟨rfl,?_,by omega⟩;simp only[poU,hM,nlV,nlO,hne,if_false,hTl,em];simp[cS,Yi,poF,ZfM,frzO,frzA,frz,AV.keys,ia,fF,W0y]
 . intro _;rw[hln];have hUl:=ZjI (l:=l) (d:=d) (m:=m) (k:=N);generalize poK l d m N=U at *;obtain ⟨hsp,hcp,hOl,hOt,hOf,kO,rO,hCl⟩:=hSP;have cU:¬U=[]:=λh=>by rw[h]at hUl;simp at hUl;omega
   rw[<- hps];have pu:((setI U).map ia).all (λr=>r.all AV.pure)=true:=(by simp[ia,AV.pure]);simp -implicitDefEqProofs[poB,nlV,nlO,cU,Yl,r1K,AV.ren,Zgx,Zjn,rF];refine Qgr ?_;simp -implicitDefEqProofs;refine Yd.sem (Z1B.byref hsp (λ_=>37) (by simp) (by simp) (by simp[St.get,lk,Zf2]) (by simp[Zf3]) (by simp[Ya,AV.keys,lk]) rfl (by simp[AV.ren]) rfl rfl) ?_;simp -implicitDefEqProofs[Yl,Zf2];refine Yd.sem (Z1B.byref hcp (λ_=>37) (by simp) (by simp) (by simp[St.get,lk,Zf2]) (by simp[Zf3]) (by simp[Ya,AV.keys,lk]) rfl (by simp[AV.ren]) rfl rfl) ?_;by_cases hq:(setI U).length=U.length
   . have hOf:=hOf hq;rw[hOf]at *;simp -implicitDefEqProofs[Yl,Zf2,hq,AV.ren,ia]
   . skip
     simp -implicitDefEqProofs[Yl,rO,hq,AV.ren,hOl,hOt,hCl,ia]
section
open Qq Tryz
def ZjL:RCode :=
 S [r 0 [n 6 (.bool false)],r 1 [m 7 0,m 8 1,o 9 .geq 7 8,m 10 9,g 10 true (m 11 0),g 10 true (m 12 2),g 10 true (o 13 .leq 11 12),v 14 10 13,m 6 14],.ret]
def ZjM:List RRes:=[.t 6]
def ZjN:PCt prog 51 f51 ZjL ZjM:=pcT func51 rfl
def ZjO:RCode :=
 S [r 0 [n 4 (.bool false)],S [r 1 [n 5 O],.block 0 (.loop (S [S [r 2 [m 6 5,m 7 0,e 8 7,o 9 .lss 6 8],.cond (.t 9) .skip (.exit 0)],.block 1 (S [r 4 [m 12 0,m 13 5,i 14 1 12 13,l 15 14,m 16 1,o 17 .eql 15 16],K 17 5 [n 4 (.bool true)]]),r 3 [m 10 5,k 11 .add 10 I,m 5 11]]))],r 6 [n 4 (.bool false)],.ret]
def ZjP:List RRes:=[.t 4]
def ZjQ:PCt prog 25 f25 ZjO ZjP:=pcT func25 rfl
def ZjR:RCode :=
 S [r 0 [b 2 0,n 4 (.bool false)],r 1 [f 8 2 2,l 9 8,m 10 1,i 11 4 9 10,L 12 4 11,w 5 (.alloc [O,O,O,.nils]),s 4 5 12],S [R 2 [f 13 0 5,a [0] (l 14 13),a [1] (w 15 (.call 51 [.t 14,.c I,.c (.int .i64 9999)])),a [2] (t 16 15),a [3,2] (m 17 16),a [4] (g 17 false (m 18 1)),a [5,4] (g 17 false (k 19 .gtr 18 O)),a [6,4,4] (g 17 false (m 20 19)),a [7] (g 20 true (f 21 0 5)),a [8,7] (g 20 true (l 22 21)),a [7] (g 20 true (f 23 2 2)),a [10,7] (g 20 true (l 24 23)),a [7] (g 20 true (m 25 1)),a [12,7] (g 20 true (k 26 .sub 25 I)),a [11,13,7] (g 20 true (i 27 4 24 26)),a [14,7] (g 20 true (f 28 0 27)),a [15,7] (g 20 true (l 29 28)),a [9,16,7] (g 20 true (o 30 .leq 22 29)),a [7,17,4] (g 17 false (v 31 20 30)),a [4,18] (u 32 17 31),a [19,7] (m 33 32),a [20] (g 33 false (f 34 1 5)),a [21,20] (g 33 false (l 35 34)),a [20] (g 33 false (f 36 2 5)),a [23,20] (g 33 false (l 37 36)),a [22,24,20,20] (g 33 false (w 38 (.call 51 [.t 35,.c I,.t 37]))),a [25,20] (g 33 false (t 39 38)),a [20,26] (u 40 33 39),a [27,25] (m 41 40),a [28] (g 41 false (f 42 2 5)),a [29,28] (g 41 false (l 43 42)),a [30,28] (g 41 false (k 44 .gtr 43 (.int .i64 999))),a [28,31] (u 45 41 44),a [32,28] (m 46 45),a [33] (g 46 false (f 47 3 5)),a [34,33] (g 46 false (l 48 47)),a [35,33] (g 46 false (e 49 48)),a [36,33] (g 46 false (k 50 .gtr 49 (.int .i64 8))),a [33,37] (u 51 46 50)],K 51 3 [n 4 (.bool false)]],r 4 [f 52 0 2,f 53 0 52,L 54 1 53,c 55 26 [54],m 6 55],S [r 5 [n 7 O],.block 0 (.loop (S [S [r 6 [m 56 7,f 57 3 5,l 58 57,e 59 58,o 60 .lss 56 59],.cond (.t 60) .skip (.exit 0)],.block 1 (S [R 8 [m 63 6,f 64 3 5,a [1] (l 65 64),m 66 7,a [2,3] (i 67 1 65 66),a [4] (l 68 67),a [0,5] (c 69 25 [63,68]),a [6] (t 70 69),a [7,6] (m 71 70),a [8] (g 71 false (m 72 7)),a [9,8] (g 71 false (k 73 .gtr 72 O)),a [10,8,8] (g 71 false (m 74 73)),a [11] (g 74 true (f 75 3 5)),a [12,11] (g 74 true (l 76 75)),a [11] (g 74 true (m 77 7)),a [13,14,11] (g 74 true (i 78 1 76 77)),a [15,11] (g 74 true (l 79 78)),a [11] (g 74 true (f 80 3 5)),a [17,11] (g 74 true (l 81 80)),a [11] (g 74 true (m 82 7)),a [19,11] (g 74 true (k 83 .sub 82 I)),a [18,20,11] (g 74 true (i 84 1 81 83)),a [21,11] (g 74 true (l 85 84)),a [16,22,11] (g 74 true (o 86 .leq 79 85)),a [11,23,8] (g 71 false (v 87 74 86)),a [8,24] (u 88 71 87)],K 88 9 [n 4 (.bool false)]]),r 7 [m 61 7,k 62 .add 61 I,m 7 62]]))],r 10 [n 4 (.bool true)],.ret]
def ZjS:List RRes:=[.t 4]
def ZjT:PCt prog 61 f61 ZjR ZjS:=pcT func61 rfl
def ZjU:RCode :=
 S [r 0 [b 2 0,n 4 O],S [r 1 [n 5 O],.block 0 (.loop (S [S [r 2 [m 6 5,f 7 2 2,l 8 7,e 9 8,o 10 .lss 6 9],.cond (.t 10) .skip (.exit 0)],.block 1 (S [r 4 [f 13 2 2,l 14 13,m 15 5,i 16 4 14 15,f 17 0 16,l 18 17,m 19 1,o 20 .eql 18 19],K 20 5 [m 21 5,m 4 21]]),r 3 [m 11 5,k 12 .add 11 I,m 5 12]]))],r 6 [n 4 (.int .i64 (-1))],.ret]
def ZjV:List RRes:=[.t 4]
def ZjW:PCt prog 24 f24 ZjU ZjV:=pcT func24 rfl
def ZjX:RCode :=
 S [r 0 [b 2 0,n 4 (.bool false)],r 1 [f 8 3 2,l 9 8,m 10 1,i 11 7 9 10,L 12 7 11,w 5 (.alloc [O,O,O,O,O,O,.int .u8 0]),s 7 5 12],S [R 2 [f 13 0 5,a [0] (l 14 13),a [1] (w 15 (.call 51 [.t 14,.c I,.c (.int .i64 9999)])),a [2] (t 16 15),a [3,2] (m 17 16),a [4] (g 17 false (m 18 1)),a [5,4] (g 17 false (k 19 .gtr 18 O)),a [6,4,4] (g 17 false (m 20 19)),a [7] (g 20 true (f 21 0 5)),a [8,7] (g 20 true (l 22 21)),a [7] (g 20 true (f 23 3 2)),a [10,7] (g 20 true (l 24 23)),a [7] (g 20 true (m 25 1)),a [12,7] (g 20 true (k 26 .sub 25 I)),a [11,13,7] (g 20 true (i 27 7 24 26)),a [14,7] (g 20 true (f 28 0 27)),a [15,7] (g 20 true (l 29 28)),a [9,16,7] (g 20 true (o 30 .leq 22 29)),a [7,17,4] (g 17 false (v 31 20 30)),a [4,18] (u 32 17 31),a [19,7] (m 33 32),a [20] (g 33 false (f 34 1 5)),a [21,20] (g 33 false (l 35 34)),a [22,20,20] (g 33 false (w 36 (.call 51 [.t 35,.c O,.c (.int .i64 14610)]))),a [23,20] (g 33 false (t 37 36)),a [20,24] (u 38 33 37),a [25,23] (m 39 38),a [26] (g 39 false (L 40 4 2)),a [26] (g 39 false (f 41 2 5)),a [28,26] (g 39 false (l 42 41)),a [27,29,26,26] (g 39 false (c 43 24 [40,42])),a [30,26] (g 39 false (k 44 .lss 43 O)),a [26,31] (u 45 39 44),a [32,30] (m 46 45),a [33] (g 46 false (f 47 6 5)),a [34,33] (g 46 false (l 48 47)),a [35,33] (g 46 false (k 49 .gtr 48 (.int .u8 2))),a [33,36] (u 50 46 49)],K 50 3 [n 4 (.bool false)]],S [r 4 [f 52 0 2,f 53 0 52,L 54 1 53,f 55 3 5,L 56 2 55,c 57 77 [54,56],m 51 57,x 58 0 51,x 59 1 51,w 6 (.alloc [O,O,.int .u8 0,.nils,.nils]),s 5 6 58,m 7 59],r 5 [m 60 7,t 61 60],K 61 6 [n 4 (.bool false)]],r 7 [f 62 5 5,l 63 62,k 64 .eql 63 (.int .i64 (-1)),m 65 64,g 65 false (f 66 5 5),g 65 false (l 67 66),g 65 false (f 68 1 5),g 65 false (l 69 68),g 65 false (w 70 (.call 51 [.t 67,.t 69,.c (.int .i64 14610)])),g 65 false (m 71 70),g 71 true (f 72 6 5),g 71 true (l 73 72),g 71 true (k 74 .eql 73 (.int .u8 0)),g 65 false (v 75 71 74),u 76 65 75,m 4 76],.ret]
def ZjY:List RRes:=[.t 4]
def ZjZ:PCt prog 62 f62 ZjX ZjY:=pcT func62 rfl
def Zk0:RCode :=
 S [r 0 [b 1 0,n 2 (.bool false)],S [r 1 [f 5 2 1,l 6 5,e 7 6,k 8 .gtr 7 (.int .i64 6),m 9 8,g 9 false (f 10 3 1),g 9 false (l 11 10),g 9 false (e 12 11),g 9 false (k 13 .gtr 12 (.int .i64 30)),u 14 9 13],K 14 2 [n 2 (.bool false)]],S [r 3 [n 3 O],.block 0 (.loop (S [S [r 4 [m 15 3,f 16 2 1,l 17 16,e 18 17,o 19 .lss 15 18],.cond (.t 19) .skip (.exit 0)],.block 1 (S [r 6 [L 22 4 1,m 23 3,c 24 61 [22,23],t 25 24],K 25 7 [n 2 (.bool false)]]),r 5 [m 20 3,k 21 .add 20 I,m 3 21]]))],S [r 8 [n 4 O],.block 2 (.loop (S [S [r 9 [m 26 4,f 27 3 1,l 28 27,e 29 28,o 30 .lss 26 29],.cond (.t 30) .skip (.exit 2)],.block 3 (S [r 11 [L 33 4 1,m 34 4,c 35 62 [33,34],t 36 35],K 36 12 [n 2 (.bool false)]]),r 10 [m 31 4,k 32 .add 31 I,m 4 32]]))],r 13 [n 2 (.bool true)],.ret]
def Zk1:List RRes:=[.t 2]
def Zk2:PCt prog 35 f35 Zk0 Zk1:=pcT func35 rfl
def Zk3:RCode :=
 S [r 0 [b 1 0,n 2 O],S [r 1 [f 4 0 1,L 5 2 4,c 6 60 [5],m 3 6],r 2 [m 7 3,k 8 .neq 7 O],K 8 3 [m 9 3,m 2 9]],S [r 4 [L 10 4 1,c 11 35 [10],t 12 11],K 12 5 [n 2 (.int .i64 70)]],r 6 [n 2 O],.ret]
def Zk4:List RRes:=[.t 2]
def Zk5:PCt prog 34 f34 Zk3 Zk4:=pcT func34 rfl
def Zk6:RCode :=
 S [r 0 [b 2 0,n 4 (.bool false)],r 1 [f 5 1 2,l 6 5,m 7 1,o 8 .leq 6 7,m 9 8,g 9 true (f 10 5 2),g 9 true (l 11 10),g 9 true (k 12 .eql 11 (.int .i64 (-1))),g 9 true (m 13 12),g 13 false (f 14 5 2),g 13 false (l 15 14),g 13 false (m 16 1),g 13 false (o 17 .gtr 15 16),g 9 true (u 18 13 17),v 19 9 18,m 20 19,g 20 true (f 21 6 2),g 20 true (l 22 21),g 20 true (k 23 .neq 22 (.int .u8 2)),v 24 20 23,m 4 24],.ret]
def Zk7:List RRes:=[.t 4]
def Zk8:PCt prog 52 f52 Zk6 Zk7:=pcT func52 rfl
def Zk9:RCode :=
 S [r 0 [b 3 0,n 6 O],S [r 1 [L 8 4 3,c 9 34 [8],m 7 9],r 2 [m 10 7,k 11 .neq 10 O],K 11 3 [m 12 7,m 6 12]],S [r 4 [m 13 1,w 14 (.call 51 [.t 13,.c O,.c (.int .i64 14610)]),t 15 14,m 16 15,g 16 false (m 17 2),g 16 false (w 18 (.call 51 [.t 17,.c I,.c (.int .i64 999)])),g 16 false (t 19 18),u 20 16 19],K 20 5 [n 6 (.int .i64 2)]],r 6 [n 6 O],.ret]
def Zka:List RRes:=[.t 6]
def Zkb:PCt prog 23 f23 Zk9 Zka:=pcT func23 rfl
def Zkc:RCode :=
 S [r 0 [b 1 0,n 2 (.bool false)],S [r 1 [f 4 0 1,L 5 2 4,c 6 12 [5],m 7 6,g 7 false (f 8 2 1),g 7 false (l 9 8),g 7 false (e 10 9),g 7 false (k 11 .gtr 10 (.int .i64 8)),u 12 7 11,m 13 12,g 13 false (f 14 3 1),g 13 false (l 15 14),g 13 false (e 16 15),g 13 false (k 17 .gtr 16 (.int .i64 40)),u 18 13 17],K 18 2 [n 2 (.bool true)]],S [r 3 [n 3 O],.block 0 (.loop (S [S [r 4 [m 19 3,f 20 2 1,l 21 20,e 22 21,o 23 .lss 19 22],.cond (.t 23) .skip (.exit 0)],.block 1 (S [r 6 [f 26 2 1,l 27 26,m 28 3,i 29 4 27 28,f 30 3 29,l 31 30,e 32 31,k 33 .gtr 32 (.int .i64 20)],K 33 7 [n 2 (.bool true)]]),r 5 [m 24 3,k 25 .add 24 I,m 3 25]]))],r 8 [n 2 (.bool false)],.ret]
def Zkd:List RRes:=[.t 2]
def Zke:PCt prog 4 f4 Zkc Zkd:=pcT func4 rfl
def Zkf:RCode :=
 S [r 0 [b 2 0,b 3 1,n 4 (.bool false)],S [r 1 [f 9 0 2,L 10 2 9,f 11 0 3,L 12 2 11,c 13 36 [10,12],t 14 13,m 15 14,g 15 false (f 16 2 2),g 15 false (l 17 16),g 15 false (e 18 17),g 15 false (f 19 2 3),g 15 false (l 20 19),g 15 false (e 21 20),g 15 false (o 22 .neq 18 21),u 23 15 22,m 24 23,g 24 false (f 25 3 2),g 24 false (l 26 25),g 24 false (e 27 26),g 24 false (f 28 3 3),g 24 false (l 29 28),g 24 false (e 30 29),g 24 false (o 31 .neq 27 30),u 32 24 31],K 32 2 [n 4 (.bool false)]],S [r 3 [n 5 O],.block 0 (.loop (S [S [r 4 [m 33 5,f 34 2 2,l 35 34,e 36 35,o 37 .lss 33 36],.cond (.t 37) .skip (.exit 0)],.block 1 (S [R 6 [f 40 2 2,a [0] (l 41 40),m 42 5,a [1,2] (i 43 4 41 42),a [3] (L 44 4 43),f 45 2 3,a [5] (l 46 45),m 47 5,a [6,7] (i 48 4 46 47),a [8] (L 49 4 48),w 6 (.alloc [O,O,O,.nils]),w 7 (.alloc [O,O,O,.nils]),a [10,4,0,1,2,3,4,10,11] (s 4 6 44),a [11,9,12,0,1,2,3,4,5,6,7,8,9,10,11,12] (s 4 7 49)],r 7 [f 50 0 6,l 51 50,f 52 0 7,l 53 52,o 54 .neq 51 53,m 55 54,g 55 false (f 56 1 6),g 55 false (l 57 56),g 55 false (f 58 1 7),g 55 false (l 59 58),g 55 false (o 60 .neq 57 59),u 61 55 60,m 62 61,g 62 false (f 63 2 6),g 62 false (l 64 63),g 62 false (f 65 2 7),g 62 false (l 66 65),g 62 false (o 67 .neq 64 66),u 68 62 67,m 69 68,g 69 false (f 70 3 6),g 69 false (l 71 70),g 69 false (f 72 3 7),g 69 false (l 73 72),g 69 false (c 74 11 [71,73]),g 69 false (t 75 74),u 76 69 75],K 76 8 [n 4 (.bool false)]]),r 5 [m 38 5,k 39 .add 38 I,m 5 39]]))],S [r 9 [n 8 O],.block 2 (.loop (S [S [r 10 [m 77 8,f 78 3 2,l 79 78,e 80 79,o 81 .lss 77 80],.cond (.t 81) .skip (.exit 2)],.block 3 (S [R 12 [f 84 3 2,a [0] (l 85 84),m 86 8,a [1,2] (i 87 7 85 86),a [3] (L 88 7 87),f 89 3 3,a [5] (l 90 89),m 91 8,a [6,7] (i 92 7 90 91),a [8] (L 93 7 92),a [4,9] (w 94 (.eqs true [.i,.i,.i,.i,.i,.i,.i] (.t 88) (.t 93)))],K 94 13 [n 4 (.bool false)]]),r 11 [m 82 8,k 83 .add 82 I,m 8 83]]))],r 14 [n 4 (.bool true)],.ret]
def Zkg:List RRes:=[.t 4]
def Zkh:PCt prog 10 f10 Zkf Zkg:=pcT func10 rfl
def Zki:RCode :=
 S [r 0 [b 1 0,w 2 (.alloc [.nils,.nils,.nils,.nils])],R 1 [f 6 0 1,a [0] (L 7 2 6),a [1] (c 8 13 [7]),w 9 (.bsl true 7 0 [] []),f 10 3 1,a [4] (l 11 10),a [3,5,2] (w 12 (.app 7 56 (.t 9) (.t 11))),a [2,6] (w 13 (.build [.nils,.nils,.nils,.nils] [(0,2,.t 8),(3,1,.t 12)])),w 3 (.alloc [.nils,.nils,.nils,.nils]),a [8,7,6,0,1,2,3,4,5,6,7,8] (s 4 3 13)],S [r 2 [n 4 O],.block 0 (.loop (S [S [r 3 [m 14 4,f 15 2 1,l 16 15,e 17 16,o 18 .lss 14 17],.cond (.t 18) .skip (.exit 0)],.block 1 (S [r 5 [f 21 2 1,l 22 21,m 23 4,i 24 4 22 23,L 25 4 24,w 5 (.alloc [O,O,O,.nils]),s 4 5 25],r 6 [w 26 (.bsl true 1 0 [] []),f 27 3 5,l 28 27,w 29 (.app 1 8 (.t 26) (.t 28)),f 30 3 5,s 1 30 29],r 7 [f 31 2 3,l 32 31,L 33 4 5,w 34 (.bsl false 4 1 [O,O,O,.nils] [(0,.t 33)]),w 35 (.app 4 48 (.t 32) (.t 34)),f 36 2 3,s 1 36 35]]),r 4 [m 19 4,k 20 .add 19 I,m 4 20]]))],r 8 [L 37 4 3,s 4 2 37],.ret]
def Zkj:List RRes:=[.c 2 true 4]
def Zkk:PCt prog 5 f5 Zki Zkj:=pcT func5 rfl
end
end Go.Proofs.YtldibfhbaaadcaaGreatDoor
