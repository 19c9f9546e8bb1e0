/-
  How the program finds how many steps chains have, round by round: plain.
-/
import Derived.Test.YtcdlimgkliklhaaGreatDoorJEfToTj
import Derived.Test.YtcdlimgkliklhaaGreatDoorJAmLToAmR
import Derived.Test.YtcdlimgkliklhaaGreatDoorJRcYToEe
import Derived.Shelf.Sort.Plain
import Derived.Test.YtcdlimgkliklhaaGreatDoorProg
set_option linter.all false
set_option linter.unusedSimpArgs false
set_option linter.unusedVariables false
set_option linter.unusedSectionVars false
namespace Go.Proofs.YtcdlimgkliklhaaGreatDoor
open Go.RowKit
def knLk (x:Rf):List (Rf×Int)->Option Int
 |[]=>none
 |p::r=>if x=p.1 then some p.2 else knLk x r
theorem ZfK {x a:Rf} {v:Int}:∀ {kn:List (Rf×Int)},knLk x (kn++[(a,v)])=match knLk x kn with
  |some w=>some w
  |none=>if x=a then some v else none
 |[]=>by simp[knLk]
 | p::r=>by
   simp only[List.cons_append,knLk]
   split
   . rfl
   . exact ZfK
structure LnS where
 left:List Int
 kn:List (Rf×Int)
 nx:List Rf
 deriving Inhabited
def lnS (n:Int) (s:LnS) (i:Nat) (e:Rf×Rf):LnS :=
 if (i:Int)∈s.left then match knLk e.2 s.kn with
  | some k=>if n<=k then s else match knLk e.1 s.kn with
    |some _=>⟨s.left.erase i,s.kn,s.nx⟩
    |none=>⟨s.left.erase i,s.kn++[(e.1,n)],s.nx++[e.1]⟩
  |none=>s
 else s
structure LnV (E:List (Rf×Rf)) (y:Rf) (n:Nat) (s:LnS):Prop where
 a:∀ x d,knLk x s.kn=some d->∃ m:Nat,d=m/\md E y m x/\m<=n
 b:∀ x (m:Nat),md E y m x->m<=n->knLk x s.kn=some (m:Int)
 c:∀ i (h:i<E.length),(i:Int) ∉ s.left->knLk E[i].1 s.kn≠none
structure LnW (E:List (Rf×Rf)) (y:Rf) (n:Nat) (s0 s:LnS) (i:Nat):Prop where
 a:∀ x d,knLk x s.kn=some d->∃ m:Nat,d=m/\md E y m x/\m<=n+1
 b:∀ x (m:Nat),md E y m x->m<=n->knLk x s.kn=some (m:Int)
 c:∀ j (h:j<E.length),(j:Int) ∉ s.left->knLk E[j].1 s.kn≠none
 e:∀ j (h:j<E.length),j<i->∀ m:Nat,md E y m E[j].2->m<=n->knLk E[j].1 s.kn≠none
 f:s.kn=s0.kn++s.nx.map λx=>(x,(n:Int)+1)
 g:∀ x∈s.nx,md E y (n+1) x
section
variable {E:List (Rf×Rf)} {y:Rf} {n m:Nat} {s0 s:LnS} {i:Nat}
theorem ZfL {x a:Rf} {v:Int} {kn:List (Rf×Int)} (h:knLk x kn≠none):knLk x (kn++[(a,v)])≠none:=by
 rw[ZfK]
 cases q:knLk x kn with
 |none=>exact absurd q h
 |some w=>simp
theorem ZfM {l:List Int} {a b:Int} (h:a ∉ l.erase b):a ∉ l∨a=b:=by
 by_cases q:a=b
 . exact .inr q
 . exact .inl λhm=>h ((List.mem_erase_of_ne q).2 hm)
theorem LnW.step (h:LnW E y n s0 s i) (hi:i<E.length):LnW E y n s0 (lnS ((n:Int)+1) s i E[i]) (i+1):=by
 have lst:∀ {P:Nat->Prop},(∀ j,j<i->P j)->P i->∀ j,j<i+1->P j:=λh1 h2 j hj=>by
  rcases Nat.lt_or_ge j i with q|q
  . exact h1 j q
  . obtain rfl:j=i:=(by omega);exact h2
 unfold lnS;by_cases c1:(i:Int)∈s.left
 . rw [if_pos c1]
   cases q:knLk E[i].2 s.kn with
   | none =>
     refine ⟨h.a,h.b,h.c,λj hj hji m hm hmn=>?_,h.f,h.g⟩;rcases Nat.lt_or_ge j i with p|p
     . exact h.e j hj p m hm hmn
     . obtain rfl:j=i:=(by omega);rw[h.b _ m hm hmn]at q;cases q
   | some k =>
     simp only;obtain ⟨m,hm1,hm2,hm3⟩:=h.a _ _ q;by_cases c2:(n:Int)+1<=k
     . rw[if_pos c2];refine ⟨h.a,h.b,h.c,λj hj hji m' hm' hmn=>?_,h.f,h.g⟩;rcases Nat.lt_or_ge j i with p|p
       . exact h.e j hj p m' hm' hmn
       . obtain rfl:j=i:=(by omega);have:=ZfF hm' hm2;omega
     . rw [if_neg c2]
       have c3:∀ j (h:j<E.length),(j:Int) ∉ s.left.erase (i:Int)->j≠i->knLk E[j].1 s.kn≠none:=λj hj hn hne=>by
        rcases ZfM hn with p|p
        . exact h.c j hj p
        . exact absurd (by omega) hne
       cases r:knLk E[i].1 s.kn with
       | some w =>
         refine ⟨h.a,h.b,λj hj hn=>?_,λj hj hji m' hm' hmn=>?_,h.f,h.g⟩
         . by_cases p:j=i
           . subst p;rw[r];simp
           . exact c3 j hj hn p
         . rcases Nat.lt_or_ge j i with p|p
           . exact h.e j hj p m' hm' hmn
           . obtain rfl:j=i:=(by omega);rw[r];simp
       | none =>
         have hp:pth E y (m+1) E[i].1=true:=ZfE.2 ⟨E[i],List.getElem_mem hi,rfl,hm2.1⟩;obtain ⟨m1,g1,g2⟩:=md_of _ hp
         have g3:m1=n+1:=by
          rcases Nat.lt_or_ge n m1 with p|p
          . omega
          . rw[h.b _ m1 g2 p]at r;cases r
         subst g3;refine ⟨λx d hx=>?_,λx m' hm' hmn=>?_,λj hj hn=>?_,λj hj hji m' hm' hmn=>?_,?_,λx hx=>?_⟩
         . simp only at hx;rw[ZfK]at hx
           cases p:knLk x s.kn with
           |some w=>rw[p]at hx;simp only[Option.some.injEq]at hx;subst hx;exact h.a x _ p
           | none =>
             rw[p]at hx;simp only at hx
             split at hx
             . rename_i e1;subst e1;simp only[Option.some.injEq]at hx;exact ⟨n+1,by omega,g2,Nat.le_refl _⟩
             . cases hx
         . simp only;rw[ZfK,h.b x m' hm' hmn]
         . simp only;by_cases p:j=i
           . subst p;rw[ZfK,r];simp
           . exact ZfL (c3 j hj hn p)
         . simp only;rcases Nat.lt_or_ge j i with p|p
           . exact ZfL (h.e j hj p m' hm' hmn)
           . obtain rfl:j=i:=(by omega);rw[ZfK,r];simp
         . simp only[List.map_append,List.map_cons,List.map_nil];rw[h.f,List.append_assoc]
         . simp only[List.mem_append,List.mem_singleton]at hx;rcases hx with hx|rfl
           . exact h.g x hx
           . exact g2
 . rw[if_neg c1];refine ⟨h.a,h.b,h.c,λj hj hji m hm hmn=>?_,h.f,h.g⟩;rcases Nat.lt_or_ge j i with p|p
   . exact h.e j hj p m hm hmn
   . obtain rfl:j=i:=(by omega);exact h.c j hj c1
theorem LnW.fin (h:LnW E y n s0 s E.length):LnV E y (n+1) s:=by
 refine ⟨h.a,λx m hm hmn=>?_,h.c⟩;rcases Nat.lt_or_ge m (n+1) with p|p
 . exact h.b x m hm (by omega)
 . obtain rfl:m=n+1:=(by omega);obtain ⟨e,he,rfl,h2⟩:=ZfG hm;obtain ⟨j,hj,rfl⟩:=List.getElem_of_mem he;have h3:=h.e j hj hj n h2 (Nat.le_refl _)
   cases q:knLk E[j].1 s.kn with
   |none=>exact absurd q h3
   | some d =>
     obtain ⟨m',h4,h5,h6⟩:=h.a _ _ q;have:=ZfF hm h5;subst this;subst h4;rfl
end
section
variable {G:Nat->Option (List AV)}
end
section
variable {α:Type} {p:α->Bool} {l:List α} {j:Nat}
end
section
variable {G:Nat->Option (List AV)}
end
section
variable {P:Program} {R:Run} {st:St} {a:Act} {W:World} {κ:Nat->Option (Nat×Nat)}
end
theorem ZfN (ρ:Nat->Nat) (xs:List AV):(AObj.box xs).ren ρ = .box (xs.map (AV.ren ρ)):=rfl
section
variable {G:Nat->Option (List AV)}
end
section
variable {G:Nat->Option (List AV)}
end
def ZfO (G:Nat->Option (List AV)) (M:Nat->Prop) (W:World) (N:Nat) (rd:Option Nat):Run :=
 { G:=G,M:=M,X:=λ_=>False,W0:=W,N:=N,E0:={ M:=M,loc:=λ_=>none,row:=λ_=>none },rd:=rd,nm:=true }
theorem ZfP {G:Nat->Option (List AV)} {M:Nat->Prop} {W:World} {N:Nat} {rd:Option Nat} {t:List (Nat×AV)} {a:Act} (hgr:GR G M W) (hM:∀ b,M b->b<W.heap.size) (hd:a.defers=[]) (hN:a.tmps.size=N) (ht:TT' M W t a):SR (ZfO G M W N rd) ⟨t,[]⟩ a W:=by
 have hGM:∀ b,b<W.heap.size->¬M b->¬((⟨t,[]⟩ : St).env M (λ_=>none)).M b/\W.heap[b]? = W.heap[b]?:=λb _ h1=>⟨(by rintro (h2 | ⟨k,s,h2⟩) <;> first|exact h1 h2|cases h2),rfl⟩
 refine ⟨λ_=>none,⟨[],by simp[hd,ZfO],.nil,by simp,λ_=>rfl⟩,hN,λn x hx=>.pv ((ht n x hx).mono hGM (Nat.le_refl _)),(λk o ho=>by simp[St.get,lk]at ho),(λk p hk=>by cases hk),(λk k' b s s' hk=>by cases hk),hM,λ_ _ h=>h,Kp.refl _ _,(hgr.mono hGM (Nat.le_refl _)),⟨Nat.le_refl _,hGM,λk p hk=>(by cases hk),λk sz m hk=>(by cases hk)⟩,λ_ _=>⟨rfl,rfl⟩⟩
theorem endG {G:Nat->Option (List AV)} {M:Nat->Prop} {W W':World} {N:Nat} {rd:Option Nat} {st:St} {a:Act} (h:SR (ZfO G M W N rd) st a W') {t:List (Nat×AV)} (hw:Ym st ⟨t,[]⟩) (hp:∀ q∈t,q.2.pure=true) :
  a.defers=[]/\a.tmps.size=N/\TT' M W' t a/\Ext W W':=by
 obtain ⟨κ,hk⟩:=hw _ _ _ h;obtain ⟨cs,e,-,-,hz⟩:=hk.defers
 have hκ:∀ k,κ k=none:=λk=>by
  cases e:κ k with
  |none=>rfl
  |some p=>obtain ⟨o,ho⟩:=hk.dom k p e;simp[St.get,lk]at ho
 refine ⟨by rw[e,hz rfl];rfl,hk.size,λn x hx=>?_,⟨hk.kp.os,hk.kp.tape,hk.kp.output,hk.kp.size,λi hi=>hk.kp.block i hi (λh=>h)⟩⟩;refine ((hk.tm n x hx).toPV (hp (n,x) (Z4E hx))).mono (λb _ hb=>⟨λh=>hb (.inl h),rfl⟩) (Nat.le_refl _)
section
variable {G:Nat->Option (List AV)}
end
section
variable {G:Nat->Option (List AV)}
end
section
variable {G:Nat->Option (List AV)}
end
section
variable {G:Nat->Option (List AV)}
end
section
variable {G:Nat->Option (List AV)}
end
section
variable {G:Nat->Option (List AV)}
end
section
variable {G:Nat->Option (List AV)}
end
theorem PC.out {P:Program} {G:Nat->Option (List AV)} {f:FuncId} {xs:List AV} {v w:AV} (h:PC P G f xs v) (hs:Nsub v w):PC P G f xs w :=
 ⟨h.1,λM W vs a b c d=>(h.2 M W vs a b c d).mono λ_ _ ⟨u,h1,h2,h3⟩=>⟨u,h1,hs _ _ _ h2,h3⟩⟩
section
variable {G:Nat->Option (List AV)}
end
section
variable {G:Nat->Option (List AV)}
end
theorem ZfQ {n a b:Int}:inR n a b=true↔a<=n/\n<=b:=by simp[inR]
def hoF (hs:List Hld) (id:Int):Option Hld:=hs.find? λh=>decide (h.id=id)
section
variable {l:List Nte} {hs:List Hld} {ps:List Prt} {day:Int} {a b:List Int}
end
theorem ZfR {r:List Iss} (h:openV r=0):Zaj r=true:=by
 unfold openV at h
 split at h
 . assumption
 . cases h
def riP (ps:List Prt):Prop:=ps.Pairwise λx y=>x.no<y.no
instance:Inhabited Hld:=⟨⟨0,0,0,[]⟩⟩
instance:Inhabited Prt:=⟨⟨0,0,0,0,0,0,0⟩⟩
def hAt (hs:List Hld) (i:Nat):Hld:=hs.getD i default
def pAt (ps:List Prt) (i:Nat):Prt:=ps.getD i default
theorem ZfS {hs:List Hld} {i:Nat} (h:i<hs.length):hAt hs i=hs[i]:=by simp[hAt,List.getD_eq_getElem?_getD,h]
theorem ZfT {ps:List Prt} {i:Nat} (h:i<ps.length):pAt ps i=ps[i]:=by simp[pAt,List.getD_eq_getElem?_getD,h]
def wksB (D ds:List Int):Bool:=(List.range ds.length).all λk=>D.contains (ds.getD k 0)&&(k == 0||decide (ds.getD (k-1) 0<ds.getD k 0))
def hoB (D:List Int) (hs:List Hld) (i:Nat):Bool:=inR (hAt hs i).id 1 9999&&(i == 0||decide ((hAt hs (i-1)).id<(hAt hs i).id))&&inR (hAt hs i).fr 1 (hAt hs i).to&&decide ((hAt hs i).to<=999)&&decide ((hAt hs i).ds.length<=8)&&wksB D (hAt hs i).ds
def prB (r:List Iss) (hs:List Hld) (x:Prt):Bool:=inR x.no 1 9999&&inR x.dy 0 14610&&(hoF hs x.ho).isSome&&decide (x.lo<=2)&&(findN x.dw x.lt r).isSome&&(decide (x.bk = -1)||(inR x.bk x.dy 14610&&decide (x.lo=0)))
def shB (r:List Iss) (hs:List Hld) (ps:List Prt) (i:Nat):Bool:=(i == 0||decide ((pAt ps (i-1)).no<(pAt ps i).no))&&prB r hs (pAt ps i)
def ptsB (r:List Iss) (hs:List Hld) (ps:List Prt):Bool:=decide (hs.length<=6)&&decide (ps.length<=30)&&(List.range hs.length).all (hoB (nums r) hs)&&(List.range ps.length).all (shB r hs ps)
def ck7 (r:List Iss) (l:List Nte) (hs:List Hld) (ps:List Prt):Int:=if chN r l=0 then if ptsB r hs ps=true then 0 else 70 else chN r l
theorem ZfU {f:Nat->Int} {n:Nat} (h:∀ i,i+1<n->f i<f (i+1)):∀ i j,i<j->j<n->f i<f j:=by
 intro i j hij hj
 induction j with
 |zero=>omega
 | succ j ih =>
   by_cases c:i=j
   . subst c;exact h i hj
   . have:=ih (by omega) (by omega);have:=h j hj;omega
section
variable {r:List Iss} {hs:List Hld} {ps:List Prt}
theorem ZfV:ptsB r hs ps=true↔(hs.length<=6/\(List.range hs.length).all (hoB (nums r) hs)=true)/\ps.length<=30/\riP ps/\∀ x∈ps,prB r hs x=true:=by
 unfold ptsB;rw[Bool.and_eq_true,Bool.and_eq_true,Bool.and_eq_true,decide_eq_true_eq,decide_eq_true_eq,Zag (n:=ps.length)]
 constructor
 . rintro ⟨⟨⟨h1,h2⟩,h3⟩,h4⟩;refine ⟨⟨h1,h3⟩,h2,?_,λx hx=>?_⟩
   . unfold riP;rw[List.pairwise_iff_getElem];intro i j hi hj hij
     have:=ZfU (f:=λk=>(pAt ps k).no) (n:=ps.length) (λk hk=>by
      have q:=h4 (k+1) hk;simp only[shB,Bool.and_eq_true,Bool.or_eq_true,decide_eq_true_eq]at q;simpa using q.1) i j hij hj
     simp only[ZfT hi,ZfT hj]at this;exact this
   . obtain ⟨i,hi,rfl⟩:=List.getElem_of_mem hx;have:=h4 i hi;rw[shB,Bool.and_eq_true,ZfT hi]at this;exact this.2
 . rintro ⟨⟨h1,h3⟩,h2,h4,h5⟩;refine ⟨⟨⟨h1,h2⟩,h3⟩,λi hi=>?_⟩;rw[shB,Bool.and_eq_true,ZfT hi];refine ⟨?_,h5 _ (List.getElem_mem hi)⟩
   cases i with
   |zero=>rfl
   | succ i =>
     have:=List.pairwise_iff_getElem.1 h4 i (i+1) (by omega) hi (by omega);simp[ZfT (show i<ps.length by omega),this]
variable {l:List Nte} {day:Int} {a b:List Int}
end
def prA (r:List Iss) (l:List Nte) (hs:List Hld) (ps:List Prt):AV:=.agg [.vsl (r.map isa),.vsl (l.map na),.vsl (hs.map hoa),.vsl (ps.map ptA)]
def ofA (r:List Iss) (l:List Nte) (hs:List Hld) (ps:List Prt):AV:=.vptr [.vsl (r.map isa),.vsl (l.map na),.vsl (hs.map hoa),.vsl (ps.map ptA),.vsl ((nums r).map ia)] 0
theorem ZfW (r:List Iss) (l:List Nte) (hs:List Hld) (ps:List Prt):(ofA r l hs ps).pure=true:=by unfold ofA;simp[AV.pure,isa,na,hoa,ptA]
theorem ZfX (r:List Iss) (l:List Nte) (hs:List Hld) (ps:List Prt):(ofA r l hs ps).keys=[]:=AV.pure_keys _ (ZfW r l hs ps)
def POk (x:Prt):Prop:=0<=x.lo/\x.lo<=255
def NOk7 (x:Nte):Prop:=0<=x.sg/\x.sg<=255/\0<=x.wy/\x.wy<=255
structure WfP (hs:List Hld) (ps:List Prt):Prop where
 hl:hs.length<=8
 pl:ps.length<=41
 dl:∀ h∈hs,h.ds.length<=20
 po:∀ x∈ps,POk x
def outI (ps:List Prt) (day:Int) (n:Nat):List Nat:=(List.range n).filter λi=>outB (pAt ps i) day
def outP (ps:List Prt) (day:Int):List Prt:=ps.filter λx=>outB x day
theorem ZfY {ps:List Prt} {day:Int} {n:Nat}:outI ps day (n+1)=if outB (pAt ps n) day=true then outI ps day n++[n] else outI ps day n:=by
 unfold outI;rw[List.range_succ,List.filter_append]
 split <;> simp_all
theorem ZfZ {ps:List Prt} {day:Int}:∀ {n i:Nat},i<n->outB (pAt ps i) day=true->(outI ps day n)[(outI ps day i).length]? = some i
 |0,_,h,_=>by omega
 | n + 1,i,h,ho=>by
   rw[ZfY];by_cases e:i=n
   . subst e;rw[if_pos ho];simp
   . have ih:=ZfZ (n:=n) (i:=i) (by omega) ho
     split
     . rw[List.getElem?_append_left (List.getElem?_eq_some_iff.1 ih).1];exact ih
     . exact ih
theorem Zg0 (ps:List Prt) (day:Int):∀ n,n<=ps.length->(outI ps day n).map (pAt ps)=(ps.take n).filter λx=>outB x day
 |0,_=>by simp[outI]
 | n+1,h=>by
   have hn:n<ps.length:=h;rw[ZfY,List.take_succ_eq_append_getElem hn,List.filter_append,<- Zg0 ps day n (by omega),ZfT hn];by_cases c:outB ps[n] day=true
   . rw[if_pos c];simp[c,ZfT hn]
   . rw[if_neg c];simp[c]
theorem Zg1 (ps:List Prt) (day:Int):(outI ps day ps.length).map (pAt ps)=outP ps day:=by
 rw[Zg0 ps day _ (Nat.le_refl _),List.take_length];rfl
theorem Zg2 (ps:List Prt) (day:Int):(outI ps day ps.length).length=(outP ps day).length:=by rw[<- Zg1,List.length_map]
def outE (ps:List Prt) (day:Int):List (AV×AV):=(outI ps day ps.length).map λ(i:Nat)=>(.int .i64 (i:Int),.agg (ptA (pAt ps i)))
theorem Zg3 (ps:List Prt) (day:Int):(outE ps day).length=(outP ps day).length:=by unfold outE;rw[List.length_map,Zg2]
theorem Zg4 {ps:List Prt} {day:Int} {k:Nat} {x:AV×AV} (h:(outE ps day)[k]? = some x):∃ i:Nat,∃ hk:k<(outP ps day).length,x=(.int .i64 i,.agg (ptA (outP ps day)[k])):=by
 unfold outE at h;rw[List.getElem?_map]at h;obtain ⟨i,hi,rfl⟩:=Option.map_eq_some_iff.1 h;have h2:((outI ps day ps.length).map (pAt ps))[k]? = some (pAt ps i):=(by rw[List.getElem?_map,hi];rfl);rw[Zg1]at h2;obtain ⟨hk,h3⟩:=List.getElem?_eq_some_iff.1 h2;exact ⟨i,hk,by rw[h3]⟩
def pkL {α β:Type} (p:α->Bool) (f:α->β) (L:List α) (k:Nat):List β:=((L.take k).filter p).map f
theorem Zg5 {α β:Type} {p:α->Bool} {f:α->β} {L:List α} {k:Nat} (h:k<L.length):pkL p f L (k+1)=if p L[k]=true then pkL p f L k++[f L[k]] else pkL p f L k:=by
 unfold pkL;rw[List.take_succ_eq_append_getElem h,List.filter_append,List.map_append]
 split <;> simp_all
theorem Zg6 {α β:Type} (p:α->Bool) (f:α->β) (L:List α) (k:Nat):(pkL p f L k).length<=k:=by
 unfold pkL;rw[List.length_map];exact Nat.le_trans (List.length_filter_le ..) (by simp;omega)
theorem Zg7 {α β:Type} (p:α->Bool) (f:α->β) (L:List α):pkL p f L 0=[]:=by simp[pkL]
theorem Zg8 {α β:Type} (p:α->Bool) (f:α->β) (L:List α):pkL p f L L.length=(L.filter p).map f:=by unfold pkL;rw[List.take_length]
section
variable {G:Nat->Option (List AV)}
theorem Zg9 (n lo hi:Int):PC Tryz.prog G 174 [.int .i64 n,.vptr [.int .i64 lo] 0,.vptr [.int .i64 hi] 0] (.bool (!inR n lo hi)):=by
 (refine Z5k rfl λR hG hrd=>Qga ?_;subst hG)
 by_cases h1:n<lo
 . have h2:¬lo<=n:=(by omega);simp -implicitDefEqProofs[Z5i,Z5j,h1,h2,inR]
 . have h2:lo<=n:=(by omega);by_cases h3:hi<n
   . have h4:¬n<=hi:=(by omega);simp -implicitDefEqProofs[Z5i,Z5j,h1,h2,h3,h4,inR]
   . have h4:n<=hi:=(by omega);simp -implicitDefEqProofs[Z5i,Z5j,h1,h2,h3,h4,inR]
theorem Zga (lo hi:Int) (l:List Int) (hl:Sml l):PC Tryz.prog G 138 [.int .i64 lo,.int .i64 hi,.vsl (l.map ia)] (.bool (l.all λn=>inR n lo hi)):=by
 (refine Z5h rfl λR hG hrd=>Qga ?_;subst hG)
 simp -implicitDefEqProofs[Z5f,Z5g]
 (first|refine Yd.flat (ZaQ 174 [.vptr [.int .i64 lo] 0,.vptr [.int .i64 hi] 0] (λn=>!inR n lo hi) l (by simp[AV.pure]) hl (λn _=>Zg9 n lo hi)) (by simp[AV.flat]) (by simp) ?_|refine Ye.flat (ZaQ 174 [.vptr [.int .i64 lo] 0,.vptr [.int .i64 hi] 0] (λn=>!inR n lo hi) l (by simp[AV.pure]) hl (λn _=>Zg9 n lo hi)) (by simp[AV.flat]) (by simp) ?_)
 have e:(!l.any λn=>!inR n lo hi)=l.all λn=>inR n lo hi:=by simp[List.all_eq_not_any_not]
 simp -implicitDefEqProofs[e]
theorem Zgb (lo hi n:Int):PC Tryz.prog G 138 [.int .i64 lo,.int .i64 hi,.vsl [[.int .i64 n]]] (.bool (inR n lo hi)):=by
 have h:=Zga (G:=G) lo hi [n] (by simp[Sml]);simpa [ia] using h
theorem Zgc (lo hi n m:Int):PC Tryz.prog G 138 [.int .i64 lo,.int .i64 hi,.vsl [[.int .i64 n],[.int .i64 m]]] (.bool (inR n lo hi&&inR m lo hi)):=by
 have h:=Zga (G:=G) lo hi [n,m] (by simp[Sml]);simpa [ia] using h
theorem Zgd (g:Nat) (caps:List AV) (p:Hld->Bool) (l:List Hld) (hc:caps.all AV.pure=true) (hl:Sml l)
  (hg:∀ x∈l,PC Tryz.prog G g (.agg (hoa x)::caps) (.bool (p x))) :
  PC Tryz.prog G 140 [.vsl (l.map hoa),.func (.func g) [] caps] (.int .i64 (fstOf p l)):=by
 (refine Z6g rfl λR hG hrd=>Qga ?_;subst hG)
 unfold Sml at hl;have hc2:∀ x∈caps,x.pure=true:=List.all_eq_true.1 hc;simp -implicitDefEqProofs[Z6e,Z6f];refine Z9U (λi=>⟨[(8,.int .i64 i),(7,.int .i64 l.length),(0,.vsl (l.map hoa)),(1,.func (.func g) [] caps)],[]⟩) (λi=>∀ j (h:j<l.length),j<i->p l[j]=false) l.length (by (first|exact Ym.tm (by simp[lk])|exact Ym.sub (by simp[lk,Ya,AV.keys]) (by simp[lk,Yc,Ya,AV.keys]))) (by simp) ?_ ?_
 . intro i hi he;refine Qga ?_;have w1:IntKind.i64.wrap ((i:Int)+1)=((i+1:Nat):Int):=Yf (by omega) (by omega);have hgi:=hg _ (List.getElem_mem hi);have hln:(hoa l[i]).length=4:=rfl;have htk:(hoa l[i]).take 4=hoa l[i]:=rfl;simp -implicitDefEqProofs[hi,hln,htk];refine Yd.of hgi (by simpa [AV.pure,hoa] using hc2) ?_
   cases h3:p l[i]
   . simp -implicitDefEqProofs[w1];refine ⟨(by (first|exact Ym.tm (by simp[lk])|exact Ym.sub (by simp[lk,Ya,AV.keys]) (by simp[lk,Yc,Ya,AV.keys]))),λj q1 q2=>?_⟩;by_cases e:j=i
     . subst e;exact h3
     . exact he j q1 (by omega)
   . simp -implicitDefEqProofs;refine Qgr ?_;simp -implicitDefEqProofs[ZaM hi h3 he]
 . intro he;refine Qga ?_;simp -implicitDefEqProofs[];refine Qgr ?_;simp -implicitDefEqProofs[ZaN (p:=p) (l:=l) (λj hj=>he j hj hj)]
theorem Zge (g:Nat) (caps:List AV) (p:Iss->Bool) (l:List Iss) (hc:caps.all AV.pure=true) (hl:Sml l)
  (hg:∀ x∈l,PC Tryz.prog G g (.agg (isa x)::caps) (.bool (p x))) :
  PC Tryz.prog G 259 [.vsl (l.map isa),.func (.func g) [] caps] (.int .i64 (fstOf p l)):=by
 (refine Z6j rfl λR hG hrd=>Qga ?_;subst hG)
 unfold Sml at hl;have hc2:∀ x∈caps,x.pure=true:=List.all_eq_true.1 hc;simp -implicitDefEqProofs[Z6h,Z6i];refine Z9U (λi=>⟨[(8,.int .i64 i),(7,.int .i64 l.length),(0,.vsl (l.map isa)),(1,.func (.func g) [] caps)],[]⟩) (λi=>∀ j (h:j<l.length),j<i->p l[j]=false) l.length (by (first|exact Ym.tm (by simp[lk])|exact Ym.sub (by simp[lk,Ya,AV.keys]) (by simp[lk,Yc,Ya,AV.keys]))) (by simp) ?_ ?_
 . intro i hi he;refine Qga ?_;have w1:IntKind.i64.wrap ((i:Int)+1)=((i+1:Nat):Int):=Yf (by omega) (by omega);have hgi:=hg _ (List.getElem_mem hi);have hln:(isa l[i]).length=5:=rfl;have htk:(isa l[i]).take 5=isa l[i]:=rfl;simp -implicitDefEqProofs[hi,hln,htk];refine Yd.of hgi (by simpa [AV.pure,isa] using hc2) ?_
   cases h3:p l[i]
   . simp -implicitDefEqProofs[w1];refine ⟨(by (first|exact Ym.tm (by simp[lk])|exact Ym.sub (by simp[lk,Ya,AV.keys]) (by simp[lk,Yc,Ya,AV.keys]))),λj q1 q2=>?_⟩;by_cases e:j=i
     . subst e;exact h3
     . exact he j q1 (by omega)
   . simp -implicitDefEqProofs;refine Qgr ?_;simp -implicitDefEqProofs[ZaM hi h3 he]
 . intro he;refine Qga ?_;simp -implicitDefEqProofs[];refine Qgr ?_;simp -implicitDefEqProofs[ZaN (p:=p) (l:=l) (λj hj=>he j hj hj)]
theorem Zgf (g:Nat) (caps:List AV) (p:Iss->Bool) (l:List Iss) (hc:caps.all AV.pure=true) (hl:Sml l)
  (hg:∀ x∈l,PC Tryz.prog G g (.agg (isa x)::caps) (.bool (p x))) :
  PC Tryz.prog G 255 [.vsl (l.map isa),.func (.func g) [] caps] (.bool (l.any p)):=by
 have hi:=Zge (G:=G) g caps p l hc hl hg;have e:=ZaO p l
 (refine Z6m rfl λR hG hrd=>Qga ?_;subst hG)
 have hc2:∀ x∈caps,x.pure=true:=List.all_eq_true.1 hc;simp -implicitDefEqProofs[Z6k,Z6l];refine Yd.of hi (by simpa [AV.pure] using hc2) ?_;simp -implicitDefEqProofs[e]
def hoI (hs:List Hld) (id:Int):Int:=fstOf (λh=>decide (h.id=id)) hs
theorem Zgg (h:Hld) (id:Int):PC Tryz.prog G 141 [.agg (hoa h),.vptr [.int .i64 id] 0] (.bool (decide (h.id=id))):=by
 (refine Z5q rfl λR hG hrd=>Qga ?_;subst hG)
 simp -implicitDefEqProofs[Z5o,Z5p,hoa]
theorem Zgh (r:List Iss) (l:List Nte) (hs:List Hld) (ps:List Prt) (id:Int) (hh:Sml hs):PC Tryz.prog G 82 [ofA r l hs ps,.int .i64 id] (.int .i64 (hoI hs id)):=by
 have h:=Zgd (G:=G) 141 [.vptr [.int .i64 id] 0] (λh=>decide (h.id=id)) hs (by simp[AV.pure]) hh (λh _=>Zgg h id);have e:fstOf (λh=>decide (h.id=id)) hs=hoI hs id:=rfl;rw[e]at h;generalize hoI hs id=n at *;unfold ofA
 (refine Z5n rfl λR hG hrd=>Qga ?_;subst hG)
 simp -implicitDefEqProofs[Z5l,Z5m]
 (first|refine Yd.flat (h) (by simp[AV.flat]) (by simp) ?_|refine Ye.flat (h) (by simp[AV.flat]) (by simp) ?_)
 simp -implicitDefEqProofs[]
theorem Zgi (o:AV) (x:Prt):PC Tryz.prog G 252 [o,.agg (ptA x)] (.bool (inR x.no 1 9999&&inR x.dy 0 14610)):=by
 have h1:=Zgb (G:=G) 1 9999 x.no;have h2:=Zgb (G:=G) 0 14610 x.dy
 (refine Z5t rfl λR hG hrd=>Qga ?_;subst hG)
 simp -implicitDefEqProofs[Z5r,Z5s,ptA];refine Qco (h1) (by simp) ?_
 cases inR x.no 1 9999
 . simp -implicitDefEqProofs[]
 . simp -implicitDefEqProofs[];refine Qco (h2) (by simp) ?_;simp -implicitDefEqProofs[]
theorem Zgj (r:List Iss) (l:List Nte) (hs:List Hld) (ps:List Prt) (x:Prt) (hh:Sml hs):PC Tryz.prog G 253 [ofA r l hs ps,.agg (ptA x)] (.bool (decide (0<=hoI hs x.ho))):=by
 have h:=Zgh (G:=G) r l hs ps x.ho hh;have pO:=ZfW r l hs ps;generalize ofA r l hs ps=O at *
 (refine Z5w rfl λR hG hrd=>Qga ?_;subst hG)
 simp -implicitDefEqProofs[Z5u,Z5v,ptA];refine Yd.of h (by simp[pO,AV.pure]) ?_;simp -implicitDefEqProofs[]
theorem Zgk (x:Prt) (y:Iss):PC Tryz.prog G 256 [.agg (isa y),.vptr (ptA x) 0] (.bool (rfp x.dw x.lt y)):=by
 (refine Z5C rfl λR hG hrd=>Qga ?_;subst hG)
 by_cases h1:x.dw=y.d
 . by_cases h2:x.lt=y.l
   . have e:rfp x.dw x.lt y=true:=(by simp[rfp,h1,h2]);rw[e];simp -implicitDefEqProofs[Z5A,Z5B,ptA,isa,h1,h2]
   . have e:rfp x.dw x.lt y=false:=(by simp[rfp,h1,Ne.symm h2]);rw[e];simp -implicitDefEqProofs[Z5A,Z5B,ptA,isa,h1,h2]
 . have e:rfp x.dw x.lt y=false:=(by simp[rfp,Ne.symm h1]);rw[e];simp -implicitDefEqProofs[Z5A,Z5B,ptA,isa,h1]
theorem Zgl (r:List Iss) (l:List Nte) (hs:List Hld) (ps:List Prt) (x:Prt) (hr:Sml r):PC Tryz.prog G 254 [ofA r l hs ps,.agg (ptA x)] (.bool (findN x.dw x.lt r).isSome):=by
 have h:=Zgf (G:=G) 256 [.vptr (ptA x) 0] (rfp x.dw x.lt) r (by simp[AV.pure,ptA]) hr (λy _=>Zgk x y);rw[ZfD];generalize r.any (rfp x.dw x.lt)=b at *;unfold ofA
 (refine Z5z rfl λR hG hrd=>Qga ?_;subst hG)
 simp -implicitDefEqProofs[Z5x,Z5y,ptA];unfold ptA at h
 (first|refine Yd.flat (h) (by simp[AV.flat]) (by simp) ?_|refine Ye.flat (h) (by simp[AV.flat]) (by simp) ?_)
 simp -implicitDefEqProofs[]
theorem Zgm (o:AV) (x:Prt):PC Tryz.prog G 257 [o,.agg (ptA x)] (.bool (decide (x.lo<=2))):=by
 (refine Z5F rfl λR hG hrd=>Qga ?_;subst hG)
 simp -implicitDefEqProofs[Z5D,Z5E,ptA]
theorem Zgn (o:AV) (x:Prt):PC Tryz.prog G 258 [o,.agg (ptA x)] (.bool (decide (x.bk = -1)||(inR x.bk x.dy 14610&&decide (x.lo=0)))):=by
 have h1:=Zgb (G:=G) x.dy 14610 x.bk
 (refine Z5I rfl λR hG hrd=>Qga ?_;subst hG)
 by_cases h0:x.bk = -1
 . simp -implicitDefEqProofs[Z5G,Z5H,ptA,h0]
 . simp -implicitDefEqProofs[Z5G,Z5H,ptA,h0];refine Qco (h1) (by simp) ?_
   cases inR x.bk x.dy 14610
   . simp -implicitDefEqProofs[]
   . simp -implicitDefEqProofs[]
end
def K5p:List AV:=[.func (.func 252) [] [],.func (.func 253) [] [],.func (.func 254) [] [],.func (.func 257) [] [],.func (.func 258) [] []]
def GP (G:Nat->Option (List AV)):Prop:=G 1=some K5p
def ckP (r:List Iss) (hs:List Hld) (x:Prt):Nat->Bool
 |0=>inR x.no 1 9999&&inR x.dy 0 14610
 |1=>decide (0<=hoI hs x.ho)
 |2=>(findN x.dw x.lt r).isSome
 |3=>decide (x.lo<=2)
 |_=>decide (x.bk = -1)||(inR x.bk x.dy 14610&&decide (x.lo=0))
theorem hoF_I (hs:List Hld) (id:Int):decide (0<=hoI hs id)=(hoF hs id).isSome:=by
 unfold hoI hoF;rw[ZaO,Bool.eq_iff_iff,List.any_eq_true,List.find?_isSome]
theorem Zgo {r:List Iss} {hs:List Hld} {x:Prt}:prB r hs x=true↔∀ j,j<5->ckP r hs x j=true:=by
 simp only[prB,Bool.and_eq_true];rw[<- hoF_I]
 constructor
 . rintro ⟨⟨⟨⟨⟨h1,h2⟩,h3⟩,h4⟩,h5⟩,h6⟩ j hj
   match j,hj with
   |0,_=>simp only[ckP,h1,h2,Bool.and_self]
   |1,_=>exact h3
   |2,_=>exact h5
   |3,_=>exact h4
   |4,_=>exact h6
 . intro h;have h1:=h 0 (by omega);simp only[ckP,Bool.and_eq_true]at h1;exact ⟨⟨⟨⟨h1,h 1 (by omega)⟩,h 3 (by omega)⟩,h 2 (by omega)⟩,h 4 (by omega)⟩
theorem Zgp {r:List Iss} {hs:List Hld} {ps:List Prt} {i:Nat} (hi:i<hs.length) (h:hoB (nums r) hs i=false):ptsB r hs ps=false:=by
 cases q:ptsB r hs ps
 . rfl
 . simp only[ptsB,Bool.and_eq_true]at q;have:=Zag.1 q.1.2 i hi;rw[h]at this;cases this
theorem Zgq {r:List Iss} {hs:List Hld} {ps:List Prt} {i:Nat} (hi:i<ps.length) (h:shB r hs ps i=false):ptsB r hs ps=false:=by
 cases q:ptsB r hs ps
 . rfl
 . simp only[ptsB,Bool.and_eq_true]at q;have:=Zag.1 q.2 i hi;rw[h]at this;cases this
def hoC (hs:List Hld) (i:Nat):Bool:=inR (hAt hs i).id 1 9999&&(i == 0||decide ((hAt hs (i-1)).id<(hAt hs i).id))&&inR (hAt hs i).fr 1 (hAt hs i).to&&decide ((hAt hs i).to<=999)&&decide ((hAt hs i).ds.length<=8)
def wkC (D ds:List Int) (k:Nat):Bool:=D.contains (ds.getD k 0)&&(k == 0||decide (ds.getD (k-1) 0<ds.getD k 0))
theorem Zgr (D:List Int) (hs:List Hld) (i:Nat):hoB D hs i=(hoC hs i&&(List.range (hAt hs i).ds.length).all (wkC D (hAt hs i).ds)):=rfl
def rgT (r:List Iss) (l:List Nte) (hs:List Hld) (ps:List Prt) (i:Nat):List (Nat×AV):=[(34,.int .i64 i),(33,.int .i64 hs.length),(32,.vsl (hs.map hoa)),(0,ofA r l hs ps)]
def rgD (r:List Iss) (l:List Nte) (hs:List Hld) (ps:List Prt) (h:Hld) (i k:Nat):St:=⟨(88,.int .i64 k)::(87,.int .i64 h.ds.length)::(86,.vsl (h.ds.map ia))::(4,.ptr 4 0)::(3,.int .i64 i)::rgT r l hs ps i,[(4,.box (hoa h))]⟩
def rgP (r:List Iss) (l:List Nte) (hs:List Hld) (ps:List Prt) (i:Nat):List (Nat×AV):=[(122,.int .i64 i),(121,.int .i64 ps.length),(120,.vsl (ps.map ptA)),(7,.bool true),(0,ofA r l hs ps)]
def rgK (r:List Iss) (l:List Nte) (hs:List Hld) (ps:List Prt) (x:Prt) (i j:Nat):St:=⟨(145,.int .i64 j)::(144,.agg K5p)::(9,.ptr 9 0)::(8,.int .i64 i)::rgP r l hs ps i,[(9,.box (ptA x))]⟩
section
variable {G:Nat->Option (List AV)}
theorem kPall {r:List Iss} {l:List Nte} {hs:List Hld} {ps:List Prt} (x:Prt) (hr:Sml r) (hh:Sml hs) (j:Nat) (hj:j<5) :
  ∃ f,(K5p.drop j).take 1=[.func (.func f) [] []]/\PC Tryz.prog G f [ofA r l hs ps,.agg (ptA x)] (.bool (ckP r hs x j)):=by
 match j,hj with
 |0,_=>exact ⟨_,rfl,Zgi _ x⟩
 |1,_=>exact ⟨_,rfl,Zgj r l hs ps x hh⟩
 |2,_=>exact ⟨_,rfl,Zgl r l hs ps x hr⟩
 |3,_=>exact ⟨_,rfl,Zgm _ x⟩
 |4,_=>exact ⟨_,rfl,Zgn _ x⟩
set_option maxHeartbeats 4000000 in
theorem Zgs (hP:GP G) (r:List Iss) (l:List Nte) (hs:List Hld) (ps:List Prt) (hr:Sml r) (hd:Sml (nums r)) (hw:WfP hs ps):PC Tryz.prog G 132 [ofA r l hs ps] (.bool (ptsB r hs ps)):=by
 have hh:Sml hs:=(by have:=hw.hl;unfold Sml;omega);have hl:=hw.hl;have hp:=hw.pl;have hk2:=λx j hj=>kPall (G:=G) (r:=r) (l:=l) (hs:=hs) (ps:=ps) x hr hh j hj
 have pO:=ZfW r l hs ps;have kO:=ZfX r l hs ps;have eO:ofA r l hs ps = .vptr [.vsl (r.map isa),.vsl (l.map na),.vsl (hs.map hoa),.vsl (ps.map ptA),.vsl ((nums r).map ia)] 0:=rfl;have hC:=λn=>Zfy (G:=G) false (nums r) n hd
 have eC:liA false (nums r) = .vsl ((nums r).map ia):=(by simp[liA]);rw[eC]at hC;unfold GP at hP;refine Z5L rfl λR hG hrd=>?_
 subst hG;refine Qga ?_;by_cases h6:6<hs.length
 . have h6':(6:Int)<hs.length:=by omega
   have e:ptsB r hs ps=false:=by
    have:¬hs.length<=6:=(by omega);simp[ptsB,this]
   simp -implicitDefEqProofs[Z5J,Z5K,eO,h6',e]
 have h6':¬(6:Int)<hs.length:=(by omega);by_cases h30:30<ps.length
 . have h30':(30:Int)<ps.length:=by omega
   have e:ptsB r hs ps=false:=by
    have:¬ps.length<=30:=(by omega);simp[ptsB,this]
   simp -implicitDefEqProofs[Z5J,Z5K,eO,h6',h30',e]
 have h30':¬(30:Int)<ps.length:=(by omega);simp -implicitDefEqProofs[Z5J,Z5K,eO,h6',h30'];refine Z9U (λi=>⟨rgT r l hs ps i,[]⟩) (λi=>∀ j,j<i->hoB (nums r) hs j=true) hs.length ?_ (by simp) ?_ ?_
 . simp only[rgT,eO]
   (refine Ym.sub (by simp[lk,Ya,AV.keys]) ?_;simp only[Wkl,and_true];(try simp[lk,Yc,Ya,AV.keys]))
 . intro i hi he;have hno:hoB (nums r) hs i=false->ptsB r hs ps=false:=Zgp hi;have hx:=ZfS hi;have hds:=hw.dl _ (List.getElem_mem hi);have heq:=Zgr (nums r) hs i;have wi:IntKind.i64.wrap ((i:Int)+1)=(i:Int)+1:=Yf (by omega) (by omega);obtain ⟨h,hhe⟩ : ∃ h,h=hs[i]:=⟨_,rfl⟩;rw[<- hhe]at hx hds;have hlx:hs[i]=h:=hhe.symm;have hho:hoa h=[.int .i64 h.id,.int .i64 h.fr,.int .i64 h.to,.vsl (h.ds.map ia)]:=rfl;have c1:=Zgb (G:=R.G) 1 9999 h.id;have c2:=Zgc (G:=R.G) 1 999 h.fr h.to;have hC0:hoC hs i=(inR h.id 1 9999&&(i == 0||decide ((hAt hs (i-1)).id<h.id))&&inR h.fr 1 h.to&&decide (h.to<=999)&&decide (h.ds.length<=8)):=by unfold hoC;rw[hx]
   have hfin:inR h.id 1 9999=true->(i == 0||decide ((hAt hs (i-1)).id<h.id))=true->hoC hs i=(inR h.fr 1 999&&inR h.to 1 999 && !decide (h.to<h.fr) && !decide (8<h.ds.length)):=λq1 q2=>by
    rw[hC0,q1,q2,Bool.eq_iff_iff];simp only[Bool.true_and,Bool.and_eq_true,ZfQ,decide_eq_true_eq,Bool.not_eq_true',decide_eq_false_iff_not];omega
   have hno2:hoC hs i=false->ptsB r hs ps=false:=λq=>hno (by rw[heq,q];rfl)
   have hst:∀ k:Nat,k<=h.ds.length->(∀ j,j<k->wkC (nums r) h.ds j=true)->k=h.ds.length->hoC hs i=true->∀ j,j<i+1->hoB (nums r) hs j=true:=λk _ hk1 hk2 hc j hj=>by
    rcases Nat.lt_or_ge j i with h1|h1
    . exact he j h1
    . obtain rfl:j=i:=(by omega);rw[heq,hc,hx,Bool.true_and];exact Zag.2 (by rw[<- hk2];exact hk1)
   refine Qga ?_
   cases q1:inR h.id 1 9999
   . have e:=hno2 (by rw[hC0,q1];rfl);rw[q1]at c1
     cases i
     case' zero=>simp -implicitDefEqProofs[rgT,hi,hlx,hho]
     case' succ k =>
      have k1:(k:Int)+1<hs.length:=(by omega);have k2:((k:Int)+1).toNat=k+1:=(by omega);have k3:(0:Int)<=(k:Int)+1:=(by omega);simp -implicitDefEqProofs[rgT,k1,k2,k3,hi,hlx,hho]
     all_goals
      refine Qco (c1) (by simp) ?_;simp -implicitDefEqProofs[];refine ⟨rfl,?_⟩;refine Qgr ?_;simp -implicitDefEqProofs[e]
      done
   rw[q1]at c1;obtain ⟨I,hIe⟩ : ∃ I,I=i:=⟨_,rfl⟩
   cases i
   case' zero =>
    have q2:=hfin q1 rfl;simp -implicitDefEqProofs[rgT,hi,hlx,hho];refine Qco (c1) (by simp) ?_;simp -implicitDefEqProofs[]
   case' succ k =>
    have hk:k<hs.length:=(by omega);have w0:IntKind.i64.wrap ((k:Int)+1-1)=(k:Int):=(by rw[Yf (by omega) (by omega)];omega);have w2:IntKind.i64.wrap (k:Int)=(k:Int):=Yf (by omega) (by omega);have g0:(0:Int)<(k:Int)+1:=(by omega);have k1:(k:Int)+1<hs.length:=(by omega);have k2:((k:Int)+1).toNat=k+1:=(by omega);have k3:(0:Int)<=(k:Int)+1:=(by omega);have hhk:hoa hs[k]=[.int .i64 hs[k].id,.int .i64 hs[k].fr,.int .i64 hs[k].to,.vsl (hs[k].ds.map ia)]:=rfl;simp -implicitDefEqProofs[rgT,k1,k2,k3,hi,hlx,hho];refine Qco (c1) (by simp) ?_;by_cases hp:hs[k].id<h.id
    case' neg =>
     have e:=hno2 (by rw[hC0,Nat.add_sub_cancel,ZfS hk,decide_eq_false hp];simp);have hp2:h.id<=hs[k].id:=(by omega);simp -implicitDefEqProofs[hk,w0,w2,g0,hhk,hp2,eO,hho];refine ⟨rfl,?_⟩;refine Qgr ?_;simp -implicitDefEqProofs[e]
     done
    have hp2:¬h.id<=hs[k].id:=(by omega);have q2:=hfin q1 (by rw[Nat.add_sub_cancel,ZfS hk,decide_eq_true hp];simp);simp -implicitDefEqProofs[hk,w0,w2,g0,hhk,hp2,eO,hho]
   all_goals
    refine Qco (c2) (by simp) ?_
    cases q3:(inR h.fr 1 999&&inR h.to 1 999)
    case false =>
     have e:=hno2 (by rw[q2,q3];rfl);simp -implicitDefEqProofs[];refine ⟨rfl,?_⟩;refine Qgr ?_;simp -implicitDefEqProofs[e]
    by_cases q4:h.to<h.fr
    case pos =>
     have e:=hno2 (by rw[q2,q3,decide_eq_true q4];rfl);simp -implicitDefEqProofs[hho,q4];refine ⟨rfl,?_⟩;refine Qgr ?_;simp -implicitDefEqProofs[e]
    by_cases q5:8<h.ds.length
    case pos =>
     have q5':(8:Int)<h.ds.length:=(by omega);have e:=hno2 (by rw[q2,decide_eq_true q5];simp);simp -implicitDefEqProofs[hho,q4,q5'];refine ⟨rfl,?_⟩;refine Qgr ?_;simp -implicitDefEqProofs[e]
    have q5':¬(8:Int)<h.ds.length:=(by omega);rw[q3,decide_eq_false q4,decide_eq_false q5]at q2;simp -implicitDefEqProofs[hho,q4,q5'];refine ⟨rfl,?_⟩;refine Z9U (rgD r l hs ps h I) (λk=>∀ j,j<k->wkC (nums r) h.ds j=true) h.ds.length ?_ (by simp) ?_ ?_
    . simp only[rgD,rgT,eO,hIe]
      ((try simp only[hho]);refine Ym.sub (by simp[lk,Ya,AV.keys,hho]) ?_;simp only[hho,Wkl,and_true];(try simp[lk,Yc,Ya,AV.keys,hho]))
    . intro k hk hK
      have hwf:wkC (nums r) h.ds k=false->ptsB r hs ps=false:=λq=>hno (by
       rw[heq,q2,hx,Bool.true_and]
       cases q6:(List.range h.ds.length).all (wkC (nums r) h.ds)
       . rfl
       . have:=Zag.1 q6 k hk;rw[q]at this;cases this)
      have wk:IntKind.i64.wrap ((k:Int)+1)=(k:Int)+1:=Yf (by omega) (by omega);have hcd:=hC h.ds[k];have gd:h.ds.getD k 0=h.ds[k]:=(by simp[List.getD_eq_getElem?_getD,hk]);refine Qga ?_;by_cases m1:h.ds[k]∈nums r
      case neg =>
       have e:=hwf (by rw[wkC,gd];simp[m1]);rw[decide_eq_false m1]at hcd;simp -implicitDefEqProofs[rgD,rgT,hk,ia,eO];refine Qco (hcd) (by simp) ?_;simp -implicitDefEqProofs[];refine Qgr ?_;simp -implicitDefEqProofs[];refine Qgr ?_;simp -implicitDefEqProofs[e]
      rw[decide_eq_true m1]at hcd
      cases k with
      | zero =>
        have e:wkC (nums r) h.ds 0=true:=(by rw[wkC,gd];simp[m1]);have w1:IntKind.i64.wrap 1=1:=rfl;simp -implicitDefEqProofs[rgD,rgT,hk,ia,eO];refine Qco (hcd) (by simp) ?_;simp -implicitDefEqProofs[w1];refine ⟨?_,e⟩;simp only[rgD,rgT,eO]
        ((try simp only[hho]);refine Ym.sub (by simp[lk,Ya,AV.keys,hho]) ?_;simp only[hho,Wkl,and_true];(try simp[lk,Yc,Ya,AV.keys,hho]))
      | succ p =>
        have hp:p<h.ds.length:=(by omega);have g2:h.ds.getD p 0=h.ds[p]:=(by simp[List.getD_eq_getElem?_getD,hp]);have w0:IntKind.i64.wrap ((p:Int)+1-1)=(p:Int):=(by rw[Yf (by omega) (by omega)];omega);have w2:IntKind.i64.wrap (p:Int)=(p:Int):=Yf (by omega) (by omega);have g0:(0:Int)<(p:Int)+1:=(by omega);have k1:(p:Int)+1<h.ds.length:=(by omega);have k2:((p:Int)+1).toNat=p+1:=(by omega);have k3:(0:Int)<=(p:Int)+1:=(by omega);have wk2:IntKind.i64.wrap ((p:Int)+1+1)=(p:Int)+1+1:=Yf (by omega) (by omega);by_cases m2:h.ds[p]<h.ds[p+1]
        . have e:wkC (nums r) h.ds (p+1)=true:=(by rw[wkC,gd,Nat.add_sub_cancel,g2];simp[m1,m2]);have m3:¬h.ds[p+1]<=h.ds[p]:=(by omega);simp -implicitDefEqProofs[rgD,rgT,k1,k2,k3,hk,ia,eO];refine Qco (hcd) (by simp) ?_;simp -implicitDefEqProofs[hp,w0,w2,g0,hho,ia,m3,wk2];refine ⟨?_,λj hj=>?_⟩
          . simp only[rgD,rgT,eO]
            ((try simp only[hho]);refine Ym.sub (by simp[lk,Ya,AV.keys,hho]) ?_;simp only[hho,Wkl,and_true];(try simp[lk,Yc,Ya,AV.keys,hho]))
          . rcases Nat.lt_or_ge j (p+1) with h4|h4
            . exact hK j h4
            . obtain rfl:j=p+1:=(by omega);exact e
        . have e:=hwf (by rw[wkC,gd,Nat.add_sub_cancel,g2];simp[m2]);have m3:h.ds[p+1]<=h.ds[p]:=(by omega);simp -implicitDefEqProofs[rgD,rgT,k1,k2,k3,hk,ia,eO];refine Qco (hcd) (by simp) ?_;simp -implicitDefEqProofs[hp,w0,w2,g0,hho,ia,m3];refine Qgr ?_;simp -implicitDefEqProofs[];refine Qgr ?_;simp -implicitDefEqProofs[e]
    . intro hK;have hst2:=hst h.ds.length (Nat.le_refl _) hK rfl q2;refine Qga ?_;have wI:IntKind.i64.wrap ((I:Int)+1)=(I:Int)+1:=Yf (by omega) (by omega);simp -implicitDefEqProofs[rgD,rgT];refine Qgr ?_;simp -implicitDefEqProofs[wI];refine ⟨?_,by first|exact hst2|exact hst2 0 (by omega)⟩;simp only[rgT,eO]
      ((try simp only[hIe]);refine Ym.sub (by simp[lk,Ya,AV.keys,hIe]) ?_;simp only[hIe,Wkl,and_true];(try simp[lk,Yc,Ya,AV.keys,hIe]))
 . intro he;refine Qga ?_;simp -implicitDefEqProofs[rgT,eO];refine Qgr ?_;simp -implicitDefEqProofs[];refine Z9U (λi=>⟨rgP r l hs ps i,[]⟩) (λi=>∀ j,j<i->shB r hs ps j=true) ps.length ?_ (by simp) ?_ ?_
   . simp only[rgP,eO]
     (refine Ym.sub (by simp[lk,Ya,AV.keys]) ?_;simp only[Wkl,and_true];(try simp[lk,Yc,Ya,AV.keys]))
   . intro i hi hE;have hno:shB r hs ps i=false->ptsB r hs ps=false:=Zgq hi;have hx:=ZfT hi;have wi:IntKind.i64.wrap ((i:Int)+1)=(i:Int)+1:=Yf (by omega) (by omega);obtain ⟨x,hxe⟩ : ∃ x,x=ps[i]:=⟨_,rfl⟩;rw[<- hxe]at hx;have hlx:ps[i]=x:=hxe.symm;have hpt:ptA x=[.int .i64 x.no,.int .i64 x.dy,.int .i64 x.ho,.int .i64 x.dw,.int .i64 x.lt,.int .i64 x.bk,.int .u8 x.lo]:=rfl;have hsh:shB r hs ps i=((i == 0||decide ((pAt ps (i-1)).no<x.no))&&prB r hs x):=(by unfold shB;rw[hx]);have t5:K5p.take 5=K5p:=rfl;have l5:K5p.length=5:=rfl;obtain ⟨I,hIe⟩ : ∃ I,I=i:=⟨_,rfl⟩;refine Qga ?_
     cases i
     case' zero =>
      have q2:shB r hs ps 0=prB r hs x:=(by rw[hsh];rfl);simp -implicitDefEqProofs[rgP,hi,hlx,hpt]
     case' succ k =>
      have hk:k<ps.length:=(by omega);have w0:IntKind.i64.wrap ((k:Int)+1-1)=(k:Int):=(by rw[Yf (by omega) (by omega)];omega);have w2:IntKind.i64.wrap (k:Int)=(k:Int):=Yf (by omega) (by omega);have g0:(0:Int)<(k:Int)+1:=(by omega);have k1:(k:Int)+1<ps.length:=(by omega);have k2:((k:Int)+1).toNat=k+1:=(by omega);have k3:(0:Int)<=(k:Int)+1:=(by omega);have hpk:ptA ps[k]=[.int .i64 ps[k].no,.int .i64 ps[k].dy,.int .i64 ps[k].ho,.int .i64 ps[k].dw,.int .i64 ps[k].lt,.int .i64 ps[k].bk,.int .u8 ps[k].lo]:=rfl;by_cases hp:ps[k].no<x.no
      case' neg =>
       have e:=hno (by rw[hsh,Nat.add_sub_cancel,ZfT hk,decide_eq_false hp];simp);have hp2:x.no<=ps[k].no:=(by omega);simp -implicitDefEqProofs[rgP,k1,k2,k3,hi,hlx,hpt,hk,w0,w2,g0,hpk,hp2,eO];refine ⟨rfl,?_⟩;refine Qgr ?_;simp -implicitDefEqProofs[e]
       done
      have hp2:¬x.no<=ps[k].no:=(by omega);have q2:shB r hs ps (k+1)=prB r hs x:=(by rw[hsh,Nat.add_sub_cancel,ZfT hk,decide_eq_true hp];simp);simp -implicitDefEqProofs[rgP,k1,k2,k3,hi,hlx,hpt,hk,w0,w2,g0,hpk,hp2,eO]
     all_goals
      refine ⟨rfl,?_⟩;simp -implicitDefEqProofs[hP,t5,l5];refine Z9U (rgK r l hs ps x I) (λj=>∀ k,k<j->ckP r hs x k=true) 5 ?_ (by simp) ?_ ?_
      . simp only[rgK,rgP,eO,hIe]
        ((try simp only[hpt,K5p]);refine Ym.sub (by simp[lk,Ya,AV.keys,hpt,K5p]) ?_;simp only[hpt,K5p,Wkl,and_true];(try simp[lk,Yc,Ya,AV.keys,hpt,K5p]))
      . intro j hj hJ;refine Qga ?_;obtain ⟨f,hf1,hf2⟩:=hk2 x j hj;have wj:IntKind.i64.wrap ((j:Int)+1)=(j:Int)+1:=Yf (by omega) (by omega);have j1:(j:Int)<5:=(by omega);have j2:j+1<=5:=(by omega);have j3:j<=4:=(by omega);simp -implicitDefEqProofs[rgK,rgP,j1,j2,j3,l5,hf1,hj,hpt];rw[hpt]at hf2;refine Yd.of hf2 (by simp[pO,AV.pure]) ?_
        cases hb:ckP r hs x j
        . have e:=hno (by
           rw[q2]
           cases q:prB r hs x
           . rfl
           . have:=Zgo.1 q j hj;rw[hb]at this;cases this)
          simp -implicitDefEqProofs[];refine Qgr ?_;simp -implicitDefEqProofs[];refine Qgr ?_;simp -implicitDefEqProofs[e]
        . simp -implicitDefEqProofs[wj];refine ⟨?_,λk hk=>?_⟩
          . simp only[rgK,rgP,eO]
            ((try simp only[hpt,K5p]);refine Ym.sub (by simp[lk,Ya,AV.keys,hpt,K5p]) ?_;simp only[hpt,K5p,Wkl,and_true];(try simp[lk,Yc,Ya,AV.keys,hpt,K5p]))
          . rcases Nat.lt_or_ge k j with h1|h1
            . exact hJ k h1
            . obtain rfl:k=j:=(by omega);exact hb
      . intro hJ;rw[Zgo.2 hJ]at q2
        have hE2:∀ j,j<I+1->shB r hs ps j=true:=λj hj=>by
         rcases Nat.lt_or_ge j I with h1|h1
         . exact hE j (by omega)
         . obtain rfl:j=I:=(by omega);rw[hIe];exact q2
        have wI:IntKind.i64.wrap ((I:Int)+1)=(I:Int)+1:=Yf (by omega) (by omega);refine Qga ?_;simp -implicitDefEqProofs[rgK,rgP];refine Qgr ?_;simp -implicitDefEqProofs[wI];refine ⟨?_,by first|exact q2|exact λj hj=>hE2 j (by omega)⟩;simp only[rgP,eO]
        ((try simp only[hIe]);refine Ym.sub (by simp[lk,Ya,AV.keys,hIe]) ?_;simp only[hIe,Wkl,and_true];(try simp[lk,Yc,Ya,AV.keys,hIe]))
   . intro hE
     have e:ptsB r hs ps=true:=by
      simp only[ptsB,Bool.and_eq_true,decide_eq_true_eq];exact ⟨⟨⟨by omega,by omega⟩,Zag.2 he⟩,Zag.2 hE⟩
     refine Qga ?_;simp -implicitDefEqProofs[rgP];refine Qgr ?_;simp -implicitDefEqProofs[e]
end
def opP (r:List Iss) (l:List Nte) (hs:List Hld) (ps:List Prt):AV:=.tup [if ck7 r l hs ps=0 then ofA r l hs ps else .nilp,.int .i64 (ck7 r l hs ps)]
theorem Zgt {r:List Iss} {l:List Nte} {hs:List Hld} {ps:List Prt}:ck7 r l hs ps=0↔chN r l=0/\ptsB r hs ps=true:=by
 unfold ck7;by_cases h:chN r l=0
 . rw[if_pos h];by_cases h2:ptsB r hs ps=true
   . simp[h,h2]
   . simp[h,h2]
 . simp[h]
theorem Zgu {r:List Iss} {l:List Nte} (h:chN r l=0):openV r=0:=by
 unfold chN at h
 split at h
 . assumption
 . rename_i e;exact absurd h e
def as7 (r:List Iss) (l:List Nte) (hs:List Hld) (ps:List Prt) (day m:Int):Int:=if ck7 r l hs ps=0 then if inR day 0 14610=true/\inR m 1 999=true then 0 else 2 else ck7 r l hs ps
def ab7 (r:List Iss) (l:List Nte) (hs:List Hld) (ps:List Prt) (day m id:Int) (ds:List Int):Int:=if as7 r l hs ps day m=0 then if 0<=hoI hs id/\(ds.all λd=>decide (d∈nums r))=true then 0 else 6 else as7 r l hs ps day m
section
variable {G:Nat->Option (List AV)}
theorem Zgv (hG:GC G) (hN:GN G) (hP:GP G) (r:List Iss) (l:List Nte) (hs:List Hld) (ps:List Prt) (hl:WfN l) (hr:Wf r) (hd:Sml (nums r)) (hw:WfP hs ps):PC Tryz.prog G 76 [prA r l hs ps] (opP r l hs ps):=by
 have hc:=Zfz hG hN r l hl hr;have hD:=Zcj hG r hr;rw[rega]at hD;have hR:=Zgs hP r l hs ps hr.1.1 hd hw;have pO:=ZfW r l hs ps;have kO:=ZfX r l hs ps;have eO:ofA r l hs ps = .vptr [.vsl (r.map isa),.vsl (l.map na),.vsl (hs.map hoa),.vsl (ps.map ptA),.vsl ((nums r).map ia)] 0:=rfl;have sO:∀ ok st,Yh ok st 6 (ofA r l hs ps)=some (ofA r l hs ps):=λok st=>by rw[eO];rw[eO]at pO;simp[Yh,pO]
 unfold opP prA;by_cases h0:chN r l=0
 case neg =>
  have e:ck7 r l hs ps=chN r l:=(by rw[ck7,if_neg h0]);rw[e,if_neg h0]
  (refine Z5O rfl λR hG hrd=>Qga ?_;subst hG)
  simp -implicitDefEqProofs[Z5M,Z5N];refine Qco (hc) (by simp) ?_;simp -implicitDefEqProofs[h0]
 have ho:=Zgu h0;rw[if_pos ho,ho]at hD;rw[h0]at hc;refine Z5O rfl λR hG hrd=>?_
 subst hG;refine Qga ?_;simp -implicitDefEqProofs[Z5M,Z5N];refine Qco (hc) (by simp) ?_;simp -implicitDefEqProofs[];refine Qco (hD) (by simp) ?_;simp -implicitDefEqProofs[];rw[eO]at hR
 (first|refine Yd.flat (hR) (by simp[AV.flat]) (by simp) ?_|refine Ye.flat (hR) (by simp[AV.flat]) (by simp) ?_)
 cases q:ptsB r hs ps
 . have e:ck7 r l hs ps=70:=(by rw[ck7,if_pos h0,q];rfl);simp -implicitDefEqProofs[e]
 . have e:ck7 r l hs ps=0:=(by rw[ck7,if_pos h0,q];rfl);simp -implicitDefEqProofs[e,eO]
theorem Zgw (hG:GC G) (hN:GN G) (hP:GP G) (r:List Iss) (l:List Nte) (hs:List Hld) (ps:List Prt) (hl:WfN l) (hr:Wf r) (hd:Sml (nums r)) (hw:WfP hs ps):PC Tryz.prog G 23 [prA r l hs ps] (.int .i64 (ck7 r l hs ps)):=by
 have ho:=Zgv hG hN hP r l hs ps hl hr hd hw;unfold opP prA at ho;unfold prA
 (refine Z5R rfl λR hG hrd=>Qga ?_;subst hG)
 simp -implicitDefEqProofs[Z5P,Z5Q];refine Qco (ho) (by simp) ?_;simp -implicitDefEqProofs[]
def asP (r:List Iss) (l:List Nte) (hs:List Hld) (ps:List Prt) (day m:Int):AV:=.tup [if as7 r l hs ps day m=0 then ofA r l hs ps else .nilp,.int .i64 (as7 r l hs ps day m)]
theorem Zgx (hG:GC G) (hN:GN G) (hP:GP G) (r:List Iss) (l:List Nte) (hs:List Hld) (ps:List Prt) (day m:Int) (hl:WfN l) (hr:Wf r) (hd:Sml (nums r)) (hw:WfP hs ps) :
  PC Tryz.prog G 89 [prA r l hs ps,.int .i64 day,.int .i64 m] (asP r l hs ps day m):=by
 have ho:=Zgv hG hN hP r l hs ps hl hr hd hw;have c1:=Zgb (G:=G) 0 14610 day;have c2:=Zgb (G:=G) 1 999 m;have pO:=ZfW r l hs ps;have kO:=ZfX r l hs ps;have eO:ofA r l hs ps = .vptr [.vsl (r.map isa),.vsl (l.map na),.vsl (hs.map hoa),.vsl (ps.map ptA),.vsl ((nums r).map ia)] 0:=rfl;have sO:∀ ok st,Yh ok st 6 (ofA r l hs ps)=some (ofA r l hs ps):=λok st=>by rw[eO];rw[eO]at pO;simp[Yh,pO]
 unfold opP at ho;unfold asP as7;by_cases h0:ck7 r l hs ps=0
 case neg =>
  rw[if_neg h0]at ho;unfold prA at *
  (refine Z5U rfl λR hG hrd=>Qga ?_;subst hG)
  simp -implicitDefEqProofs[Z5S,Z5T];refine Qco (ho) (by simp) ?_;simp -implicitDefEqProofs[h0]
 rw[if_pos h0,h0]at ho;unfold prA at *;generalize ofA r l hs ps=O at *
 (refine Z5U rfl λR hG hrd=>Qga ?_;subst hG)
 simp -implicitDefEqProofs[Z5S,Z5T];refine Qco (ho) (by simp) ?_;simp -implicitDefEqProofs[];refine Qco (c1) (by simp) ?_
 cases q1:inR day 0 14610
 . simp -implicitDefEqProofs[h0]
 simp -implicitDefEqProofs[];refine Qco (c2) (by simp) ?_
 cases q2:inR m 1 999
 . simp -implicitDefEqProofs[h0]
 . simp -implicitDefEqProofs[h0,pO,sO]
def abP (r:List Iss) (l:List Nte) (hs:List Hld) (ps:List Prt) (day m id:Int) (ds:List Int):AV:=.tup [if ab7 r l hs ps day m id ds=0 then ofA r l hs ps else .nilp,.int .i64 (ab7 r l hs ps day m id ds)]
theorem Zgy (r:List Iss) (l:List Nte) (hs:List Hld) (ps:List Prt) (d:Int) (hd:Sml (nums r)):PC Tryz.prog G 127 [.int .i64 d,.vptr [ofA r l hs ps] 0] (.bool (!decide (d∈nums r))):=by
 have hC:=Zfy (G:=G) false (nums r) d hd;have eC:liA false (nums r) = .vsl ((nums r).map ia):=(by simp[liA]);rw[eC]at hC;unfold ofA
 (refine Z60 rfl λR hG hrd=>Qga ?_;subst hG)
 simp -implicitDefEqProofs[Z5Y,Z5Z];refine Qco (hC) (by simp) ?_;simp -implicitDefEqProofs[]
theorem Zgz (hG:GC G) (hN:GN G) (hP:GP G) (r:List Iss) (l:List Nte) (hs:List Hld) (ps:List Prt) (day m id:Int) (ds:List Int) (hl:WfN l) (hr:Wf r) (hd:Sml (nums r)) (hw:WfP hs ps) (hds:Sml ds) :
  PC Tryz.prog G 69 [prA r l hs ps,.int .i64 day,.int .i64 m,.int .i64 id,.vsl (ds.map ia)] (abP r l hs ps day m id ds):=by
 have ho:=Zgx hG hN hP r l hs ps day m hl hr hd hw;have pO:=ZfW r l hs ps;have hh:Sml hs:=(by have:=hw.hl;unfold Sml;omega);have c1:=Zgh (G:=G) r l hs ps id hh;have c2:=ZaQ (G:=G) 127 [.vptr [ofA r l hs ps] 0] (λd=>!decide (d∈nums r)) ds (by simp[AV.pure,pO]) hds (λd _=>Zgy r l hs ps d hd);have kO:=ZfX r l hs ps;have eO:ofA r l hs ps = .vptr [.vsl (r.map isa),.vsl (l.map na),.vsl (hs.map hoa),.vsl (ps.map ptA),.vsl ((nums r).map ia)] 0:=rfl;have sO:∀ ok st n,Yh ok st (n+1) (ofA r l hs ps)=some (ofA r l hs ps):=λok st n=>by rw[eO];rw[eO]at pO;simp[Yh,pO]
 have eN:(ds.any λd=>!decide (d∈nums r)) = !(ds.all λd=>decide (d∈nums r)):=(by simp[List.all_eq_not_any_not]);rw[eN]at c2;unfold asP at ho;unfold abP ab7;by_cases h0:as7 r l hs ps day m=0
 case neg =>
  rw[if_neg h0]at ho;unfold prA at *
  (refine Z5X rfl λR hG hrd=>Qga ?_;subst hG)
  simp -implicitDefEqProofs[Z5V,Z5W];refine Qco (ho) (by simp) ?_;simp -implicitDefEqProofs[h0]
 rw[if_pos h0,h0]at ho;unfold prA at *;generalize (ds.all λd=>decide (d∈nums r))=b at *;obtain ⟨cs,hcs⟩ : ∃ cs,ofA r l hs ps = .vptr cs 0:=⟨_,rfl⟩;clear eO;rw[hcs]at ho pO c1 c2 kO sO ⊢;generalize hoI hs id=hid at *
 (refine Z5X rfl λR hG hrd=>Qga ?_;subst hG)
 simp -implicitDefEqProofs[Z5V,Z5W];refine Qco (ho) (by simp) ?_;simp -implicitDefEqProofs[];refine Yd.of c1 (by simp[pO,AV.pure]) ?_;by_cases q1:hid<0
 . have q1':¬0<=hid:=(by omega);simp -implicitDefEqProofs[q1,q1',h0]
 have q1':0<=hid:=(by omega);simp -implicitDefEqProofs[q1];refine Yd.flat c2 (by simp[AV.flat]) (by simp[snap,Yj,sO,Yh,okAll,St.get,lk]) ?_
 cases b
 . simp -implicitDefEqProofs[q1',h0]
 . simp -implicitDefEqProofs[q1',h0,pO,sO]
end
theorem ZgA {r:List Iss} (h:openV r=0):r≠[]:=by
 rintro rfl;exact absurd h (by decide)
section
variable {G:Nat->Option (List AV)}
theorem ZgB (n lo hi:Int):PC Tryz.prog G 147 [.int .i64 n,.int .i64 lo,.int .i64 hi] (.bool (inR n lo hi)):=by
 (refine Z6s rfl λR hG hrd=>Qga ?_;subst hG)
 by_cases h1:lo<=n <;> by_cases h2:n<=hi <;> simp -implicitDefEqProofs[Z6q,Z6r,inR,h1,h2]
theorem ZgC (l:List Int) (n:Int) (h:Sml l):PC Tryz.prog G 104 [.vsl (l.map ia),.int .i64 n] (.bool (decide (n∈l))):=by
 (refine Z6v rfl λR hG hrd=>Qga ?_;subst hG)
 unfold Sml at h;simp -implicitDefEqProofs[Z6t,Z6u];refine Z9U (λi=>⟨[(5,.int .i64 i),(0,.vsl (l.map ia)),(1,.int .i64 n)],[]⟩) (λi=>∀ j (h:j<l.length),j<i->¬l[j]=n) l.length (by (first|exact Ym.tm (by simp[lk])|exact Ym.sub (by simp[lk,Ya,AV.keys]) (by simp[lk,Yc,Ya,AV.keys]))) (by simp) ?_ ?_
 . intro i hi he;refine Qga ?_;have w1:IntKind.i64.wrap ((i:Int)+1)=(i:Int)+1:=Yf (by omega) (by omega);by_cases e:l[i]=n
   . have hm:n∈l:=e ▸ List.getElem_mem hi;simp -implicitDefEqProofs[hi,ia,e];refine Qgr ?_;simp -implicitDefEqProofs[hm]
   . simp -implicitDefEqProofs[hi,ia,e,w1];refine ⟨by (first|exact Ym.tm (by simp[lk])|exact Ym.sub (by simp[lk,Ya,AV.keys]) (by simp[lk,Yc,Ya,AV.keys])),λj hj hji=>?_⟩;rcases Nat.lt_or_ge j i with h2|h2
     . exact he j hj h2
     . obtain rfl:j=i:=(by omega);exact e
 . intro he;refine Qga ?_
   have hm:¬n∈l:=λhm=>by
    obtain ⟨j,hj,e⟩:=List.getElem_of_mem hm;exact he j hj hj e
   simp -implicitDefEqProofs[];refine Qgr ?_;simp -implicitDefEqProofs[hm]
theorem ZgD (r:List Iss) (l:List Nte) (hs:List Hld) (ps:List Prt) (id:Int) (hh:Sml hs):PC Tryz.prog G 83 [prA r l hs ps,.int .i64 id] (.int .i64 (hoI hs id)):=by
 unfold Sml at hh;unfold prA
 (refine Z6B rfl λR hG hrd=>Qga ?_;subst hG)
 simp -implicitDefEqProofs[Z6z,Z6A];refine Z9U (λi=>⟨[(5,.int .i64 i),(2,.ptr 2 0),(1,.int .i64 id)],[(2,.box [.vsl (r.map isa),.vsl (l.map na),.vsl (hs.map hoa),.vsl (ps.map ptA)])]⟩) (λi=>∀ j (h:j<hs.length),j<i->decide (hs[j].id=id)=false) hs.length ?_ (by simp) ?_ ?_
 . (refine Ym.sub (by simp[lk,Ya,AV.keys]) ?_;simp only[Wkl,and_true];(try simp[lk,Yc,Ya,AV.keys]))
 . intro i hi he;refine Qga ?_;have w1:IntKind.i64.wrap ((i:Int)+1)=(i:Int)+1:=Yf (by omega) (by omega);by_cases h:hs[i].id=id
   . have hf:hoI hs id=i:=(by unfold hoI;exact ZaM hi (by simpa using h) he);simp -implicitDefEqProofs[hi,hoa,h];refine Qgr ?_;simp -implicitDefEqProofs[hf]
   . simp -implicitDefEqProofs[hi,hoa,h,w1];refine ⟨?_,λj q1 q2=>?_⟩
     . (refine Ym.sub (by simp[lk,Ya,AV.keys]) ?_;simp only[Wkl,and_true];(try simp[lk,Yc,Ya,AV.keys]))
     . by_cases e:j=i
       . subst e;simpa using h
       . simpa using he j q1 (by omega)
 . intro he;refine Qga ?_;have hf:hoI hs id = -1:=(by unfold hoI;exact ZaN (λj hj=>he j hj hj));simp -implicitDefEqProofs[];refine Qgr ?_;simp -implicitDefEqProofs[hf]
theorem ZgE (x:Prt) (day:Int):PC Tryz.prog G 57 [.agg (ptA x),.int .i64 day] (.bool (outB x day)):=by
 (refine Z6N rfl λR hG hrd=>Qga ?_;subst hG)
 by_cases h1:x.dy<=day
 . by_cases h2:x.bk = -1
   . by_cases h3:x.lo=2
     . simp -implicitDefEqProofs[Z6L,Z6M,ptA,h1,h2,h3,outB]
     . simp -implicitDefEqProofs[Z6L,Z6M,ptA,h1,h2,h3,outB]
   . by_cases h4:day<x.bk
     . by_cases h3:x.lo=2
       . simp -implicitDefEqProofs[Z6L,Z6M,ptA,h1,h2,h3,h4,outB]
       . simp -implicitDefEqProofs[Z6L,Z6M,ptA,h1,h2,h3,h4,outB]
     . simp -implicitDefEqProofs[Z6L,Z6M,ptA,h1,h2,h4,outB]
 . simp -implicitDefEqProofs[Z6L,Z6M,ptA,h1,outB]
set_option maxHeartbeats 4000000 in
theorem ZgF (r:List Iss) (l:List Nte) (hs:List Hld) (ps:List Prt) (i:Nat) (hi:i<hs.length) (hr:Sml r) (hne:r≠[]) (hd:Sml (nums r)) (hw:WfP hs ps) :
  PC Tryz.prog G 135 [prA r l hs ps,.int .i64 i] (.bool (hoB (nums r) hs i)):=by
 have hl:=hw.hl;have hn:=Zah (G:=G) r hr hne;rw[rega]at hn;have hC:=λn=>ZgC (G:=G) (nums r) n hd
 have hx:=ZfS hi;have hds:=hw.dl _ (List.getElem_mem hi);have heq:=Zgr (nums r) hs i;obtain ⟨h,hhe⟩ : ∃ h,h=hs[i]:=⟨_,rfl⟩;rw[<- hhe]at hx hds;have hlx:hs[i]=h:=hhe.symm;have hho:hoa h=[.int .i64 h.id,.int .i64 h.fr,.int .i64 h.to,.vsl (h.ds.map ia)]:=rfl;have hC0:hoC hs i=(inR h.id 1 9999&&(i == 0||decide ((hAt hs (i-1)).id<h.id))&&inR h.fr 1 h.to&&decide (h.to<=999)&&decide (h.ds.length<=8)):=(by unfold hoC;rw[hx]);have hno2:hoC hs i=false->hoB (nums r) hs i=false:=λq=>by rw[heq,q];rfl
 have c1:=ZgB (G:=G) h.id 1 9999;have c2:=ZgB (G:=G) h.fr 1 h.to;unfold prA;refine Z6y rfl λR hG hrd=>?_
 subst hG;refine Qga ?_
 cases q1:inR h.id 1 9999
 . have e:=hno2 (by rw[hC0,q1];rfl);rw[q1]at c1
   cases i
   case' zero=>simp -implicitDefEqProofs[Z6w,Z6x,hi,hlx,hho]
   case' succ k =>
    have k1:(k:Int)+1<hs.length:=(by omega);have k2:((k:Int)+1).toNat=k+1:=(by omega);have k3:(0:Int)<=(k:Int)+1:=(by omega);simp -implicitDefEqProofs[Z6w,Z6x,k1,k2,k3,hi,hlx,hho]
   all_goals
    refine Qco (c1) (by simp) ?_;simp -implicitDefEqProofs[];exact ⟨rfl,e⟩
 rw[q1]at c1;obtain ⟨I,hIe⟩ : ∃ I,I=i:=⟨_,rfl⟩
 cases i
 case' zero =>
  have q2:hoC hs 0=(inR h.fr 1 h.to&&decide (h.to<=999)&&decide (h.ds.length<=8)):=(by rw[hC0,q1];rfl);simp -implicitDefEqProofs[Z6w,Z6x,hi,hlx,hho];refine Qco (c1) (by simp) ?_;simp -implicitDefEqProofs[]
 case' succ k =>
  have hk:k<hs.length:=(by omega);have w0:IntKind.i64.wrap ((k:Int)+1-1)=(k:Int):=(by rw[Yf (by omega) (by omega)];omega);have w2:IntKind.i64.wrap (k:Int)=(k:Int):=Yf (by omega) (by omega);have g0:(0:Int)<(k:Int)+1:=(by omega);have k1:(k:Int)+1<hs.length:=(by omega);have k2:((k:Int)+1).toNat=k+1:=(by omega);have k3:(0:Int)<=(k:Int)+1:=(by omega);have hhk:hoa hs[k]=[.int .i64 hs[k].id,.int .i64 hs[k].fr,.int .i64 hs[k].to,.vsl (hs[k].ds.map ia)]:=rfl;simp -implicitDefEqProofs[Z6w,Z6x,k1,k2,k3,hi,hlx,hho];refine Qco (c1) (by simp) ?_;by_cases hp:hs[k].id<h.id
  case' neg =>
   have e:=hno2 (by rw[hC0,Nat.add_sub_cancel,ZfS hk,decide_eq_false hp];simp);have hp2:h.id<=hs[k].id:=(by omega);simp -implicitDefEqProofs[hk,w0,w2,g0,hhk,hp2,hho];exact ⟨rfl,e⟩
  have hp2:¬h.id<=hs[k].id:=(by omega);have q2:hoC hs (k+1)=(inR h.fr 1 h.to&&decide (h.to<=999)&&decide (h.ds.length<=8)):=(by rw[hC0,q1,Nat.add_sub_cancel,ZfS hk,decide_eq_true hp];simp);simp -implicitDefEqProofs[hk,w0,w2,g0,hhk,hp2,hho]
 all_goals
  refine Qco (c2) (by simp) ?_
  cases q3:inR h.fr 1 h.to
  case false =>
   have e:=hno2 (by rw[q2,q3];rfl);simp -implicitDefEqProofs[];exact ⟨rfl,e⟩
  by_cases q4:999<h.to
  case pos =>
   have e:=hno2 (by rw[q2,decide_eq_false (show ¬h.to<=999 by omega)];simp);simp -implicitDefEqProofs[hho,q4];exact ⟨rfl,e⟩
  by_cases q5:8<h.ds.length
  case pos =>
   have q5':(8:Int)<h.ds.length:=(by omega);have e:=hno2 (by rw[q2,decide_eq_false (show ¬h.ds.length<=8 by omega)];simp);simp -implicitDefEqProofs[hho,q4,q5'];exact ⟨rfl,e⟩
  have q5':¬(8:Int)<h.ds.length:=(by omega);rw[q3,decide_eq_true (show h.to<=999 by omega),decide_eq_true (show h.ds.length<=8 by omega)]at q2;simp -implicitDefEqProofs[hho,q4,q5'];refine ⟨rfl,?_⟩;refine Qco (hn) (by simp) ?_;simp -implicitDefEqProofs[];refine Z9U (λk=>⟨[(7,.int .i64 k),(6,.vsl ((nums r).map ia)),(5,.ptr 5 0)],[(5,.box (hoa h))]⟩) (λk=>∀ j,j<k->wkC (nums r) h.ds j=true) h.ds.length ?_ (by simp) ?_ ?_
  . ((try simp only[hho]);refine Ym.sub (by simp[lk,Ya,AV.keys,hho]) ?_;simp only[hho,Wkl,and_true];(try simp[lk,Yc,Ya,AV.keys,hho]))
  . intro k hk hK
    have hwf:wkC (nums r) h.ds k=false->hoB (nums r) hs I=false:=λq=>by
     rw[hIe,heq,hx]
     cases q6:(List.range h.ds.length).all (wkC (nums r) h.ds)
     . rw[Bool.and_false]
     . have:=Zag.1 q6 k hk;rw[q]at this;cases this
    rw[hIe]at hwf;have hcd:=hC h.ds[k];have gd:h.ds.getD k 0=h.ds[k]:=(by simp[List.getD_eq_getElem?_getD,hk]);refine Qga ?_;by_cases m1:h.ds[k]∈nums r
    case neg =>
     have e:=hwf (by rw[wkC,gd];simp[m1]);rw[decide_eq_false m1]at hcd
     cases k
     case' zero=>simp -implicitDefEqProofs[hk,ia,hho]
     case' succ p =>
      have k1:(p:Int)+1<h.ds.length:=(by omega);have k2:((p:Int)+1).toNat=p+1:=(by omega);have k3:(0:Int)<=(p:Int)+1:=(by omega);simp -implicitDefEqProofs[k1,k2,k3,hk,ia,hho]
     all_goals
      refine Qco (hcd) (by simp) ?_;simp -implicitDefEqProofs[];refine ⟨rfl,?_⟩;refine Qgr ?_;simp -implicitDefEqProofs[e]
      done
    rw[decide_eq_true m1]at hcd
    cases k with
    | zero =>
      have e:wkC (nums r) h.ds 0=true:=(by rw[wkC,gd];simp[m1]);have w1:IntKind.i64.wrap 1=1:=rfl;simp -implicitDefEqProofs[hk,ia,hho];refine Qco (hcd) (by simp) ?_;simp -implicitDefEqProofs[w1];refine ⟨rfl,?_,e⟩
      ((try simp only[hho]);refine Ym.sub (by simp[lk,Ya,AV.keys,hho]) ?_;simp only[hho,Wkl,and_true];(try simp[lk,Yc,Ya,AV.keys,hho]))
    | succ p =>
      have hp:p<h.ds.length:=(by omega);have g2:h.ds.getD p 0=h.ds[p]:=(by simp[List.getD_eq_getElem?_getD,hp]);have w0:IntKind.i64.wrap ((p:Int)+1-1)=(p:Int):=(by rw[Yf (by omega) (by omega)];omega);have w2:IntKind.i64.wrap (p:Int)=(p:Int):=Yf (by omega) (by omega);have g0:(0:Int)<(p:Int)+1:=(by omega);have k1:(p:Int)+1<h.ds.length:=(by omega);have k2:((p:Int)+1).toNat=p+1:=(by omega);have k3:(0:Int)<=(p:Int)+1:=(by omega);have wk2:IntKind.i64.wrap ((p:Int)+1+1)=(p:Int)+1+1:=Yf (by omega) (by omega);by_cases m2:h.ds[p]<h.ds[p+1]
      . have e:wkC (nums r) h.ds (p+1)=true:=(by rw[wkC,gd,Nat.add_sub_cancel,g2];simp[m1,m2]);have m3:¬h.ds[p+1]<=h.ds[p]:=(by omega);simp -implicitDefEqProofs[k1,k2,k3,hk,ia,hho];refine Qco (hcd) (by simp) ?_;simp -implicitDefEqProofs[hp,w0,w2,g0,hho,ia,m3,wk2,k1,k2,k3,hk];refine ⟨rfl,?_,λj hj=>?_⟩
        . ((try simp only[hho]);refine Ym.sub (by simp[lk,Ya,AV.keys,hho]) ?_;simp only[hho,Wkl,and_true];(try simp[lk,Yc,Ya,AV.keys,hho]))
        . rcases Nat.lt_or_ge j (p+1) with h4|h4
          . exact hK j h4
          . obtain rfl:j=p+1:=(by omega);exact e
      . have e:=hwf (by rw[wkC,gd,Nat.add_sub_cancel,g2];simp[m2]);have m3:h.ds[p+1]<=h.ds[p]:=(by omega);simp -implicitDefEqProofs[k1,k2,k3,hk,ia,hho];refine Qco (hcd) (by simp) ?_;simp -implicitDefEqProofs[hp,w0,w2,g0,hho,ia,m3,k1,k2,k3,hk];refine ⟨rfl,?_⟩;refine Qgr ?_;simp -implicitDefEqProofs[e]
  . intro hK
    have e:hoB (nums r) hs I=true:=by
     rw[hIe,heq,q2,hx];simp only[Bool.true_and,Bool.and_self];exact Zag.2 hK
    rw[hIe]at e;refine Qga ?_;simp -implicitDefEqProofs[hho];refine Qgr ?_;simp -implicitDefEqProofs[e]
end
def someD (r:List Iss):Int:=(nums r).headD 0
section
variable {G:Nat->Option (List AV)}
set_option maxHeartbeats 4000000 in
theorem ZgG (r:List Iss) (l:List Nte) (hs:List Hld) (ps:List Prt) (i:Nat) (hi:i<ps.length) (hr:Sml r) (hw:WfP hs ps) :
  PC Tryz.prog G 136 [prA r l hs ps,.int .i64 i] (.bool (shB r hs ps i)):=by
 have hpl:=hw.pl;have hh:Sml hs:=(by have:=hw.hl;unfold Sml;omega);have hx:=ZfT hi;obtain ⟨x,hxe⟩ : ∃ x,x=ps[i]:=⟨_,rfl⟩;have hpo:=hw.po _ (List.getElem_mem hi);rw[<- hxe]at hx hpo;have hlx:ps[i]=x:=hxe.symm;have hpt:ptA x=[.int .i64 x.no,.int .i64 x.dy,.int .i64 x.ho,.int .i64 x.dw,.int .i64 x.lt,.int .i64 x.bk,.int .u8 x.lo]:=rfl;have hsh:shB r hs ps i=((i == 0||decide ((pAt ps (i-1)).no<x.no))&&prB r hs x):=(by unfold shB;rw[hx]);have c1:=ZgB (G:=G) x.no 1 9999;have c2:=ZgB (G:=G) x.dy 0 14610;have c3:=ZgD (G:=G) r l hs ps x.ho hh;have c4:=Zaf (G:=G) r x.dw x.lt hr;have c5:=ZgB (G:=G) x.bk x.dy 14610;rw[rega]at c4;have hI:=hoF_I hs x.ho;have hfst:∀ c:Bool,prB r hs x=false->(c&&prB r hs x)=false:=λc h=>by rw[h,Bool.and_false]
 unfold prA at *;refine Z6E rfl λR hG hrd=>?_
 subst hG;refine Qga ?_
 cases q1:inR x.no 1 9999
 . have e:shB r hs ps i=false:=(by rw[hsh];exact hfst _ (by simp[prB,q1]));rw[q1]at c1
   cases i
   case' zero=>simp -implicitDefEqProofs[Z6C,Z6D,hi,hlx,hpt]
   case' succ k =>
    have k1:(k:Int)+1<ps.length:=(by omega);have k2:((k:Int)+1).toNat=k+1:=(by omega);have k3:(0:Int)<=(k:Int)+1:=(by omega);simp -implicitDefEqProofs[Z6C,Z6D,k1,k2,k3,hi,hlx,hpt]
   all_goals
    refine Qco (c1) (by simp) ?_;simp -implicitDefEqProofs[];exact ⟨rfl,e⟩
 rw[q1]at c1;obtain ⟨P,hP⟩ : ∃ P,P=shB r hs ps i:=⟨_,rfl⟩;rw[<- hP]
 cases i
 case' zero =>
  have q2:P=prB r hs x:=(by rw[hP,hsh];rfl);simp -implicitDefEqProofs[Z6C,Z6D,hi,hlx,hpt];refine Qco (c1) (by simp) ?_;simp -implicitDefEqProofs[]
 case' succ k =>
  have hk:k<ps.length:=(by omega);have w0:IntKind.i64.wrap ((k:Int)+1-1)=(k:Int):=(by rw[Yf (by omega) (by omega)];omega);have w2:IntKind.i64.wrap (k:Int)=(k:Int):=Yf (by omega) (by omega);have g0:(0:Int)<(k:Int)+1:=(by omega);have k1:(k:Int)+1<ps.length:=(by omega);have k2:((k:Int)+1).toNat=k+1:=(by omega);have k3:(0:Int)<=(k:Int)+1:=(by omega);have hpk:ptA ps[k]=[.int .i64 ps[k].no,.int .i64 ps[k].dy,.int .i64 ps[k].ho,.int .i64 ps[k].dw,.int .i64 ps[k].lt,.int .i64 ps[k].bk,.int .u8 ps[k].lo]:=rfl;simp -implicitDefEqProofs[Z6C,Z6D,k1,k2,k3,hi,hlx,hpt];refine Qco (c1) (by simp) ?_;by_cases hp:ps[k].no<x.no
  case' neg =>
   have e:P=false:=(by rw[hP,hsh,Nat.add_sub_cancel,ZfT hk,decide_eq_false hp];simp);have hp2:x.no<=ps[k].no:=(by omega);simp -implicitDefEqProofs[hk,w0,w2,g0,hpk,hp2,hpt];exact ⟨rfl,e⟩
  have hp2:¬x.no<=ps[k].no:=(by omega);have q2:P=prB r hs x:=(by rw[hP,hsh,Nat.add_sub_cancel,ZfT hk,decide_eq_true hp];simp);simp -implicitDefEqProofs[hk,w0,w2,g0,hpk,hp2,hpt]
 all_goals
  clear hP hsh;subst q2;refine Qco (c2) (by simp) ?_
  cases q3:inR x.dy 0 14610
  case false =>
   have e:prB r hs x=false:=(by simp[prB,q3]);simp -implicitDefEqProofs[];exact ⟨rfl,e⟩
  simp -implicitDefEqProofs[];refine Qco (c3) (by simp) ?_;by_cases q4:hoI hs x.ho<0
  case pos =>
   have e:prB r hs x=false:=by
    rw[decide_eq_false (show ¬0<=hoI hs x.ho by omega)]at hI;simp[prB,<- hI]
   simp -implicitDefEqProofs[q4];exact ⟨rfl,e⟩
  rw[decide_eq_true (show 0<=hoI hs x.ho by omega)]at hI;by_cases q5:2<x.lo
  case pos =>
   have e:prB r hs x=false:=by
    have:¬x.lo<=2:=(by omega);simp[prB,this]
   simp -implicitDefEqProofs[q4,hpt,q5];exact ⟨rfl,e⟩
  have q5':x.lo<=2:=(by omega);simp -implicitDefEqProofs[q4,hpt,q5];refine ⟨rfl,?_⟩;refine Qco (c4) (by simp) ?_
  cases q6:findN x.dw x.lt r with
  | none =>
    have e:prB r hs x=false:=(by simp[prB,q6]);simp -implicitDefEqProofs[q6,fndA,noIs,e]
  | some y =>
    have ey:isa y=[.int .i64 y.d,.int .i64 y.l,.int .u8 y.k,.vsl (y.its.map ita),.vsl (y.dms.map dma)]:=rfl;have e:prB r hs x=(decide (x.bk = -1)||(inR x.bk x.dy 14610&&decide (x.lo=0))):=(by simp[prB,q1,q3,<- hI,q5',q6]);rw[e];by_cases q7:x.bk = -1
    . simp -implicitDefEqProofs[q6,fndA,ey,hpt,q7]
    . simp -implicitDefEqProofs[q6,fndA,ey,hpt,q7];refine Qco (c5) (by simp) ?_
      cases inR x.bk x.dy 14610
      . simp -implicitDefEqProofs[]
      . simp -implicitDefEqProofs[hpt]
theorem ZgH (r:List Iss) (l:List Nte) (hs:List Hld) (ps:List Prt) (hr:Sml r) (hne:r≠[]) (hd:Sml (nums r)) (hw:WfP hs ps):PC Tryz.prog G 78 [prA r l hs ps] (.bool (ptsB r hs ps)):=by
 have hl:=hw.hl;have hp:=hw.pl;have c1:=λi hi=>ZgF (G:=G) r l hs ps i hi hr hne hd hw
 have c2:=λi hi=>ZgG (G:=G) r l hs ps i hi hr hw
 unfold prA at *;refine Z6H rfl λR hG hrd=>?_
 subst hG;refine Qga ?_;by_cases h6:6<hs.length
 . have h6':(6:Int)<hs.length:=by omega
   have e:ptsB r hs ps=false:=by
    have:¬hs.length<=6:=(by omega);simp[ptsB,this]
   simp -implicitDefEqProofs[Z6F,Z6G,h6',e]
 have h6':¬(6:Int)<hs.length:=(by omega);by_cases h30:30<ps.length
 . have h30':(30:Int)<ps.length:=by omega
   have e:ptsB r hs ps=false:=by
    have:¬ps.length<=30:=(by omega);simp[ptsB,this]
   simp -implicitDefEqProofs[Z6F,Z6G,h6',h30',e]
 have h30':¬(30:Int)<ps.length:=(by omega);simp -implicitDefEqProofs[Z6F,Z6G,h6',h30'];refine Z9U (λi=>⟨[(3,.int .i64 i),(1,.ptr 1 0)],[(1,.box [.vsl (r.map isa),.vsl (l.map na),.vsl (hs.map hoa),.vsl (ps.map ptA)])]⟩) (λi=>∀ j,j<i->hoB (nums r) hs j=true) hs.length ?_ (by simp) ?_ ?_
 . (refine Ym.sub (by simp[lk,Ya,AV.keys]) ?_;simp only[Wkl,and_true];(try simp[lk,Yc,Ya,AV.keys]))
 . intro i hi he;have c1:=c1 i hi;have wi:IntKind.i64.wrap ((i:Int)+1)=(i:Int)+1:=Yf (by omega) (by omega);refine Qga ?_
   cases q:hoB (nums r) hs i
   . have e:=Zgp (ps:=ps) hi q;rw[q]at c1;simp -implicitDefEqProofs[hi];refine Qco (c1) (by simp) ?_;simp -implicitDefEqProofs[];refine Qgr ?_;simp -implicitDefEqProofs[e]
   . rw [q]at c1;simp -implicitDefEqProofs[hi];refine Qco (c1) (by simp) ?_;simp -implicitDefEqProofs[wi];refine ⟨?_,λj hj=>?_⟩
     . (refine Ym.sub (by simp[lk,Ya,AV.keys]) ?_;simp only[Wkl,and_true];(try simp[lk,Yc,Ya,AV.keys]))
     . rcases Nat.lt_or_ge j i with h4|h4
       . exact he j h4
       . obtain rfl:j=i:=(by omega);exact q
 . intro he;refine Qga ?_;simp -implicitDefEqProofs[];refine Qgr ?_;simp -implicitDefEqProofs[];refine Z9U (λi=>⟨[(4,.int .i64 i),(1,.ptr 1 0)],[(1,.box [.vsl (r.map isa),.vsl (l.map na),.vsl (hs.map hoa),.vsl (ps.map ptA)])]⟩) (λi=>∀ j,j<i->shB r hs ps j=true) ps.length ?_ (by simp) ?_ ?_
   . (refine Ym.sub (by simp[lk,Ya,AV.keys]) ?_;simp only[Wkl,and_true];(try simp[lk,Yc,Ya,AV.keys]))
   . intro i hi hE;have c2:=c2 i hi;have wi:IntKind.i64.wrap ((i:Int)+1)=(i:Int)+1:=Yf (by omega) (by omega);refine Qga ?_
     cases q:shB r hs ps i
     . have e:=Zgq hi q;rw[q]at c2;simp -implicitDefEqProofs[hi];refine Qco (c2) (by simp) ?_;simp -implicitDefEqProofs[];refine Qgr ?_;simp -implicitDefEqProofs[e]
     . rw [q]at c2;simp -implicitDefEqProofs[hi];refine Qco (c2) (by simp) ?_;simp -implicitDefEqProofs[wi];refine ⟨?_,λj hj=>?_⟩
       . (refine Ym.sub (by simp[lk,Ya,AV.keys]) ?_;simp only[Wkl,and_true];(try simp[lk,Yc,Ya,AV.keys]))
       . rcases Nat.lt_or_ge j i with h4|h4
         . exact hE j h4
         . obtain rfl:j=i:=(by omega);exact q
   . intro hE
     have e:ptsB r hs ps=true:=by
      simp only[ptsB,Bool.and_eq_true,decide_eq_true_eq];exact ⟨⟨⟨by omega,by omega⟩,Zag.2 he⟩,Zag.2 hE⟩
     refine Qga ?_;simp -implicitDefEqProofs[];refine Qgr ?_;simp -implicitDefEqProofs[e]
theorem ZgI (r:List Iss) (l:List Nte) (hs:List Hld) (ps:List Prt) (hl:WfN l) (hr:Wf r) (hd:Sml (nums r)) (hw:WfP hs ps):PC Tryz.prog G 24 [prA r l hs ps] (.int .i64 (ck7 r l hs ps)):=by
 have c1:=ZdD (G:=G) r l hl hr;by_cases h0:chN r l=0
 . have c2:=ZgH (G:=G) r l hs ps hr.1.1 (ZgA (Zgu h0)) hd hw;rw[h0]at c1;unfold prA at *;unfold ck7;rw[if_pos h0]
   (refine Z6K rfl λR hG hrd=>Qga ?_;subst hG)
   simp -implicitDefEqProofs[Z6I,Z6J];refine Qco (c1) (by simp) ?_;simp -implicitDefEqProofs[];refine Qco (c2) (by simp) ?_
   cases q:ptsB r hs ps
   . simp -implicitDefEqProofs[]
   . simp -implicitDefEqProofs[]
 . have e:ck7 r l hs ps=chN r l:=(by rw[ck7,if_neg h0]);rw[e];unfold prA
   (refine Z6K rfl λR hG hrd=>Qga ?_;subst hG)
   simp -implicitDefEqProofs[Z6I,Z6J];refine Qco (c1) (by simp) ?_;simp -implicitDefEqProofs[h0]
theorem ZgJ (r:List Iss) (l:List Nte) (hs:List Hld) (ps:List Prt) (day m:Int) (hl:WfN l) (hr:Wf r) (hd:Sml (nums r)) (hw:WfP hs ps):PC Tryz.prog G 92 [prA r l hs ps,.int .i64 day,.int .i64 m] (.int .i64 (as7 r l hs ps day m)):=by
 have c1:=ZgI (G:=G) r l hs ps hl hr hd hw;have c2:=ZgB (G:=G) day 0 14610;have c3:=ZgB (G:=G) m 1 999;unfold as7 prA at *;by_cases h0:ck7 r l hs ps=0
 . rw[h0]at c1
   (refine Z6Q rfl λR hG hrd=>Qga ?_;subst hG)
   simp -implicitDefEqProofs[Z6O,Z6P];refine Qco (c1) (by simp) ?_;simp -implicitDefEqProofs[];refine Qco (c2) (by simp) ?_
   cases q1:inR day 0 14610
   . simp -implicitDefEqProofs[h0]
   simp -implicitDefEqProofs[];refine Qco (c3) (by simp) ?_
   cases q2:inR m 1 999
   . simp -implicitDefEqProofs[h0]
   . simp -implicitDefEqProofs[h0]
 . (refine Z6Q rfl λR hG hrd=>Qga ?_;subst hG)
   simp -implicitDefEqProofs[Z6O,Z6P];refine Qco (c1) (by simp) ?_;simp -implicitDefEqProofs[h0]
theorem ZgK {r:List Iss} {l:List Nte} {hs:List Hld} {ps:List Prt} {day m:Int} (h:as7 r l hs ps day m=0):ck7 r l hs ps=0/\inR day 0 14610=true/\inR m 1 999=true:=by
 unfold as7 at h;by_cases c:ck7 r l hs ps=0
 . rw[if_pos c]at h;by_cases c2:inR day 0 14610=true/\inR m 1 999=true
   . exact ⟨c,c2⟩
   . rw[if_neg c2]at h;cases h
 . rw[if_neg c]at h;exact absurd h c
theorem ZgL {r:List Iss} {l:List Nte} {hs:List Hld} {ps:List Prt} {day m id:Int} {ds:List Int} (h:ab7 r l hs ps day m id ds=0):as7 r l hs ps day m=0/\0<=hoI hs id/\∀ d∈ds,d∈nums r:=by
 unfold ab7 at h;by_cases c:as7 r l hs ps day m=0
 . rw[if_pos c]at h
   split at h
   . rename_i c2;exact ⟨c,c2.1,λd hd=>by simpa using List.all_eq_true.1 c2.2 d hd⟩
   . cases h
 . rw[if_neg c]at h;exact absurd h c
theorem ZgM (r:List Iss) (l:List Nte) (hs:List Hld) (ps:List Prt) (day m id d:Int) (hl:WfN l) (hr:Wf r) (hd:Sml (nums r)) (hw:WfP hs ps) :
  PC Tryz.prog G 71 [prA r l hs ps,.int .i64 day,.int .i64 m,.int .i64 id,.int .i64 d] (.int .i64 (ab7 r l hs ps day m id [d])):=by
 have c1:=ZgJ (G:=G) r l hs ps day m hl hr hd hw;have hh:Sml hs:=(by have:=hw.hl;unfold Sml;omega);have c2:=ZgD (G:=G) r l hs ps id hh;have c4:=ZgC (G:=G) (nums r) d hd;unfold ab7;by_cases h0:as7 r l hs ps day m=0
 . have c3:=Zah (G:=G) r hr.1.1 (ZgA (Zgu (Zgt.1 (ZgK h0).1).1));rw[rega]at c3;rw[h0]at c1;unfold prA at *
   (refine Z6T rfl λR hG hrd=>Qga ?_;subst hG)
   simp -implicitDefEqProofs[Z6R,Z6S];refine Qco (c1) (by simp) ?_;simp -implicitDefEqProofs[];refine Qco (c2) (by simp) ?_;by_cases q1:hoI hs id<0
   . have q1':¬0<=hoI hs id:=(by omega);simp -implicitDefEqProofs[q1,q1',h0]
   have q1':0<=hoI hs id:=(by omega);simp -implicitDefEqProofs[q1];refine Qco (c3) (by simp) ?_;simp -implicitDefEqProofs[];refine Qco (c4) (by simp) ?_;by_cases q2:d∈nums r
   . simp -implicitDefEqProofs[q1',q2,h0]
   . simp -implicitDefEqProofs[q1',q2,h0]
 . unfold prA at *
   (refine Z6T rfl λR hG hrd=>Qga ?_;subst hG)
   simp -implicitDefEqProofs[Z6R,Z6S];refine Qco (c1) (by simp) ?_;simp -implicitDefEqProofs[h0]
theorem ZgN:PC Tryz.prog G 54 [.agg [.vsl []]] .nils:=by
 (refine Z9e rfl λR hG hrd=>Qga ?_;subst hG)
 simp -implicitDefEqProofs[Z9c,Z9d];refine Z9U (λi=>⟨[(4,.int .i64 i),(3,.nils),(1,.ptr 1 0)],[(1,.box [.vsl []])]⟩) (λ_=>True) 0 ?_ trivial ?_ ?_
 . (refine Ym.sub (by simp[lk,Ya,AV.keys]) ?_;simp only[Wkl,and_true];(try simp[lk,Yc,Ya,AV.keys]))
 . intro i hi;omega
 . intro _;refine Qga ?_;simp -implicitDefEqProofs[];refine Qgr ?_;simp -implicitDefEqProofs[]
theorem ZgO (r:List Iss) (l:List Nte) (hs:List Hld) (ps:List Prt) (hr:Sml r):PC Tryz.prog G 72 [prA r l hs ps] (.int .i64 (someD r)):=by
 unfold prA someD;by_cases h0:r=[]
 . subst h0;have c:=ZgN (G:=G);have e:nums []=[]:=rfl;rw[e]
   (refine Z6W rfl λR hG hrd=>Qga ?_;subst hG)
   simp -implicitDefEqProofs[Z6U,Z6V];refine Qco (c) (by simp) ?_;simp -implicitDefEqProofs[]
 . have c:=Zah (G:=G) r hr h0;rw[rega]at c
   (refine Z6W rfl λR hG hrd=>Qga ?_;subst hG)
   simp -implicitDefEqProofs[Z6U,Z6V];refine Qco (c) (by simp) ?_
   cases hN:nums r with
   |nil=>simp -implicitDefEqProofs[hN]
   | cons a t =>
     have g0:(0:Int)<(t.length:Int)+1:=(by omega);simp -implicitDefEqProofs[hN,g0,ia]
end
def ZgP (P:Program) (G:Nat->Option (List AV)) (gf:Nat) (caps:List AV) (els:List (AV×AV)):Prop :=
 entB P gf=true/\∀ (n l:Nat) (lb:Array Value) (J:Nat->(Nat->Prop)->World->Prop) (K:World->Prop) (M:Nat->Prop) (W:World),2<=n->(∀ k M A B,J k M A->Ext A B->J k M B)->(∀ A B,K A->Ext A B->K B) ->
  (∀ k M A,J k M A->∀ b,M b->b<A.heap.size)->(∀ k M A,J k M A->GR G M A)->CP M W caps lb ->
  (∀ (k:Nat) (x:AV×AV) (u v:Value) (M:Nat->Prop) (A:World),J k M A->els[k]? = some x->PV M A x.1 u->PV M A x.2 v ->
   YieldAt Fence.wide (n-1) P l #[u,v] A λe A'=>(e = .returned (.bool true)/\∃ M',J (k+1) M' A'/\Since M A M' A')∨(e = .returned (.bool false)/\K A')) ->
  J 0 M W->CallsIn Fence.wide n P gf (#[.func (.yield l) #[] #[]]++lb) W λe W'=>(∃ v,e = .returned v)/\((∃ M,J els.length M W')∨K W')
theorem ZgQ {n:Nat} {P:Program} {g:Operand} {p q:Nat} {assign body:Code} {Q:Exit->Act->World->Prop} {a:Act} {w:World}
  {gf:Nat} {lb:Array Value} {caps:List AV} {els:List (AV×AV)} (hg:a.eval g = .func (.func gf) #[] lb) {G:Nat->Option (List AV)} (hit:ZgP P G gf caps els) (hn:3<=n)
  (I:Nat->(Nat->Prop)->World->Prop) (K:World->Prop) (M0:Nat->Prop) (hIe:∀ k M A B,I k M A->Ext A B->I k M B) (hKe:∀ A B,K A->Ext A B->K B)
  (hIo:∀ (k l:Nat) (M:Nat->Prop) (W:World) (r r':Loop),w.heap.size<=l->I k M W->W.heap[l]? = some (.loop r)->I k M (W.putObj l (.loop r')))
  (hKo:∀ (l:Nat) (W:World) (r r':Loop),w.heap.size<=l->K W->W.heap[l]? = some (.loop r)->K (W.putObj l (.loop r')))
  (hIM:∀ k M A,I k M A->(∀ b,M b->b<A.heap.size)/\∀ (b:Nat) (o:Obj),w.heap.size<=b->A.heap[b]? = some o->Odd o->¬M b)
  (hIG:∀ k M A,I k M A->GR G M A) (hcaps:CP M0 w caps lb) (h0:I 0 M0 w)
  (hround:∀ (l k m:Nat) (x:AV×AV) (u v:Value) (M:Nat->Prop) (W:World) (lr:Loop),w.heap.size<=l->I k M W->W.heap[l]? = some (.loop lr)->els[k]? = some x->PV M W x.1 u->PV M W x.2 v ->
   assign.wpIn (FW (some l)) m P (Exit.then (λa1 W1=>(∀ (b:Nat) (o:Obj),W.heap[b]? = some o->Odd o->W1.heap[b]? = some o) /\
     body.wpIn (FW (some l)) m P (λe _ W'=>((∀ (b:Nat) (o:Obj),W.heap[b]? = some o->Odd o->b≠l->W'.heap[b]? = some o)/\W'.heap[l]? = some (.loop { lr with state:=.busy })) /\
      ((e = .normal/\∃ M',I (k+1) M' W'/\W.heap.size<=W'.heap.size/\∀ b,b<W.heap.size->¬M b->¬M' b/\(b≠l->W'.heap[b]? = W.heap[b]?))∨(e = .ret/\K W'))) a1 (W1.putObj l (.loop { lr with state:=.busy }))) (λ_ _ _=>False))
    { tmps:=(a.tmps.setIfInBounds p u).setIfInBounds q v,defers:=[] } W)
  (hdone:∀ (D:Nat) (M:Nat->Prop) (W:World),w.heap.size<=D->I els.length M W->W.heap[D]? = some (.deferred (some []))->Q .normal { a with defers:=coll D::a.defers } W)
  (hstop:∀ (D:Nat) (W:World),w.heap.size<=D->K W->W.heap[D]? = some (.deferred (some []))->Q .ret { a with defers:=coll D::a.defers } W) :
  (Code.rangeFunc g #[p,q] assign body).wpIn (FW none) n P Q a w:=by
 refine wpIn_rangeFunc ?_;intro fn hfn;obtain ⟨rec,hrec⟩ : ∃ rec:LoopState->Option Code->Loop,rec=λst pe=>{ state:=st,pending:=pe,fn,tmps:=a.tmps,params:=#[p,q],assign,body,defers:=w.heap.size }:=⟨_,rfl⟩
 obtain ⟨W1,hW1⟩ : ∃ W1,(w.alloc (.deferred (some []))).alloc (.loop (rec .ready none))=W1:=⟨_,rfl⟩;have hE1:Ext w W1:=by rw[<- hW1];exact (Ext.refl w).al.al
 have hL1:W1.heap[w.heap.size+1]? = some (.loop (rec .ready none)):=by
  rw[<- hW1];have:=World.alloc_heap_new (w.alloc (.deferred (some []))) (.loop (rec .ready none));rwa [World.size_alloc]at this
 have hK1:W1.heap[w.heap.size]? = some (.deferred (some [])):=by
  rw[<- hW1];exact (Below.heap_alloc _ _ _ (by simp)).trans (World.alloc_heap_new w _)
 have hI1:I 0 M0 W1:=hIe _ _ _ _ h0 hE1;have hC1:CP M0 W1 caps lb:=⟨hcaps.1,λi x u hx hu=>(hcaps.2 i x u hx hu).mono (λb hb hM=>⟨hM,hE1.block b hb⟩) hE1.size⟩
 refine ⟨w.heap.size+1,[{ target:=.collected w.heap.size,args:=#[] }],W1,{ target:=.fn (.func gf) lb,args:=#[.func (.yield (w.heap.size+1)) #[] #[]] },W1,gf,
  #[.func (.yield (w.heap.size+1)) #[] #[]]++lb,W1,?_,?_,λ_ _=>trivial,?_,Z24,?_⟩
 . rw[<- hW1,hrec];exact run_enterLoop_outer _ _ _ _ _
 . simp only[resolve,hg];simp[go_sem]
 . simp[invoke,go_sem,Z1W hit.1]
 . have stay : ∀ {A B:World} {b:Nat} {o:Obj},Ext A B->A.heap[b]? = some o->B.heap[b]? = some o:=λh hb=>(h.block _ (Array.getElem?_eq_some_iff.1 hb).1).trans hb
   refine (hit.2 (n-1) (w.heap.size+1) lb
    (λk M W=>I k M W/\W.heap[w.heap.size+1]? = some (.loop (rec .ready none))/\W.heap[w.heap.size]? = some (.deferred (some [])))
    (λW=>K W/\W.heap[w.heap.size+1]? = some (.loop (rec .done (some .ret)))/\W.heap[w.heap.size]? = some (.deferred (some [])))
    M0 W1 (by omega) (λk M A B h e=>⟨hIe k M A B h.1 e,stay e h.2.1,stay e h.2.2⟩) (λA B h e=>⟨hKe A B h.1 e,stay e h.2.1,stay e h.2.2⟩) (λk M A h=>(hIM k M A h.1).1) (λk M A h=>hIG k M A h.1) hC1 ?_ ⟨hI1,hL1,hK1⟩).mono ?_
   . rintro k x u v M W ⟨hi,hl,hk⟩ hr hus hvs;have hls:w.heap.size+1<W.heap.size:=(Array.getElem?_eq_some_iff.1 hl).1;have hy:=run_yield (P:=P) (args:=#[u,v]) hl (by rw[hrec];rfl);rw[hrec]at hy
     have hfold:(#[p,q].zip #[u,v]).foldl (λt (x:Nat×Value)=>match x with|(p,v)=>t.setIfInBounds p v) a.tmps=(a.tmps.setIfInBounds p u).setIfInBounds q v:=by
      rw[<- Array.foldl_toList,Array.toList_zip];rfl
     have hy:(Instr.yield (w.heap.size+1) #[u,v]).run P W = .ok (.round (w.heap.size+1) fn ((a.tmps.setIfInBounds p u).setIfInBounds q v) assign body) W:=(by rw[<- hfold];exact hy);refine ⟨fn,_,assign,body,hy,roundIn_of_wpIn hfn (wpIn_mono (hround (w.heap.size+1) k _ x u v M W _ (by omega) hi hl hr hus hvs) ?_)⟩;rintro e a1 W2 hp
     cases e with
     | normal =>
       obtain ⟨hodd0,hp⟩:=hp;have hl2:=hodd0 _ _ hl trivial;have hk2:=hodd0 _ _ hk trivial;have hls2:w.heap.size+1<W2.heap.size:=(Array.getElem?_eq_some_iff.1 hl2).1;refine ⟨_,run_beginRound hl2 (by rw[hrec]),wpIn_mono hp ?_⟩;rintro e a3 W3 ⟨⟨hodd,hl3⟩,hp3⟩;have hd3:=hodd _ _ hk trivial (by omega);have hls3:=(Array.getElem?_eq_some_iff.1 hl3).1
       have fin:∀ jump:Option Code,(W3.putObj (w.heap.size+1) (.loop (rec (if jump.isNone then .ready else .done) jump))).heap[w.heap.size+1]? = some (.loop (rec (if jump.isNone then .ready else .done) jump)) /\
         (W3.putObj (w.heap.size+1) (.loop (rec (if jump.isNone then .ready else .done) jump))).heap[w.heap.size]? = some (.deferred (some [])):=λjump =>
        ⟨World.putObj_heap_same hls3,(World.putObj_heap_other (by omega)).trans hd3⟩
       rcases hp3 with ⟨rfl,M',hi3,hsz3,hs3⟩ | ⟨rfl,hk3⟩
       . have hr3:=run_endRound (P:=P) none hl3;have f1:=fin none;rw[hrec]at hr3 f1;refine ⟨_,_,hr3,.inl ⟨rfl,M',⟨hIo _ _ _ _ _ _ (by omega) hi3 hl3,?_,f1.2⟩,by simpa using hsz3,λb hb hM=>⟨(hs3 b hb hM).1,?_⟩⟩⟩
         . rw[hrec];exact f1.1
         . by_cases e:b=w.heap.size+1
           . subst e;rw[hl,hrec];exact f1.1
           . rw[World.putObj_heap_other e];exact (hs3 b hb hM).2 e
       . have hr3:=run_endRound (P:=P) (some .ret) hl3;have f1:=fin (some .ret);rw[hrec]at hr3 f1;refine ⟨_,_,hr3,.inr ⟨rfl,hKo _ _ _ _ (by omega) hk3 hl3,?_,f1.2⟩⟩;rw[hrec];exact f1.1
     |_=>exact hp.elim
   . rintro e W2 ⟨⟨v,rfl⟩,⟨M,hi,hl,hk⟩ | ⟨hi,hl,hk⟩⟩
     . exact ⟨none,_,by have:=run_endLoop (P:=P) hl (by rw[hrec];simp);rw[hrec]at this;exact this,hdone _ M _ (Nat.le_refl _) (hIo _ _ _ _ _ _ (by omega) hi hl) ((World.putObj_heap_other (by omega)).trans hk)⟩
     . exact ⟨some .ret,_,by have:=run_endLoop (P:=P) hl (by rw[hrec];simp);rw[hrec]at this;exact this,wpIn_ret (hstop _ _ (Nat.le_refl _) (hKo _ _ _ _ (by omega) hi hl) ((World.putObj_heap_other (by omega)).trans hk))⟩
section
variable {P:Program} {R:Run} {st:St} {a:Act} {W:World} {κ:Nat->Option (Nat×Nat)}
theorem ZgR {g:RA} {p q gf:Nat} {assign body:RCode} {Φ:Exit->St->Prop} {caps:List AV} {els:List (AV×AV)} (hrd:R.Top) (hpq:p≠q) (hit:ZgP P R.G gf caps els) (hg:evA R.G st g = .func (.func gf) [] caps) (hp:caps.all AV.pure=true)
  (ok:Nat->Bool) (hok:∀ k,ok k=true->k<1000) (ρ:Nat->Nat) (t0:List (Nat×AV)) (objs outs:Nat->List (Nat×AObj)) (Iv:Nat->Prop) (hI0:Iv 0) (hK:∀ k,∀ q∈objs k,1000<=q.1) (hinj:∀ k,((objs k).map λq=>ρ q.1).Nodup) (hinj2:∀ k,((outs k).map λq=>ρ q.1).Nodup)
  (hsub:∀ k,∀ q∈objs k,isK (outs k) q.1=true) (hnew:∀ k,∀ q∈outs k,isK (objs k) q.1=true∨(Yl ρ (objs k) st).get (ρ q.1)=none) (hnext:∀ k,Yl ρ (outs k) st=Yl ρ (objs (k+1)) st)
  (h0:Yl ρ (objs 0) st=st) (hin:∀ k,∀ q∈objs k,Yc (objs k) q.2=true)
  (ht0:∀ z∈t0,lk st.t z.1=some (z.2.ren ρ)/\z.1≠p/\z.1≠q/\∀ j,∀ k∈z.2.keys,isK (objs j) k=true)
  (hround:∀ (k:Nat) (x:AV×AV),els[k]? = some x->Iv k->∀ R':Run,R'.G=R.G->R'.N=R.N->AR P R' assign ⟨(p,x.1)::(q,x.2)::t0,objs k⟩ λe s1=>e = .normal/\∀ R'':Run,R''.G=R.G->R''.N=R.N ->
   AR P R'' body s1 (λe s2=>e = .normal/\(Yi ok s2).o=outs k/\Iv (k+1)))
  (hdone:Iv els.length->Φ .normal (Yl ρ (objs els.length) st)):AR P R (.rngf g [p,q] assign body) st Φ:=by
 intro c hc m a W hs
 cases c <;> simp only[Z1A,Bool.false_eq_true,Bool.and_eq_true,beq_iff_eq]at hc
 rename_i g' ps' ca cb;obtain ⟨⟨⟨⟨hcg,hps⟩,hpn⟩,hca⟩,hcb⟩:=hc;have hpn2:p<R.N/\q<R.N:=(by simpa using hpn);have hpn:=hpn2.1;have hqn:=hpn2.2;obtain rfl:ps' = #[p,q]:=(by rw[<- Array.toList_inj];exact hps);rw[hrd.1];refine wpFW.2 ((wpFW (n:=3)).1 ?_);obtain ⟨κ0,hs⟩:=hs;obtain ⟨S,hS⟩ : ∃ S:Nat->St,S=λk=>Yl ρ (objs k) st:=⟨_,rfl⟩
 have hSt:∀ k,(S k).t=st.t:=λk=>by rw[hS];exact Z4X ρ _ _
 have nod:∀ k,((objs k).map λp=>ρ p.1).Nodup:=hinj
 have memK:∀ {o:List (Nat×AObj)} {q:Nat},isK o q=true->∃ x,(q,x)∈o:=λ{o q} h=>by
  obtain ⟨x,h1⟩:=Option.isSome_iff_exists.1 h;exact ⟨x,Z4E h1⟩
 have injK:∀ {o:List (Nat×AObj)},(o.map λp=>ρ p.1).Nodup->∀ q q',isK o q=true->isK o q'=true->ρ q=ρ q'->q=q':=λ{o} hn q q' h1 h2 e=>by
  have m1:=Z50.1 h1;have m2:=Z50.1 h2;have:(o.map (·.1)).map ρ=o.map (λp=>ρ p.1):=(by simp[List.map_map,Function.comp_def]);rw[<- this]at hn;exact Z51 hn m1 m2 e
 have hevg:∀ k,evA R.G (S k) g = .func (.func gf) [] caps:=λk=>by
  rw[<- hg]
  cases g <;> simp only[evA,St.tmp,hSt]
 have hv0:=hs.ev hcg;rw[hg]at hv0;obtain ⟨us0,lb,hav,hus0,hlb0⟩:=hv0.func_inv
 obtain rfl:us0 = #[]:=by
  have:=hus0.1;rw[<- Array.toList_inj];exact List.length_eq_zero_iff.1 (by simpa using this)
 have hcaps:∀ k W κ,SK R (S k) a W κ->CP ((S k).env R.M κ).M W caps lb:=λk W κ h=>by
  have h1:=h.ev hcg;rw[hevg,hav]at h1;obtain ⟨us1,lb1,h2,-,h3⟩:=h1.func_inv;simp only[Value.func.injEq]at h2;obtain ⟨-,-,rfl⟩:=h2;exact ⟨by simpa using h3.1,λi x u hx hu=>(h3.2 i x u hx (by simpa using hu)).toPV (List.all_eq_true.1 hp x (List.mem_of_getElem? hx))⟩
 obtain ⟨cs0,e0,nd0,hc0,-⟩:=hs.defers
 have marks:∀ (D:Nat) (st1:St) (W1:World) (κ1:Nat->Option (Nat×Nat)),W.heap.size<=D->SK R st1 a W1 κ1->W1.heap[D]? = some (.deferred (some []))->SK R st1 { a with defers:=coll D::a.defers } W1 κ1:=λD st1 W1 κ1 hD h hd=>by
  obtain ⟨cs1,e1,nd1,hc1,-⟩:=h.defers;obtain rfl:cs1=cs0:=Z53 (List.append_cancel_right (e1.symm.trans e0));refine h.odd ⟨rfl,λb=>.inl rfl⟩ rfl rfl rfl (λb _=>rfl) rfl ⟨D::cs1,by simp[e1],List.nodup_cons.2 ⟨λhm=>?_,nd1⟩,λc hm=>?_,λe=>by rw[hrd.2]at e;cases e⟩
  . have:=(Array.getElem?_eq_some_iff.1 (hc0 D hm).2).1;omega
  . rcases List.mem_cons.1 hm with rfl|hm
    . exact ⟨Nat.le_trans hs.kp.size hD,hd⟩
    . exact hc1 c hm
 have put:∀ (l:Nat) (st1:St) (W1:World) (κ1:Nat->Option (Nat×Nat)) (r r':Loop),W.heap.size<=l->SK R st1 a W1 κ1->W1.heap[l]? = some (.loop r)->SK R st1 a (W1.putObj l (.loop r')) κ1:=λl st1 W1 κ1 r r' hl h hr=>by
  obtain ⟨cs1,e1,nd1,hc1,hz1⟩:=h.defers;have:=hs.kp.size;refine h.odd (.put hr trivial) rfl rfl rfl (λb hb=>World.putObj_heap_other (by omega)) rfl ⟨cs1,e1,nd1,λc hm=>⟨(hc1 c hm).1,?_⟩,hz1⟩;rw[World.putObj_heap_other (by rintro rfl;have:=(hc1 _ hm).2;rw[hr]at this;cases this)];exact (hc1 c hm).2
 have hs0:SK R (S 0) a W κ0:=by rw[hS];show SK R (Yl ρ (objs 0) st) a W κ0;rw[h0];exact hs
 refine ZgQ (I:=λk M W'=>∃ κ,(M=((S k).env R.M κ).M/\Iv k)/\SK R (S k) a W' κ) (K:=λW'=>∃ s κ,Φ .ret s/\SK R s a W' κ) (M0:=((S 0).env R.M κ0).M) (caps:=caps) (els:=els) hav hit (by omega) (λk M A B h e=>h.imp λκ h=>⟨h.1,h.2.grow e⟩) (λA B ⟨s,κ,h1,h2⟩ e=>⟨s,κ,h1,h2.grow e⟩)
  (λk l M W' r r' hl ⟨κ,hM,h⟩ hr=>⟨κ,hM,put l _ _ _ r r' hl h hr⟩) (λl W' r r' hl ⟨s,κ,h1,h⟩ hr=>⟨s,κ,h1,put l _ _ _ r r' hl h hr⟩) (λk M A ⟨κ,⟨hM,_⟩,h⟩=>?_) (λk M A ⟨κ,⟨hM,_⟩,h⟩=>hM ▸ h.gr) (hcaps 0 W κ0 hs0) ⟨κ0,⟨rfl,hI0⟩,hs0⟩ ?_ ?_ ?_
 . subst hM;refine ⟨λb hb=>h.owned_lt hb,λb o hb ho hodd hM=>?_⟩;rcases hM with hM | ⟨q,s,hq⟩
   . have:=h.low b hM;have:=hs.kp.size;omega
   . exact h.notOdd hq ho hodd
 . intro l k m x u v M W1 lr hl hI hlr hx hxu hxv;obtain ⟨κ,⟨rfl,hIk⟩,h⟩:=hI
   have enterAt:∀ W',SK R (S k) a W' κ->SK (rC (objs k) ρ R (S k) κ W') (obSt (objs k)) noAct W' (kC (objs k) ρ κ)/\∀ (x:AV) (v:Value),inK (objs k) x->VR ((S k).env R.M κ) W' (x.ren ρ) v->VR ((obSt (objs k)).env (mC (objs k) ρ R (S k) κ) (kC (objs k) ρ κ)) W' x v:=λW' h =>
    Z4U h (λq hq=>by obtain ⟨x,hx⟩:=memK hq;exact hK k _ hx) (injK (hinj k)) (λq o hq=>by rw[hS];exact Z4Z ρ _ _ q o (nod k) hq)
     (λq o hq=>by
      have h2:=hin k (q,o) (Z4E hq);have kept:∀ x,Ya (objs k) x=true->inK (objs k) x:=λx hx k' hk'=>List.all_eq_true.1 hx k' hk'
      cases o with
      |box cells=>exact λx hx=>kept x (List.all_eq_true.1 h2 x hx)
      |row sz rows=>exact λr hr x hx=>kept x (List.all_eq_true.1 (List.all_eq_true.1 h2 r hr) x hx)
      | mp kvs =>
        intro p hp;have:=List.all_eq_true.1 h2 p hp;simp only[Bool.and_eq_true]at this;exact ⟨kept _ this.1,kept _ this.2⟩)
   obtain ⟨h1,conv⟩:=enterAt W1 h
   have hXo:∀ W',SK R (S k) a W' κ->∀ b,(rC (objs k) ρ R (S k) κ W').X b->∀ o,W'.heap[b]? = some o->¬Odd o:=λW' h b ⟨q,s,hq⟩ o ho hodd=>by
    simp only[kC]at hq
    split at hq
    . exact h.notOdd hq ho hodd
    . cases hq
   have hMM:∀ b,((obSt (objs k)).env (mC (objs k) ρ R (S k) κ) (kC (objs k) ρ κ)).M b->((S k).env R.M κ).M b:=λb hb=>by
    rcases hb with hb | ⟨q,s,hq⟩
    . exact hb.1
    . simp only[kC]at hq
      split at hq
      . exact .inr ⟨ρ q,s,hq⟩
      . cases hq
   let R1:Run:={ rC (objs k) ρ R (S k) κ W1 with N:=R.N,rd:=some l }
   have hN:R.N=a.tmps.size:=h.size.symm
   have start:SK R1 ⟨(p,x.1)::(q,x.2)::t0,objs k⟩ { tmps:=(a.tmps.setIfInBounds p u).setIfInBounds q v,defers:=[] } W1 (kC (objs k) ρ κ):=by
    refine ⟨.nil _ _ _ _,by show ((a.tmps.setIfInBounds p u).setIfInBounds q v).size=R.N;simp[hN],λn y hy=>?_,h1.obj,h1.dom,h1.inj,h1.low,h1.apart,h1.kp,h1.gr,h1.mono,h1.ent⟩;have hy:lk ((p,x.1)::(q,x.2)::t0) n=some y:=hy;show VR ((obSt (objs k)).env (mC (objs k) ρ R (S k) κ) (kC (objs k) ρ κ)) W1 y (((a.tmps.setIfInBounds p u).setIfInBounds q v).getD n Go.undef);have hlt:p<a.tmps.size:=(by rw[<- hN];exact hpn);have hlq:q<a.tmps.size:=(by rw[<- hN];exact hqn);simp only[lk]at hy
    split at hy
    . rename_i e;subst e;obtain rfl:x.1=y:=(by simpa using hy);have e:((a.tmps.setIfInBounds p u).setIfInBounds q v).getD p Go.undef=u:=(by simp[Array.getD_eq_getD_getElem?,Array.getElem?_setIfInBounds,Ne.symm hpq,hlt]);rw[e];exact .pv (hxu.mono (λb _ hb=>⟨λhb'=>hb (hMM b hb'),rfl⟩) (Nat.le_refl _))
    . rename_i e0
      split at hy
      . rename_i e;subst e;obtain rfl:x.2=y:=(by simpa [hpq] using hy);have e:((a.tmps.setIfInBounds p u).setIfInBounds q v).getD q Go.undef=v:=(by simp[Array.getD_eq_getD_getElem?,Array.getElem?_setIfInBounds,hlq]);rw[e];exact .pv (hxv.mono (λb _ hb=>⟨λhb'=>hb (hMM b hb'),rfl⟩) (Nat.le_refl _))
      . rename_i e
        have e2:((a.tmps.setIfInBounds p u).setIfInBounds q v).getD n Go.undef=a.tmps.getD n Go.undef:=by
         simp only[Array.getD_eq_getD_getElem?,Array.getElem?_setIfInBounds,if_neg e,if_neg e0]
        rw[e2];obtain ⟨g1,g2,g3,g5⟩:=ht0 (n,y) (Z4E hy);have g4:=h.tm n (y.ren ρ) (by show lk (S k).t n=_;rw[hSt];exact g1);exact conv y _ (λq hq=>g5 k q hq) g4
   refine wpIn_mono (hround k x hx hIk R1 rfl rfl ca hca m _ W1 ⟨_,start⟩) ?_;rintro e a1 W2 ⟨s1,⟨rfl,hbody⟩,κ1,h2⟩;refine ⟨λb o hb ho=>h2.keepOdd (hXo W1 h) hb ho,?_⟩;have hl2:W2.heap[l]? = some (.loop lr):=h2.keepOdd (hXo W1 h) hlr trivial;have h3:=SK.both rfl h2 (o':=.loop { lr with state:=.busy }) hl2 hlr;have hb:=put l _ W1 κ lr { lr with state:=.busy } hl h hlr;refine wpIn_mono (hbody { R1 with W0:=W1.putObj l (.loop { lr with state:=.busy }) } rfl rfl cb hcb m _ _ ⟨_,h3⟩) ?_;rintro e a2 W3 ⟨s2,hrnd,hs2⟩
   have hodd:∀ κ2,SK { R1 with W0:=W1.putObj l (.loop { lr with state:=.busy }) } s2 a2 W3 κ2->(∀ (b:Nat) (o:Obj),W1.heap[b]? = some o->Odd o->b≠l->W3.heap[b]? = some o)/\W3.heap[l]? = some (.loop { lr with state:=.busy }):=λκ2 h4 =>
    ⟨λb o hb1 ho hne=>h4.keepOdd (hXo _ hb) ((World.putObj_heap_other hne).trans hb1) ho,
     h4.keepOdd (hXo _ hb) (o:=.loop { lr with state:=.busy }) (World.putObj_heap_same (Array.getElem?_eq_some_iff.1 hlr).1) trivial⟩
   have leave:(Yi ok s2).o=outs k->∃ κ3,SK R (Yl ρ (outs k) st) a W3 κ3/\Mono ((S k).env R.M κ) (W1.putObj l (.loop { lr with state:=.busy })) ((Yl ρ (outs k) st).env R.M κ3) W3:=λhe=>by
    obtain ⟨κ2,h4⟩:=Ym.frz ok s2 (λk hk=>by
     cases e:ok k
     . rfl
     . have:=hok k e;omega) _ a2 W3 hs2
    have g:=h4.sub (t':=[]) (λn x hx=>by simp[lk]at hx);have e:({ Yi ok s2 with t:=[] }:St)=obSt (outs k):=(by rw[<- he];rfl);rw[e]at g
    have g2:SK (rC (objs k) ρ R (S k) κ (W1.putObj l (.loop { lr with state:=.busy }))) (obSt (outs k)) noAct W3 κ2 :=
     ⟨.nil _ _ _ _,rfl,λn x hx=>by simp[obSt,St.tmp,lk]at hx,g.obj,g.dom,g.inj,g.low,g.apart,g.kp,g.gr,g.mono,g.ent⟩
    obtain ⟨κ3,h5,h6,-⟩:=Z5d hb (objs':=outs k) (st1:=Yl ρ (outs k) st) (injK (hinj2 k)) (λq o hq=>by rw[hS];exact Z4Z ρ _ _ q o (nod k) hq)
     (λq hq=>by obtain ⟨x,hx⟩:=memK hq;exact hsub k _ hx)
     (λq h1 h2=>by
      obtain ⟨x,hx⟩:=memK h1;rcases hnew k _ hx with h3|h3
      . rw[h2]at h3;cases h3
      . rw[hS];exact h3) g2 ((Z4X ρ _ _).trans (hSt k).symm) (λq o hq=>Z4Z ρ _ _ q o (hinj2 k) hq)
     (λj hj=>by
      have o1:(Yl ρ (outs k) st).get j=st.get j:=Z4Y ρ j _ _ λq hq=>hj q.1 (Z50.2 (List.mem_map.2 ⟨q,hq,rfl⟩))
      have o2:(Yl ρ (objs k) st).get j=st.get j:=Z4Y ρ j _ _ λq hq=>hj q.1 (hsub k q hq)
      rw[hS];exact o1.trans o2.symm)
    exact ⟨κ3,h5,h6⟩
   obtain ⟨κ2,h4⟩:=id hs2;refine ⟨hodd κ2 h4,?_⟩;obtain ⟨rfl,hro,hri⟩:=hrnd;obtain ⟨κ3,h5,h6⟩:=leave hro;rw[hnext k]at h5 h6;refine .inl ⟨rfl,_,⟨κ3,⟨rfl,hri⟩,by rw[hS];exact h5⟩,by have:=h6.size;simpa using this,λb hb1 hM=>?_⟩;obtain ⟨g1,g2⟩:=h6.imm b (by simpa using hb1) hM;exact ⟨by rw[hS];exact g1,λhne=>g2.trans (World.putObj_heap_other hne)⟩
 . rintro D M W1 hD ⟨κ,⟨-,hIk⟩,h⟩ hd;refine ⟨_,?_,κ,marks D _ _ _ hD h hd⟩;rw[hS];exact hdone hIk
 . rintro D W1 hD ⟨s,κ,h1,h⟩ hd;exact ⟨s,h1,κ,marks D _ _ _ hD h hd⟩
end
structure ItH (G:Nat->Option (List AV)) (J:Nat->(Nat->Prop)->World->Prop) (K:World->Prop):Prop where
 je:∀ k M A B,J k M A->Ext A B->J k M B
 ke:∀ A B,K A->Ext A B->K B
 jm:∀ k M A,J k M A->∀ b,M b->b<A.heap.size
 jg:∀ k M A,J k M A->GR G M A
def ItS (G:Nat->Option (List AV)) (N:Nat) (J:Nat->(Nat->Prop)->World->Prop) (k:Nat) (st:St) (a:Act) (A:World):Prop:=∃ M A0,J k M A0/\SR (ZfO G M A0 N none) st a A
def ItQ (G:Nat->Option (List AV)) (N:Nat) (J:Nat->(Nat->Prop)->World->Prop) (K:World->Prop) (Φ:Exit->Nat->St->Prop) (e:Exit) (a:Act) (A:World):Prop :=
 (∃ k st,Φ e k st/\ItS G N J k st a A)∨(e = .ret/\K A/\a.defers=[])
def ItW (P:Program) (G:Nat->Option (List AV)) (N n:Nat) (J:Nat->(Nat->Prop)->World->Prop) (K:World->Prop) (rc:RCode) (k:Nat) (st:St) (Φ:Exit->Nat->St->Prop):Prop :=
 ∀ c,Z1A P N c rc=true->∀ a A,ItS G N J k st a A->c.wpIn (FW none) n P (ItQ G N J K Φ) a A
def YOK (P:Program) (n l:Nat) (J:Nat->(Nat->Prop)->World->Prop) (K:World->Prop) (els:List (List AV)):Prop :=
 ∀ (k:Nat) (xs:List AV) (us:Array Value) (M:Nat->Prop) (A:World),J k M A->els[k]? = some xs->CP M A xs us ->
   YieldAt Fence.wide n P l us A λe A'=>(e = .returned (.bool true)/\∃ M',J (k+1) M' A'/\Since M A M' A')∨(e = .returned (.bool false)/\K A')
theorem PV.flatW {M M':Nat->Prop} {W W':World} {x:AV} {v:Value} (h:PV M W x v):x.flat=true->PV M' W' x v:=by
 induction h with
 |hole=>exact λ_=>.hole
 |int k n=>exact λ_=>.int k n
 |bool b=>exact λ_=>.bool b
 |abool b=>exact λ_=>.abool b
 |str s=>exact λ_=>.str s
 |nilp=>exact λ_=>.nilp
 |nils=>exact λ_=>.nils
 |nilm=>exact λ_=>.nilm
 |nilf=>exact λ_=>.nilf
 | agg xs us h1 hx ih =>
   intro h;simp only[AV.flat,List.all_eq_true,List.mem_attach,forall_const,Subtype.forall]at h;exact .agg xs us h1 (λi x u hi hu=>ih i x u hi hu (h x (List.mem_of_getElem? hi)))
 | tup xs us h1 hx ih =>
   intro h;simp only[AV.flat,List.all_eq_true,List.mem_attach,forall_const,Subtype.forall]at h;exact .tup xs us h1 (λi x u hi hu=>ih i x u hi hu (h x (List.mem_of_getElem? hi)))
 |_=>intro h;simp[AV.flat]at h
theorem ZgS {P:Program} {R:Run} {st:St} {a:Act} {W:World} {κ:Nat->Option (Nat×Nat)} {rd:Option Nat} {m:Nat} {ops:Array Oper} {r:ROper} {j l:Nat} {o:Oper} {f:RA} {ys:List RA} {K:Act->World->Prop} {Q:Exit->Act->World->Prop}
  (hr:r.op = .callv f ys) (hf:evA R.G st f = .func (.yield l) [] []) (hw:wants st r.guard=some true) (ho:ops[j]? = some o) (hk:Z1z P R.N ops o r=true) (hκ:SK R st a W κ)
  (hc:∀ us:Array Value,us.size=ys.length->(∀ (i:Nat) (y:RA) (u:Value),ys[i]? = some y->us[i]? = some u->VR (st.env R.M κ) W (evA R.G st y) u)->YieldAt (FW rd) (m-1) P l us W fun
   |.returned v,W'=>K (a.put o.dst v) W'
   |.panicked ch,W'=>Q (.panic ch) a W'
   |.outgrown,_=>LetsOut Q):wpOpIn (FW rd) m P ops Q j K a W:=by
 simp only[Z1z,Bool.and_eq_true,decide_eq_true_eq]at hk;obtain ⟨⟨⟨hd,hdn⟩,hop⟩,hg⟩:=hk;unfold wpOpIn;simp only[ho];rw[if_pos (Z20 hκ hg hw)];rw[hr]at hop;simp only[Z1y,if_true,Z1x]at hop
 split at hop <;> try (simp at hop;done)
 . simp_all
 . simp_all
 . rename_i r0 x xs ats y' ys e1 e2;simp only[Bool.and_eq_true]at hop;simp only[ROp.callv.injEq]at e2;obtain ⟨rfl,rfl⟩:=e2;have hx:=hκ.ev hop.1;rw[hf]at hx;obtain ⟨us,vs,hv1,hv2,hv3⟩:=hx.func_inv
   obtain rfl:us = #[]:=by
    have:=hv2.1;rw[<- Array.toList_inj];exact List.length_eq_zero_iff.1 (by simpa using this)
   obtain rfl:vs = #[]:=by
    have:=hv3.1;rw[<- Array.toList_inj];exact List.length_eq_zero_iff.1 (by simpa using this)
   obtain ⟨hl,ha⟩:=Zc hop.2
   obtain ⟨fn,tmps,assign,body,h1,h2⟩:=hc ((⟨xs⟩ : Array Operand).map a.eval) (by simpa using hl) (λi y u hy hu=>by
    have hi:i<xs.length:=by
     have:=(Array.getElem?_eq_some_iff.1 hu).1;simpa using this
    have hu2:u=a.eval xs[i]:=by
     have:=(Array.getElem?_eq_some_iff.1 hu).2;simpa using this.symm
    rw[hu2];exact hκ.ev (ha i _ y (List.getElem?_eq_getElem hi) hy))
   refine ⟨λ_ _=>trivial,?_⟩;rw[Oper.semAt_eq _ _ _ (λc e=>by rw[e1]at e;cases e)]
   have:(execOp a.eval o).run P W = .ok (.round l fn tmps assign body) W:=by
    rw[<- h1];simp[execOp,e1,resolve,hv1,Deferred.ofValue,invoke,Sem.run_bind]
   rw[this];exact ⟨Z24,h2⟩
section
variable {P:Program} {G:Nat->Option (List AV)} {N n l:Nat} {J:Nat->(Nat->Prop)->World->Prop} {K:World->Prop} {k:Nat} {st:St} {Φ Ψ:Exit->Nat->St->Prop} {rc:RCode}
theorem ZgT (h:ItW P G N n J K rc k st Φ) (hm:∀ e k t,Φ e k t->Ψ e k t):ItW P G N n J K rc k st Ψ:=λc hc a A hs =>
 wpIn_mono (h c hc a A hs) λ_ _ _ q=>q.imp (λ⟨k,t,h1,h2⟩=>⟨k,t,hm _ _ _ h1,h2⟩) id
theorem ZgU (h:∀ M A,AR P (ZfO G M A N none) rc st λe s=>∃ s',Φ e k s'/\Ym s s'):ItW P G N n J K rc k st Φ:=by
 rintro c hc a A ⟨M,A0,hJ,hs⟩;refine wpIn_mono (h M A0 c hc n a A hs) ?_;rintro e a' A' ⟨s,⟨s',hΦ,hw⟩,hs'⟩;exact .inl ⟨k,s',hΦ,M,A0,hJ,hw _ _ _ hs'⟩
theorem ZgV {a b:RCode} (h:ItW P G N n J K a k st λe k' t'=>match e with | .normal=>ItW P G N n J K b k' t' Φ|e=>Φ e k' t'):ItW P G N n J K (.seq a b) k st Φ:=by
 intro c hc x A hs;obtain ⟨c1,c2,rfl,h1,h2⟩:=Zbh hc;refine wpIn_seq (wpIn_mono (h c1 h1 x A hs) ?_);rintro e a' A' (⟨k',t',hΦ,hs'⟩ | ⟨rfl,hK,hd⟩)
 . cases e with
   |normal=>exact hΦ c2 h2 a' A' hs'
   |_=>exact .inl ⟨k',t',hΦ,hs'⟩
 . exact .inr ⟨rfl,hK,hd⟩
theorem ZgW {a b:RCode} (h:ItW P G N n J K a k st λe k' t'=>e = .normal/\ItW P G N n J K b k' t' Φ):ItW P G N n J K (.seq a b) k st Φ :=
 ZgV (ZgT h λe k t ⟨he,h⟩=>by subst he;exact h)
theorem ZgX {a b:RCode} (st':St) (h:∀ M A,AR P (ZfO G M A N none) a st λe s=>e = .normal/\Ym s st') (hb:ItW P G N n J K b k st' Φ):ItW P G N n J K (.seq a b) k st Φ :=
 ZgW (ZgU λM A=>Z2D (h M A) λe s ⟨he,hw⟩=>⟨st',⟨he,hb⟩,hw⟩)
theorem ZgY {a:RCode} (e0:Exit) (st':St) (h:∀ M A,AR P (ZfO G M A N none) a st λe s=>e=e0/\Ym s st') (hb:Φ e0 k st'):ItW P G N n J K a k st Φ :=
 ZgU λM A=>Z2D (h M A) λe s ⟨he,hw⟩=>⟨st',he ▸ hb,hw⟩
def ItBk (id:Nat) (Φ:Exit->Nat->St->Prop):Exit->Nat->St->Prop
 |.exit id',k,t=>if id'=id then Φ .normal k t else Φ (.exit id') k t
 |e,k,t=>Φ e k t
theorem ZgZ {id:Nat} {a:RCode} (h:ItW P G N n J K a k st (ItBk id Φ)):ItW P G N n J K (.block id a) k st Φ:=by
 intro c hc x A hs;obtain ⟨c1,rfl,h1⟩:=Zbi hc;refine wpIn_block (wpIn_mono (h c1 h1 x A hs) ?_);rintro e a' A' (⟨k',t',hΦ,hs'⟩ | ⟨rfl,hK,hd⟩)
 . cases e
   case exit j =>
    simp only[ItBk,Exit.inBlock]at *
    split at hΦ
    . rename_i e;rw[if_pos e];exact .inl ⟨k',t',hΦ,hs'⟩
    . rename_i e;rw[if_neg e];exact .inl ⟨k',t',hΦ,hs'⟩
   all_goals exact .inl ⟨k',t',hΦ,hs'⟩
 . exact .inr ⟨rfl,hK,hd⟩
theorem Zh0 {α:Type} {b:RCode} (kf:α->Nat) (tf:α->St) (I:α->Prop) (μ:α->Nat) (x0:α) (h0:kf x0=k) (ht:tf x0=st) (hi:I x0)
  (hr:∀ x,I x->ItW P G N n J K b (kf x) (tf x) λe k' t'=>match e with | .normal=>∃ y,kf y=k'/\tf y=t'/\I y/\μ y<μ x|e=>Φ e k' t'):ItW P G N n J K (.loop b) k st Φ:=by
 intro c hc x A hs;obtain ⟨c1,rfl,h1⟩:=Zbj hc;subst h0;subst ht;refine wpIn_loop_ghost (λm a A=>∃ x,I x/\m=μ x/\ItS G N J (kf x) (tf x) a A) (μ x0) ⟨x0,hi,rfl,hs⟩ ?_;rintro m a A ⟨x,hx,rfl,hs⟩;refine wpIn_mono (hr x hx c1 h1 a A hs) ?_;rintro e a' A' (⟨k',t',hΦ,hs'⟩ | ⟨rfl,hK,hd⟩)
 . cases e with
   | normal =>
     obtain ⟨y,rfl,rfl,hy,hm⟩:=hΦ;exact ⟨μ y,hm,y,hy,rfl,hs'⟩
   |_=>exact .inl ⟨k',t',hΦ,hs'⟩
 . exact .inr ⟨rfl,hK,hd⟩
theorem Zh1 (H:ItH G J K) {els:List (List AV)} (hY:YOK P (n-1) l J K els) {id d:Nat} {gd:Option (Nat×Bool)} {pre post:List ROper} {f:RA} {ys:List RA} {rest:RCode} {xs:List AV} {t1 tf tF:List (Nat×AV)} {st2:St}
  (hdN:d<N) (hx:els[k]? = some xs) (hpx:∀ x∈xs,x.pure=true) (hp1:∀ q∈t1,q.2.pure=true)
  (hpre:RW P G pre st λe s=>e = .normal/\Ym s ⟨t1,[]⟩) (hw:wants ⟨t1,[]⟩ gd=some true) (hf:evA G ⟨t1,[]⟩ f = .func (.yield l) [] []) (hy:ys.map (evA G ⟨t1,[]⟩)=xs)
  (hpost:RW P G post ⟨(d,.bool true)::t1,[]⟩ λe s=>e = .normal/\Ym s st2) (hrest:ItW P G N n J K rest (k+1) st2 Φ)
  (htf:∀ q∈tf,lk t1 q.1=some q.2/\q.2.flat=true) (hpostF:RW P (λ_=>none) post ⟨(d,.bool false)::tf,[]⟩ λe s=>e = .normal/\Ym s ⟨tF,[]⟩)
  (hrestF:∀ A,AR P (ZfO (λ_=>none) (λ_=>False) A N none) rest ⟨tF,[]⟩ λe s=>e = .ret/\Ym s ⟨[],[]⟩) :
  ItW P G N n J K (.seq (.reg id false (pre++{ d:=some d,op:=.callv f ys,guard:=gd }::post)) rest) k st Φ:=by
 rintro c hc a A ⟨M,A0,hJ,hs0⟩;obtain ⟨c1,c2,rfl,hc1,hc2⟩:=Zbh hc;obtain ⟨ops,rfl,hops⟩:=Zbk hc1;obtain ⟨hol,hoo⟩:=Zc hops
 have hol:ops.size=pre.length+(1+post.length):=by
  have:ops.toList.length=ops.size:=rfl;rw[<- this,hol];simp;omega
 refine wpIn_seq (wpIn_region ?_)
 have okAt:∀ (i:Nat) (r:ROper),(pre++{ d:=some d,op:=.callv f ys,guard:=gd }::post)[i]? = some r->∃ o,ops[i]? = some o/\Z1z P N ops o r=true:=λi r hi=>by
  have hlt:i<ops.size:=by
   have:=(List.getElem?_eq_some_iff.1 hi).1;rw[hol];simp at this;omega
  exact ⟨ops[i],by simp[hlt],hoo i _ r (by simp[hlt]) hi⟩
 have hrg:List.range ops.size=List.range pre.length++(pre.length::(List.range post.length).map (λi=>pre.length+1+i)):=by
  rw[hol,List.range_add,List.range_add];simp[List.range_succ,Function.comp_def,Nat.add_assoc]
 rw[hrg];refine Zbl (R:=ZfO G M A0 N none) _ _ pre st (λs=>Ym s ⟨t1,[]⟩) a A ?_ (by simp) ?_ hpre hs0
 . intro i r hi;have hlt:=(List.getElem?_eq_some_iff.1 hi).1;obtain ⟨o,h1,h2⟩:=okAt i r (by rw[List.getElem?_append_left hlt];exact hi);exact ⟨i,o,by simp[hlt],h1,h2⟩
 intro s4 b4 B4 w4 hs4;obtain ⟨κ4,hk4⟩:=w4 _ _ _ hs4;obtain ⟨d4,n4,t4,e4⟩:=endG hs4 w4 hp1;obtain ⟨o2,ho2,hk2⟩:=okAt pre.length { d:=some d,op:=.callv f ys,guard:=gd } (by rw[List.getElem?_append_right (Nat.le_refl _)];simp);rw[wpOpsIn_cons];refine ZgS (R:=ZfO G M A0 N none) (l:=l) (f:=f) (ys:=ys) rfl hf hw ho2 hk2 hk4 λus hus hval=>?_
 have hcp:CP M B4 xs us:=by
  refine ⟨by rw[hus,<- hy,List.length_map],λi x u hi hu=>?_⟩
  have hlt:i<ys.length:=by
   have:=(List.getElem?_eq_some_iff.1 hi).1;rw[<- hy,List.length_map]at this;exact this
  have h1:=hval i ys[i] u (List.getElem?_eq_getElem hlt) hu
  have hxe:evA G ⟨t1,[]⟩ ys[i]=x:=by
   rw[<- hy,List.getElem?_map,List.getElem?_eq_getElem hlt]at hi;simpa using hi
  rw[show evA (ZfO G M A0 N none).G ⟨t1,[]⟩ ys[i]=x from hxe]at h1;exact (h1.toPV (hpx x (List.mem_of_getElem? hi))).mono (λb _ hb=>⟨λh=>hb (.inl h),rfl⟩) (Nat.le_refl _)
 have hdst:o2.dst=some d:=by
  simp only[Z1z,Bool.and_eq_true,decide_eq_true_eq]at hk2;exact hk2.1.1.1
 have suffix:∀ (b:Bool) (T:List (Nat×AV)) (st2:St) (G':Nat->Option (List AV)) (M':Nat->Prop) (A':World),GR G' M' A'->(∀ x,M' x->x<A'.heap.size)->TT' M' A' T b4 ->
   RW P G' post ⟨(d,.bool b)::T,[]⟩ (λe s=>e = .normal/\Ym s st2)->∀ (Qx:Exit->Act->World->Prop),
    (∀ a5 A5,SR (ZfO G' M' A' N none) st2 a5 A5->Qx .normal a5 A5)->wpOpsIn (FW none) n P ops Qx ((List.range post.length).map (λi=>pre.length+1+i)) (b4.put (some d) (.bool b)) A':=by
  intro b T st2 G' M' A' hGR hM' hT hrw Qx hQx
  have hsr:SR (ZfO G' M' A' N none) ⟨(d,.bool b)::T,[]⟩ (b4.put (some d) (.bool b)) A':=by
   refine ZfP hGR hM' d4 (by simpa [Act.put] using n4) λk x hx=>?_
   show PV M' A' x ((b4.tmps.setIfInBounds d (.bool b)).getD k Go.undef);simp only[lk]at hx
   split at hx
   . rename_i e;subst e
     cases hx
     have:(b4.tmps.setIfInBounds d (.bool b)).getD d Go.undef = .bool b:=(by simp[Array.getD,n4,hdN]);rw[this];exact .bool b
   . rename_i e
     have h3:(b4.tmps.setIfInBounds d (.bool b)).getD k Go.undef=b4.tmps.getD k Go.undef:=by
      simp only[Array.getD_eq_getD_getElem?,Array.getElem?_setIfInBounds,if_neg e]
     rw[h3];exact hT k x hx
  refine Z27 (R:=ZfO G' M' A' N none) _ post ⟨(d,.bool b)::T,[]⟩ (λe s=>e = .normal/\Ym s st2) Qx _ A' ?_ (by simp) ?_ hrw hsr
  . intro i r hi;have hlt:=(List.getElem?_eq_some_iff.1 hi).1
    obtain ⟨o,h1,h2⟩:=okAt (pre.length+1+i) r (by
     rw[List.getElem?_append_right (by omega),show pre.length+1+i-pre.length=i+1 by omega];simpa using hi)
    exact ⟨pre.length+1+i,o,by simp[hlt],h1,h2⟩
  . rintro e s5 a5 A5 ⟨rfl,w5⟩ hs5;exact hQx a5 A5 (w5 _ _ _ hs5)
 obtain ⟨fn,tm,asg,bo,y1,y2⟩:=hY k xs us M B4 (H.je _ _ _ _ hJ e4) hx hcp;refine ⟨fn,tm,asg,bo,y1,y2.mono ?_⟩;rintro e A' (⟨rfl,M',hJ',hSi⟩ | ⟨rfl,hK'⟩)
 . show wpOpsIn (FW none) n P ops _ _ (b4.put o2.dst (.bool true)) A';rw[hdst];have hT':TT' M' A' t1 b4:=λk x hx=>(t4 k x hx).mono hSi.2 hSi.1
   exact suffix true t1 st2 G M' A' (H.jg _ _ _ hJ') (H.jm _ _ _ hJ') hT' hpost _ λa5 A5 h5=>hrest c2 hc2 a5 A5 ⟨M',A',hJ',h5⟩
 . show wpOpsIn (FW none) n P ops _ _ (b4.put o2.dst (.bool false)) A';rw[hdst]
   refine suffix false tf ⟨tF,[]⟩ (λ_=>none) (λ_=>False) A' (λg cs hg=>by cases hg) (λ_ h=>h.elim) (λk x hx=>by
    obtain ⟨g1,g2⟩:=htf (k,x) (Z4E hx);exact (t4 k x g1).flatW g2) hpostF _ λa5 A5 h5=>?_
   refine wpIn_mono (hrestF A' c2 hc2 n a5 A5 h5) ?_;rintro e b6 B6 ⟨s6,⟨rfl,w6⟩,hs6⟩;obtain ⟨d6,-,-,e6⟩:=endG hs6 w6 (by simp);exact .inr ⟨rfl,H.ke _ _ hK' e6,d6⟩
theorem Zh2 (H:ItH G J K) {els:List (List AV)} (hY:YOK P (n-1) l J K els) {id d:Nat} {gd:Option (Nat×Bool)} {rs:List ROper} (i:Nat) {f:RA} {ys:List RA} (hri:rs[i]? = some { d:=some d,op:=.callv f ys,guard:=gd }) {rest:RCode} {xs:List AV} (t1:List (Nat×AV)) (st2:St) (tf tF:List (Nat×AV))
  (hdN:d<N) (hx:els[k]? = some xs) (hpx:∀ x∈xs,x.pure=true) (hp1:∀ q∈t1,q.2.pure=true)
  (hpre:RW P G (rs.take i) st λe s=>e = .normal/\Ym s ⟨t1,[]⟩) (hw:wants ⟨t1,[]⟩ gd=some true) (hf:evA G ⟨t1,[]⟩ f = .func (.yield l) [] []) (hy:ys.map (evA G ⟨t1,[]⟩)=xs)
  (hpost:RW P G (rs.drop (i+1)) ⟨(d,.bool true)::t1,[]⟩ λe s=>e = .normal/\Ym s st2) (hrest:ItW P G N n J K rest (k+1) st2 Φ)
  (htf:∀ q∈tf,lk t1 q.1=some q.2/\q.2.flat=true) (hpostF:RW P (λ_=>none) (rs.drop (i+1)) ⟨(d,.bool false)::tf,[]⟩ λe s=>e = .normal/\Ym s ⟨tF,[]⟩)
  (hrestF:∀ A,AR P (ZfO (λ_=>none) (λ_=>False) A N none) rest ⟨tF,[]⟩ λe s=>e = .ret/\Ym s ⟨[],[]⟩):ItW P G N n J K (.seq (.reg id false rs) rest) k st Φ:=by
 have e:rs=rs.take i++{ d:=some d,op:=.callv f ys,guard:=gd }::rs.drop (i+1):=by
  obtain ⟨hi,h⟩:=List.getElem?_eq_some_iff.1 hri;rw[<- h,<- List.drop_eq_getElem_cons hi,List.take_append_drop]
 rw[e];exact Zh1 H hY hdN hx hpx hp1 hpre hw hf hy hpost hrest htf hpostF hrestF
end
theorem Zh3 {P:Program} {gf:Nat} {fn:Func} (hf:P.funcs[gf]? = some fn) (hE:entB P gf=true) {rc:RCode} (hb:(match fn.body with|some c=>Z1A P fn.ntmps c rc|none=>false)=true) (hr:fn.results = #[])
  {G:Nat->Option (List AV)} {caps:List AV} {els:List (List AV)} (hn:caps.length+1<=fn.ntmps)
  (h:∀ (n l:Nat) (J:Nat->(Nat->Prop)->World->Prop) (K:World->Prop),2<=n->ItH G J K->YOK P (n-1) l J K els ->
   ItW P G fn.ntmps n J K rc 0 ⟨iniT 0 (.func (.yield l) [] []::caps),[]⟩ λe k s=>(e = .ret∨e = .normal)/\k=els.length/\Ym s ⟨[],[]⟩) :
  entB P gf=true/\∀ (n l:Nat) (lb:Array Value) (J:Nat->(Nat->Prop)->World->Prop) (K:World->Prop) (M:Nat->Prop) (W:World),2<=n->ItH G J K->CP M W caps lb->YOK P (n-1) l J K els ->
   J 0 M W->CallsIn Fence.wide n P gf (#[.func (.yield l) #[] #[]]++lb) W λe W'=>(∃ v,e = .returned v)/\((∃ M,J els.length M W')∨K W'):=by
 refine ⟨hE,λn l lb J K M W hn2 H hC hY hJ0=>?_⟩
 obtain ⟨c,hc⟩ : ∃ c,fn.body=some c:=by
  cases e:fn.body with
  |none=>rw[e]at hb;cases hb
  |some c=>exact ⟨c,rfl⟩
 rw[hc]at hb;have hb:Z1A P fn.ntmps c rc=true:=hb;refine callsIn_of_wp (F:=Fence.wide) hf hc trivial ?_ rfl
 have hres:∀ (tm:Array Value) (W':World),(results fn tm).run P W' = .ok (.tuple #[]) W':=λtm W'=>by
  simp[results,hr,Sem.run_bind]
 have hwide:Fence.wide=FW none:=rfl;rw[hwide];have hsz:lb.size=caps.length:=hC.1
 have hs0:ItS G fn.ntmps J 0 ⟨iniT 0 (.func (.yield l) [] []::caps),[]⟩ { tmps:=(#[.func (.yield l) #[] #[]]++lb:Array Value)++Array.replicate (fn.ntmps-(#[.func (.yield l) #[] #[]]++lb:Array Value).size) Go.undef,defers:=[] } W:=by
  refine ⟨M,W,hJ0,ZfP (H.jg _ _ _ hJ0) (H.jm _ _ _ hJ0) rfl (by simp;omega) λk x hx=>?_⟩
  have hini:∀ (xs:List AV) (m k:Nat) (x:AV),lk (iniT m xs) k=some x->m<=k/\xs[k-m]? = some x:=by
   intro xs
   induction xs with
   |nil=>intro m k x h;simp[iniT,lk]at h
   | cons y ys ih =>
     intro m k x h;simp only[iniT,lk]at h
     split at h
     . rename_i e;subst e;cases h;exact ⟨Nat.le_refl _,by simp⟩
     . obtain ⟨h1,h2⟩:=ih (m+1) k x h;refine ⟨by omega,?_⟩;rw[show k-m=(k-(m+1))+1 by omega];simpa using h2
  obtain ⟨-,h2⟩:=hini _ 0 k x hx;rw[Nat.sub_zero]at h2
  cases k with
  | zero =>
    have h3:AV.func (.yield l) [] []=x:=(by simpa using h2);subst h3
    have g0:((#[.func (.yield l) #[] #[]]++lb:Array Value)++Array.replicate (fn.ntmps-(#[.func (.yield l) #[] #[]]++lb:Array Value).size) Go.undef).getD 0 Go.undef = .func (.yield l) #[] #[]:=by
     rw[Array.getD_eq_getD_getElem?,Array.getElem?_append_left (by simp;omega),Array.getElem?_append_left (by simp)];rfl
    rw[g0];exact .func _ [] [] #[] #[] rfl rfl (by simp) (by simp)
  | succ k =>
    have h3:caps[k]? = some x:=(by simpa using h2);have hk:k<lb.size:=by rw[hsz];exact (List.getElem?_eq_some_iff.1 h3).1
    have g1:((#[.func (.yield l) #[] #[]]++lb:Array Value)++Array.replicate (fn.ntmps-(#[.func (.yield l) #[] #[]]++lb:Array Value).size) Go.undef).getD (k+1) Go.undef=lb[k]:=by
     rw[Array.getD_eq_getD_getElem?,Array.getElem?_append_left (by simp;omega),Array.getElem?_append_right (by simp)];simp[hk]
    rw[g1];exact hC.2 k x lb[k] h3 (by simp[hk])
 refine wpIn_mono (h n l J K hn2 H hY c hb _ W hs0) ?_;rintro e a A (⟨k,t,⟨he,rfl,hw⟩,M',A',hJ',hs⟩ | ⟨rfl,hK,hd⟩)
 . obtain ⟨hd,-,-,e'⟩:=endG hs hw (by simp);rcases he with rfl|rfl
   . exact ⟨hd,_,hres _ _,⟨_,rfl⟩,.inl ⟨M',H.je _ _ _ _ hJ' e'⟩⟩
   . exact ⟨hd,_,hres _ _,⟨_,rfl⟩,.inl ⟨M',H.je _ _ _ _ hJ' e'⟩⟩
 . exact ⟨hd,_,hres _ _,⟨_,rfl⟩,.inr hK⟩
theorem Zh4 {M:Nat->Prop} {W:World} {x y:AV} {us:Array Value} (h:CP M W [x,y] us):∃ u v,us = #[u,v]/\PV M W x u/\PV M W y v:=by
 obtain ⟨h1,h2⟩:=h
 match us,h1,h2 with
 | ⟨[u,v]⟩,_,h2=>exact ⟨u,v,rfl,h2 0 x u rfl rfl,h2 1 y v rfl rfl⟩
theorem Zh5 {P:Program} {gf:Nat} {fn:Func} (hf:P.funcs[gf]? = some fn) (hE:entB P gf=true) {rc:RCode} (hb:(match fn.body with|some c=>Z1A P fn.ntmps c rc|none=>false)=true) (hr:fn.results = #[])
  {G:Nat->Option (List AV)} {caps:List AV} {els:List (AV×AV)} (hn:caps.length+1<=fn.ntmps)
  (h:∀ (n l:Nat) (J:Nat->(Nat->Prop)->World->Prop) (K:World->Prop),2<=n->ItH G J K->YOK P (n-1) l J K (els.map λx=>[x.1,x.2]) ->
   ItW P G fn.ntmps n J K rc 0 ⟨iniT 0 (.func (.yield l) [] []::caps),[]⟩ λe k s=>(e = .ret∨e = .normal)/\k=els.length/\Ym s ⟨[],[]⟩):ZgP P G gf caps els:=by
 obtain ⟨h1,h2⟩:=Zh3 (els:=els.map λx=>[x.1,x.2]) hf hE hb hr hn (by simpa using h);refine ⟨h1,λn l lb J K M W hn2 je ke jm jg hC hY hJ0=>?_⟩
 have:=h2 n l lb J K M W hn2 ⟨je,ke,jm,jg⟩ hC (λk xs us M A hJ hx hc=>by
  rw[List.getElem?_map]at hx;obtain ⟨x,hx1,rfl⟩:=Option.map_eq_some_iff.1 hx;obtain ⟨u,v,rfl,hu,hv⟩:=Zh4 hc;exact hY k x u v M A hJ hx1 hu hv) hJ0
 simpa using this
def oiT (O:AV) (ps:List Prt) (day:Int) (l i:Nat):List (Nat×AV):=[(13,.int .i64 i),(12,.int .i64 ps.length),(11,.vsl (ps.map ptA)),(2,.vptr [.int .i64 day] 0),(1,.vptr [O] 0),(0,.func (.yield l) [] [])]
section
variable {G:Nat->Option (List AV)}
set_option maxHeartbeats 2000000 in
theorem outIt (r:List Iss) (l:List Nte) (hs:List Hld) (ps:List Prt) (day:Int) (hp:ps.length<=41) :
  ZgP Tryz.prog G 128 [.vptr [ofA r l hs ps] 0,.vptr [.int .i64 day] 0] (outE ps day):=by
 have pO:=ZfW r l hs ps;have eO:ofA r l hs ps = .vptr [.vsl (r.map isa),.vsl (l.map na),.vsl (hs.map hoa),.vsl (ps.map ptA),.vsl ((nums r).map ia)] 0:=rfl;refine Zh5 Tryz.func128 (by kernel_rfl) (rc:=Z64) (by kernel_rfl) rfl (Nat.le_of_ble_eq_true rfl) λn l' J K hn H hY=>?_
 obtain ⟨O,hO⟩ : ∃ O,O=ofA r l hs ps:=⟨_,rfl⟩;rw[<- hO]at pO eO ⊢;clear hO
 have pT:∀ i,∀ q∈oiT O ps day l' i,q.2.pure=true:=λi q hq=>by
  simp only[oiT,List.mem_cons,List.not_mem_nil,or_false]at hq;rcases hq with rfl|rfl|rfl|rfl|rfl|rfl <;> simp[AV.pure,ptA,pO]
 unfold Z64;refine ZgX ⟨oiT O ps day l' 0,[]⟩ (λM A=>?_) (ZgZ (Zh0 (λi=>(outI ps day i).length) (λi=>⟨oiT O ps day l' i,[]⟩) (λi=>i<=ps.length) (λi=>ps.length-i) 0 rfl rfl (Nat.zero_le _) λi hi=>?_))
 . refine Qga ?_;simp -implicitDefEqProofs[iniT,eO,oiT]
   (refine Ym.sub (by simp[lk,Ya,AV.keys]) ?_;simp only[Wkl,and_true];(try simp[lk,Yc,Ya,AV.keys]))
 by_cases hlt:i<ps.length
 case neg =>
  obtain rfl:i=ps.length:=(by omega);refine ZgX ⟨(14,.bool false)::oiT O ps day l' ps.length,[]⟩ (λM A=>?_) (ZgV (ZgY (.exit 0) ⟨[],[]⟩ (λM A=>?_) ?_))
  . refine Qga ?_;simp -implicitDefEqProofs[oiT];exact (by (first|exact Ym.tm (by simp[lk])|exact Ym.sub (by simp[lk,Ya,AV.keys]) (by simp[lk,Yc,Ya,AV.keys])))
  . refine Qga ?_;simp -implicitDefEqProofs[oiT];exact (by (first|exact Ym.tm (by simp[lk])|exact Ym.sub (by simp[lk,Ya,AV.keys]) (by simp[lk,Yc,Ya,AV.keys])))
  . simp only[ItBk,if_true];refine ⟨by simp,by simp[outE],λ_ _ _ h=>h⟩
 have wi:IntKind.i64.wrap ((i:Int)+1)=((i+1:Nat):Int):=Yf (by omega) (by omega);have hx:=ZfT hlt;have hsu:=ZfY (ps:=ps) (day:=day) (n:=i);have hgt:=ZfZ (ps:=ps) (day:=day) (n:=ps.length) (i:=i) hlt;obtain ⟨x,hxe⟩ : ∃ x,x=ps[i]:=⟨_,rfl⟩;rw[<- hxe]at hx;rw[hx]at hsu hgt;have hlx:ps[i]=x:=hxe.symm;have hpt:ptA x=[.int .i64 x.no,.int .i64 x.dy,.int .i64 x.ho,.int .i64 x.dw,.int .i64 x.lt,.int .i64 x.bk,.int .u8 x.lo]:=rfl;refine ZgX ⟨(14,.bool true)::oiT O ps day l' i,[]⟩ (λM A=>?_) (ZgX ⟨oiT O ps day l' i,[]⟩ (λM A=>?_) (ZgW (ZgZ ?_)))
 . refine Qga ?_;simp -implicitDefEqProofs[oiT,hlt];exact (by (first|exact Ym.tm (by simp[lk])|exact Ym.sub (by simp[lk,Ya,AV.keys]) (by simp[lk,Yc,Ya,AV.keys])))
 . refine Qga ?_;simp -implicitDefEqProofs[oiT];exact (by (first|exact Ym.tm (by simp[lk])|exact Ym.sub (by simp[lk,Ya,AV.keys]) (by simp[lk,Yc,Ya,AV.keys])))
 obtain ⟨bk,hbk⟩ : ∃ bk,bk=(!decide (x.bk = -1)&&decide (x.bk<=day)):=⟨_,rfl⟩;refine ZgX ⟨(5,.ptr 5 0)::(4,.int .i64 i)::oiT O ps day l' i,[(5,.box (ptA x))]⟩ (λM A=>?_) (ZgX ⟨(6,.bool bk)::(5,.ptr 5 0)::(4,.int .i64 i)::oiT O ps day l' i,[(5,.box (ptA x))]⟩ (λM A=>?_) ?_)
 . refine Qga ?_;simp -implicitDefEqProofs[oiT,hlt,hlx,hpt]
   (refine Ym.sub (by simp[lk,Ya,AV.keys]) ?_;simp only[Wkl,and_true];(try simp[lk,Yc,Ya,AV.keys]))
 . refine Qga ?_;by_cases c1:x.bk = -1
   . have e:bk=false:=(by rw[hbk];simp[c1]);simp -implicitDefEqProofs[oiT,hpt,c1,e]
     (refine Ym.sub (by simp[lk,Ya,AV.keys]) ?_;simp only[Wkl,and_true];(try simp[lk,Yc,Ya,AV.keys]))
   . by_cases c2:x.bk<=day
     . have e:bk=true:=(by rw[hbk];simp[c1,c2]);simp -implicitDefEqProofs[oiT,hpt,c1,c2,e]
       (refine Ym.sub (by simp[lk,Ya,AV.keys]) ?_;simp only[Wkl,and_true];(try simp[lk,Yc,Ya,AV.keys]))
     . have e:bk=false:=(by rw[hbk];simp[c2]);simp -implicitDefEqProofs[oiT,hpt,c1,c2,e]
       (refine Ym.sub (by simp[lk,Ya,AV.keys]) ?_;simp only[Wkl,and_true];(try simp[lk,Yc,Ya,AV.keys]))
 have hout:outB x day=(decide (x.dy<=day) && !bk && !decide (x.lo=2)):=by
  rw[hbk,outB];by_cases c1:x.bk = -1
  . simp only[c1,decide_true,Bool.true_or,Bool.not_true,Bool.false_and,Bool.not_false]
  . by_cases c2:x.bk<=day
    . have c3:¬day<x.bk:=(by omega);simp only[c1,c2,c3,decide_true,decide_false,Bool.not_false,Bool.not_true,Bool.true_and,Bool.or_self]
    . have c3:day<x.bk:=(by omega);simp only[c1,c2,c3,decide_true,decide_false,Bool.not_false,Bool.true_and,Bool.or_true]
 clear hbk;by_cases ho:outB x day=true
 . rw [if_pos ho]at hsu;have hg:=hgt ho;rw[hout]at ho;simp only[Bool.and_eq_true,Bool.not_eq_true',decide_eq_true_eq,decide_eq_false_iff_not]at ho;obtain ⟨⟨o1,rfl⟩,o3⟩:=ho
   refine Zh2 H hY 17 (d:=44) (f:=.t 41) (ys:=[.t 42,.t 43]) (gd:=some (40,true)) rfl (xs:=[.int .i64 i,.agg (ptA x)])
    ((43,.agg (ptA x))::(42,.int .i64 i)::(41,.func (.yield l') [] [])::(40,.bool true)::oiT O ps day l' i) ⟨(46,.bool false)::oiT O ps day l' i,[]⟩ [(40,.bool true)] [(46,.bool true)] (Nat.le_of_ble_eq_true rfl) ?_ (by simp[AV.pure,ptA]) ?_ ?_ (by simp[wants,St.tmp,lk]) (by simp[evA,St.tmp,lk]) (by simp[evA,St.tmp,lk]) ?_ ?_ ?_ ?_ ?_
   . rw[outE,List.map_map,List.getElem?_map,hg];simp[hx]
   . intro q hq;simp only[List.mem_cons]at hq;rcases hq with rfl|rfl|rfl|rfl|hq
     . simp[AV.pure,ptA]
     . simp[AV.pure]
     . simp[AV.pure]
     . simp[AV.pure]
     . exact pT i q hq
   . simp -implicitDefEqProofs[oiT,hpt,o1,o3]
     (refine Ym.sub (by simp[lk,Ya,AV.keys]) ?_;simp only[Wkl,and_true];(try simp[lk,Yc,Ya,AV.keys]))
   . simp -implicitDefEqProofs[oiT];exact (by (first|exact Ym.tm (by simp[lk])|exact Ym.sub (by simp[lk,Ya,AV.keys]) (by simp[lk,Yc,Ya,AV.keys])))
   . refine ZgY .normal ⟨oiT O ps day l' i,[]⟩ (λM A=>?_) ⟨rfl,ZgY .normal ⟨oiT O ps day l' (i+1),[]⟩ (λM A=>?_) ⟨i+1,by rw[hsu];simp,rfl,by omega,by omega⟩⟩
     . refine Qga ?_;simp -implicitDefEqProofs[oiT];exact (by (first|exact Ym.tm (by simp[lk])|exact Ym.sub (by simp[lk,Ya,AV.keys]) (by simp[lk,Yc,Ya,AV.keys])))
     . refine Qga ?_;simp -implicitDefEqProofs[oiT,wi];exact (by (first|exact Ym.tm (by simp[lk])|exact Ym.sub (by simp[lk,Ya,AV.keys]) (by simp[lk,Yc,Ya,AV.keys])))
   . intro q hq;simp at hq;subst hq;exact ⟨by simp[lk],by simp[AV.flat]⟩
   . simp -implicitDefEqProofs[];exact (by (first|exact Ym.tm (by simp[lk])|exact Ym.sub (by simp[lk,Ya,AV.keys]) (by simp[lk,Yc,Ya,AV.keys])))
   . intro A;refine Qga ?_;simp -implicitDefEqProofs[];exact (by (first|exact Ym.tm (by simp[lk])|exact Ym.sub (by simp[lk,Ya,AV.keys]) (by simp[lk,Yc,Ya,AV.keys])))
 . rw [if_neg ho]at hsu;rw[hout]at ho;refine ZgX ⟨(46,.bool false)::oiT O ps day l' i,[]⟩ (λM A=>?_) (ZgY .normal ⟨oiT O ps day l' i,[]⟩ (λM A=>?_) ⟨rfl,ZgY .normal ⟨oiT O ps day l' (i+1),[]⟩ (λM A=>?_) ⟨i+1,by rw[hsu],rfl,by omega,by omega⟩⟩)
   . refine Qga ?_;by_cases o1:x.dy<=day
     . cases bk
       . by_cases o3:x.lo=2
         . simp -implicitDefEqProofs[oiT,hpt,o1,o3]
           (refine Ym.sub (by simp[lk,Ya,AV.keys]) ?_;simp only[Wkl,and_true];(try simp[lk,Yc,Ya,AV.keys]))
         . exact absurd (by simp[o1,o3]) ho
       . simp -implicitDefEqProofs[oiT,hpt,o1]
         (refine Ym.sub (by simp[lk,Ya,AV.keys]) ?_;simp only[Wkl,and_true];(try simp[lk,Yc,Ya,AV.keys]))
     . simp -implicitDefEqProofs[oiT,hpt,o1]
       (refine Ym.sub (by simp[lk,Ya,AV.keys]) ?_;simp only[Wkl,and_true];(try simp[lk,Yc,Ya,AV.keys]))
   . refine Qga ?_;simp -implicitDefEqProofs[oiT];exact (by (first|exact Ym.tm (by simp[lk])|exact Ym.sub (by simp[lk,Ya,AV.keys]) (by simp[lk,Yc,Ya,AV.keys])))
   . refine Qga ?_;simp -implicitDefEqProofs[oiT,wi];exact (by (first|exact Ym.tm (by simp[lk])|exact Ym.sub (by simp[lk,Ya,AV.keys]) (by simp[lk,Yc,Ya,AV.keys])))
end
theorem Zh6 (ok:Nat->Bool) (st:St) (l:List Int):frzO ok st (.row 1 (l.map ia)) = .row 1 (l.map ia):=by
 simp only[frzO,List.map_map]
 congr 2
 funext p;simp[ia,frzA,frz,AV.keys]
def smI (x y:Int):Bool:=decide (x=y)
def kI (l:List Int):Nat->List Int
 |0=>[]
 |p+1=>if p≠0/\smI (l.getD p default) (l.getD (p-1) default)=true then kI l p else kI l p++[l.getD p default]
theorem Zh7 (l:List Int):∀ p,(kI l p).length<=p
 |0=>Nat.le_refl _
 | p+1=>by
   have:=Zh7 l p;rw[kI];split <;> simp <;> omega
def noI (l:List Int) (p:Nat):Prop:=∀ j,0<j->j<p->smI (l.getD j default) (l.getD (j-1) default)=false
theorem Zh8 {l:List Int}:∀ {p:Nat},noI l p->p<=l.length->kI l p=l.take p
 |0,_,_=>rfl
 | p + 1,h,hp=>by
   rw[kI,Zh8 (p:=p) (λj h1 h2=>h j h1 (by omega)) (by omega),List.take_succ_eq_append_getElem (by omega)];have e:l.getD p default=l[p]:=by simp[List.getD_eq_getElem?_getD,show p<l.length by omega]
   split
   . rename_i h2;rw[h p (by omega) (by omega)]at h2;exact absurd h2.2 (by simp)
   . rw[e]
def cpI (l:List Int) (p:Nat):List Int:=kI l p++l.drop (kI l p).length
theorem Zh9 {l:List Int} {p:Nat} (h:p<=l.length):(cpI l p).length=l.length:=by
 have:=Zh7 l p;simp[cpI];omega
theorem Zha {l:List Int} {p j:Nat} (hp:p<l.length) (h1:(kI l p).length<=j) (h2:j<=p):(cpI l p)[j]? = some (l.getD j default):=by
 rw[cpI,List.getElem?_append_right h1,List.getElem?_drop];have:(kI l p).length+(j-(kI l p).length)=j:=(by omega);rw[this];simp[List.getD_eq_getElem?_getD,show j<l.length by omega]
theorem Zhb {l:List Int} {p:Nat} (hp:p<l.length) (h:¬(p≠0/\smI (l.getD p default) (l.getD (p-1) default)=true)):(cpI l p).set (kI l p).length (l.getD p default)=cpI l (p+1):=by
 have hl:=Zh7 l p;have e:kI l (p+1)=kI l p++[l.getD p default]:=(by rw[kI,if_neg h]);rw[cpI,cpI,e,List.set_append_right _ _ (by omega),Nat.sub_self,List.drop_eq_getElem_cons (by omega:(kI l p).length<l.length)];simp only[List.set_cons_zero,List.length_append,List.length_singleton,List.append_assoc,List.singleton_append]
theorem Zhc {l:List Int} {p:Nat} (h:p≠0/\smI (l.getD p default) (l.getD (p-1) default)=true):cpI l (p+1)=cpI l p/\kI l (p+1)=kI l p:=by
 have e:kI l (p+1)=kI l p:=(by rw[kI,if_pos h]);exact ⟨by rw[cpI,cpI,e],e⟩
def cpcI (l:List Int):List Int:=kI l l.length
def zrO:List AV:=[.int .i64 0]
def cpoI (l:List Int):List (List AV):=(cpcI l).map ia++List.replicate (l.length-(cpcI l).length) zrO
def cpvI (k:Nat) (l:List Int):AV:=if (cpcI l).length=l.length then .osl k l.length else .oss k l.length 0 (cpcI l).length
theorem kI_lt {l:List Int} {k:Nat} (hk0:k≠0) (hd:smI (l.getD k default) (l.getD (k-1) default)=true):∀ p,k<p->(kI l p).length<p:=by
 intro p hp
 induction p with
 |zero=>omega
 | succ p ih =>
   by_cases h:p=k
   . subst h;have:=Zh7 l p;rw[kI,if_pos ⟨hk0,hd⟩];omega
   . have:=ih (by omega);rw[kI];split <;> simp <;> omega
theorem Zhd {l:List Int} {p:Nat} (h:p<l.length):l.getD p default=l[p]:=by simp[List.getD_eq_getElem?_getD,h]
theorem Zhe {l:List Int} (h:noI l l.length):cpcI l=l:=by rw[cpcI,Zh8 h (Nat.le_refl _),List.take_length]
theorem Zhf (ok:Nat->Bool) (st:St) (l:List Int):frzO ok st (.row 1 (cpoI l)) = .row 1 (cpoI l):=by
 have h:=Zh6 ok st (cpcI l);simp only[frzO,AObj.row.injEq,true_and]at h ⊢;rw[cpoI,List.map_append,h];simp[zrO,frzA,frz,AV.keys]
theorem Zhg (x:Int):∀ (t:List Int) (p:Int),cmpG p (t++[x])=if (p::t).getLast (by simp)=x then cmpG p t else cmpG p t++[x]
 | [],p=>by
   by_cases e:x=p
   . subst e;simp[cmpG]
   . simp[cmpG,e,Ne.symm e]
 | y :: t,p=>by
   have ih:=Zhg x t y;rw[List.cons_append,cmpG,cmpG,List.getLast_cons (by simp)];by_cases e:y=p
   . rw[if_pos e,if_pos e,<- e,ih]
   . rw[if_neg e,if_neg e,ih]
     split <;> simp
theorem Zhh (l:List Int):∀ p,p<=l.length->kI l p=cmpI (l.take p)
 |0,_=>by simp[kI,cmpI]
 | p + 1,h=>by
   have hp:p<l.length:=h;have ih:=Zhh l p (by omega);rw[kI,ih,Zhd hp,List.take_succ_eq_append_getElem hp]
   cases p with
   | zero =>
     simp[cmpI,cmpG]
   | succ q =>
     have hq:q<l.length:=(by omega);have e1:(q+1-1)=q:=(by omega);rw[e1,Zhd hq];have e2:l.take (q+1)=l.take q++[l[q]]:=List.take_succ_eq_append_getElem hq
     obtain ⟨a,t,hat⟩ : ∃ a t,l.take (q+1)=a::t:=by
      cases hh:l.take (q+1) with
      |nil=>exact absurd (congrArg List.length hh) (by simp only[List.length_take,List.length_nil];omega)
      |cons a t=>exact ⟨a,t,rfl⟩
     have hl:(a::t).getLast (by simp)=l[q]:=by
      have:(l.take (q+1)).getLast (by rw[hat];simp)=l[q]:=by
       simp only[List.getLast_eq_getElem,List.getElem_take,List.length_take]
       congr 1;omega
      simpa [hat] using this
     rw[hat,List.cons_append,cmpI,cmpI,Zhg,hl];by_cases c:l[q]=l[q+1]
     . rw[if_pos c,if_pos ⟨by omega,by simp[smI,c]⟩]
     . rw[if_neg c,if_neg (λh=>c (by have:=h.2;simp[smI]at this;exact this.symm))];simp
theorem Zhi (l:List Int):cpcI l=cmpI l:=by rw[cpcI,Zhh l _ (Nat.le_refl _),List.take_length]
section
variable {G:Nat->Option (List AV)}
theorem Zhj (l:List Int) (h3:l.length<=1000) :
  PB Tryz.prog G 116 [(1000,.row 1 (l.map ia))] [.osl 1000 l.length] (cpvI 1000 l) [(1000,.row 1 (cpoI l))]:=by
 (refine Z6p (Nat.le_of_ble_eq_true rfl) λR hG hrd=>Qga ?_;subst hG)
 simp -implicitDefEqProofs[Z6n,Z6o];by_cases hs:(l.length:Int)<2
 . have e:cpcI l=l:=Zhe λj h1 h2=>by omega
   simp -implicitDefEqProofs[hs];refine ⟨[.osl 1000 l.length],?_,?_,?_⟩
   . simp[Z29,evRes,Yi,newK,frzA,frz,AV.keys,lk,St.tmp,Z6o]
   . simp[cpvI,e,tupV]
   . simp[Yi,newK,Zh6,cpoI,e]
 simp -implicitDefEqProofs[hs];refine Z9U (λi=>⟨[(3,.int .i64 ((i:Int)+1)),(0,.osl 1000 l.length)],[(1000,.row 1 (l.map ia))]⟩) (λi=>noI l (i+1)) (l.length-1) ?_ (λj h1 h2=>by omega) ?_ ?_
 . refine Ym.sub (by simp[lk,Ya,AV.keys]) ?_;simp only[List.mem_cons,List.not_mem_nil,or_false,forall_eq_or_imp,forall_eq,Zfc,and_true];simp[lk]
 . intro i hi hn;refine Qga ?_;have k1:(i:Int)+1<l.length:=(by omega);have k2:((i:Int)+1).toNat=i+1:=(by omega);have k3:(0:Int)<=(i:Int)+1:=(by omega);have k4:i+1<l.length:=(by omega);have k5:i<l.length:=(by omega);have w1:IntKind.i64.wrap (i:Int)=i:=Yf (by omega) (by omega);have w2:IntKind.i64.wrap ((i:Int)+1+1)=(i:Int)+1+1:=Yf (by omega) (by omega);have ex:∀ x,ia x=[.int .i64 x]:=λx=>rfl
   have hsm:smI (l.getD (i+1) default) (l.getD i default)=decide (l[i+1]=l[i]):=(by rw[Zhd k4,Zhd k5];rfl);by_cases hd:l[i+1]=l[i]
   . simp -implicitDefEqProofs [k1,k2,k3,k4,k5,w1,ex,hd];refine ⟨rfl,?_⟩;rw[decide_eq_true hd]at hsm;have hs2:i+1≠0/\smI (l.getD (i+1) default) (l.getD (i+1-1) default)=true:=⟨by omega,hsm⟩;have hk:=Zh8 hn (by omega);have hk1:(kI l (i+1)).length=i+1:=(by rw[hk];simp;omega);obtain ⟨c1,c2⟩:=Zhc hs2;have c3:cpI l (i+1)=l:=(by rw[cpI,hk1,hk,List.take_append_drop]);have hkl:=λp=>kI_lt (l:=l) (k:=i+1) (by omega) hsm p
     have k6:i+1<=l.length:=(by omega);simp -implicitDefEqProofs[k2,k3,k6];refine Z9U (λj=>⟨[(5,.int .i64 ((j:Int)+1)),(4,.oss 1000 l.length (i+1) l.length),(3,.int .i64 (kI l (i+1+1+j)).length),(0,.osl 1000 l.length)],[(1000,.row 1 ((cpI l (i+1+1+j)).map ia))]⟩) (λ_=>True) (l.length-(i+1+1)) ?_ trivial ?_ ?_
     . have z1:cpI l (i+1+1+0)=l:=(by rw[Nat.add_zero,c1,c3]);have z2:(kI l (i+1+1+0)).length=i+1:=(by rw[Nat.add_zero,c2,hk1]);rw[z1,z2];refine Ym.sub (by simp[lk,Ya,AV.keys]) ?_;simp only[List.mem_cons,List.not_mem_nil,or_false,forall_eq_or_imp,forall_eq,Zfc,and_true];simp[lk]
     . intro j hj _;refine Qga ?_;have hq:i+1+1+j<l.length:=(by omega);have hq2:i+1+j<l.length:=(by omega);have hml:=hkl (i+1+1+j) (by omega);have hcl:=Zh9 (l:=l) (p:=i+1+1+j) (by omega);have a1:=Zha (j:=i+1+1+j) hq (by omega) (by omega);have a2:=Zha (j:=i+1+j) hq (by omega) (by omega);rw[Zhd hq]at a1;rw[Zhd hq2]at a2;have hkeep:=Zhb hq;have hskip:=Zhc (l:=l) (p:=i+1+1+j);have e3:i+1+1+j-1=i+1+j:=(by omega);have hkk:kI l (i+1+1+j+1)=kI l (i+1+1+j+1):=rfl
       conv at hkk=>rhs;rw[kI]
       have hsm2:smI (l.getD (i+1+1+j) default) (l.getD (i+1+j) default)=decide (l[i+1+1+j]=l[i+1+j]):=(by rw[Zhd hq,Zhd hq2];rfl);rw[e3,hsm2,Zhd hq]at hkeep hkk;rw[e3,hsm2]at hskip;have e4:i+1+1+(j+1)=i+1+1+j+1:=(by omega);have m1:(j:Int)+1<((l.length-(i+1):Nat):Int):=(by omega);have m2:((j:Int)+1).toNat=j+1:=(by omega);have m3:(0:Int)<=(j:Int)+1:=(by omega);have m4:j+1<l.length-(i+1):=(by omega);have m5:j<l.length-(i+1):=(by omega);have m6:i+1+(j+1)=i+1+1+j:=(by omega);have u1:IntKind.i64.wrap (j:Int)=j:=Yf (by omega) (by omega);have u2:IntKind.i64.wrap ((j:Int)+1+1)=(j:Int)+1+1:=Yf (by omega) (by omega);have u3:IntKind.i64.wrap (((kI l (i+1+1+j)).length:Int)+1)=(kI l (i+1+1+j)).length+1:=Yf (by omega) (by omega);have m7:(kI l (i+1+1+j)).length<l.length:=(by omega);have hpl:=Zh7 l (i+1+1+j);generalize cpI l (i+1+1+j)=Q at *;obtain ⟨q1,g1⟩:=List.getElem?_eq_some_iff.1 a1;obtain ⟨q2,g2⟩:=List.getElem?_eq_some_iff.1 a2;generalize l[i+1+1+j]=x at *;generalize l[i+1+j]=y at *;have ex1:=ex x;have ey1:=ex y;by_cases hd2:x=y
       . obtain ⟨f1,f2⟩:=hskip ⟨by omega,decide_eq_true hd2⟩;simp -implicitDefEqProofs[m1,m2,m3,m4,m5,m6,u1,u2,hq,hq2,g1,g2,hcl,ex1,ey1,hd2];refine ⟨rfl,?_⟩;rw[e4,f1,f2];refine Ym.sub (by simp[lk,Ya,AV.keys]) ?_;simp only[List.mem_cons,List.not_mem_nil,or_false,forall_eq_or_imp,forall_eq,Zfc,and_true];simp[lk]
       . have hn2:¬(i+1+1+j≠0/\decide (x=y)=true):=by
          rintro ⟨-,h⟩;exact hd2 (of_decide_eq_true h)
         have f1:=hkeep hn2;rw[if_neg hn2]at hkk;have il:∀ z:Int,(ia z).length=1:=λz=>rfl
         have id5:∀ z:Int,(ia z).drop 1=[]:=λz=>rfl
         have m8:(((kI l (i+1+1+j)).length:Int)+1)=((kI l (i+1+1+j+1)).length:Nat):=(by rw[hkk];simp);simp -implicitDefEqProofs[hd2,m1,m2,m3,m4,m5,m6,u1,u2,u3,hq,hq2,g1,g2,hcl,ex1,ey1,m7,il,id5];refine ⟨rfl,?_⟩;rw[<- ex1,<- List.map_set,f1,m8,e4];refine Ym.sub (by simp[lk,Ya,AV.keys]) ?_;simp only[List.mem_cons,List.not_mem_nil,or_false,forall_eq_or_imp,forall_eq,Zfc,and_true];simp[lk]
     . intro _;refine Qga ?_;have n1:¬(((l.length-(i+1+1):Nat):Int)+1<((l.length-(i+1):Nat):Int)):=(by omega);have e5:i+1+1+(l.length-(i+1+1))=l.length:=(by omega);rw[e5];have hml:=hkl l.length (by omega);have hcl:=Zh9 (l:=l) (p:=l.length) (Nat.le_refl _);have n2:(kI l l.length).length<=l.length:=(by omega);simp -implicitDefEqProofs[n1,hcl];refine Qgr ?_;simp -implicitDefEqProofs[hcl,n2];refine Qgr ?_
       have t1:List.take (kI l l.length).length ((cpI l l.length).map ia)=(cpcI l).map ia:=by
        rw[<- List.map_take,cpI,List.take_left'];rfl;rfl
       have t2:List.drop l.length ((cpI l l.length).map ia)=[]:=List.drop_of_length_le (by simp[hcl]);rw[t1,t2,List.append_nil];have hne:¬(cpcI l).length=l.length:=(by rw[cpcI];omega);refine ⟨[.oss 1000 l.length 0 (kI l l.length).length],?_,?_,?_⟩
       . simp[Z29,evRes,Yi,newK,frzA,frz,AV.keys,lk,St.tmp]
       . rw[cpvI,if_neg hne];rfl
       . have hz:List.map ia (cpcI l)++List.replicate (l.length-(kI l l.length).length) [AV.int .i64 0]=cpoI l:=rfl;rw[hz];simp[Yi,newK,Zhf]
   . rw [decide_eq_false hd]at hsm;simp -implicitDefEqProofs[k1,k2,k3,k4,k5,w1,ex,hd,w2];refine ⟨rfl,?_,λj h1 h2=>?_⟩
     . (refine Ym.sub (by simp[lk,Ya,AV.keys]) ?_;simp only[Wkl,Zfc,and_true];(try simp[lk,Yc,Ya,AV.keys]))
     . rcases Nat.lt_or_ge j (i+1) with h|h
       . exact hn j h1 h
       . have:j=i+1:=(by omega);subst this;exact hsm
 . intro hn;refine Qga ?_;have k1:¬((l.length-1:Nat):Int)+1<l.length:=by omega
   have hn2:noI l l.length:=by
    have:l.length-1+1=l.length:=by omega
    rwa [this]at hn
   have e:cpcI l=l:=Zhe hn2;simp -implicitDefEqProofs[k1];refine Qgr ?_;simp -implicitDefEqProofs[];refine ⟨[.osl 1000 l.length],?_,?_,?_⟩
   . simp[Z29,evRes,Yi,newK,frzA,frz,AV.keys,lk,St.tmp,Z6o]
   . simp[cpvI,e,tupV]
   . simp[Yi,newK,Zh6,cpoI,e]
end
end Go.Proofs.YtcdlimgkliklhaaGreatDoor

namespace Go.Proofs
open Go.Shelf
def Tryz.lays189_ren:Go.Shelf.Ren:=⟨fun|189=>115|125=>165|257=>164|128=>192|129=>193|294=>183|295=>184|296=>185|297=>186|298=>187|299=>188|216=>189|300=>190|301=>191|328=>203|329=>204|330=>205|331=>206|332=>207|215=>157|343=>213|n=>n,fun|28=>34|3=>3|46=>225|0=>0|51=>93|53=>156|4=>4|183=>255|182=>254|131=>159|5=>5|9=>9|218=>272|222=>276|228=>284|229=>285|n=>n,fun|n=>n⟩
theorem Tryz.lays189:Go.Proofs.Lays.n189 Tryz.prog Tryz.lays189_ren:={
 mixed:=by kernel_rfl
 f125:=Tryz.func165.trans (congrArg some (by kernel_rfl))
 f128:=Tryz.func192.trans (congrArg some (by kernel_rfl))
 f129:=Tryz.func193.trans (congrArg some (by kernel_rfl))
 f189:=Tryz.func115.trans (congrArg some (by kernel_rfl))
 f215:=Tryz.func157.trans (congrArg some (by kernel_rfl))
 f216:=Tryz.func189.trans (congrArg some (by kernel_rfl))
 f257:=Tryz.func164.trans (congrArg some (by kernel_rfl))
 f294:=Tryz.func183.trans (congrArg some (by kernel_rfl))
 f295:=Tryz.func184.trans (congrArg some (by kernel_rfl))
 f296:=Tryz.func185.trans (congrArg some (by kernel_rfl))
 f297:=Tryz.func186.trans (congrArg some (by kernel_rfl))
 f298:=Tryz.func187.trans (congrArg some (by kernel_rfl))
 f299:=Tryz.func188.trans (congrArg some (by kernel_rfl))
 f300:=Tryz.func190.trans (congrArg some (by kernel_rfl))
 f301:=Tryz.func191.trans (congrArg some (by kernel_rfl))
 f328:=Tryz.func203.trans (congrArg some (by kernel_rfl))
 f329:=Tryz.func204.trans (congrArg some (by kernel_rfl))
 f330:=Tryz.func205.trans (congrArg some (by kernel_rfl))
 f331:=Tryz.func206.trans (congrArg some (by kernel_rfl))
 f332:=Tryz.func207.trans (congrArg some (by kernel_rfl))
 f343:=Tryz.func213.trans (congrArg some (by kernel_rfl))
 t0:=Tryz.underlying0
 a0:=Tryz.isAgg0
 z0:=Tryz.sizeOf0
 v0:=Tryz.zeroValue0
 t3:=Tryz.underlying3
 a3:=Tryz.isAgg3
 z3:=Tryz.sizeOf3
 v3:=Tryz.zeroValue3
 t4:=Tryz.underlying4
 a4:=Tryz.isAgg4
 z4:=Tryz.sizeOf4
 v4:=Tryz.zeroValue4
 t5:=Tryz.underlying5
 a5:=Tryz.isAgg5
 z5:=Tryz.sizeOf5
 v5:=Tryz.zeroValue5
 t9:=Tryz.underlying9
 a9:=Tryz.isAgg9
 z9:=Tryz.sizeOf9
 v9:=Tryz.zeroValue9
 t28:=Tryz.underlying34
 a28:=Tryz.isAgg34
 z28:=Tryz.sizeOf34
 v28:=Tryz.zeroValue34
 t46:=Tryz.underlying225
 a46:=Tryz.isAgg225
 z46:=Tryz.sizeOf225
 v46:=Tryz.zeroValue225
 t51:=Tryz.underlying93
 a51:=Tryz.isAgg93
 z51:=Tryz.sizeOf93
 v51:=Tryz.zeroValue93
 t53:=Tryz.underlying156
 a53:=Tryz.isAgg156
 z53:=Tryz.sizeOf156
 v53:=Tryz.zeroValue156
 t131:=Tryz.underlying159
 a131:=Tryz.isAgg159
 z131:=Tryz.sizeOf159
 v131:=Tryz.zeroValue159
 t182:=Tryz.underlying254
 a182:=Tryz.isAgg254
 z182:=Tryz.sizeOf254
 v182:=Tryz.zeroValue254
 t183:=Tryz.underlying255
 a183:=Tryz.isAgg255
 z183:=Tryz.sizeOf255
 v183:=Tryz.zeroValue255
 t218:=Tryz.underlying272
 a218:=Tryz.isAgg272
 z218:=Tryz.sizeOf272
 v218:=Tryz.zeroValue272
 t222:=Tryz.underlying276
 a222:=Tryz.isAgg276
 z222:=Tryz.sizeOf276
 v222:=Tryz.zeroValue276
 t228:=Tryz.underlying284
 a228:=Tryz.isAgg284
 z228:=Tryz.sizeOf284
 v228:=Tryz.zeroValue284
 t229:=Tryz.underlying285
 a229:=Tryz.isAgg285
 z229:=Tryz.sizeOf285
 v229:=Tryz.zeroValue285 }
open Go.Sort Go.RowKit in
theorem Tryz.slices_Sort_int (blk off cap:Nat) (zs:List Int) (w:World) (hH:Holds (Value.int .i64) w blk off zs.toArray) (hblk:blk<w.heap.size) (hsz:zs.length<4611686018427387904) :
 Calls Tryz.prog 115 #[.slice (some ⟨blk,off,none⟩) zs.length cap] w λe w' =>
  e = .returned (.tuple #[])/\∃ n os,w'=grow (putRow (Value.int .i64) (Sort.ahead w n) blk off (zs.mergeSort λx y=>decide (x<=y)).toArray) os:=Any.slices_Sort_int Tryz.lays189 blk off cap zs w hH hblk hsz
end Go.Proofs

namespace Go.Proofs.YtcdlimgkliklhaaGreatDoor
open Go.RowKit
theorem Zhk (W:World) (os:Array Obj):Ext W (Go.Sort.grow W os):=by
 refine ⟨rfl,rfl,rfl,?_,λk hk=>?_⟩
 . simp[Go.Sort.grow]
 . simp only[Go.Sort.grow];exact Array.getElem?_append_left hk
section
variable {G:Nat->Option (List AV)}
theorem Zhl (l:List Int) (hm:l.length<4611686018427387904) :
  PB Tryz.prog G 115 [(1000,.row 1 (l.map ia))] [.osl 1000 l.length] (.tup []) [(1000,.row 1 ((sortI l).map ia))]:=by
 refine ⟨by kernel_rfl,λR W κ vs hG hN hW hX hE hk hsz hvs=>?_⟩;have hg:(obSt [(1000,.row 1 (l.map ia))]).get 1000=some (.row 1 (l.map ia)):=rfl;obtain ⟨vs⟩:=vs
 match vs,hsz with
 |[v],_ =>
 have hv:=hvs 0 _ v rfl rfl;obtain ⟨b,s,c,cs,t,hκ,rfl,hnc,hc,hb,hs,hr,hx⟩:=hk.osl hv hg (by simp)
 have hcell:∀ i,i<l.length->cs[s+i]? = some (.int .i64 l[i]!):=by
  intro i hi;obtain ⟨u,hu,hu2⟩:=hx i 0 (ia l[i]) (.int .i64 l[i]) (by simp[hi]) rfl
  have hu3:u = .int .i64 l[i]:=by
   cases hu2 with|pv h=>cases h;rfl
  subst hu3;rw[getElem!_pos l i hi];simpa using hu
 have hH:Go.Sort.Holds (Value.int .i64) W b s l.toArray:=by
  intro j hj;have hj':j<l.length:=(by simpa using hj);refine ⟨?_,by simp[World.frozen?,hb]⟩;rw[World.cell?,hb];simpa using hcell j hj'
 have hlt:=hk.loc_lt hκ;refine (Go.Proofs.Tryz.slices_Sort_int b s c l W hH hlt hm).mono ?_;rintro e W' ⟨rfl,n,os,rfl⟩;have hsl:(sortI l).length=l.length:=ZcS l;refine ⟨_,κ,rfl,?_,.tup [] #[] rfl (by simp)⟩;refine SK.grow ?_ (Zhk _ _)
 have:=hk.change (o':=.row 1 ((sortI l).map ia)) (W':=Go.Sort.putRow (Value.int .i64) (Go.Sort.ahead W n) b s (l.mergeSort λx y=>decide (x<=y)).toArray)
  (cs':=Go.Sort.putCells (Value.int .i64) s (l.mergeSort λx y=>decide (x<=y)).toArray cs) hg hκ hb (by simp[AObj.dim,hsl]) (by simp[Go.Sort.putCells])
  (by simp[Go.Sort.putRow,Go.Sort.mapBlock,Go.Sort.ahead])
  (by simp[Go.Sort.putRow,Go.Sort.mapBlock,Go.Sort.ahead,Array.getElem?_modify,hb,Go.Sort.onCells])
  (by intro i hi hne;simp[Go.Sort.putRow,Go.Sort.mapBlock,Go.Sort.ahead,Array.getElem?_modify,Ne.symm hne]) rfl rfl rfl ?_
 . exact this
 . refine ⟨by simp[ia],by simp[Go.Sort.putCells];omega,?_⟩;intro i j r x hi hj
   have hi2:i<l.length:=by
    have:=(List.getElem?_eq_some_iff.1 hi).1;simpa [hsl] using this
   have hi3:i<(sortI l).length:=(by omega);rw[List.getElem?_map,List.getElem?_eq_getElem hi3,Option.map_some,Option.some.injEq]at hi;subst hi
   match j,hj with
   |0,hj =>
   have ex:AV.int .i64 (sortI l)[i]=x:=(by simpa [ia] using hj);subst ex;refine ⟨.int .i64 (sortI l)[i],?_,.pv (.int _ _)⟩;have hz:s+i*1+0<cs.size:=(by omega);have e1:s+i*1+0-s=i:=(by omega);have e2:(l.mergeSort λx y=>decide (x<=y))=sortI l:=rfl;simp only[Go.Sort.putCells,e2];rw[Array.getElem?_mapIdx,Array.getElem?_eq_getElem hz,Option.map_some,if_pos (by simp;omega),e1];simp[hi3]
end
def herB (id day:Int) (x:Prt):Bool:=decide (x.ho=id)&&outB x day
def sureM (ps:List Prt) (day id d:Int):Int:=((ps.filter λx=>herB id day x&&decide (x.dw=d)&&decide (x.lo=0)).map (·.lt)).foldl max 0
def perhL (ps:List Prt) (day id d:Int):List Int:=(ps.filter λx=>herB id day x&&decide (x.dw=d) && !decide (x.lo=0)).map (·.lt)
def wkL (ps:List Prt) (day id d:Int):List Int:=sureM ps day id d::r9.filter λn=>decide (sureM ps day id d<n)&&(perhL ps day id d).contains n
theorem Zhm:∀ (L:List Int) (a:Int),a<=L.foldl max a/\(∀ x∈L,x<=L.foldl max a)/\(L.foldl max a=a∨L.foldl max a∈L)
 |[],a=>by simp
 | b :: t,a=>by
   obtain ⟨h1,h2,h3⟩:=Zhm t (max a b);rw[List.foldl_cons];refine ⟨by omega,λx hx=>?_,?_⟩
   . rcases List.mem_cons.1 hx with rfl|hx
     . omega
     . exact h2 x hx
   . rcases h3 with h3|h3
     . rw[h3];by_cases q:a<=b
       . right;rw[show max a b=b by omega];exact List.mem_cons_self ..
       . left;omega
     . exact .inr (List.mem_cons_of_mem _ h3)
theorem Zhn (ps:List Prt) (day id d:Int):0<=sureM ps day id d/\(∀ x∈ps,(herB id day x&&decide (x.dw=d)&&decide (x.lo=0))=true->x.lt<=sureM ps day id d) /\
  (sureM ps day id d=0∨∃ x∈ps,(herB id day x&&decide (x.dw=d)&&decide (x.lo=0))=true/\x.lt=sureM ps day id d):=by
 obtain ⟨h1,h2,h3⟩:=Zhm ((ps.filter λx=>herB id day x&&decide (x.dw=d)&&decide (x.lo=0)).map (·.lt)) 0;refine ⟨h1,λx hx q=>h2 _ (List.mem_map.2 ⟨x,List.mem_filter.2 ⟨hx,q⟩,rfl⟩),?_⟩;rcases h3 with h3|h3
 . exact .inl h3
 . obtain ⟨x,hx,e⟩:=List.mem_map.1 h3;exact .inr ⟨x,(List.mem_filter.1 hx).1,(List.mem_filter.1 hx).2,e⟩
theorem Zho {ps:List Prt} {day id d n:Int}:n∈perhL ps day id d↔∃ x∈ps,(herB id day x&&decide (x.dw=d) && !decide (x.lo=0))=true/\x.lt=n:=by
 unfold perhL;rw[List.mem_map]
 constructor
 . rintro ⟨x,hx,e⟩;exact ⟨x,(List.mem_filter.1 hx).1,(List.mem_filter.1 hx).2,e⟩
 . rintro ⟨x,hx,q,e⟩;exact ⟨x,List.mem_filter.2 ⟨hx,q⟩,e⟩
def sqP (id d:Int) (x:Prt):Bool:=decide (x.ho=id)&&decide (x.dw=d) && !decide (x.lo=1)
def pqP (id d:Int) (x:Prt):Bool:=decide (x.ho=id)&&decide (x.dw=d)&&decide (x.lo=1)
def suK (id d:Int) (L:List Prt) (k:Nat):Int:=(pkL (sqP id d) (·.lt) L k).foldl max 0
def peK (id d:Int) (L:List Prt) (k:Nat):List Int:=pkL (pqP id d) (·.lt) L k
theorem Zhp {id d:Int} {L:List Prt} {k:Nat} (h:k<L.length):suK id d L (k+1)=if sqP id d L[k]=true then max (suK id d L k) L[k].lt else suK id d L k:=by
 unfold suK;rw[Zg5 h]
 split
 . rw[List.foldl_append];rfl
 . rfl
theorem Zhq {ps:List Prt} {day id d:Int} (hlo:∀ x∈ps,0<=x.lo/\x.lo<=2):suK id d (outP ps day) (outP ps day).length=sureM ps day id d:=by
 unfold suK sureM outP;rw[Zg8,List.filter_filter]
 congr 2
 refine List.filter_congr λx hx=>?_
 have:=hlo x hx;rw[Bool.eq_iff_iff];simp only[sqP,herB,outB,Bool.and_eq_true,decide_eq_true_eq,Bool.not_eq_true',decide_eq_false_iff_not,Bool.or_eq_true]
 constructor
 . rintro ⟨⟨⟨h1,h2⟩,h3⟩,h4,h5⟩;exact ⟨⟨⟨h1,h4,h5⟩,h2⟩,by omega⟩
 . rintro ⟨⟨⟨h1,h4,h5⟩,h2⟩,h3⟩;exact ⟨⟨⟨h1,h2⟩,by omega⟩,h4,h5⟩
theorem Zhr {ps:List Prt} {day id d:Int} (hlo:∀ x∈ps,0<=x.lo/\x.lo<=2):peK id d (outP ps day) (outP ps day).length=perhL ps day id d:=by
 unfold peK perhL outP;rw[Zg8,List.filter_filter]
 congr 1
 refine List.filter_congr λx hx=>?_
 have:=hlo x hx;rw[Bool.eq_iff_iff];simp only[pqP,herB,outB,Bool.and_eq_true,decide_eq_true_eq,Bool.not_eq_true',decide_eq_false_iff_not,Bool.or_eq_true]
 constructor
 . rintro ⟨⟨⟨h1,h2⟩,h3⟩,h4,h5⟩;exact ⟨⟨⟨h1,h4,h5⟩,h2⟩,by omega⟩
 . rintro ⟨⟨⟨h1,h4,h5⟩,h2⟩,h3⟩;exact ⟨⟨⟨h1,h2⟩,by omega⟩,h4,h5⟩
def r1K (k:Nat):Nat:=if 1000<=k then k-1000 else k
def nlV (k:Nat) (S:List Int):AV:=if S=[] then .nils else .osl k S.length
def nlO (k:Nat) (S:List Int):List (Nat×AObj):=if S=[] then [] else [(k,.row 1 (S.map ia))]
def nlN (k:Nat) (S:List Int):Nat:=if S=[] then k-1000 else k
def woB (id d su:Int) (S:List Int):List (Nat×AObj):=[(1006,.box [.int .i64 id]),(1007,.box [.int .i64 d]),(1009,.box [.int .i64 su]),(1010,.box [nlV 1038 S])]++nlO 1038 S
def woU (id d su:Int) (S T:List Int):List (Nat×AObj):=[(1006,.box [.int .i64 id]),(1007,.box [.int .i64 d]),(1009,.box [.int .i64 su]),(1010,.box [nlV (nlN 1038 S) T])]++nlO (nlN 1038 S) T
theorem Zhs {α β:Type} {p:α->Bool} {f:α->β} {L:List α} {k:Nat} (h:pkL p f L (k+1)=[]):pkL p f L k=[]:=by
 by_cases c:k<L.length
 . rw[Zg5 c]at h
   split at h
   . exact absurd h (by simp)
   . exact h
 . unfold pkL at *;rw[List.take_of_length_le (by omega)]at *;exact h
theorem Zht (o:List (Nat×AObj)) (k:Nat) (S:List Int):∀ q∈nlO k S,Yc o q.2=true:=by
 intro q hq;unfold nlO at hq
 split at hq
 . cases hq
 . simp at hq;subst hq;exact Zfc o S
theorem Zhu (ρ:Nat->Nat) (l:List Int):(AObj.row 1 (l.map ia)).ren ρ = .row 1 (l.map ia):=by
 simp only[AObj.ren,List.map_map]
 congr 2
 funext p;simp[ia,AV.ren]
section
variable {G:Nat->Option (List AV)}
theorem Zhv (r:List Iss) (l:List Nte) (hs:List Hld) (ps:List Prt) (day:Int):PC Tryz.prog G 70 [ofA r l hs ps,.int .i64 day] (.func (.func 128) [] [.vptr [ofA r l hs ps] 0,.vptr [.int .i64 day] 0]):=by
 have pO:=ZfW r l hs ps;obtain ⟨cs,eS⟩ : ∃ cs,ofA r l hs ps = .vptr cs 0:=⟨_,rfl⟩;rw[eS]at pO ⊢
 (refine Z63 rfl λR hG hrd=>Qga ?_;subst hG)
 simp -implicitDefEqProofs[Z61,Z62,pO]
set_option maxHeartbeats 2000000 in
theorem Zhw (r:List Iss) (l:List Nte) (hs:List Hld) (ps:List Prt) (day id d:Int) (hp:ps.length<=41) (hb:∀ x∈ps,0<=x.lt/\x.lt<=8) :
  PC Tryz.prog G 74 [ofA r l hs ps,.int .i64 day,.int .i64 id,.int .i64 d] (.vsl (((setI (peK id d (outP ps day) (outP ps day).length++[suK id d (outP ps day) (outP ps day).length])).drop ((setI (peK id d (outP ps day) (outP ps day).length++[suK id d (outP ps day) (outP ps day).length])).idxOf (suK id d (outP ps day) (outP ps day).length))).map ia)):=by
 have hO:=Zhv (G:=G) r l hs ps day;have hit:=outIt (G:=G) r l hs ps day hp;have pO:=ZfW r l hs ps;have eN:=Zg3 ps day;have hat:=λk x h=>Zg4 (ps:=ps) (day:=day) (k:=k) (x:=x) h
 have hL:(outP ps day).length<=41:=Nat.le_trans (List.length_filter_le ..) hp;have hLb:∀ x∈outP ps day,0<=x.lt/\x.lt<=8:=λx hx=>hb x (List.mem_filter.1 hx).1
 generalize outP ps day=L at *;generalize outE ps day=E at *;generalize ofA r l hs ps=O at *;refine Z6a rfl λR hG hrd=>?_
 subst hG;refine Qga ?_;simp -implicitDefEqProofs[Z68,Z69];refine Yd.of hO (by simp[pO,AV.pure]) ?_;simp -implicitDefEqProofs[]
 refine ZgR hrd (by decide) hit (by simp[evA,St.tmp,lk]) (by simp[AV.pure,pO]) (λk=>k == 12) (by intro k hk;simp at hk;omega) r1K [(6,.ptr 1006 0),(7,.ptr 1007 0),(9,.ptr 1009 0),(10,.ptr 1010 0)]
  (λk=>woB id d (suK id d L k) (peK id d L k)) (λk=>woU id d (suK id d L (k+1)) (peK id d L k) (peK id d L (k+1))) (λk=>k<=L.length) (Nat.zero_le _) ?_ ?_ ?_ ?_ ?_ ?_ ?_ ?_ ?_ ?_ ?_
 . intro k q hq;simp only[woB,nlO]at hq
   split at hq <;> simp at hq
   . rcases hq with rfl|rfl|rfl|rfl <;> simp
   . rcases hq with rfl|rfl|rfl|rfl|rfl <;> simp
 . intro k;simp only[woB,nlO]
   split <;> simp[r1K]
 . intro k;simp only[woU,nlO,nlN]
   split <;> split <;> simp[r1K]
 . intro k q hq;have hne:=Zhs (p:=pqP id d) (f:=(·.lt)) (L:=L) (k:=k);simp only[woB,woU,nlO,nlN]at *;by_cases c:peK id d L k=[]
   . simp only[c,if_true]at *
     split <;> simp at hq ⊢ <;> rcases hq with rfl|rfl|rfl|rfl <;> simp[isK,lk]
   . have c2:¬peK id d L (k+1)=[]:=λh=>c (hne h)
     simp only[c,c2,if_false]at *;simp at hq ⊢;rcases hq with rfl|rfl|rfl|rfl|rfl <;> simp[isK,lk]
 . intro k q hq;simp only[woB,woU,nlO,nlN]at *;by_cases c:peK id d L k=[]
   . simp only[c,if_true]at *
     split at hq <;> simp at hq
     . rcases hq with rfl|rfl|rfl|rfl <;> exact .inl (by simp[isK,lk])
     . rcases hq with rfl|rfl|rfl|rfl|rfl
       . exact .inl (by simp[isK,lk])
       . exact .inl (by simp[isK,lk])
       . exact .inl (by simp[isK,lk])
       . exact .inl (by simp[isK,lk])
       . exact .inr (by simp[Yl,r1K,St.get,St.set,putO,lk])
   . simp only[c,if_false]at *
     split at hq <;> simp at hq
     . rcases hq with rfl|rfl|rfl|rfl <;> exact .inl (by simp[isK,lk])
     . rcases hq with rfl|rfl|rfl|rfl|rfl <;> exact .inl (by simp[isK,lk])
 . intro k;have hne:=Zhs (p:=pqP id d) (f:=(·.lt)) (L:=L) (k:=k);simp only[woB,woU,nlO,nlV,nlN];by_cases c:peK id d L k=[] <;> by_cases c2:peK id d L (k+1)=[]
   . simp[c,c2,Yl,r1K,AV.ren,AObj.ren]
   . simp[c,c2,Yl,r1K,AV.ren,ZfN,Zhu]
   . exact absurd (hne c2) c
   . simp[c,c2,Yl,r1K,AV.ren,ZfN,Zhu]
 . have e0:peK id d L 0=[]:=Zg7 _ _ _;have e1:suK id d L 0=0:=(by unfold suK;rw[Zg7];rfl);simp[woB,nlO,nlV,e0,e1,Yl,r1K,St.set,putO,AObj.ren,AV.ren]
 . intro k q hq;simp only[woB,List.mem_append]at hq;rcases hq with hq|hq
   . simp only[woB,nlO];simp at hq;rcases hq with rfl|rfl|rfl|rfl
     . simp[Yc,Ya,AV.keys]
     . simp[Yc,Ya,AV.keys]
     . simp[Yc,Ya,AV.keys]
     . unfold nlV
       split <;> simp[Yc,Ya,AV.keys,lk]
   . exact Zht _ _ _ q hq
 . intro q hq;simp at hq;rcases hq with rfl|rfl|rfl|rfl
   all_goals
    refine ⟨by simp[lk,AV.ren,r1K],by simp,by simp,λj k hk=>?_⟩;simp[AV.keys]at hk;subst hk;simp only[woB];simp[isK,lk]
 . intro k x hx hk R' hG hN;obtain ⟨i,hkl,rfl⟩:=hat k x hx;have sc:=Zhp (id:=id) (d:=d) hkl;have pc:=Zg5 (p:=pqP id d) (f:=(·.lt)) hkl;have hle:=Zg6 (pqP id d) (·.lt) L k;have hLx:=hLb _ (List.getElem_mem hkl);obtain ⟨y,hy⟩ : ∃ y,y=L[k]:=⟨_,rfl⟩;rw[<- hy]at sc pc hLx ⊢;have hpt:ptA y=[.int .i64 y.no,.int .i64 y.dy,.int .i64 y.ho,.int .i64 y.dw,.int .i64 y.lt,.int .i64 y.bk,.int .u8 y.lo]:=rfl;have e1:pkL (pqP id d) (·.lt) L k=peK id d L k:=rfl;have e2:pkL (pqP id d) (·.lt) L (k+1)=peK id d L (k+1):=rfl;rw[e1,e2]at pc;rw[e1]at hle;generalize suK id d L k=su at *;generalize suK id d L (k+1)=su' at *;generalize peK id d L k=S at *;generalize peK id d L (k+1)=T at *;have bb:(S.length+1)*8<=70368744177664:=by omega
   have no:sqP id d y=false->pqP id d y=false->su'=su/\T=S:=λh1 h2=>by
    rw[h1]at sc;rw[h2]at pc;exact ⟨sc,pc⟩
   have f0:Zfw=Zfw:=rfl;by_cases cS:S=[]
   case' pos =>
    have hV:nlV 1038 S = .nils:=(by simp[nlV,cS]);have hQ:nlO 1038 S=[]:=(by simp[nlO,cS]);have hM:nlN 1038 S=38:=by simp[nlN,cS]
   case' neg =>
    have hV:nlV 1038 S = .osl 1038 S.length:=(by simp[nlV,cS]);have hQ:nlO 1038 S=[(1038,.row 1 (S.map ia))]:=(by simp[nlO,cS]);have hM:nlN 1038 S=1038:=by simp[nlN,cS]
   all_goals
    refine Qga ?_;simp only[woB,hV,hQ,List.cons_append,List.nil_append];simp -implicitDefEqProofs[hpt];intro R'' hG'' hN'';refine Qga ?_;by_cases q1:y.ho=id
    case neg =>
     obtain ⟨rfl,rfl⟩:=no (by simp[sqP,q1]) (by simp[pqP,q1]);simp -implicitDefEqProofs[hpt,q1];refine ⟨?_,by omega⟩;simp only[woU,hV,hQ,hM];simp[hV,hQ,Yi,Zfw,Zh6,frzA,frz,AV.keys,nlV,nlO,cS]
    by_cases q2:y.dw=d
    case neg =>
     obtain ⟨rfl,rfl⟩:=no (by simp[sqP,q2]) (by simp[pqP,q2]);simp -implicitDefEqProofs[hpt,q1,q2];refine ⟨?_,by omega⟩;simp only[woU,hV,hQ,hM];simp[hV,hQ,Yi,Zfw,Zh6,frzA,frz,AV.keys,nlV,nlO,cS]
    by_cases q3:y.lo=1
    . have b1:sqP id d y=false:=(by simp[sqP,q3]);have b2:pqP id d y=true:=(by simp[pqP,q1,q2,q3]);rw[b1]at sc;rw[b2,if_pos rfl]at pc;have sc:su'=su:=sc;subst sc;have hne:¬T=[]:=(by rw[pc];simp);have hTl:T.length=S.length+1:=(by rw[pc];simp);have em:T.map ia=S.map ia++[[.int .i64 y.lt]]:=(by rw[pc,List.map_append];rfl);simp -implicitDefEqProofs[hpt,q1,q2,q3,bb];refine ⟨?_,by omega⟩;simp only[woU,hM,nlV,nlO,hne,if_false,hTl,em];simp[cS,Yi,Zfw,frzO,frzA,frz,AV.keys,ia,Function.comp_def]
    . have b1:sqP id d y=true:=(by simp[sqP,q1,q2,q3]);have b2:pqP id d y=false:=(by simp[pqP,q3]);rw[b2]at pc;rw[b1,if_pos rfl]at sc;have pc:T=S:=pc;subst pc;simp -implicitDefEqProofs[hpt,q1,q2,q3];refine ⟨?_,by omega⟩;rw[sc];simp only[woU,hV,hQ,hM];simp[hV,hQ,Yi,Zfw,Zh6,frzA,frz,AV.keys,nlV,nlO,cS]
 . intro _;rw[eN];have hle:=Zg6 (pqP id d) (·.lt) L L.length;have e1:pkL (pqP id d) (·.lt) L L.length=peK id d L L.length:=rfl;rw[e1]at hle;generalize suK id d L L.length=su at *;generalize peK id d L L.length=S at *;have bb:(S.length+1)*8<=70368744177664:=(by omega);obtain ⟨U,hU⟩ : ∃ U,U=S++[su]:=⟨_,rfl⟩;have hUl:U.length=S.length+1:=(by rw[hU];simp);have hsp:=Zhl (G:=R.G) U (by omega);have sl:(sortI U).length=U.length:=ZcS U;have hcp:=Zhj (G:=R.G) (sortI U) (by omega);rw[sl]at hcp;have hC:cpcI (sortI U)=setI U:=Zhi _;have hCm:su∈setI U:=Zd6.2 (by rw[hU];simp)
   have hCl:(setI U).length<=U.length:=by
    have:=Zh7 (sortI U) (sortI U).length;rw[<- hC];unfold cpcI;omega
   have hix:=Zfr (G:=R.G) (setI U) su (by unfold Sml;omega);have hid:idx (setI U) su=(((setI U).idxOf su:Nat):Int):=(by unfold idx;rw[if_pos hCm]);rw[hid]at hix;have hlt:(setI U).idxOf su<(setI U).length:=List.idxOf_lt_length_of_mem hCm
   have hOl:(cpoI (sortI U)).length=U.length:=by
    unfold cpoI;rw[List.length_append,List.length_map,List.length_replicate,hC,sl];omega
   have hOt:(cpoI (sortI U)).take (setI U).length=(setI U).map ia:=by
    unfold cpoI;rw[hC];exact List.take_left' (by simp)
   have hOf:(setI U).length=U.length->cpoI (sortI U)=(setI U).map ia:=λh=>by
    rw[<- hOt,h,<- hOl,List.take_length]
   have hcv:∀ k,cpvI k (sortI U)=if (setI U).length=U.length then .osl k U.length else .oss k U.length 0 (setI U).length:=λk=>by unfold cpvI;rw[hC,sl]
   rw[hcv]at hcp;have em:U.map ia=S.map ia++[[.int .i64 su]]:=by rw[hU,List.map_append];rfl
   have kO:∀ o,Yc o (.row 1 (cpoI (sortI U)))=true:=λo=>by
    unfold cpoI;rw[show List.replicate ((sortI U).length-(cpcI (sortI U)).length) zrO=(List.replicate ((sortI U).length-(cpcI (sortI U)).length) (0:Int)).map ia by rw[List.map_replicate];rfl,<- List.map_append];exact Zfc _ _
   have rO:∀ ρ,AObj.ren ρ (.row 1 (cpoI (sortI U))) = .row 1 (cpoI (sortI U)):=λρ=>by
    unfold cpoI;rw[show List.replicate ((sortI U).length-(cpcI (sortI U)).length) zrO=(List.replicate ((sortI U).length-(cpcI (sortI U)).length) (0:Int)).map ia by rw[List.map_replicate];rfl,<- List.map_append];exact Zfb _ _
   have pu:((setI U).map ia).all (λr=>r.all AV.pure)=true:=(by simp[ia,AV.pure]);rw[<- hU]
   have fin:∀ st',Ym st' ⟨[(13,.vsl ((setI U).map ia)),(9,.ptr 9 0)],[(9,.box [.int .i64 su])]⟩->GO Tryz.prog R 0 (.run ((RCode.reg 12 false [{ d:=some 52,op:=ROp.mov (RA.t 13) },{ d:=some 53,op:=ROp.mov (RA.t 13) },{ d:=some 54,op:=ROp.load false 1 (RA.t 9) },{ d:=some 55,op:=ROp.call 129 [RA.t 53,RA.t 54] },{ d:=some 56,op:=ROp.slc 1 (RA.t 52) (some (RA.t 55)) none },{ d:=some 8,op:=ROp.mov (RA.t 56) }]).seq RCode.ret)) [] (Fin [RRes.t 8] (AV.vsl (List.drop (List.idxOf su (setI U)) (List.map ia (setI U))))) st':=λst' hw=>by
    refine GO0 (Z2L hw (Qga ?_));have hle:(setI U).idxOf su<=(setI U).length:=(by omega);have hln:∀ x:Int,(ia x).length=1:=λ_=>rfl
    simp -implicitDefEqProofs[];refine Qco (hix) (by simp) ?_;have ht:List.take (setI U).length (List.map ia (setI U))=List.map ia (setI U):=List.take_of_length_le (by simp)
    have hd:∀ x∈List.drop (List.idxOf su (setI U)) (List.map ia (setI U)),∀ y∈x,y.pure=true:=λx hx y hy=>by
     obtain ⟨z,-,rfl⟩:=List.mem_map.1 (List.mem_of_mem_drop hx);simp[ia]at hy;subst hy;simp[AV.pure]
    simp -implicitDefEqProofs[hle,hln,ht];refine Qgr ?_;generalize List.drop (List.idxOf su (setI U)) (List.map ia (setI U))=D at *;simp -implicitDefEqProofs[]
   by_cases cS:S=[]
   . have hU1:U=[su]:=(by rw[hU,cS];rfl);have hl1:U.length=1:=(by rw[hU1];rfl);have emU:U.map ia=[[.int .i64 su]]:=(by rw[hU1];rfl);simp -implicitDefEqProofs[woB,nlV,nlO,cS,Yl,r1K,AV.ren,AObj.ren];refine Z2M mixed 11 ?_;simp -implicitDefEqProofs[];rw[<- emU];rw[hl1]at hsp hcp;refine Yd.sem (Z1B.byref hsp (λ_=>47) (by simp) (by simp) (by simp[St.get,lk,Zfb]) (by simp[Zfc]) (by simp[Ya,AV.keys,lk]) rfl (by simp[AV.ren]) rfl rfl) ?_;simp -implicitDefEqProofs[Yl,Zfb];refine Yd.sem (Z1B.byref hcp (λ_=>47) (by simp) (by simp) (by simp[St.get,lk,Zfb]) (by simp[Zfc]) (by simp[Ya,AV.keys,lk]) rfl (by simp[AV.ren]) rfl rfl) ?_;simp -implicitDefEqProofs[Yl,rO];refine fin _ (Ym.trans (Ym.frz (λk=>k == 47) _) ?_);rw[hl1]at hOl hOf;by_cases hq:(setI U).length=1
     . have hOf:=hOf hq;rw[hOf]at *
       ((try simp only[Yi,frzA,frzO,frz,Yh,Yj,St.get,hq,hOl,pu,AV.ren]);refine Ym.sub (by simp[lk,Ya,AV.keys,Yi,frzA,frzO,frz,Yh,Yj,St.get,hq,hOl,pu,AV.ren]) ?_;simp only[Yi,frzA,frzO,frz,Yh,Yj,St.get,hq,hOl,pu,AV.ren,Wkl,and_true];(try simp[lk,Yc,Ya,AV.keys,Yi,frzA,frzO,frz,Yh,Yj,St.get,hq,hOl,pu,AV.ren]))
     . ((try simp only[Yi,frzA,frzO,frz,Yh,Yj,St.get,hq,hOl,hOt,pu,AV.ren]);refine Ym.sub (by simp[lk,Ya,AV.keys,Yi,frzA,frzO,frz,Yh,Yj,St.get,hq,hOl,hOt,pu,AV.ren]) ?_;simp only[Yi,frzA,frzO,frz,Yh,Yj,St.get,hq,hOl,hOt,pu,AV.ren,Wkl,and_true];(try simp[lk,Yc,Ya,AV.keys,Yi,frzA,frzO,frz,Yh,Yj,St.get,hq,hOl,hOt,pu,AV.ren]))
   . simp -implicitDefEqProofs[woB,nlV,nlO,cS,Yl,r1K,AV.ren,ZfN,Zhu];refine Z2M mixed 11 ?_;simp -implicitDefEqProofs[bb];have ei:(S.map ia)++[[AV.int .i64 su]]=U.map ia:=em.symm;rw[ei,<- hUl];refine Yd.sem (Z1B.byref hsp (λ_=>38) (by simp) (by simp) (by simp[St.get,lk,Zfb]) (by simp[Zfc]) (by simp[Ya,AV.keys,lk]) rfl (by simp[AV.ren]) rfl rfl) ?_;simp -implicitDefEqProofs[Yl,Zfb];refine Yd.sem (Z1B.byref hcp (λ_=>38) (by simp) (by simp) (by simp[St.get,lk,Zfb]) (by simp[Zfc]) (by simp[Ya,AV.keys,lk]) rfl (by simp[AV.ren]) rfl rfl) ?_;simp -implicitDefEqProofs[Yl,rO];refine fin _ (Ym.trans (Ym.frz (λk=>k == 38) _) ?_);by_cases hq:(setI U).length=U.length
     . have hOf:=hOf hq;rw[hOf]at *
       ((try simp only[Yi,frzA,frzO,frz,Yh,Yj,St.get,hq,hOl,pu,AV.ren]);refine Ym.sub (by simp[lk,Ya,AV.keys,Yi,frzA,frzO,frz,Yh,Yj,St.get,hq,hOl,pu,AV.ren]) ?_;simp only[Yi,frzA,frzO,frz,Yh,Yj,St.get,hq,hOl,pu,AV.ren,Wkl,and_true];(try simp[lk,Yc,Ya,AV.keys,Yi,frzA,frzO,frz,Yh,Yj,St.get,hq,hOl,pu,AV.ren]))
     . ((try simp only[Yi,frzA,frzO,frz,Yh,Yj,St.get,hq,hOl,hOt,pu,AV.ren]);refine Ym.sub (by simp[lk,Ya,AV.keys,Yi,frzA,frzO,frz,Yh,Yj,St.get,hq,hOl,hOt,pu,AV.ren]) ?_;simp only[Yi,frzA,frzO,frz,Yh,Yj,St.get,hq,hOl,hOt,pu,AV.ren,Wkl,and_true];(try simp[lk,Yc,Ya,AV.keys,Yi,frzA,frzO,frz,Yh,Yj,St.get,hq,hOl,hOt,pu,AV.ren]))
theorem Zhx (r:List Iss) (l:List Nte) (hs:List Hld) (ps:List Prt) (day id d:Int) (hp:ps.length<=41) (hb:∀ x∈ps,0<=x.lt/\x.lt<=8) (hlo:∀ x∈ps,0<=x.lo/\x.lo<=2) :
  PC Tryz.prog G 74 [ofA r l hs ps,.int .i64 day,.int .i64 id,.int .i64 d] (.vsl ((wkL ps day id d).map ia)):=by
 have h:=Zhw (G:=G) r l hs ps day id d hp hb
 rw[Zhq hlo,Zhr hlo,Zd9 λx hx=>by
  obtain ⟨y,hy,-,rfl⟩:=Zho.1 hx;exact hb y hy]at h
 exact h
end
def fgC (f:Nat->Bool):List AV:=[.bool (f 0),.bool (f 1),.bool (f 2),.bool (f 3),.bool (f 4),.bool (f 5),.bool (f 6),.bool (f 7),.bool (f 8)]
theorem Zhy (f:Nat->Bool):∀ {n:Nat},n<9->(fgC f)[n]? = some (.bool (f n))
 |0,_=>rfl
 |1,_=>rfl
 |2,_=>rfl
 |3,_=>rfl
 |4,_=>rfl
 |5,_=>rfl
 |6,_=>rfl
 |7,_=>rfl
 |8,_=>rfl
 |n+9,h=>by omega
theorem Zhz (f:Nat->Bool) (v:Bool):∀ {n:Nat},n<9->Z4 (fgC f) n [.bool v]=fgC λj=>if j=n then v else f j
 |0,_=>rfl
 |1,_=>rfl
 |2,_=>rfl
 |3,_=>rfl
 |4,_=>rfl
 |5,_=>rfl
 |6,_=>rfl
 |7,_=>rfl
 |8,_=>rfl
 |n+9,h=>by omega
theorem ZhA (o:List (Nat×AObj)) (f:Nat->Bool):Yc o (.box (fgC f))=true:=by simp[Yc,fgC,Ya,AV.keys]
def flL (a:Nat) (f:Nat->Bool) (n:Nat):List Int:=((List.range n).filter λj=>decide (a<=j)&&f j).map λ(j:Nat)=>(j:Int)
theorem ZhB {a:Nat} {f:Nat->Bool} {n:Nat}:flL a f (n+1)=if a<=n/\f n=true then flL a f n++[(n:Int)] else flL a f n:=by
 unfold flL;rw[List.range_succ,List.filter_append,List.map_append];by_cases c:a<=n/\f n=true
 . rw[if_pos c];simp[c]
 . rw [if_neg c]
   have:(decide (a<=n)&&f n)=false:=by
    cases q:f n
    . simp
    . have:¬a<=n:=λh=>c ⟨h,q⟩
      simp[this]
   simp[this]
theorem ZhC {a:Nat} {f:Nat->Bool}:∀ {n:Nat},n<=a->flL a f n=[]
 |0,_=>rfl
 |n+1,h=>by rw[ZhB,if_neg (by omega),ZhC (by omega)]
theorem ZhD (a:Nat) (f:Nat->Bool) (n:Nat):(flL a f n).length<=n:=by
 unfold flL;rw[List.length_map];exact Nat.le_trans (List.length_filter_le ..) (by simp)
theorem ZhE {p:Int->Bool} {a:Nat} {f:Nat->Bool} (h:∀ j:Nat,j<9->p (j:Int)=(decide (a<=j)&&f j)):r9.filter p=flL a f 9:=by
 have e:r9=(List.range 9).map λ(j:Nat)=>(j:Int):=rfl
 rw[e,List.filter_map];unfold flL
 congr 1
 exact List.filter_congr λj hj=>h j (List.mem_range.1 hj)
def helP (id day lo:Int) (x:Prt):Bool:=decide (x.ho=id)&&outB x day&&decide (x.lo=lo)
def helK (id day lo:Int) (ps:List Prt) (i:Nat):List Int:=pkL (helP id day lo) (·.no) ps i
def he7 (r:List Iss) (l:List Nte) (hs:List Hld) (ps:List Prt) (day id lo:Int) (i:Nat):St :=
 ⟨[(10,.int .i64 i),(9,nlV 43 (helK id day lo ps i)),(4,.ptr 4 0),(1,.int .i64 day),(2,.int .i64 id),(3,.int .u8 lo)],nlO 43 (helK id day lo ps i)++[(4,.box [.vsl (r.map isa),.vsl (l.map na),.vsl (hs.map hoa),.vsl (ps.map ptA)])]⟩
def heE (r:List Iss) (l:List Nte) (hs:List Hld) (ps:List Prt) (day id:Int):List Int×List Int×Int :=
 if ab7 r l hs ps day 1 id []=0 then (helK id day 0 ps ps.length,helK id day 1 ps ps.length,0) else ([],[],ab7 r l hs ps day 1 id [])
def heA (r:List Iss) (l:List Nte) (hs:List Hld) (ps:List Prt) (day id:Int):AV:=.tup [Yg ((heE r l hs ps day id).1.map ia),Yg ((heE r l hs ps day id).2.1.map ia),.int .i64 (heE r l hs ps day id).2.2]
theorem ZhF {r:List Iss} {l:List Nte} {hs:List Hld} {ps:List Prt} {day m id:Int}:ab7 r l hs ps day m id [someD r]=ab7 r l hs ps day m id []:=by
 unfold ab7;by_cases c:as7 r l hs ps day m=0
 . rw [if_pos c,if_pos c];have hne:=ZgA (Zgu (Zgt.1 (ZgK c).1).1)
   have hm:someD r∈nums r:=by
    unfold someD
    cases hN:nums r with
    | nil =>
      cases r with
      |nil=>exact absurd rfl hne
      | cons x t =>
        exact absurd hN (Za9 (x::t) t.length)
    |cons a t=>exact List.mem_cons_self ..
   simp[hm]
 . rw[if_neg c,if_neg c]
section
variable {G:Nat->Option (List AV)}
set_option maxHeartbeats 1000000 in
theorem ZhG (r:List Iss) (l:List Nte) (hs:List Hld) (ps:List Prt) (day id lo:Int) (hp:ps.length<=41):PC Tryz.prog G 73 [prA r l hs ps,.int .i64 day,.int .i64 id,.int .u8 lo] (Yg ((helK id day lo ps ps.length).map ia)):=by
 have c1:=λx=>ZgE (G:=G) x day
 unfold prA;refine Z6Z rfl λR hG hrd=>?_
 subst hG;refine Qga ?_;simp -implicitDefEqProofs[Z6X,Z6Y];refine Z9U (he7 r l hs ps day id lo) (λ_=>True) ps.length ?_ trivial ?_ ?_
 . have e0:helK id day lo ps 0=[]:=Zg7 _ _ _;simp only[he7,nlV,nlO,e0,if_true,List.nil_append]
   (refine Ym.sub (by simp[lk,Ya,AV.keys]) ?_;simp only[Wkl,and_true];(try simp[lk,Yc,Ya,AV.keys]))
 . intro i hi _;have sc:=Zg5 (p:=helP id day lo) (f:=(·.no)) hi;have hle:=Zg6 (helP id day lo) (·.no) ps i;have e1:pkL (helP id day lo) (·.no) ps i=helK id day lo ps i:=rfl;have e2:pkL (helP id day lo) (·.no) ps (i+1)=helK id day lo ps (i+1):=rfl;rw[e1,e2]at sc;rw[e1]at hle;obtain ⟨x,hxe⟩ : ∃ x,x=ps[i]:=⟨_,rfl⟩;rw[<- hxe]at sc;have hlx:ps[i]=x:=hxe.symm;have hpt:ptA x=[.int .i64 x.no,.int .i64 x.dy,.int .i64 x.ho,.int .i64 x.dw,.int .i64 x.lt,.int .i64 x.bk,.int .u8 x.lo]:=rfl;have c1:=c1 x;rw[hpt]at c1;have wi:IntKind.i64.wrap ((i:Int)+1)=(i:Int)+1:=Yf (by omega) (by omega);obtain ⟨S,hS⟩ : ∃ S,S=helK id day lo ps i:=⟨_,rfl⟩;rw[<- hS]at sc hle;obtain ⟨T,hT⟩ : ∃ T,T=helK id day lo ps (i+1):=⟨_,rfl⟩;rw[<- hT]at sc;have bb:(S.length+1)*8<=70368744177664:=(by omega);by_cases cS:S=[]
   case' pos =>
    have hV:nlV 43 S = .nils:=(by simp[nlV,cS]);have hQ:nlO 43 S=[]:=by simp[nlO,cS]
   case' neg =>
    have hV:nlV 43 S = .osl 43 S.length:=(by simp[nlV,cS]);have hQ:nlO 43 S=[(43,.row 1 (S.map ia))]:=by simp[nlO,cS]
   all_goals
    refine Qga ?_;by_cases q1:x.ho=id
    case neg =>
     have b:helP id day lo x=false:=(by simp[helP,q1]);rw[b]at sc;have sc:T=S:=sc;subst sc;simp -implicitDefEqProofs[he7,<- hS,hV,hQ,hi,hlx,hpt,q1,wi];simp only[he7,<- hT,hV,hQ]
     ((try simp only[hpt]);refine Ym.sub (by simp[lk,Ya,AV.keys,hpt]) ?_;simp only[hpt,Wkl,Zfc,and_true];(try simp[lk,Yc,Ya,AV.keys,hpt]))
    simp -implicitDefEqProofs[he7,<- hS,hV,hQ,hi,hlx,hpt,q1];rw[q1]at c1;refine Qco (c1) (by simp) ?_
    cases q2:outB x day
    . have b:helP id day lo x=false:=(by simp[helP,q2]);rw[b]at sc;have sc:T=S:=sc;subst sc;simp -implicitDefEqProofs[wi];simp only[he7,<- hT,hV,hQ]
      ((try simp only[hpt,q1]);refine Ym.sub (by simp[lk,Ya,AV.keys,hpt,q1]) ?_;simp only[hpt,q1,Wkl,Zfc,and_true];(try simp[lk,Yc,Ya,AV.keys,hpt,q1]))
    . by_cases q3:x.lo=lo
      . have b:helP id day lo x=true:=(by simp[helP,q1,q2,q3]);rw[b,if_pos rfl]at sc;have hne:¬T=[]:=(by rw[sc];simp);have em:T.map ia=S.map ia++[[.int .i64 x.no]]:=(by rw[sc,List.map_append];rfl);have hTl:T.length=S.length+1:=(by rw[sc];simp);have hV2:nlV 43 T = .osl 43 (S.length+1):=(by simp[nlV,hne,hTl]);have hQ2:nlO 43 T=[(43,.row 1 (T.map ia))]:=(by simp[nlO,hne]);simp -implicitDefEqProofs[hpt,q1,q3,wi,bb];simp only[he7,<- hT,hV2,hQ2]
        first
         |(rw[em,cS];((try simp only[hpt,q1,q3]);refine Ym.sub (by simp[lk,Ya,AV.keys,hpt,q1,q3]) ?_;simp only[hpt,q1,q3,Wkl,and_true];(try simp[lk,Yc,Ya,AV.keys,hpt,q1,q3]));done)
         |(rw[<- em];((try simp only[hpt,q1,q3,hTl]);refine Ym.sub (by simp[lk,Ya,AV.keys,hpt,q1,q3,hTl]) ?_;simp only[hpt,q1,q3,hTl,Wkl,Zfc,and_true];(try simp[lk,Yc,Ya,AV.keys,hpt,q1,q3,hTl]));done)
      . have b:helP id day lo x=false:=(by simp[helP,q3]);rw[b]at sc;have sc:T=S:=sc;subst sc;simp -implicitDefEqProofs[hpt,q1,q3,wi];simp only[he7,<- hT,hV,hQ]
        ((try simp only[hpt,q1]);refine Ym.sub (by simp[lk,Ya,AV.keys,hpt,q1]) ?_;simp only[hpt,q1,Wkl,Zfc,and_true];(try simp[lk,Yc,Ya,AV.keys,hpt,q1]))
 . intro _;unfold he7;generalize helK id day lo ps ps.length=S at *;refine Qga ?_;by_cases cS:S=[]
   . have hV:nlV 43 S = .nils:=(by simp[nlV,cS]);have hQ:nlO 43 S=[]:=(by simp[nlO,cS]);simp -implicitDefEqProofs[hV,hQ];refine Qgr ?_;simp -implicitDefEqProofs[Yg,cS]
   . have hV:nlV 43 S = .osl 43 S.length:=(by simp[nlV,cS]);have hQ:nlO 43 S=[(43,.row 1 (S.map ia))]:=(by simp[nlO,cS]);simp -implicitDefEqProofs[hV,hQ];refine Qgr ?_;simp -implicitDefEqProofs[Yg,cS,ia]
theorem ZhH (r:List Iss) (l:List Nte) (hs:List Hld) (ps:List Prt) (day id:Int) (hl:WfN l) (hr:Wf r) (hd:Sml (nums r)) (hw:WfP hs ps) :
  PC Tryz.prog G 20 [prA r l hs ps,.int .i64 day,.int .i64 id] (heA r l hs ps day id):=by
 have c1:=ZgO (G:=G) r l hs ps hr.1.1;have c2:=ZgM (G:=G) r l hs ps day 1 id (someD r) hl hr hd hw;have c3:=ZhG (G:=G) r l hs ps day id 0 hw.pl;have c4:=ZhG (G:=G) r l hs ps day id 1 hw.pl;rw[ZhF]at c2;unfold heA heE;by_cases h0:ab7 r l hs ps day 1 id []=0
 . rw[if_pos h0];rw[h0]at c2;have p1:=Zft (l:=(helK id day 0 ps ps.length).map ia) (by simp[ia,AV.pure]);have k1:=Zfu ((helK id day 0 ps ps.length).map ia);have s1:=λok st n=>Zfv ((helK id day 0 ps ps.length).map ia) ok st n
   have p2:=Zft (l:=(helK id day 1 ps ps.length).map ia) (by simp[ia,AV.pure]);have k2:=Zfu ((helK id day 1 ps ps.length).map ia);have s2:=λok st n=>Zfv ((helK id day 1 ps ps.length).map ia) ok st n
   unfold prA at *;simp only;generalize Yg ((helK id day 0 ps ps.length).map ia)=V1 at *;generalize Yg ((helK id day 1 ps ps.length).map ia)=V2 at *
   (refine Z72 rfl λR hG hrd=>Qga ?_;subst hG)
   simp -implicitDefEqProofs[Z70,Z71];refine Qco (c1) (by simp) ?_;simp -implicitDefEqProofs[];refine Qco (c2) (by simp) ?_;simp -implicitDefEqProofs[];refine ⟨rfl,?_⟩;refine Qco (c3) (by simp) ?_;simp -implicitDefEqProofs[k1];refine Qco (c4) (by simp) ?_;simp -implicitDefEqProofs[k1,k2,p1,p2,s1,s2];rfl
 . rw[if_neg h0];unfold prA at *
   (refine Z72 rfl λR hG hrd=>Qga ?_;subst hG)
   simp -implicitDefEqProofs[Z70,Z71];refine Qco (c1) (by simp) ?_;simp -implicitDefEqProofs[];refine Qco (c2) (by simp) ?_;simp -implicitDefEqProofs[h0,Yg];rfl
def suQ (day id d:Int) (x:Prt):Bool:=herB id day x&&decide (x.dw=d)&&decide (x.lo=0)
def peQ (day id d:Int) (x:Prt):Bool:=herB id day x&&decide (x.dw=d) && !decide (x.lo=0)
def suJ (day id d:Int) (ps:List Prt) (i:Nat):Int:=(pkL (suQ day id d) (·.lt) ps i).foldl max 0
def peJ (day id d:Int) (ps:List Prt) (i:Nat):List Int:=pkL (peQ day id d) (·.lt) ps i
theorem ZhI {day id d:Int} {ps:List Prt} {k:Nat} (h:k<ps.length):suJ day id d ps (k+1)=if suQ day id d ps[k]=true then max (suJ day id d ps k) ps[k].lt else suJ day id d ps k:=by
 unfold suJ;rw[Zg5 h]
 split
 . rw[List.foldl_append];rfl
 . rfl
theorem ZhJ (day id d:Int) (ps:List Prt):suJ day id d ps ps.length=sureM ps day id d:=by unfold suJ sureM;rw[Zg8];rfl
theorem ZhK (day id d:Int) (ps:List Prt):peJ day id d ps ps.length=perhL ps day id d:=by unfold peJ perhL;rw[Zg8];rfl
def flP (P:List Int) (n:Nat):Bool:=P.contains (n:Int)
def wo7 (B:List AV) (day id d:Int) (ps:List Prt) (i:Nat):St :=
 ⟨[(11,.int .i64 i),(10,.ptr 10 0),(9,.int .i64 (suJ day id d ps i)),(4,.ptr 4 0),(1,.int .i64 day),(2,.int .i64 id),(3,.int .i64 d)],[(10,.box (fgC (flP (peJ day id d ps i)))),(4,.box B)]⟩
def wq7 (f:Nat->Bool) (su:Nat) (n:Nat):St :=
 ⟨[(14,.int .i64 n),(13,.osl 57 ((su:Int)::flL (su+1) f n).length),(10,.ptr 10 0)],[(57,.row 1 (((su:Int)::flL (su+1) f n).map ia)),(10,.box (fgC f))]⟩
set_option maxHeartbeats 2000000 in
theorem ZhL (r:List Iss) (l:List Nte) (hs:List Hld) (ps:List Prt) (day id d:Int) (hp:ps.length<=41) (hb:∀ x∈ps,0<=x.lt/\x.lt<=8):PC Tryz.prog G 75 [prA r l hs ps,.int .i64 day,.int .i64 id,.int .i64 d] (.vsl ((wkL ps day id d).map ia)):=by
 have c1:=λx=>ZgE (G:=G) x day
 unfold prA;refine Z75 rfl λR hG hrd=>?_
 subst hG;refine Qga ?_;obtain ⟨B,hB⟩ : ∃ B:List AV,B=[.vsl (r.map isa),.vsl (l.map na),.vsl (hs.map hoa),.vsl (ps.map ptA)]:=⟨_,rfl⟩;simp -implicitDefEqProofs[Z73,Z74];rw[<- hB];refine Z9U (wo7 B day id d ps) (λ_=>True) ps.length ?_ trivial ?_ ?_
 . have e0:peJ day id d ps 0=[]:=Zg7 _ _ _;have e1:suJ day id d ps 0=0:=(by unfold suJ;rw[Zg7];rfl);simp only[wo7,e0,e1,hB]
   ((try simp only[fgC,flP]);refine Ym.sub (by simp[lk,Ya,AV.keys,fgC,flP]) ?_;simp only[fgC,flP,Wkl,and_true];(try simp[lk,Yc,Ya,AV.keys,fgC,flP]))
 . intro i hi _;have sc:=ZhI (day:=day) (id:=id) (d:=d) hi;have pc:=Zg5 (p:=peQ day id d) (f:=(·.lt)) hi;have e1:pkL (peQ day id d) (·.lt) ps i=peJ day id d ps i:=rfl;have e2:pkL (peQ day id d) (·.lt) ps (i+1)=peJ day id d ps (i+1):=rfl;rw[e1,e2]at pc;have hbx:=hb _ (List.getElem_mem hi);obtain ⟨x,hxe⟩ : ∃ x,x=ps[i]:=⟨_,rfl⟩;rw[<- hxe]at sc pc hbx;have hlx:ps[i]=x:=hxe.symm;obtain ⟨n,hn⟩ : ∃ n:Nat,x.lt=n:=⟨x.lt.toNat,by omega⟩;have hn9:n<9:=(by omega);have hpt:ptA x=[.int .i64 x.no,.int .i64 x.dy,.int .i64 x.ho,.int .i64 x.dw,.int .i64 n,.int .i64 x.bk,.int .u8 x.lo]:=(by rw[<- hn];rfl);rw[hn]at sc pc;have c1:=c1 x;rw[hpt]at c1;have wi:IntKind.i64.wrap ((i:Int)+1)=(i:Int)+1:=Yf (by omega) (by omega);obtain ⟨S,hS⟩ : ∃ S,S=peJ day id d ps i:=⟨_,rfl⟩;rw[<- hS]at pc;obtain ⟨T,hT⟩ : ∃ T,T=peJ day id d ps (i+1):=⟨_,rfl⟩;rw[<- hT]at pc;obtain ⟨su,hsu⟩ : ∃ su,su=suJ day id d ps i:=⟨_,rfl⟩;rw[<- hsu]at sc;obtain ⟨su',hsu'⟩ : ∃ su',su'=suJ day id d ps (i+1):=⟨_,rfl⟩;rw[<- hsu']at sc
   have no:suQ day id d x=false->peQ day id d x=false->su'=su/\T=S:=λh1 h2=>by
    rw[h1]at sc;rw[h2]at pc;exact ⟨sc,pc⟩
   refine Qga ?_;by_cases q1:x.ho=id
   case neg =>
    obtain ⟨e3,e4⟩:=no (by simp[suQ,herB,q1]) (by simp[peQ,herB,q1]);simp -implicitDefEqProofs[wo7,<- hS,<- hsu,hB,hi,hlx,hpt,q1,wi];simp only[wo7,<- hT,<- hsu',hB,e3,e4]
    ((try simp only[hpt]);refine Ym.sub (by simp[lk,Ya,AV.keys,hpt]) ?_;simp only[hpt,Wkl,ZhA,and_true];(try simp[lk,Yc,Ya,AV.keys,hpt]))
   by_cases q2:x.dw=d
   case neg =>
    obtain ⟨e3,e4⟩:=no (by simp[suQ,q2]) (by simp[peQ,q2]);simp -implicitDefEqProofs[wo7,<- hS,<- hsu,hB,hi,hlx,hpt,q1,q2,wi];simp only[wo7,<- hT,<- hsu',hB,e3,e4]
    ((try simp only[hpt,q1]);refine Ym.sub (by simp[lk,Ya,AV.keys,hpt,q1]) ?_;simp only[hpt,q1,Wkl,ZhA,and_true];(try simp[lk,Yc,Ya,AV.keys,hpt,q1]))
   rw[q1,q2]at c1
   cases q3:outB x day
   . rw[q3]at c1;obtain ⟨e3,e4⟩:=no (by simp[suQ,herB,q3]) (by simp[peQ,herB,q3]);simp -implicitDefEqProofs[wo7,<- hS,<- hsu,hB,hi,hlx,hpt,q1,q2];refine Qco (c1) (by simp) ?_;simp -implicitDefEqProofs[wi];simp only[wo7,<- hT,<- hsu',hB,e3,e4]
     ((try simp only[hpt,q1,q2]);refine Ym.sub (by simp[lk,Ya,AV.keys,hpt,q1,q2]) ?_;simp only[hpt,q1,q2,Wkl,ZhA,and_true];(try simp[lk,Yc,Ya,AV.keys,hpt,q1,q2]))
   rw[q3]at c1;by_cases q4:x.lo=0
   . have b1:suQ day id d x=true:=(by simp[suQ,herB,q1,q2,q3,q4]);have b2:peQ day id d x=false:=(by simp[peQ,q4]);rw[b1,if_pos rfl]at sc;rw[b2]at pc;have pc:T=S:=pc;simp -implicitDefEqProofs[wo7,<- hS,<- hsu,hB,hi,hlx,hpt,q1,q2];rw[q4]at c1;simp -implicitDefEqProofs[q4];refine Qco (c1) (by simp) ?_;simp -implicitDefEqProofs[hpt,q1,q2,q4,wi];simp only[wo7,<- hT,<- hsu',hB,sc,pc]
     ((try simp only[hpt,q1,q2,q4]);refine Ym.sub (by simp[lk,Ya,AV.keys,hpt,q1,q2,q4]) ?_;simp only[hpt,q1,q2,q4,Wkl,ZhA,and_true];(try simp[lk,Yc,Ya,AV.keys,hpt,q1,q2,q4]))
   . have b1:suQ day id d x=false:=(by simp[suQ,q4]);have b2:peQ day id d x=true:=(by simp[peQ,herB,q1,q2,q3,q4]);rw[b1]at sc;rw[b2,if_pos rfl]at pc;have sc:su'=su:=sc;have hpu:=Zhz (flP S) true hn9
     have hfe:(λj=>if j=n then true else flP S j)=flP T:=by
      funext j
      rw[pc];unfold flP;by_cases c:j=n
      . subst c;simp
      . have c2:¬(j:Int)=(n:Int):=(by omega);simp[c,c2]
     rw[hfe]at hpu;simp only[Z4,List.length_singleton,List.append_assoc,List.cons_append,List.nil_append]at hpu;have n9:(n:Int)<9:=(by omega);have n8:n<=8:=(by omega);have L9:∀ f,(fgC f).length=9:=λ_=>rfl
     simp -implicitDefEqProofs[wo7,<- hS,<- hsu,hB,hi,hlx,hpt,q1,q2];refine Qco (c1) (by simp) ?_;simp -implicitDefEqProofs[hpt,q1,q2,q4,wi,n9,n8,L9,hpu];simp only[wo7,<- hT,<- hsu',hB,sc]
     ((try simp only[hpt,q1,q2]);refine Ym.sub (by simp[lk,Ya,AV.keys,hpt,q1,q2]) ?_;simp only[hpt,q1,q2,Wkl,ZhA,and_true];(try simp[lk,Yc,Ya,AV.keys,hpt,q1,q2]))
 . intro _;have hsm:=ZhJ day id d ps;have hpe:=ZhK day id d ps;have hsu0:=(Zhn ps day id d)
   have hs8:sureM ps day id d<=8:=by
    rcases hsu0.2.2 with h | ⟨x,hx,-,h⟩
    . omega
    . rw[<- h];exact (hb x hx).2
   obtain ⟨su,hsu⟩ : ∃ su:Nat,sureM ps day id d=su:=⟨(sureM ps day id d).toNat,by have:=hsu0.1;omega⟩
   have hw:wkL ps day id d=(su:Int)::flL (su+1) (flP (perhL ps day id d)) 9:=by
    unfold wkL;rw[hsu]
    congr 1
    refine ZhE λj hj=>?_
    have:decide ((su:Int)<(j:Int))=decide (su+1<=j):=(by rw[decide_eq_decide];omega);rw[this];rfl
   rw[hw];simp only[wo7,hsm,hpe,hsu];generalize flP (perhL ps day id d)=f at *;have ws:IntKind.i64.wrap ((su:Int)+1)=((su+1:Nat):Int):=Yf (by omega) (by omega);refine Qga ?_;simp -implicitDefEqProofs[hB];refine Qgr ?_;simp -implicitDefEqProofs[ws];refine Z9U (λk=>wq7 f su (su+1+k)) (λ_=>True) (8-su) ?_ trivial ?_ ?_
   . have e0:flL (su+1) f (su+1+0)=[]:=ZhC (by omega);simp only[wq7,e0]
     ((try simp only[ia]);refine Ym.sub (by simp[lk,Ya,AV.keys,ia]) ?_;simp only[ia,Wkl,ZhA,and_true];(try simp[lk,Yc,Ya,AV.keys,ia]))
   . intro k hk _;have hs8:su<=8:=(by omega);have sc:=ZhB (a:=su+1) (f:=f) (n:=su+1+k);have hle:=ZhD (su+1) f (su+1+k);obtain ⟨m,hm⟩ : ∃ m,m=su+1+k:=⟨_,rfl⟩;have e1:su+1+(k+1)=m+1:=(by omega);rw[<- hm]at sc hle;have m9:m<9:=(by omega);have m9':(m:Int)<9:=(by omega);have m8:m<=8:=(by omega);have hat:=Zhy f m9;have wm:IntKind.i64.wrap ((m:Int)+1)=((m+1:Nat):Int):=Yf (by omega) (by omega);have hlm:su+1<=m:=(by omega);obtain ⟨S,hS⟩ : ∃ S,S=(su:Int)::flL (su+1) f m:=⟨_,rfl⟩;obtain ⟨T,hT⟩ : ∃ T,T=(su:Int)::flL (su+1) f (m+1):=⟨_,rfl⟩;have hSl:S.length<=11:=(by rw[hS];simp;omega);have bb:(S.length+1)*8<=70368744177664:=(by omega);have hw1:wq7 f su (su+1+k)=⟨[(14,.int .i64 m),(13,.osl 57 S.length),(10,.ptr 10 0)],[(57,.row 1 (S.map ia)),(10,.box (fgC f))]⟩:=(by rw[<- hm,wq7,<- hS]);have hw2:wq7 f su (su+1+(k+1))=⟨[(14,.int .i64 (m+1:Nat)),(13,.osl 57 T.length),(10,.ptr 10 0)],[(57,.row 1 (T.map ia)),(10,.box (fgC f))]⟩:=(by rw[e1,wq7,<- hT]);refine Qga ?_
     cases hf:f m
     . have e:T=S:=(by rw[hT,hS,sc,hf];simp);rw[hf]at hat;simp -implicitDefEqProofs[hw1,m9',m9,m8,hat,wm];rw[hw2,e]
       (refine Ym.sub (by simp[lk,Ya,AV.keys]) ?_;simp only[Wkl,ZhA,Zfc,and_true];(try simp[lk,Yc,Ya,AV.keys]))
     . have e:T=S++[(m:Int)]:=(by rw[hT,hS,sc,if_pos ⟨hlm,hf⟩];rfl);have em:T.map ia=S.map ia++[[.int .i64 m]]:=(by rw[e,List.map_append];rfl);have eT:T.length=S.length+1:=(by rw[e];simp);rw[hf]at hat;simp -implicitDefEqProofs[hw1,m9',m9,m8,hat,wm,bb];rw[hw2,<- em,eT]
       (refine Ym.sub (by simp[lk,Ya,AV.keys]) ?_;simp only[Wkl,ZhA,Zfc,and_true];(try simp[lk,Yc,Ya,AV.keys]))
   . intro _;have e9:su+1+(8-su)=9:=(by omega);rw[e9];simp only[wq7];have hSl:=ZhD (su+1) f 9;refine Qga ?_;simp -implicitDefEqProofs[];refine Qgr ?_;simp -implicitDefEqProofs[ia]
end
def shP (id:Int) (x:Prt):Bool:=decide (x.ho=id) && !decide (x.lo=1)
def phP (id:Int) (x:Prt):Bool:=decide (x.ho=id)&&decide (x.lo=1)
def shK (id:Int) (L:List Prt) (k:Nat):List Int:=pkL (shP id) (·.no) L k
def phK (id:Int) (L:List Prt) (k:Nat):List Int:=pkL (phP id) (·.no) L k
theorem ZhM {ps:List Prt} {day id:Int} (hlo:∀ x∈ps,0<=x.lo/\x.lo<=2):shK id (outP ps day) (outP ps day).length=helK id day 0 ps ps.length:=by
 unfold shK helK outP;rw[Zg8,Zg8,List.filter_filter]
 congr 1
 refine List.filter_congr λx hx=>?_
 have:=hlo x hx;rw[Bool.eq_iff_iff];simp only[shP,helP,outB,Bool.and_eq_true,decide_eq_true_eq,Bool.not_eq_true',decide_eq_false_iff_not,Bool.or_eq_true]
 constructor
 . rintro ⟨⟨h1,h3⟩,h4,h5⟩;exact ⟨⟨h1,h4,h5⟩,by omega⟩
 . rintro ⟨⟨h1,h4,h5⟩,h3⟩;exact ⟨⟨h1,by omega⟩,h4,h5⟩
theorem ZhN {ps:List Prt} {day id:Int}:phK id (outP ps day) (outP ps day).length=helK id day 1 ps ps.length:=by
 unfold phK helK outP;rw[Zg8,Zg8,List.filter_filter]
 congr 1
 refine List.filter_congr λx hx=>?_
 simp only[phP,helP,Bool.and_assoc,Bool.and_comm,Bool.and_left_comm]
theorem ZhO {α β:Type} {p:α->Bool} {f:α->β} {L:List α} {j:Nat} (h:pkL p f L j=[]):∀ {i},i<=j->pkL p f L i=[]:=by
 intro i hi
 induction j with
 | zero => obtain rfl:i=0:=by omega
           exact h
 | succ j ih =>
   rcases Nat.lt_or_ge i (j+1) with c|c
   . exact ih (Zhs h) (by omega)
   . obtain rfl:i=j+1:=(by omega);exact h
theorem ZhP {α β γ:Type} (p:α->Bool) (f:α->β) (q:α->Bool) (g:α->γ) (L:List α):∃ w:Bool,(∀ k,pkL p f L k=[]->pkL q g L k≠[]->w=true)/\∀ k,pkL q g L k=[]->pkL p f L k≠[]->w=false:=by
 by_cases h:∃ k,pkL p f L k=[]/\pkL q g L k≠[]
 . refine ⟨true,λ_ _ _=>rfl,λk h1 h2=>?_⟩;obtain ⟨j,h3,h4⟩:=h;rcases Nat.le_total j k with c|c
   . exact absurd (ZhO h1 c) h4
   . exact absurd (ZhO h3 c) h2
 . exact ⟨false,λk h1 h2=>absurd ⟨k,h1,h2⟩ h,λ_ _ _=>rfl⟩
def hpB (id:Int) (w:Bool) (S P:List Int):List (Nat×AObj):=[(1005,.box [.int .i64 id]),(1006,.box [nlV 1031 S]),(1007,.box [nlV 1045 P])]++(if w=true then nlO 1045 P++nlO 1031 S else nlO 1031 S++nlO 1045 P)
def hpU (id:Int) (w:Bool) (S T P Q:List Int):List (Nat×AObj):=[(1005,.box [.int .i64 id]),(1006,.box [nlV (nlN 1031 S) T]),(1007,.box [nlV (nlN 1045 P) Q])] ++
 (if w=true then (if P=[] then [] else nlO 1045 Q)++(if S=[] then [] else nlO 1031 T) else (if S=[] then [] else nlO 1031 T)++(if P=[] then [] else nlO 1045 Q))++(if S=[] then nlO 31 T else [])++(if P=[] then nlO 45 Q else [])
section
variable {G:Nat->Option (List AV)}
theorem ZhQ (hG:GC G) (hN:GN G) (hP:GP G) (r:List Iss) (l:List Nte) (hs:List Hld) (ps:List Prt) (day id d:Int) (hl:WfN l) (hr:Wf r) (hd:Sml (nums r)) (hw:WfP hs ps) (hb:ck7 r l hs ps=0->(∀ x∈ps,0<=x.lt/\x.lt<=8)/\∀ x∈ps,0<=x.lo/\x.lo<=2) :
  PC Tryz.prog G 21 [prA r l hs ps,.int .i64 day,.int .i64 id,.int .i64 d] (if ab7 r l hs ps day 1 id [d]=0 then .tup [.vsl ((wkL ps day id d).map ia),.int .i64 0] else .tup [.nils,.int .i64 (ab7 r l hs ps day 1 id [d])]):=by
 have ha:=Zgz hG hN hP r l hs ps day 1 id [d] hl hr hd hw (by simp[Sml]);have pO:=ZfW r l hs ps;have kO:=ZfX r l hs ps;have e1:[d].map ia=[[.int .i64 d]]:=rfl;rw[e1]at ha;unfold abP at ha;by_cases h0:ab7 r l hs ps day 1 id [d]=0
 . obtain ⟨g1,g2⟩:=hb (ZgK (ZgL h0).1).1;have hW:=Zhx (G:=G) r l hs ps day id d hw.pl g1 g2;rw[if_pos h0,h0]at ha;rw[if_pos h0];unfold prA at *;generalize ofA r l hs ps=O at *
   (refine Z6d rfl λR hG hrd=>Qga ?_;subst hG)
   simp -implicitDefEqProofs[Z6b,Z6c];refine Qco (ha) (by simp) ?_;simp -implicitDefEqProofs[];refine Yd.of hW (by simp[pO,AV.pure]) ?_;simp -implicitDefEqProofs[ia]
 . rw[if_neg h0]at ha ⊢;unfold prA at *
   (refine Z6d rfl λR hG hrd=>Qga ?_;subst hG)
   simp -implicitDefEqProofs[Z6b,Z6c];refine Qco (ha) (by simp) ?_;simp -implicitDefEqProofs[h0]
theorem ZhR (r:List Iss) (l:List Nte) (hs:List Hld) (ps:List Prt) (day id d:Int) (hl:WfN l) (hr:Wf r) (hd:Sml (nums r)) (hw:WfP hs ps) (hb:ck7 r l hs ps=0->(∀ x∈ps,0<=x.lt/\x.lt<=8)/\∀ x∈ps,0<=x.lo/\x.lo<=2) :
  PC Tryz.prog G 22 [prA r l hs ps,.int .i64 day,.int .i64 id,.int .i64 d] (if ab7 r l hs ps day 1 id [d]=0 then .tup [.vsl ((wkL ps day id d).map ia),.int .i64 0] else .tup [.nils,.int .i64 (ab7 r l hs ps day 1 id [d])]):=by
 have ha:=ZgM (G:=G) r l hs ps day 1 id d hl hr hd hw;by_cases h0:ab7 r l hs ps day 1 id [d]=0
 . obtain ⟨g1,g2⟩:=hb (ZgK (ZgL h0).1).1;have hW:=ZhL (G:=G) r l hs ps day id d hw.pl g1;rw[h0]at ha;rw[if_pos h0];unfold prA at *
   (refine Z78 rfl λR hG hrd=>Qga ?_;subst hG)
   simp -implicitDefEqProofs[Z76,Z77];refine Qco (ha) (by simp) ?_;simp -implicitDefEqProofs[];refine Qco (hW) (by simp) ?_;simp -implicitDefEqProofs[ia]
 . rw[if_neg h0];unfold prA at *
   (refine Z78 rfl λR hG hrd=>Qga ?_;subst hG)
   simp -implicitDefEqProofs[Z76,Z77];refine Qco (ha) (by simp) ?_;simp -implicitDefEqProofs[h0]
set_option maxHeartbeats 2000000 in
theorem ZhS (hG:GC G) (hN:GN G) (hP:GP G) (r:List Iss) (l:List Nte) (hs:List Hld) (ps:List Prt) (day id:Int) (hl:WfN l) (hr:Wf r) (hd:Sml (nums r)) (hw:WfP hs ps) (hlo:ck7 r l hs ps=0->∀ x∈ps,0<=x.lo/\x.lo<=2) :
  PC Tryz.prog G 19 [prA r l hs ps,.int .i64 day,.int .i64 id] (heA r l hs ps day id):=by
 have ha0:=Zgz hG hN hP r l hs ps day 1 id [] hl hr hd hw (by simp[Sml]);have ha:=PC.sub ha0 (xs:=[prA r l hs ps,.int .i64 day,.int .i64 1,.int .i64 id,.nils]) ⟨.rfl',.rfl',.rfl',.rfl',.nils,trivial⟩;have pO:=ZfW r l hs ps;unfold abP at ha;unfold heA heE;by_cases h0:ab7 r l hs ps day 1 id []=0
 case neg =>
  rw[if_neg h0]at ha ⊢;unfold prA at *
  (refine Z67 rfl λR hG hrd=>Qga ?_;subst hG)
  simp -implicitDefEqProofs[Z65,Z66];refine Qco (ha) (by simp) ?_;simp -implicitDefEqProofs[h0,Yg]
 have g2:=hlo (ZgK (ZgL h0).1).1;rw[if_pos h0,h0]at ha;rw[if_pos h0,<- ZhM g2,<- ZhN];have hO:=Zhv (G:=G) r l hs ps day;have hit:=outIt (G:=G) r l hs ps day hw.pl;have eN:=Zg3 ps day;have hat:=λk x h=>Zg4 (ps:=ps) (day:=day) (k:=k) (x:=x) h
 have hL:(outP ps day).length<=41:=Nat.le_trans (List.length_filter_le ..) hw.pl;unfold prA at *;generalize outP ps day=L at *;generalize outE ps day=E at *;obtain ⟨B,hB⟩ : ∃ B:List AV,B=[.vsl (r.map isa),.vsl (l.map na),.vsl (hs.map hoa),.vsl (ps.map ptA)]:=⟨_,rfl⟩;generalize ofA r l hs ps=O at *;refine Z67 rfl λR hG hrd=>?_
 subst hG;refine Qga ?_;simp -implicitDefEqProofs[Z65,Z66];refine Qco (ha) (by simp) ?_;simp -implicitDefEqProofs[];refine Yd.of hO (by simp[pO,AV.pure]) ?_;simp -implicitDefEqProofs[];obtain ⟨w,hwA,hwB⟩:=ZhP (shP id) (·.no) (phP id) (·.no) L
 refine ZgR hrd (by decide) hit (by simp[evA,St.tmp,lk]) (by simp[AV.pure,pO]) (λk=>k == 11) (by intro k hk;simp at hk;omega) r1K [(5,.ptr 1005 0),(6,.ptr 1006 0),(7,.ptr 1007 0)]
  (λk=>hpB id w (shK id L k) (phK id L k)) (λk=>hpU id w (shK id L k) (shK id L (k+1)) (phK id L k) (phK id L (k+1))) (λk=>k<=L.length) (Nat.zero_le _) ?_ ?_ ?_ ?_ ?_ ?_ ?_ ?_ ?_ ?_ ?_
 . intro k q hq
   cases w <;> by_cases c1:shK id L k=[] <;> by_cases c2:phK id L k=[] <;> simp[hpB,nlO,c1,c2]at hq
   all_goals
    first
     |(rcases hq with rfl|rfl|rfl <;> simp;done)
     |(rcases hq with rfl|rfl|rfl|rfl <;> simp;done)
     |(rcases hq with rfl|rfl|rfl|rfl|rfl <;> simp;done)
 . intro k
   cases w <;> by_cases c1:shK id L k=[] <;> by_cases c2:phK id L k=[] <;> simp[hpB,nlO,c1,c2,r1K]
 . intro k;simp only[hpU,nlO]
   cases w <;> by_cases c1:shK id L k=[] <;> by_cases c2:phK id L k=[] <;> by_cases c3:shK id L (k+1)=[] <;> by_cases c4:phK id L (k+1)=[] <;> simp[c1,c2,c3,c4,r1K]
 . intro k q hq;have n1:=Zhs (p:=shP id) (f:=(·.no)) (L:=L) (k:=k);have n2:=Zhs (p:=phP id) (f:=(·.no)) (L:=L) (k:=k);simp only[hpB,hpU,nlO]at *
   cases w <;> by_cases c1:shK id L k=[] <;> by_cases c2:phK id L k=[] <;> by_cases c3:shK id L (k+1)=[] <;> by_cases c4:phK id L (k+1)=[]
   all_goals
    first
     |exact absurd (n1 c3) c1
     |exact absurd (n2 c4) c2
     | (simp[c1,c2]at hq
        rcases hq with rfl|rfl|rfl <;> simp[isK,lk,c1,c2,c3,c4];done)
     | (simp[c1,c2]at hq
        rcases hq with rfl|rfl|rfl|rfl <;> simp[isK,lk,c1,c2,c3,c4];done)
     | (simp[c1,c2]at hq
        rcases hq with rfl|rfl|rfl|rfl|rfl <;> simp[isK,lk,c1,c2,c3,c4];done)
 . intro k q hq;simp only[hpB,hpU,nlO]at *
   cases w <;> by_cases c1:shK id L k=[] <;> by_cases c2:phK id L k=[] <;> by_cases c3:shK id L (k+1)=[] <;> by_cases c4:phK id L (k+1)=[]
   all_goals
    simp[c1,c2,c3,c4]at hq
    first
     |(rcases hq with rfl|rfl|rfl <;> first|(left;simp[isK,lk,c1,c2];done)|(right;simp[Yl,r1K,St.get,St.set,putO,lk,c1,c2];done))
     |(rcases hq with rfl|rfl|rfl|rfl <;> first|(left;simp[isK,lk,c1,c2];done)|(right;simp[Yl,r1K,St.get,St.set,putO,lk,c1,c2];done))
     |(rcases hq with rfl|rfl|rfl|rfl|rfl <;> first|(left;simp[isK,lk,c1,c2];done)|(right;simp[Yl,r1K,St.get,St.set,putO,lk,c1,c2];done))
 . intro k;have n1:=Zhs (p:=shP id) (f:=(·.no)) (L:=L) (k:=k);have n2:=Zhs (p:=phP id) (f:=(·.no)) (L:=L) (k:=k);have m1:shK id L k=[]->¬phK id L k=[]->w=true:=hwA k;have m2:phK id L k=[]->¬shK id L k=[]->w=false:=hwB k
   have m3:shK id L k=[]->phK id L k=[]->shK id L (k+1)=[]∨phK id L (k+1)=[]:=λh1 h2=>by
    by_cases c:k<L.length
    . have a1:=Zg5 (p:=shP id) (f:=(·.no)) c;have a2:=Zg5 (p:=phP id) (f:=(·.no)) c;by_cases b:shP id L[k]=true
      . right
        have b2:phP id L[k]=false:=by
         simp only[shP,phP,Bool.and_eq_true,Bool.not_eq_true',decide_eq_false_iff_not,Bool.and_eq_false_iff]at b ⊢;exact .inr b.2
        rw[b2]at a2;exact a2.trans h2
      . left
        rw[if_neg b]at a1;exact a1.trans h1
    . left
      unfold shK pkL at *;rw[List.take_of_length_le (by omega)]at *;exact h1
   simp only[hpB,hpU,nlO,nlV,nlN];by_cases c1:shK id L k=[] <;> by_cases c2:phK id L k=[] <;> by_cases c3:shK id L (k+1)=[] <;> by_cases c4:phK id L (k+1)=[]
   all_goals
    first
     |exact absurd (n1 c3) c1
     |exact absurd (n2 c4) c2
     |(have:=m3 c1 c2;simp[c3,c4]at this;done)
     |(simp[m1 c1 c2,c1,c2,c3,c4,Yl,r1K,AV.ren,ZfN,Zhu];done)
     |(simp[m2 c2 c1,c1,c2,c3,c4,Yl,r1K,AV.ren,ZfN,Zhu];done)
     |(cases w <;> simp[c1,c2,c3,c4,Yl,r1K,AV.ren,ZfN,Zhu];done)
 . have e0:shK id L 0=[]:=Zg7 _ _ _;have e1:phK id L 0=[]:=Zg7 _ _ _;simp[hpB,nlO,nlV,e0,e1,Yl,r1K,St.set,putO,AObj.ren,AV.ren]
 . intro k q hq;have hk1:∀ o:List (Nat×AObj),Yc o (.row 1 ((shK id L k).map ia))=true:=λo=>Zfc o _
   have hk2:∀ o:List (Nat×AObj),Yc o (.row 1 ((phK id L k).map ia))=true:=λo=>Zfc o _
   cases w <;> by_cases c1:shK id L k=[] <;> by_cases c2:phK id L k=[] <;> simp only[hpB,nlO,nlV,c1,c2,if_true,if_false,Bool.false_eq_true,List.cons_append,List.nil_append,List.append_nil,List.mem_cons,List.not_mem_nil,or_false]at hq ⊢
   all_goals
    first
     |(rcases hq with rfl|rfl|rfl <;> first|exact hk1 _|exact hk2 _|(simp[Yc,Ya,AV.keys,lk];done))
     |(rcases hq with rfl|rfl|rfl|rfl <;> first|exact hk1 _|exact hk2 _|(simp[Yc,Ya,AV.keys,lk];done))
     |(rcases hq with rfl|rfl|rfl|rfl|rfl <;> first|exact hk1 _|exact hk2 _|(simp[Yc,Ya,AV.keys,lk];done))
 . intro q hq;simp at hq;rcases hq with rfl|rfl|rfl
   all_goals
    refine ⟨by simp[lk,AV.ren,r1K],by simp,by simp,λj k hk=>?_⟩;simp[AV.keys]at hk;subst hk;simp only[hpB];simp[isK,lk]
 . intro k x hx hk R' hG hN;obtain ⟨i,hkl,rfl⟩:=hat k x hx;have sc:=Zg5 (p:=shP id) (f:=(·.no)) hkl;have pc:=Zg5 (p:=phP id) (f:=(·.no)) hkl;have hle:=Zg6 (shP id) (·.no) L k;have hle2:=Zg6 (phP id) (·.no) L k;obtain ⟨y,hy⟩ : ∃ y,y=L[k]:=⟨_,rfl⟩;rw[<- hy]at sc pc ⊢;have hpt:ptA y=[.int .i64 y.no,.int .i64 y.dy,.int .i64 y.ho,.int .i64 y.dw,.int .i64 y.lt,.int .i64 y.bk,.int .u8 y.lo]:=rfl;have e1:∀ k,pkL (shP id) (·.no) L k=shK id L k:=λ_=>rfl
   have e2:∀ k,pkL (phP id) (·.no) L k=phK id L k:=λ_=>rfl
   rw[e1,e1]at sc;rw[e2,e2]at pc;rw[e1]at hle;rw[e2]at hle2;clear hwA hwB;generalize shK id L k=S at *;generalize shK id L (k+1)=T at *;generalize phK id L k=P at *;generalize phK id L (k+1)=Q at *;have bb:(S.length+1)*8<=70368744177664:=(by omega);have bb2:(P.length+1)*8<=70368744177664:=by omega
   cases w <;> by_cases cS:S=[] <;> by_cases cP:P=[]
   all_goals
    refine Qga ?_;simp only[hpB,nlV,nlO,cS,cP,if_true,if_false,Bool.false_eq_true,List.cons_append,List.nil_append,List.append_nil];simp -implicitDefEqProofs[hpt];intro R'' hG'' hN'';refine Qga ?_;by_cases q1:y.ho=id
    case neg =>
     have b1:shP id y=false:=(by simp[shP,q1]);have b2:phP id y=false:=(by simp[phP,q1]);rw[b1]at sc;rw[b2]at pc;have sc:T=S:=sc;have pc:Q=P:=pc;subst sc pc;simp -implicitDefEqProofs[hpt,q1];refine ⟨?_,by omega⟩;simp[hpU,Yi,Zfw,Zh6,frzA,frz,AV.keys,nlV,nlO,nlN,cS,cP]
    by_cases q3:y.lo=1
    . have b1:shP id y=false:=(by simp[shP,q3]);have b2:phP id y=true:=(by simp[phP,q1,q3]);rw[b1]at sc;rw[b2,if_pos rfl]at pc;have sc:T=S:=sc;subst sc;have hne:¬Q=[]:=(by rw[pc];simp);have hTl:Q.length=P.length+1:=(by rw[pc];simp);have em:Q.map ia=P.map ia++[[.int .i64 y.no]]:=(by rw[pc,List.map_append];rfl);simp -implicitDefEqProofs[hpt,q1,q3,bb2];refine ⟨?_,by omega⟩;simp only[hpU,nlV,nlO,nlN,hne,if_false,hTl,em,cS,cP];simp[cS,cP,Yi,Zfw,frzO,frzA,frz,AV.keys,ia,Function.comp_def]
    . have b1:shP id y=true:=(by simp[shP,q1,q3]);have b2:phP id y=false:=(by simp[phP,q3]);rw[b2]at pc;rw[b1,if_pos rfl]at sc;have pc:Q=P:=pc;subst pc;have hne:¬T=[]:=(by rw[sc];simp);have hTl:T.length=S.length+1:=(by rw[sc];simp);have em:T.map ia=S.map ia++[[.int .i64 y.no]]:=(by rw[sc,List.map_append];rfl);simp -implicitDefEqProofs[hpt,q1,q3,bb];refine ⟨?_,by omega⟩;simp only[hpU,nlV,nlO,nlN,hne,if_false,hTl,em,cS,cP];simp[cS,cP,Yi,Zfw,frzO,frzA,frz,AV.keys,ia,Function.comp_def]
 . intro _;rw[eN];generalize shK id L L.length=S at *;generalize phK id L L.length=P at *
   cases w <;> by_cases cS:S=[] <;> by_cases cP:P=[]
   all_goals
    simp only[hpB,nlV,nlO,cS,cP,if_true,if_false,Bool.false_eq_true,List.cons_append,List.nil_append,List.append_nil];simp -implicitDefEqProofs[Yl,r1K,AV.ren,ZfN,Zhu];refine Qgr ?_;simp -implicitDefEqProofs[Yg,cS,cP,ia];rfl
end
section
variable {G:Nat->Option (List AV)}
end
end Go.Proofs.YtcdlimgkliklhaaGreatDoor
