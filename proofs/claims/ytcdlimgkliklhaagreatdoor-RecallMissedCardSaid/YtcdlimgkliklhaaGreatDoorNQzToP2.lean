/-
  The program's comparison of two plans.
-/
import Derived.Shelf.Spec.SlicesInsert
import Derived.Test.YtcdlimgkliklhaaGreatDoorNPfToQy
import Derived.WalkKit
import Derived.Lib.Walk
import Derived.Lib.SliceRun
import Derived.Lib.JoinLaws
import Derived.Lib.AppendZerosOnto
import Derived.Lib.Overlaps
import Derived.Laws.Externs
import Derived.Laws.IdiomCopy
import Derived.Laws.NewBlocks
import Derived.Deep.RegionLaw
set_option linter.all false
set_option maxHeartbeats 8000000
namespace Go.Proofs.YtcdlimgkliklhaaGreatDoor
open Go.Proofs.Tryz (prog)
open IntKind (i64)
open Go.RowKit
variable {G:Jg}
def or3 (L:List Int):Int:=(L.find? λx=>!decide (x=0)).getD 0
def cpN (p q:List Int×List Int):Int:=or3 [((szP p:Nat):Int)-((szP q:Nat):Int),(p.1.length:Int)-(q.1.length:Int),cmI p.1 q.1]
def ZlQ (p q:List Int×List Int):decide (cpN p q<0)=btB p q:=by
 unfold cpN or3 btB bfr;by_cases h1:szP p=szP q
 . have e1:((szP p:Nat):Int)-((szP q:Nat):Int)=0:=(by omega);by_cases h2:p.1.length=q.1.length
   . have e2:(p.1.length:Int)-(q.1.length:Int)=0:=(by omega);rw[<- ZlO p.1 q.1 h2];by_cases h3:cmI p.1 q.1=0
     . simp[e1,e2,h1,h2,h3]
     . simp[e1,e2,h1,h2,h3]
   . have e2:¬(p.1.length:Int)-(q.1.length:Int)=0:=(by omega);simp[e1,e2,h1,h2];omega
 . have e1:¬((szP p:Nat):Int)-((szP q:Nat):Int)=0:=(by omega);simp[e1,h1];omega
def ZlR (L:List Int) (h:Sml L):PC prog G 151 [.vsl (L.map ia)] (.int .i64 (or3 L)):=by
 unfold Sml at h
 (refine Zdh rfl λR hG hrd=>Qga ?_;subst hG)
 simp -implicitDefEqProofs[Zdf,Zdg];refine Z8a (λi=>⟨[(8,.int .i64 i),(7,.int .i64 L.length),(6,.vsl (L.map ia)),(3,.int .i64 0)],[]⟩) (λi=>or3 L=or3 (L.drop i)) L.length ?_ rfl ?_ ?_
 . (refine Wkc ?_;simp only[Wkl,and_true];(try simp[lk,Yc,Ya,AV.keys]))
 . intro i hi he;have wi:i64.wrap ((i:Int)+1)=(i:Int)+1:=Yf;rw[W0x hi]at he;obtain ⟨u,hu⟩:=Qex (or3 L);rw[<- hu]at he ⊢;refine Qga ?_;by_cases c:L[i]=0
   . have he2:u=or3 (L.drop (i+1)):=(by rw[he];simp[or3,c]);simp -implicitDefEqProofs[hi,ia,c,wi];refine ⟨?_,he2⟩
     (refine Wkc ?_;simp only[Wkl,and_true];(try simp[lk,Yc,Ya,AV.keys]))
   . have he2:u=L[i]:=(by rw[he];unfold or3;rw[List.find?_cons_of_pos (by simpa using c)];rfl);simp -implicitDefEqProofs[hi,ia,c];refine Qgr ?_;simp -implicitDefEqProofs[he2]
 . intro he;rw[List.drop_length]at he;have he:or3 L=0:=he;rw[he];refine Qga ?_;simp -implicitDefEqProofs;refine Qgr ?_;simp -implicitDefEqProofs
def ZlS (p q:List Int×List Int) (h1:p.1.length<=100) (h2:p.2.length<=100) (h3:q.1.length<=100) (h4:q.2.length<=100) :
  PC prog G 150 [.agg [.vsl (p.1.map ia),.vsl (p.2.map ia)],.agg [.vsl (q.1.map ia),.vsl (q.2.map ia)]] (.int .i64 (cpN p q)):=by
 have c1:=ZlM (G:=G) p.1 p.2 (by unfold Sml;omega) (by unfold Sml;omega);have c2:=ZlM (G:=G) q.1 q.2 (by unfold Sml;omega) (by unfold Sml;omega);have c3:=ZlP (G:=G) p.1 q.1 (by unfold Sml;omega) (by unfold Sml;omega);have c4:=ZlR (G:=G) [((szP p:Nat):Int)-((szP q:Nat):Int),(p.1.length:Int)-(q.1.length:Int),cmI p.1 q.1] (by simp[Sml])
 have w1:i64.wrap (((p.1.length+p.2.length:Nat):Int)-((q.1.length+q.2.length:Nat):Int))=((szP p:Nat):Int)-((szP q:Nat):Int):=by
  unfold szP;exact Yf
 have w2:i64.wrap ((p.1.length:Int)-(q.1.length:Int))=(p.1.length:Int)-(q.1.length:Int):=Yf;unfold cpN;have e4:[((szP p:Nat):Int)-((szP q:Nat):Int),(p.1.length:Int)-(q.1.length:Int),cmI p.1 q.1].map ia=[[.int .i64 (((szP p:Nat):Int)-((szP q:Nat):Int))],[.int .i64 ((p.1.length:Int)-(q.1.length:Int))],[.int .i64 (cmI p.1 q.1)]]:=rfl;rw[e4]at c4;generalize or3 [((szP p:Nat):Int)-((szP q:Nat):Int),(p.1.length:Int)-(q.1.length:Int),cmI p.1 q.1]=w at *;generalize ((p.1.length+p.2.length:Nat):Int)=n1 at *;generalize ((q.1.length+q.2.length:Nat):Int)=n2 at *;generalize ((szP p:Nat):Int)-((szP q:Nat):Int)=n3 at *;generalize cmI p.1 q.1=n4 at *;have hr3:List.range 3=[0,1,2]:=rfl
 (refine ZfX rfl λR hG hrd=>Qga ?_;subst hG)
 simp -implicitDefEqProofs[ZfV,ZfW];refine Ye.of c1 (by simp[AV.pure,ia]) ?_;simp -implicitDefEqProofs;refine Ye.of c2 (by simp[AV.pure,ia]) ?_;simp -implicitDefEqProofs[w1,w2];refine Ye.of c3 (by simp[AV.pure,ia]) ?_;simp -implicitDefEqProofs[hr3];refine Ye.of c4 (by simp[AV.pure]) ?_;simp -implicitDefEqProofs;rfl
def pvA (p:List Int×List Int):AV:=.agg [Yg (p.1.map ia),Yg (p.2.map ia)]
def fsK (P:List (List Int×List Int)):Nat->List Int×List Int
 |0=>([],[])
 |k+1=>if k=0∨btB (P.getD k ([],[])) (fsK P k)=true then P.getD k ([],[]) else fsK P k
def ZlT {P:List (List Int×List Int)}:∀ k,k<=P.length->fsK P k=([],[])∨fsK P k∈P
 |0,_=>.inl rfl
 | k + 1,h=>by
   rw[fsK];have hk:k<P.length:=by omega
   split
   . right
     rw[W0j,W07 hk];exact W0e hk
   . exact ZlT k (by omega)
def fsO (b:List Int×List Int) (k:Nat):List (Nat×AObj):=[(1003,.box [.func (.func 150) [] []]),(1005,.box [Yg (b.1.map ia),Yg (b.2.map ia)]),(1006,.box [.bool (decide (0<k))])]
def ZlU (S:List Int):Yg (S.map ia) = .nils∨Yg (S.map ia) = .vsl (S.map ia):=by
 unfold Yg
 split
 . exact .inl rfl
 . exact .inr rfl
def ZlV (gf:FuncId) (caps:List AV) (P:List (List Int×List Int)) (hc:caps.all AV.pure=true) (hit:IterG prog G gf caps (P.map pvA)) (hP:∀ p∈P,p.1.length<=100/\p.2.length<=100) :
  PC prog G 148 [.func (.func gf) [] caps,.func (.func 150) [] []] (pvA (fsK P P.length)):=by
 refine ZfK rfl λR hG' hrd=>?_
 subst hG';refine Qga ?_;simp -implicitDefEqProofs[ZfI,ZfJ];refine ZeU hrd hit (by simp[evA,St.tmp,lk]) hc r1K [(3,.ptr 1003 0),(5,.ptr 1005 0),(6,.ptr 1006 0)] (λk=>fsO (fsK P k) k) [1003,1005,1006] (λk=>k<=P.length) (W1f _) (λ_=>rfl) (by simp) (by simp[r1K]) ?_ ?_ ?_ ?_ ?_
 . simp[fsO,fsK,Yg,Yl,r1K,St.set,putO,AObj.ren,AV.ren]
 . intro k q hq;simp[fsO]at hq;rcases hq with rfl|rfl|rfl
   . simp[Yc,Ya,AV.keys]
   . simp[Yc,Ya,Zec]
   . simp[Yc,Ya,AV.keys]
 . intro q hq;simp at hq;rcases hq with rfl|rfl|rfl
   all_goals exact ⟨by simp[lk,AV.ren,r1K],by simp,by simp[AV.keys]⟩
 . intro k x hx hk R' hG1 hN1;rw[W09]at hx;obtain ⟨p,hp,rfl⟩:=W04.1 hx;obtain ⟨hkl,hpe⟩:=W02.1 hp;have hpm:p∈P:=(by rw[<- hpe];exact W0e hkl);have hgd:P.getD k ([],[])=p:=by rw[W0j,hp];rfl
   have hbl:(fsK P k).1.length<=100/\(fsK P k).2.length<=100:=by
    rcases ZlT (P:=P) k (by omega) with h|h
    . rw[h];simp
    . exact hP _ h
   obtain ⟨l1,l2⟩:=hP p hpm;have sc:fsK P (k+1)=if k=0∨btB p (fsK P k)=true then p else fsK P k:=by rw[fsK,hgd]
   obtain ⟨b,hb⟩:=Qex (fsK P k);rw[<- hb]at sc hbl;have hcm:=PC.sub (ZlS (G:=R.G) p b l1 l2 hbl.1 hbl.2) (xs:=[.agg [Yg (p.1.map ia),Yg (p.2.map ia)],.agg [Yg (b.1.map ia),Yg (b.2.map ia)]]) ⟨.agg ⟨.orNil _,.orNil _,trivial⟩,.agg ⟨.orNil _,.orNil _,trivial⟩,trivial⟩;have hlt:=ZlQ p b;obtain ⟨n,hn⟩:=Qex (cpN p b);rw[<- hn]at hcm hlt;obtain ⟨T,hT⟩:=Qex (fsK P (k+1));rw[<- hT]at sc;have hO1:fsO (fsK P k) k=[(1003,.box [.func (.func 150) [] []]),(1005,.box [Yg (b.1.map ia),Yg (b.2.map ia)]),(1006,.box [.bool (decide (0<k))])]:=(by rw[fsO,<- hb]);have hO2:fsO (fsK P (k+1)) (k+1)=[(1003,.box [.func (.func 150) [] []]),(1005,.box [Yg (T.1.map ia),Yg (T.2.map ia)]),(1006,.box [.bool true])]:=(by rw[fsO,<- hT];simp);show AR _ _ _ ⟨(9,pvA p)::_,fsO (fsK P k) k⟩ _;rw[hO1];simp only[hO2];unfold pvA;obtain ⟨V1,hV1⟩ : ∃ V,V=Yg (p.1.map ia):=⟨_,rfl⟩;obtain ⟨V2,hV2⟩ : ∃ V,V=Yg (p.2.map ia):=⟨_,rfl⟩;obtain ⟨W1,hW1⟩ : ∃ V,V=Yg (b.1.map ia):=⟨_,rfl⟩;obtain ⟨W2,hW2⟩ : ∃ V,V=Yg (b.2.map ia):=⟨_,rfl⟩;have hkl':k+1<=P.length:=hkl;have pW1:W1.pure=true:=(by rw[hW1];exact ZjA _);have pW2:W2.pure=true:=(by rw[hW2];exact ZjA _);have fW1:∀ ok st,frz ok st 6 W1=some W1:=λok st=>by rw[hW1];unfold Yg;split <;> simp[frz,AV.keys]
   have fW2:∀ ok st,frz ok st 6 W2=some W2:=λok st=>by rw[hW2];unfold Yg;split <;> simp[frz,AV.keys]
   rw[<- hV1,<- hV2,<- hW1,<- hW2]at hcm;rw[<- hV1,<- hV2,<- hW1,<- hW2];have d1:V1 = .nils∨V1 = .vsl (p.1.map ia):=(by rw[hV1];exact ZlU _);have d2:V2 = .nils∨V2 = .vsl (p.2.map ia):=(by rw[hV2];exact ZlU _);by_cases k0:k=0
   case' pos =>
    have hr:[Yg (T.1.map ia),Yg (T.2.map ia)]=[V1,V2]:=by rw[sc,if_pos (.inl k0),hV1,hV2]
   case' neg =>
    have k0':0<k:=by omega
    have hr:[Yg (T.1.map ia),Yg (T.2.map ia)]=if decide (n<0)=true then [V1,V2] else [W1,W2]:=by
     rw[hlt,sc];by_cases hq:btB p b=true
     . rw[if_pos (.inr hq),if_pos hq,hV1,hV2]
     . rw[if_neg (by simp[k0,hq]),if_neg hq,hW1,hW2]
   all_goals
    rw[hr];clear hV1 hV2 hW1 hW2 hr;rcases d1 with rfl|rfl <;> rcases d2 with rfl|rfl
    all_goals
     refine Qga ?_;simp -implicitDefEqProofs;intro R'' hG2 hN2;refine Qga ?_
     first
      |(subst k0;simp -implicitDefEqProofs[RndB,Yi,newK,Zeu,frzA,frz,AV.keys,hkl',fW1,fW2];done)
      | (simp -implicitDefEqProofs[k0',hG2]
         refine Yd.of hcm (by simp[AV.pure,ia,pW1,pW2]) ?_;by_cases c:n<0
         . simp -implicitDefEqProofs[c,RndB,Yi,newK,Zeu,frzA,frz,AV.keys,hkl',fW1,fW2]
           done
         . simp -implicitDefEqProofs[c,RndB,Yi,newK,Zeu,frzA,frz,AV.keys,hkl',fW1,fW2]
           done)
 . intro _;rw[W0N];obtain ⟨b,hb⟩:=Qex (fsK P P.length);rw[<- hb];have d1:=ZlU b.1;have d2:=ZlU b.2;unfold fsO pvA;generalize Yg (b.1.map ia)=W1 at *;generalize Yg (b.2.map ia)=W2 at *;rcases d1 with rfl|rfl <;> rcases d2 with rfl|rfl
   all_goals
    simp -implicitDefEqProofs[Yl,r1K,AV.ren,ZeV];refine Qgr ?_;simp -implicitDefEqProofs[ia]
def plE (ids dl:List Int) (L:Jp):List (List Int×List Int):=(List.range (2 ^ ids.length)).map (plN ids dl L)
def ZlW {ids dl:List Int} {L:Jp}:(plE ids dl L).length=2 ^ ids.length:=by simp[plE]
def ZlX {ids dl:List Int} {L:Jp}:∀ k,k<2 ^ ids.length->fsK (plE ids dl L) (k+1)=caN ids dl L k
 | 0,h=>by
   have e:(plE ids dl L).getD 0 ([],[])=plN ids dl L 0:=by
    unfold plE;rw[W0j,W09,W0L h];rfl
   rw[fsK,if_pos (.inl rfl),e];rfl
 | k+1,h=>by
   have e:(plE ids dl L).getD (k+1) ([],[])=plN ids dl L (k+1):=by
    unfold plE;rw[W0j,W09,W0L h];rfl
   rw[fsK,e,ZlX k (by omega),caN];simp
def ZlY {ids dl:List Int} {L:Jp}:fsK (plE ids dl L) (plE ids dl L).length=caE ids dl L:=by
 have h:=Nat.two_pow_pos ids.length;have e:(plE ids dl L).length=(2 ^ ids.length-1)+1:=(by rw[ZlW];omega);rw[e,ZlX _ (by omega)];rfl
def ZlZ (r:Jr) (l:Jl) (hs:Jh) (ps:Jp) (S:Jp):PC prog G 149 [ofA r l hs ps,Yg (S.map ptA)] (.func (.func 179) [] [.vptr [ofA r l hs ps] 0,.vptr [Yg (S.map ptA)] 0]):=by
 have pO:=Zi9 r l hs ps;obtain ⟨cs,eS⟩ : ∃ cs,ofA r l hs ps = .vptr cs 0:=⟨_,rfl⟩;rw[eS]at pO ⊢;have pW:=ZlI S
 have d:Yg (S.map ptA) = .nils∨Yg (S.map ptA) = .vsl (S.map ptA):=by
  unfold Yg
  split
  . exact .inl rfl
  . exact .inr rfl
 generalize Yg (S.map ptA)=W at *;rcases d with rfl|rfl
 . (refine ZfN rfl λR hG hrd=>Qga ?_;subst hG)
   simp -implicitDefEqProofs[ZfL,ZfM,pO]
 . (refine ZfN rfl λR hG hrd=>Qga ?_;subst hG)
   simp -implicitDefEqProofs[ZfL,ZfM,pO,ptA]
def Zm0 (r:Jr) (l:Jl) (hs:Jh) (ps:Jp) (S:Jp) (P:List (List Int×List Int))
  (hit:IterG prog G 179 [.vptr [ofA r l hs ps] 0,.vptr [Yg (S.map ptA)] 0] (P.map pvA)) (hP:∀ p∈P,p.1.length<=100/\p.2.length<=100) :
  PC prog G 95 [ofA r l hs ps,Yg (S.map ptA)] (pvA (fsK P P.length)):=by
 have pO:=Zi9 r l hs ps;have pW:=ZlI S;have c1:=ZlZ (G:=G) r l hs ps S;have c2:=ZlV (G:=G) _ [.vptr [ofA r l hs ps] 0,.vptr [Yg (S.map ptA)] 0] P (by simp[AV.pure,pO,pW]) hit hP;obtain ⟨b,hb⟩:=Qex (fsK P P.length);rw[<- hb]at c2 ⊢;have d1:=ZlU b.1;have d2:=ZlU b.2;unfold pvA at c2 ⊢;generalize Yg (b.1.map ia)=W1 at *;generalize Yg (b.2.map ia)=W2 at *;generalize ofA r l hs ps=O at *;generalize Yg (S.map ptA)=W at *;rcases d1 with rfl|rfl <;> rcases d2 with rfl|rfl
 all_goals
  (refine Zg0 rfl λR hG hrd=>Qga ?_;subst hG)
  simp -implicitDefEqProofs[ZfY,ZfZ];refine Yd.of c1 (by simp[pO,pW]) ?_;simp -implicitDefEqProofs;refine Yd.of c2 (by simp[AV.pure,pO,pW]) ?_;simp -implicitDefEqProofs[ia]
def Zm1 (g:Nat) (caps:List AV) (p:Prt->Bool) (l:Jp) (hc:caps.all AV.pure=true) (hl:Sml l)
  (hg:∀ x∈l,PC prog G g (.agg (ptA x)::caps) (.bool (p x))) :
  PC prog G 180 [.vsl (l.map ptA),.func (.func g) [] caps] (.int .i64 (fstOf p l)):=by
 (refine Zfz rfl λR hG hrd=>Qga ?_;subst hG)
 unfold Sml at hl;have hc2:∀ x∈caps,x.pure=true:=W03.1 hc;simp -implicitDefEqProofs[Zfx,Zfy];refine Z8a (λi=>⟨[(8,.int .i64 i),(7,.int .i64 l.length),(0,.vsl (l.map ptA)),(1,.func (.func g) [] caps)],[]⟩) (λi=>∀ j (h:j<l.length),j<i->p l[j]=false) l.length (by (first|exact Wka|exact Wkb)) (by simp) ?_ ?_
 . intro i hi he;refine Qga ?_;have w1:i64.wrap ((i:Int)+1)=((i+1:Nat):Int):=Yf;have hgi:=hg _ (W0e hi);have hln:(ptA l[i]).length=7:=rfl;have htk:(ptA l[i]).take 7=ptA l[i]:=rfl;simp -implicitDefEqProofs[hi,hln,htk];refine Yd.of hgi (by simpa [AV.pure,ptA] using hc2) ?_
   cases h3:p l[i]
   . simp -implicitDefEqProofs[w1];refine ⟨(by (first|exact Wka|exact Wkb)),λj q1 q2=>?_⟩;by_cases e:j=i
     . subst e;exact h3
     . exact he j q1 (by omega)
   . simp -implicitDefEqProofs;refine Qgr ?_;simp -implicitDefEqProofs[Z8X hi h3 he]
 . intro he;refine Qga ?_;simp -implicitDefEqProofs;refine Qgr ?_;simp -implicitDefEqProofs[Z8Y (p:=p) (l:=l) (λj hj=>he j hj hj)]
def Zm2 (g:Nat) (caps:List AV) (p:Prt->Bool) (l:Jp) (hc:caps.all AV.pure=true) (hl:Sml l)
  (hg:∀ x∈l,PC prog G g (.agg (ptA x)::caps) (.bool (p x))) :
  PC prog G 153 [.vsl (l.map ptA),.func (.func g) [] caps] (.bool (l.any p)):=by
 have hi:=Zm1 (G:=G) g caps p l hc hl hg;have e:=Z8Z p l
 (refine ZfC rfl λR hG hrd=>Qga ?_;subst hG)
 have hc2:∀ x∈caps,x.pure=true:=W03.1 hc;simp -implicitDefEqProofs[ZfA,ZfB];refine Yd.of hi (by simpa [AV.pure] using hc2) ?_;simp -implicitDefEqProofs[e]
def Zm3 (x y:Prt):PC prog G 154 [.agg (ptA y),.vptr (ptA x) 0] (.bool (clP x y)):=by
 unfold clP ptA
 (refine Zfw rfl λR hG hrd=>Qga ?_;subst hG)
 by_cases h1:y.ho=x.ho
 . simp -implicitDefEqProofs[Zfu,Zfv,h1]
 . have h1':¬x.ho=y.ho:=λh=>h1 h.symm
   by_cases h2:y.dw=x.dw
   . simp -implicitDefEqProofs[Zfu,Zfv,h1,h1',h2]
   . have h2':¬x.dw=y.dw:=λh=>h2 h.symm
     simp -implicitDefEqProofs[Zfu,Zfv,h1,h1',h2,h2']
def Zm4 (l:Jp) (hne:l≠[]) (hl:Sml l):PB prog G 155 [] [.vsl (l.map ptA)] (.osl 5 l.length) [(5,.row 7 (l.map ptA))]:=by
 refine Z5i (λk=>decide (k<1000) && !(k == 5)) (by intro k hk;simp at hk;omega) Tryz.func155 rfl (by kernel_rfl) (rc:=ZfD) (by kernel_rfl) (rs:=ZfE) (by kernel_rfl) (W0C rfl) λR _ hG hrd=>Qga ?_
 subst hG;unfold Sml at hl;have b1:l.length*56<=70368744177664:=(by omega);have h0:¬l.length=0:=λe=>hne (W0l.1 e)
 have k1:(l.map ptA).all (λr=>r.length == 7)=true:=(by simp[ptA]);have k2:(l.map ptA).all (λr=>r.all AV.one)=true:=(by simp[ptA,AV.one]);simp -implicitDefEqProofs[ZfD,ZfE,h0,hne,b1,k1,k2];simp -implicitDefEqProofs[FinO,Yi,ZlF,frzA,frz,AV.keys]
def pmA (L:Jp):List (AV×AV):=L.map λy=>(.int .i64 y.no,.agg (ptA y))
def Zm5 (n:Int):∀ l:List Prt,(KK.i .i64).find (.int .i64 n) (pmA l)=some (l.findIdx? λp=>decide (n=p.no))
 |[]=>rfl
 | p::r=>by
   have ih:=Zm5 n r;have e:pmA (p::r)=(.int .i64 p.no,.agg (ptA p))::pmA r:=rfl;have e2:(KK.i .i64).eq (.int .i64 n) (.int .i64 p.no)=some (decide (n=p.no)):=(by simp[KK.eq]);rw[e,KK.find,e2,ih,List.findIdx?_cons];by_cases c:n=p.no
   . simp[c]
   . simp[c]
def Zm6 {y:Prt} {l:Jp} (h:∀ p∈l,p.no≠y.no):(KK.i .i64).put (.int .i64 y.no) (.agg (ptA y)) (pmA l)=some (pmA (l++[y])):=by
 unfold KK.put;rw[if_pos (show (KK.i .i64).is (.int .i64 y.no)=true from rfl),Zm5]
 have q:(l.findIdx? λp=>decide (y.no=p.no))=none:=by
  rw[W1F];intro p hp;simp;exact λe=>h p hp e.symm
 rw[q];simp[pmA]
def Zm7 {α β:Type} (f:α->β):∀ (l:List α) (j:Nat),(l.map f).eraseIdx j=(l.eraseIdx j).map f
 |[],_=>rfl
 |_::_,0=>rfl
 |x::t,j+1=>by simp only[W0F,List.eraseIdx_cons_succ];rw[Zm7 f t j]
def er_no:∀ (l:Jp) (j:Nat) (h:j<l.length),(l.map (·.no)).Nodup->l.eraseIdx j=l.filter λp=>!decide (l[j].no=p.no)
 | x::t,0,_,hn=>by
   rw[W0F,W1z]at hn
   have e:t.filter (λp=>!decide (x.no=p.no))=t:=List.filter_eq_self.2 λp hp=>by
    have:x.no≠p.no:=λe=>hn.1 (e ▸ W0i.2 ⟨p,hp,rfl⟩)
    simpa using this
   simp[e]
 | x::t,j+1,h,hn=>by
   rw[W0F,W1z]at hn;have hj:j<t.length:=(by simpa using h);have ih:=er_no t j hj hn.2;have:t[j].no≠x.no:=λe=>hn.1 (e ▸ W0i.2 ⟨t[j],W0e hj,rfl⟩)
   simp[ih,this]
def Zm8 {n:Int} {l:Jp} (h:(l.map (·.no)).Nodup):(KK.i .i64).del (.int .i64 n) (pmA l)=some (pmA (l.filter λp=>!decide (n=p.no))):=by
 unfold KK.del;rw[if_pos (show (KK.i .i64).is (.int .i64 n)=true from rfl),Zm5]
 cases q:l.findIdx? λp=>decide (n=p.no) with
 | none =>
   rw[W1F]at q;have:(l.filter λp=>!decide (n=p.no))=l:=List.filter_eq_self.2 λy hy=>by have:=q y hy;simpa using this
   rw[this]
 | some j =>
   rw[W1A]at q;obtain ⟨h1,h2,-⟩:=q;have h3:n=l[j].no:=(by simpa using h2);have e1:(pmA l).eraseIdx j=pmA (l.eraseIdx j):=Zm7 _ l j;simp only[e1,er_no l j h1 h,h3]
def Zm9 (o:List (Nat×AObj)) (l:Jp):Yc o (.mp (pmA l))=true:=by simp[Yc,pmA,ptA,Ya,AV.keys]
def Zma (l:Jp):(pmA l).all (λp=>p.1.pure&&p.2.pure)=true:=by simp[pmA,ptA,AV.pure]
def Zmb (ok:Nat->Bool) (st:St) (l:Jp):frzO ok st (.mp (pmA l)) = .mp (pmA l):=by
 have e:∀ p:Prt,frzA ok st (.agg (ptA p)) = .agg (ptA p):=λp=>by simp[frzA,frz,ptA,AV.keys]
 have e2:∀ n,frzA ok st (.int .i64 n) = .int .i64 n:=λn=>by simp[frzA,frz,AV.keys]
 simp only[frzO,pmA,W10]
 congr 1
 exact W0K λp _=>by simp only[Function.comp,e,e2]
def pm_fz (ok:Nat->Bool) (st:St) (l:Jp):(pmA l).map (λp=>((frz ok st 6 p.1).getD .undef,(frz ok st 6 p.2).getD .undef))=pmA l:=by
 have:=Zmb ok st l;simpa only [frzO,frzA,AObj.mp.injEq] using this
def lfI (Z:Jp) (id:Int) (S:Jp) (k:Nat):List Prt:=(S.take k).foldl (λZ y=>if y.ho=id then Z.filter (λp=>!decide (y.no=p.no)) else Z) Z
def Zmc {Z:Jp} {id:Int} {S:Jp} {k:Nat} (h:k<S.length):lfI Z id S (k+1)=if S[k].ho=id then (lfI Z id S k).filter (λp=>!decide (S[k].no=p.no)) else lfI Z id S k:=by
 unfold lfI;rw[W08 h,W1q];rfl
def Zmd {Z:Jp} {id:Int} {S:Jp}:∀ k,k<=S.length->(lfI Z id S k).Sublist Z
 |0,_=>by simp[lfI]
 | k+1,h=>by
   have ih:=Zmd (Z:=Z) (id:=id) (S:=S) k (by omega);rw[Zmc (by omega)]
   split
   . exact List.filter_sublist.trans ih
   . exact ih
def Zme {Z:Jp} {id:Int} {S:Jp} {x:Prt}:∀ k,k<=S.length->(x∈lfI Z id S k↔x∈Z/\∀ y∈S.take k,y.ho=id->y.no≠x.no)
 |0,_=>by simp[lfI]
 | k + 1,h=>by
   have hk:k<S.length:=(by omega);rw[Zmc hk,W08 hk];have ih:=Zme (Z:=Z) (id:=id) (S:=S) (x:=x) k (by omega);by_cases c:S[k].ho=id
   . rw[if_pos c,W0G,ih];simp only[W0h,W0B,W1C,W1b]
     constructor
     . rintro ⟨⟨h1,h2⟩,h3⟩;refine ⟨h1,λy hy hi=>?_⟩;rcases hy with hy|rfl
       . exact h2 y hy hi
       . exact h3
     . rintro ⟨h1,h2⟩;exact ⟨⟨h1,λy hy=>h2 y (.inl hy)⟩,h2 _ (.inr rfl) c⟩
   . rw[if_neg c,ih];simp only[W0h,W0B]
     constructor
     . rintro ⟨h1,h2⟩;refine ⟨h1,λy hy hi=>?_⟩;rcases hy with hy|rfl
       . exact h2 y hy hi
       . exact absurd hi c
     . rintro ⟨h1,h2⟩;exact ⟨h1,λy hy=>h2 y (.inl hy)⟩
def lfK (ids:List Int) (v:Nat) (S:Jp):Nat->List Prt
 |0=>S
 |i+1=>if v / 2 ^ i % 2=1 then lfI (lfK ids v S i) (ids.getD i 0) S S.length else lfK ids v S i
def Zmf {ids:List Int} {v:Nat} {S:Jp}:∀ i,(lfK ids v S i).Sublist S
 |0=>.refl _
 | i+1=>by
   rw[lfK]
   split
   . exact (Zmd _ (W0f _)).trans (Zmf i)
   . exact Zmf i
def Zmg {S:Jp} (hn:(S.map (·.no)).Nodup) {x y:Prt} (hx:x∈S) (hy:y∈S) (e:x.no=y.no):x=y:=by
 obtain ⟨i,hi,rfl⟩:=W0k hx;obtain ⟨j,hj,rfl⟩:=W0k hy;have h2:=W0Y.1 hn;rcases W0R i j with c|c|c
 . exact absurd (by rw[W1w,W1w];exact e) (h2 i j (by simpa using hi) (by simpa using hj) c)
 . subst c;rfl
 . exact absurd (by rw[W1w,W1w];exact e.symm) (h2 j i (by simpa using hj) (by simpa using hi) c)
def Zmh {ids:List Int} {v:Nat} {S:Jp} (hn:(S.map (·.no)).Nodup) {x:Prt}:∀ i,(x∈lfK ids v S i↔x∈S/\(sbN ids v i).contains x.ho=false)
 |0=>by simp[lfK,sbN]
 | i + 1=>by
   have ih:=Zmh (ids:=ids) (v:=v) hn (x:=x) i;rw[lfK,sbN];by_cases c:v / 2 ^ i % 2=1
   . rw[if_pos c,if_pos c,Zme _ (W0f _),ih,W0v]
     have e:(sbN ids v i++[ids.getD i 0]).contains x.ho=((sbN ids v i).contains x.ho||decide (x.ho=ids.getD i 0)):=by
      rw[W2h];simp
     rw[e,W1T,W1b]
     constructor
     . rintro ⟨⟨h1,h2⟩,h3⟩;exact ⟨h1,h2,λe=>h3 x h1 e rfl⟩
     . rintro ⟨h1,h2,h3⟩;refine ⟨⟨h1,h2⟩,λy hy hi e=>?_⟩;rw[Zmg hn hy h1 e]at hi;exact h3 hi
   . rw[if_neg c,if_neg c,ih]
def pig:∀ (n:Nat) (D:List Nat),D.Nodup->(∀ i∈D,i<n)->D.length<=n
 | 0,D,_,h=>by
   cases D with
   |nil=>simp
   |cons a t=>exact absurd (h a (by simp)) (by omega)
 | n+1,D,hd,h=>by
   have h1:=pig n (D.erase n) (hd.erase n) λi hi=>by
    have:=(List.Nodup.mem_erase_iff hd).1 hi;have:=h i this.2;omega
   by_cases c:n∈D
   . rw[List.length_erase_of_mem c]at h1;omega
   . rw[List.erase_of_not_mem c]at h1;omega
def shU7 {n:Nat} (h:n<7):i64.wrap (2 ^ (min n IntKind.i64.bits))=((2 ^ n:Nat):Int):=by
 have h1:∀ k:_root_.Fin 7,i64.wrap (2 ^ (min k.val IntKind.i64.bits))=((2 ^ k.val:Nat):Int):=(by decide +kernel);exact h1 ⟨n,h⟩
def pow6 {n:Nat} (h:n<=6):2 ^ n<=64:=by
 have:n=0∨n=1∨n=2∨n=3∨n=4∨n=5∨n=6:=(by omega);rcases this with rfl|rfl|rfl|rfl|rfl|rfl|rfl <;> decide
def Nsub.vptr {xs ys:List AV} {off:Nat} (h:NsubL xs ys):Nsub (.vptr xs off) (.vptr ys off):=λM W u hu=>by
 cases hu with
 | vptr _ _ b o f hb hM hc hr =>
   refine .vptr ys off b o f hb hM (λj hj=>hc j (by rw[h.len];exact hj)) λj y hy=>?_
   obtain ⟨x,h2,h3⟩:=h.at j y hy;exact h3 _ _ _ (hr j x h2)
def IterG.sub {P:Program} {G:Jg} {gf:Nat} {caps caps' els:List AV} (h:IterG P G gf caps els) (hs:NsubL caps' caps):IterG P G gf caps' els :=
 ⟨h.1,λn l lb J K M W h0 h1 h2 h3 h4 hc=>h.2 n l lb J K M W h0 h1 h2 h3 h4 ⟨hc.1.trans hs.len,λi y u hi hu=>by
  obtain ⟨x,g1,g2⟩:=hs.at i y hi;exact g2 _ _ _ (hc.2 i x u g1 hu)⟩⟩
def plT (F W:AV) (K l i:Nat):List (Nat×AV):=[(22,.int .i64 i),(21,.int .i64 K),(2,.vptr [W] 0),(1,.vptr [F] 0),(0,.func (.yield l) [] [])]
def plU (F W:AV) (K l i:Nat):List (Nat×AV):=(6,.mp 25)::(5,.ptr 5 0)::(4,.int .i64 i)::plT F W K l i
def plA (F W:AV) (K l i:Nat) (S:Jp) (k:Nat):St:=⟨(28,.int .i64 k)::(27,.int .i64 S.length)::(26,W)::plU F W K l i,[(25,.mp (pmA (S.take k))),(5,.box [.nils,.nils])]⟩
def plB (F W:AV) (K l i:Nat) (hs:Jh) (Z:Jp) (A:List Int) (j:Nat):St:=⟨(43,.int .i64 j)::(42,.int .i64 hs.length)::(41,.vsl (hs.map hoa))::plU F W K l i,(25,.mp (pmA Z))::(5,.box [nlV 58 A,.nils])::nlO 58 A⟩
def plI (F W:AV) (K l i:Nat) (hs:Jh) (S:Jp) (h:Hld) (Z:Jp) (A:List Int) (j k:Nat):St :=
 ⟨(62,.int .i64 k)::(61,.int .i64 S.length)::(60,W)::(10,.ptr 10 0)::(43,.int .i64 j)::(42,.int .i64 hs.length)::(41,.vsl (hs.map hoa))::plU F W K l i,(10,.box (hoa h))::(25,.mp (pmA Z))::(5,.box [nlV 58 A,.nils])::nlO 58 A⟩
def dwD (Z:Jp) (D:List Nat):List Int:=D.map λi=>(pAt Z i).dw
def plV (F W:AV) (K l i:Nat) (Z:Jp) (V:AV) (U:List Int):St:=⟨(76,.vmap (pmA Z))::(5,.ptr 5 0)::plT F W K l i,(5,.box [V,nlV 88 U])::nlO 88 U⟩
structure VisD (n:Nat) where
 D:List Nat
 nd:D.Nodup
 bd:∀ i∈D,i<n
def VisD.has {n:Nat} (D:VisD n) (j:Nat):Bool:=D.D.contains j
def Zmi:PC prog G 116 [.nils] .nils:=by
 refine PC_of Tryz.func116 rfl (by kernel_rfl) (rc:=ZhN) (by kernel_rfl) (rs:=ZhO) (by kernel_rfl) (W0C rfl) λR _ hG hrd=>Qga ?_
 subst hG;simp -implicitDefEqProofs[ZhN,ZhO]
def Zmj (r:Jr) (l:Jl) (hs:Jh) (ps S:Jp) (hnS:(S.map (·.no)).Nodup) (hS:S.length<=41) (h6:hs.length<=6) (hdl:(nums r).Pairwise (· < ·)) (hd:∀ x∈S,x.dw∈nums r) :
  IterG prog G 179 [.vptr [ofA r l hs ps] 0,.vptr [.vsl (S.map ptA)] 0] ((plE (hs.map (·.id)) (nums r) S).map pvA):=by
 have eO:ofA r l hs ps = .vptr [.vsl (r.map isa),.vsl (l.map na),.vsl (hs.map hoa),.vsl (ps.map ptA),.vsl ((nums r).map ia)] 0:=rfl;have sh:=shU7 (n:=hs.length) (by omega);have hpw:=pow6 (n:=hs.length) h6;obtain ⟨ids,hids⟩:=Qex (hs.map (·.id));have lids:ids.length=hs.length:=(by rw[hids];simp);have gid:∀ i (h:i<hs.length),ids.getD i 0=hs[i].id:=λi h=>by rw[hids,W0j,W09,W07 h];rfl
 rw[<- hids]
 have hat:∀ v,v<2 ^ hs.length->∀ left:List Prt,(∀ x,x∈left↔x∈S/\(sbT ids v).contains x.ho=false)->(plE ids (nums r) S)[v]? = some (sbT ids v,setI (left.map (·.dw))):=by
  intro v hv left hm;unfold plE;rw[W09,W0L (by rw[lids];exact hv)];simp only[W0m,plN,ZhU];rw[ZhS hdl hd hm]
 have hln:(plE ids (nums r) S).length=2 ^ hs.length:=(by rw[ZlW,lids]);obtain ⟨F,hF⟩:=Qex (ofA r l hs ps);rw[<- hF]at eO ⊢;have pF:F.pure=true:=(by rw[hF];exact Zi9 r l hs ps);clear hF;refine ZiS Tryz.func179 (by kernel_rfl) (rc:=ZfO) (by kernel_rfl) rfl (W0C rfl) λn l' J K hn H hY=>?_
 generalize plE ids (nums r) S=E at *;obtain ⟨k,hk⟩:=Qex (2 ^ hs.length);rw[<- hk]at hpw sh hat hln
 have pT:∀ i,∀ q∈plT F (.vsl (S.map ptA)) k l' i,q.2.pure=true:=λi q hq=>by
  simp only[plT,W0g,W0Q,or_false]at hq;rcases hq with rfl|rfl|rfl|rfl|rfl <;> simp[AV.pure,pF,ptA]
 unfold ZfO;refine ZiJ ⟨plT F (.vsl (S.map ptA)) k l' 0,[]⟩ (λM A=>?_) (ZiL (ZiM (λi=>i) (λi=>⟨plT F (.vsl (S.map ptA)) k l' i,[]⟩) (λi=>i<=k) (λi=>k-i) 0 rfl rfl (W1f _) λi hi=>?_))
 . refine Qga ?_;simp -implicitDefEqProofs[iniT,eO,plT,sh]
   (refine Wkc ?_;simp only[Wkl,and_true];(try simp[lk,Yc,Ya,AV.keys]))
 by_cases hlt:i<k
 case neg =>
  obtain rfl:i=k:=(by omega);refine ZiJ ⟨(23,.bool false)::plT F (.vsl (S.map ptA)) i l' i,[]⟩ (λM A=>?_) (ZiH (ZiK (.exit 0) ⟨[],[]⟩ (λM A=>?_) ?_))
  . refine Qga ?_;simp -implicitDefEqProofs[plT];exact (by (first|exact Wka|exact Wkb))
  . refine Qga ?_;simp -implicitDefEqProofs[plT];exact (by (first|exact Wka|exact Wkb))
  . simp only[ItBk,if_true];refine ⟨by simp,by simp[hln],λ_ _ _ h=>h⟩
 have wi:i64.wrap ((i:Int)+1)=((i+1:Nat):Int):=Yf;have hat:=hat i hlt;refine ZiJ ⟨(23,.bool true)::plT F (.vsl (S.map ptA)) k l' i,[]⟩ (λM A=>?_) (ZiJ ⟨plT F (.vsl (S.map ptA)) k l' i,[]⟩ (λM A=>?_) (ZiI (ZiL ?_)))
 . refine Qga ?_;simp -implicitDefEqProofs[plT,hlt];exact (by (first|exact Wka|exact Wkb))
 . refine Qga ?_;simp -implicitDefEqProofs[plT];exact (by (first|exact Wka|exact Wkb))
 refine ZiJ ⟨(4,.int .i64 i)::plT F (.vsl (S.map ptA)) k l' i,[]⟩ (λM A=>?_) (ZiJ ⟨(5,.ptr 5 0)::(4,.int .i64 i)::plT F (.vsl (S.map ptA)) k l' i,[(5,.box [.nils,.nils])]⟩ (λM A=>?_) (ZiJ ⟨plU F (.vsl (S.map ptA)) k l' i,[(25,.mp (pmA [])),(5,.box [.nils,.nils])]⟩ (λM A=>?_) ?_))
 . refine Qga ?_;simp -implicitDefEqProofs[plT];exact (by (first|exact Wka|exact Wkb))
 . refine Qga ?_;simp -implicitDefEqProofs[plT]
   (refine Wkc ?_;simp only[Wkl,and_true];(try simp[lk,Yc,Ya,AV.keys]))
 . refine Qga ?_;have e0:pmA []=[]:=rfl;simp -implicitDefEqProofs[plU,plT,e0]
   (refine Wkc ?_;simp only[Wkl,and_true];(try simp[lk,Yc,Ya,AV.keys]))
 refine ZiJ ⟨plU F (.vsl (S.map ptA)) k l' i,[(25,.mp (pmA S)),(5,.box [.nils,.nils])]⟩ (λM A=>?_) ?_
 . refine Qga ?_;simp -implicitDefEqProofs[plU,plT];refine Z8a (plA F (.vsl (S.map ptA)) k l' i S) (λ_=>True) S.length ?_ trivial ?_ ?_
   . have e0:plA F (.vsl (S.map ptA)) k l' i S 0=⟨(28,.int .i64 (0:Nat))::(27,.int .i64 S.length)::(26,.vsl (S.map ptA))::plU F (.vsl (S.map ptA)) k l' i,[(25,.mp (pmA [])),(5,.box [.nils,.nils])]⟩:=rfl;have e1:pmA []=[]:=rfl;rw[e0,e1];simp only[plU,plT]
     ((try simp only[ptA]);refine Ym.sub (by simp[lk,Ya,AV.keys,ptA]) ?_;simp only[ptA,Wkl,and_true];(try simp[lk,Yc,Ya,AV.keys,ptA]))
   . intro j hj _;have wj:i64.wrap ((j:Int)+1)=(j:Int)+1:=Yf;obtain ⟨y,hy⟩:=Qex (S[j]);have hly:S[j]=y:=hy.symm;have hpt:ptA y=[.int .i64 y.no,.int .i64 y.dy,.int .i64 y.ho,.int .i64 y.dw,.int .i64 y.lt,.int .i64 y.bk,.int .u8 y.lo]:=rfl
     have hput:=Zm6 (y:=y) (l:=S.take j) λp hp e=>by
      obtain ⟨q,hq,rfl⟩:=W0k hp;simp only[W15]at hq;rw[W1V,hy]at e;exact W0Y.1 hnS q j (by simp;omega) (by simpa using hj) (by omega) (by rw[W1w,W1w];exact e)
     have sc:S.take (j+1)=S.take j++[y]:=(by rw[W08 hj,hy]);obtain ⟨Z',hZ'⟩:=Qex (S.take (j+1));obtain ⟨Z,hZ⟩:=Qex (S.take j);rw[<- sc,hpt,<- hZ',<- hZ]at hput;have hw1:plA F (.vsl (S.map ptA)) k l' i S j=⟨(28,.int .i64 j)::(27,.int .i64 S.length)::(26,.vsl (S.map ptA))::plU F (.vsl (S.map ptA)) k l' i,[(25,.mp (pmA Z)),(5,.box [.nils,.nils])]⟩:=(by rw[plA,<- hZ]);have hw2:plA F (.vsl (S.map ptA)) k l' i S (j+1)=⟨(28,.int .i64 (j+1:Nat))::(27,.int .i64 S.length)::(26,.vsl (S.map ptA))::plU F (.vsl (S.map ptA)) k l' i,[(25,.mp (pmA Z')),(5,.box [.nils,.nils])]⟩:=(by rw[plA,<- hZ']);refine Qga ?_;rw[hw1];simp -implicitDefEqProofs[plU,plT,hj,hly,hpt,hput,wj];rw[hw2];simp only[plU,plT]
     ((try simp only[ptA]);refine Ym.sub (by simp[lk,Ya,AV.keys,ptA]) ?_;simp only[ptA,Wkl,Zm9,and_true];(try simp[lk,Yc,Ya,AV.keys,ptA]))
   . intro _;have hw1:plA F (.vsl (S.map ptA)) k l' i S S.length=⟨(28,.int .i64 S.length)::(27,.int .i64 S.length)::(26,.vsl (S.map ptA))::plU F (.vsl (S.map ptA)) k l' i,[(25,.mp (pmA S)),(5,.box [.nils,.nils])]⟩:=(by rw[plA,W0v]);rw[hw1];refine Qga ?_;simp -implicitDefEqProofs[plU,plT];refine Qgr ?_;simp -implicitDefEqProofs
     ((try simp only[ptA]);refine Ym.sub (by simp[lk,Ya,AV.keys,ptA]) ?_;simp only[ptA,Wkl,Zm9,and_true];(try simp[lk,Yc,Ya,AV.keys,ptA]))
 have kF:F.keys=[]:=AV.pure_keys _ pF;refine ZiJ ⟨plU F (.vsl (S.map ptA)) k l' i,(25,.mp (pmA (lfK ids i S hs.length)))::(5,.box [nlV 58 (sbN ids i hs.length),.nils])::nlO 58 (sbN ids i hs.length)⟩ (λM A=>?_) ?_
 . refine Qga ?_;simp -implicitDefEqProofs[plU,plT,eO];rw[<- eO];refine Z8a (λj=>plB F (.vsl (S.map ptA)) k l' i hs (lfK ids i S j) (sbN ids i j) j) (λ_=>True) hs.length ?_ trivial ?_ ?_
   . have e0:lfK ids i S 0=S:=rfl;have e1:sbN ids i 0=[]:=rfl;simp only[plB,e0,e1,nlV,nlO,if_true,plU,plT]
     ((try simp only[ptA,kF,hoa]);refine Ym.sub (by simp[lk,Ya,AV.keys,ptA,kF,hoa]) ?_;simp only[ptA,kF,hoa,Wkl,Zm9,and_true];(try simp[lk,Yc,Ya,AV.keys,ptA,kF,hoa]))
   . intro j hj _;have wj:i64.wrap ((j:Int)+1)=(j:Int)+1:=Yf;have sc:sbN ids i (j+1)=if i / 2 ^ j % 2=1 then sbN ids i j++[ids.getD j 0] else sbN ids i j:=rfl
     have lc:lfK ids i S (j+1)=if i / 2 ^ j % 2=1 then lfI (lfK ids i S j) (ids.getD j 0) S S.length else lfK ids i S j:=rfl
     have hle:=ZeY ids i j;have bU:=bitU (v:=i) (i:=j) (by omega) (by omega);rw[gid j hj]at sc lc;obtain ⟨h,hh⟩:=Qex (hs[j]);rw[<- hh]at sc lc;have hlh:hs[j]=h:=hh.symm;have hho:hoa h=[.int .i64 h.id,.int .i64 h.fr,.int .i64 h.to,.vsl (h.ds.map ia)]:=rfl;have hzn:((lfK ids i S j).map (·.no)).Nodup:=hnS.sublist ((Zmf j).map _);obtain ⟨Z',hZ'⟩:=Qex (lfK ids i S (j+1));obtain ⟨Z,hZ⟩:=Qex (lfK ids i S j);obtain ⟨B',hB'⟩:=Qex (sbN ids i (j+1));obtain ⟨B,hB⟩:=Qex (sbN ids i j);have hw1:plB F (.vsl (S.map ptA)) k l' i hs (lfK ids i S j) (sbN ids i j) j=⟨(43,.int .i64 j)::(42,.int .i64 hs.length)::(41,.vsl (hs.map hoa))::plU F (.vsl (S.map ptA)) k l' i,(25,.mp (pmA Z))::(5,.box [nlV 58 B,.nils])::nlO 58 B⟩:=(by rw[plB,<- hZ,<- hB]);have hw2:plB F (.vsl (S.map ptA)) k l' i hs (lfK ids i S (j+1)) (sbN ids i (j+1)) (j+1)=⟨(43,.int .i64 (j+1:Nat))::(42,.int .i64 hs.length)::(41,.vsl (hs.map hoa))::plU F (.vsl (S.map ptA)) k l' i,(25,.mp (pmA Z'))::(5,.box [nlV 58 B',.nils])::nlO 58 B'⟩:=(by rw[plB,<- hZ',<- hB']);rw[<- hB',<- hB]at sc;rw[<- hZ',<- hZ]at lc;rw[<- hZ]at hzn;rw[<- hB]at hle;have bb:(B.length+1)*8<=70368744177664:=(by omega);show AR _ _ _ (plB F (.vsl (S.map ptA)) k l' i hs (lfK ids i S j) (sbN ids i j) j) _;rw[hw1];by_cases cB:B=[]
     case' pos =>
      have hV:nlV 58 B = .nils:=(by simp[nlV,cB]);have hQ:nlO 58 B=[]:=by simp[nlO,cB]
     case' neg =>
      have hV:nlV 58 B = .osl 58 B.length:=(by simp[nlV,cB]);have hQ:nlO 58 B=[(58,.row 1 (B.map ia))]:=by simp[nlO,cB]
     all_goals
      refine Qga ?_;by_cases q:i / 2 ^ j % 2=1
      case neg =>
       rw[if_neg q]at sc lc bU;simp -implicitDefEqProofs[plU,plT,hV,hQ,hj,hlh,hho,bU,wj];rw[hw2,sc,lc,hV,hQ];simp only[plU,plT]
       ((try simp only[ptA,kF,hoa,ia]);refine Ym.sub (by simp[lk,Ya,AV.keys,ptA,kF,hoa,ia]) ?_;simp only[ptA,kF,hoa,ia,Wkl,Zm9,ZdJ,and_true];(try simp[lk,Yc,Ya,AV.keys,ptA,kF,hoa,ia]))
      rw[if_pos q]at sc lc bU;have hne:¬B'=[]:=(by rw[sc];simp);have hV2:nlV 58 B' = .osl 58 (B.length+1):=(by rw[nlV,if_neg hne,sc];simp);have hQ2:nlO 58 B'=[(58,.row 1 (B.map ia++[[.int .i64 h.id]]))]:=(by rw[nlO,if_neg hne,sc,W0r];rfl);have w1:∀ (X:Jp) (c:Nat),plI F (.vsl (S.map ptA)) k l' i hs S h X B' j c=⟨(62,.int .i64 c)::(61,.int .i64 S.length)::(60,.vsl (S.map ptA))::(10,.ptr 10 0)::(43,.int .i64 j)::(42,.int .i64 hs.length)::(41,.vsl (hs.map hoa))::plU F (.vsl (S.map ptA)) k l' i,(10,.box (hoa h))::(25,.mp (pmA X))::(5,.box [.osl 58 (B.length+1),.nils])::[(58,.row 1 (B.map ia++[[.int .i64 h.id]]))]⟩:=λX c=>by rw[plI,hV2,hQ2]
      have iak:∀ o:List (Nat×AObj),Yc o (.row 1 (B.map ia++[[.int .i64 h.id]]))=true:=λo=>by
       have:=ZdJ o (B++[h.id])
       rwa [W0r]at this
      simp -implicitDefEqProofs[plU,plT,hV,hQ,hj,hlh,hho,bU,bb];refine Z8a (λc=>plI F (.vsl (S.map ptA)) k l' i hs S h (lfI Z h.id S c) B' j c) (λ_=>True) S.length ?_ trivial ?_ ?_
      . have e0:lfI Z h.id S 0=Z:=rfl;show Ym _ (plI F (.vsl (S.map ptA)) k l' i hs S h (lfI Z h.id S 0) B' j 0);rw[e0,w1];simp only[plU,plT]
        ((try simp only[ptA,kF,hho,ia,cB,ptA]);refine Ym.sub (by simp[lk,Ya,AV.keys,ptA,kF,hho,ia,cB,ptA]) ?_;simp only[ptA,kF,hho,ia,cB,ptA,Wkl,Zm9,iak,and_true];(try simp[lk,Yc,Ya,AV.keys,ptA,kF,hho,ia,cB,ptA]))
      . intro c hc _;have wc:i64.wrap ((c:Int)+1)=(c:Int)+1:=Yf;have sl:=Zmc (Z:=Z) (id:=h.id) hc;have hxn:((lfI Z h.id S c).map (·.no)).Nodup:=hzn.sublist ((Zmd c (by omega)).map _);obtain ⟨y,hy⟩:=Qex (S[c]);rw[<- hy]at sl;have hly:S[c]=y:=hy.symm;have hpt:ptA y=[.int .i64 y.no,.int .i64 y.dy,.int .i64 y.ho,.int .i64 y.dw,.int .i64 y.lt,.int .i64 y.bk,.int .u8 y.lo]:=rfl;have hdel:=Zm8 (n:=y.no) hxn;obtain ⟨X',hX'⟩:=Qex (lfI Z h.id S (c+1));obtain ⟨X,hX⟩:=Qex (lfI Z h.id S c);have hw3:=w1 X c;have hw4:=w1 X' (c+1);rw[hX]at hw3;rw[hX']at hw4;rw[<- hX]at hw3;rw[<- hX']at hw4;rw[<- hX',<- hX]at sl;rw[<- hX]at hdel;show AR _ _ _ (plI F (.vsl (S.map ptA)) k l' i hs S h (lfI Z h.id S c) B' j c) _;rw[<- hX,hw3];refine Qga ?_;by_cases e:y.ho=h.id
        . rw[if_pos e]at sl;rw[<- sl]at hdel;simp -implicitDefEqProofs[plU,plT,hc,hly,hpt,hho,e,hdel,wc];rw[<- hX',hw4];simp only[plU,plT]
          ((try simp only[ptA,kF,hho,ia]);refine Ym.sub (by simp[lk,Ya,AV.keys,ptA,kF,hho,ia]) ?_;simp only[ptA,kF,hho,ia,Wkl,Zm9,iak,and_true];(try simp[lk,Yc,Ya,AV.keys,ptA,kF,hho,ia]))
        . rw[if_neg e]at sl;simp -implicitDefEqProofs[plU,plT,hc,hly,hpt,hho,e,wc];rw[<- hX',hw4,<- sl];simp only[plU,plT]
          ((try simp only[ptA,kF,hho,ia]);refine Ym.sub (by simp[lk,Ya,AV.keys,ptA,kF,hho,ia]) ?_;simp only[ptA,kF,hho,ia,Wkl,Zm9,iak,and_true];(try simp[lk,Yc,Ya,AV.keys,ptA,kF,hho,ia]))
      . intro _;show AR _ _ _ (plI F (.vsl (S.map ptA)) k l' i hs S h (lfI Z h.id S S.length) B' j S.length) _;rw[<- lc,w1];refine Qga ?_;simp -implicitDefEqProofs[plU,plT];refine Qgr ?_;simp -implicitDefEqProofs[wj];rw[hw2,hV2,hQ2];simp only[plU,plT]
        ((try simp only[ptA,kF,hoa,ia]);refine Ym.sub (by simp[lk,Ya,AV.keys,ptA,kF,hoa,ia]) ?_;simp only[ptA,kF,hoa,ia,Wkl,Zm9,iak,and_true];(try simp[lk,Yc,Ya,AV.keys,ptA,kF,hoa,ia]))
   . intro _;show AR _ _ _ (plB F (.vsl (S.map ptA)) k l' i hs (lfK ids i S hs.length) (sbN ids i hs.length) hs.length) _;rw[plB];generalize sbN ids i hs.length=B;by_cases cB:B=[]
     case' pos =>
      have hV:nlV 58 B = .nils:=(by simp[nlV,cB]);have hQ:nlO 58 B=[]:=by simp[nlO,cB]
     case' neg =>
      have hV:nlV 58 B = .osl 58 B.length:=(by simp[nlV,cB]);have hQ:nlO 58 B=[(58,.row 1 (B.map ia))]:=by simp[nlO,cB]
     all_goals
      refine Qga ?_;simp -implicitDefEqProofs[plU,plT,hV,hQ];refine Qgr ?_;simp -implicitDefEqProofs
      ((try simp only[ptA,kF,ia]);refine Ym.sub (by simp[lk,Ya,AV.keys,ptA,kF,ia]) ?_;simp only[ptA,kF,ia,Wkl,Zm9,ZdJ,and_true];(try simp[lk,Yc,Ya,AV.keys,ptA,kF,ia]))
 obtain ⟨Z,hZ⟩:=Qex (lfK ids i S hs.length)
 have hZm:∀ x,x∈Z↔x∈S/\(sbT ids i).contains x.ho=false:=λx=>by
  rw[hZ,sbT,lids];exact Zmh hnS hs.length
 have hZl:Z.length<=41:=by
  have:=(Zmf (ids:=ids) (v:=i) (S:=S) hs.length).length_le;rw[hZ];omega
 have hBl:sbN ids i hs.length=sbT ids i:=(by rw[sbT,lids]);rw[hBl,<- hZ];obtain ⟨B,hB⟩:=Qex (sbT ids i);rw[<- hB]at hZm hat ⊢;obtain ⟨V,hV⟩:=Qex (Yg (B.map ia));have pV:V.pure=true:=(by rw[hV];exact ZjA _);have kV:V.keys=[]:=AV.pure_keys _ pV;have fV:∀ ok st,frz ok st 6 V=some V:=λok st=>by rw[hV];unfold Yg;split <;> simp[frz,AV.keys]
 refine ZiI (ZiG λM A=>Z5s (α:=VisD Z.length) (kvs:=pmA Z) (λD=>plV F (.vsl (S.map ptA)) k l' i Z V (dwD Z D.D)) VisD.has ⟨[],.nil,by simp⟩ (by simp[VisD.has]) (by decide) (by simp[Z1y]) (λD=>by simp[plV,St.tmp,lk]) (λD n hn=>?_) ?_ ?_ ?_)
 . simp at hn;rcases hn with rfl|rfl|rfl|rfl|rfl <;> simp[plV,plT,St.tmp,lk]
 . have e0:dwD Z []=[]:=rfl;have e1:nlV 88 [] = .nils:=rfl;have e2:nlO 88 []=[]:=rfl;simp only[plV,e0,e1,e2];by_cases cB:B=[]
   . have hV1:nlV 58 B = .nils:=(by simp[nlV,cB]);have hQ1:nlO 58 B=[]:=(by simp[nlO,cB]);have hV2:V = .nils:=(by rw[hV];simp[Yg,cB]);simp -implicitDefEqProofs[plU,plT,hV1,hQ1];refine Ym.trans (Ym.frz (λk=>k == 25||k == 58) _) ?_;simp only[hV2]
     ((try simp only[Yi,frzA,frzO,frz,Yh,Yj,St.get,AV.pure,pm_fz,Zma]);refine Ym.sub (by simp[lk,Ya,AV.keys,Yi,frzA,frzO,frz,Yh,Yj,St.get,AV.pure,pm_fz,Zma]) ?_;simp only[Yi,frzA,frzO,frz,Yh,Yj,St.get,AV.pure,pm_fz,Zma,Wkl,and_true];(try simp[lk,Yc,Ya,AV.keys,Yi,frzA,frzO,frz,Yh,Yj,St.get,AV.pure,pm_fz,Zma]))
   . have hV1:nlV 58 B = .osl 58 B.length:=(by simp[nlV,cB]);have hQ1:nlO 58 B=[(58,.row 1 (B.map ia))]:=(by simp[nlO,cB]);have hV2:V = .vsl (B.map ia):=(by rw[hV];simp[Yg,cB]);simp -implicitDefEqProofs[plU,plT,hV1,hQ1];refine Ym.trans (Ym.frz (λk=>k == 25||k == 58) _) ?_;simp only[hV2]
     ((try simp only[Yi,frzA,frzO,frz,Yh,Yj,St.get,AV.pure,ia,pm_fz,Zma]);refine Ym.sub (by simp[lk,Ya,AV.keys,Yi,frzA,frzO,frz,Yh,Yj,St.get,AV.pure,ia,pm_fz,Zma]) ?_;simp only[Yi,frzA,frzO,frz,Yh,Yj,St.get,AV.pure,ia,pm_fz,Zma,Wkl,and_true];(try simp[lk,Yc,Ya,AV.keys,Yi,frzA,frzO,frz,Yh,Yj,St.get,AV.pure,ia,pm_fz,Zma]))
 . intro D j kx v hkv hD;obtain ⟨hj0,hkv2⟩:=W02.1 hkv;have hj:j<Z.length:=(by simpa [pmA] using hj0);have hv:v = .agg (ptA Z[j]):=(by simp[pmA]at hkv2;exact hkv2.2.symm);have hjn:j ∉ D.D:=(by simpa [VisD.has] using hD);have hDl:=pig Z.length D.D D.nd D.bd;have eD:dwD Z (D.D++[j])=dwD Z D.D++[Z[j].dw]:=by simp[dwD,Zi1 hj]
   have nD:(D.D++[j]).Nodup/\∀ q∈D.D++[j],q<Z.length:=by
    refine ⟨List.nodup_append.2 ⟨D.nd,by simp,λa ha b hb=>?_⟩,λq hq=>?_⟩
    . simp at hb;subst hb;exact λe=>hjn (e ▸ ha)
    . rcases W0h.1 hq with hq|hq
      . exact D.bd q hq
      . simp at hq;omega
   have cD:∀ q,(D.D++[j]).contains q=(D.D.contains q||q == j):=λq=>by
    rw[W2h];simp
   obtain ⟨y,hy⟩:=Qex (Z[j]);rw[<- hy]at hv eD;have hpt:ptA y=[.int .i64 y.no,.int .i64 y.dy,.int .i64 y.ho,.int .i64 y.dw,.int .i64 y.lt,.int .i64 y.bk,.int .u8 y.lo]:=rfl;subst hv;have lD:(dwD Z D.D).length=D.D.length:=(by simp[dwD]);have hfin:∀ s3,Ym s3 (plV F (.vsl (S.map ptA)) k l' i Z V (dwD Z (D.D++[j])))->∃ D':VisD Z.length,(∀ q,D'.has q=(D.has q||q == j))/\Ym s3 (plV F (.vsl (S.map ptA)) k l' i Z V (dwD Z D'.D)):=λs3 h=>⟨⟨D.D++[j],nD.1,nD.2⟩,cD,h⟩
   generalize dwD Z (D.D++[j])=U' at *;generalize dwD Z D.D=U at *;have bb:(U.length+1)*8<=70368744177664:=(by omega);have hne:¬U'=[]:=(by rw[eD];simp);have hV2:nlV 88 U' = .osl 88 (U.length+1):=(by rw[nlV,if_neg hne,eD];simp);have hQ2:nlO 88 U'=[(88,.row 1 (U.map ia++[[.int .i64 y.dw]]))]:=by rw[nlO,if_neg hne,eD,W0r];rfl
   have iak:∀ o:List (Nat×AObj),Yc o (.row 1 (U.map ia++[[.int .i64 y.dw]]))=true:=λo=>by
    have:=ZdJ o (U++[y.dw])
    rwa [W0r]at this
   by_cases cU:U=[]
   case' pos =>
    have hV1:nlV 88 U = .nils:=(by simp[nlV,cU]);have hQ1:nlO 88 U=[]:=by simp[nlO,cU]
   case' neg =>
    have hV1:nlV 88 U = .osl 88 U.length:=(by simp[nlV,cU]);have hQ1:nlO 88 U=[(88,.row 1 (U.map ia))]:=by simp[nlO,cU]
   all_goals
    simp -implicitDefEqProofs[plV,plT,hV1,hQ1,hpt,bb];refine hfin _ ?_;simp only[plV,plT,hV2,hQ2]
    ((try simp only[ptA,kF,kV,ia,cU]);refine Ym.sub (by simp[lk,Ya,AV.keys,ptA,kF,kV,ia,cU]) ?_;simp only[ptA,kF,kV,ia,cU,Wkl,iak,and_true];(try simp[lk,Yc,Ya,AV.keys,ptA,kF,kV,ia,cU]))
 intro D hD
 have hD2:∀ q,q<Z.length->q∈D.D:=λq hq=>by
  have:=hD q (by simpa [pmA] using hq);simpa [VisD.has] using this
 have hat:=hat (D.D.map (pAt Z)) λx=>by
  rw[<- hZm,W0i]
  constructor
  . rintro ⟨q,hq,rfl⟩;have:=D.bd q hq;rw[Zi1 this];exact W0e this
  . intro hx;obtain ⟨q,hq,rfl⟩:=W0k hx;exact ⟨q,hD2 q hq,Zi1 hq⟩
 have hUl:(dwD Z D.D).length<=41:=by
  have:=pig Z.length D.D D.nd D.bd;simp[dwD];omega
 have eU:(D.D.map (pAt Z)).map (·.dw)=dwD Z D.D:=(by simp[dwD]);rw[eU]at hat;refine ⟨plV F (.vsl (S.map ptA)) k l' i Z V (dwD Z D.D),⟨rfl,?_⟩,λ_ _ _ h=>h⟩;generalize dwD Z D.D=U at *;clear hD hD2 eU;obtain ⟨Y,hYe⟩:=Qex (Yg ((setI U).map ia));have pY:Y.pure=true:=(by rw[hYe];exact ZjA _);have hpv:pvA (B,setI U) = .agg [V,Y]:=(by rw[pvA,hV,hYe]);obtain ⟨hsp,hcp,hOl,hOt,hOf,kO',rO,hCl⟩:=ZjP (G:=G) U (by omega);have sl:(sortI U).length=U.length:=Zbc U;refine ZiJ ⟨(5,.ptr 5 0)::plT F (.vsl (S.map ptA)) k l' i,(5,.box [V,nlV 88 (sortI U)])::nlO 88 (sortI U)⟩ (λM A=>?_) (ZiJ ⟨(5,.ptr 5 0)::plT F (.vsl (S.map ptA)) k l' i,[(5,.box [V,Y])]⟩ (λM A=>?_) ?_)
 . refine Qga ?_;by_cases cU:U=[]
   . have e1:nlV 88 U = .nils:=(by simp[nlV,cU]);have e2:nlO 88 U=[]:=(by simp[nlO,cU]);have cS:sortI U=[]:=W0l.1 (by rw[sl,cU];rfl);have e3:nlV 88 (sortI U) = .nils:=(by simp[nlV,cS]);have e4:nlO 88 (sortI U)=[]:=(by simp[nlO,cS]);rw[e3,e4];simp -implicitDefEqProofs[plV,plT,e1,e2];refine Yd.of ZdT (by simp[AV.pure]) ?_;simp -implicitDefEqProofs
     ((try simp only[ptA,kF,kV]);refine Ym.sub (by simp[lk,Ya,AV.keys,ptA,kF,kV]) ?_;simp only[ptA,kF,kV,Wkl,and_true];(try simp[lk,Yc,Ya,AV.keys,ptA,kF,kV]))
   . have e1:nlV 88 U = .osl 88 U.length:=(by simp[nlV,cU]);have e2:nlO 88 U=[(88,.row 1 (U.map ia))]:=(by simp[nlO,cU]);have cS:¬sortI U=[]:=λh=>cU (W0l.1 (by rw[<- sl,h];rfl))
     have e3:nlV 88 (sortI U) = .osl 88 U.length:=(by simp[nlV,cS,sl]);have e4:nlO 88 (sortI U)=[(88,.row 1 ((sortI U).map ia))]:=(by simp[nlO,cS]);rw[e3,e4];simp -implicitDefEqProofs[plV,plT,e1,e2];refine Yd.sem (Z1B.byref hsp (λ_=>88) (by simp) (by simp) (by simp[St.get,lk,ZdI]) (by simp[ZdJ]) (by simp[Ya,AV.keys,lk]) rfl (by simp[AV.ren]) rfl rfl) ?_;simp -implicitDefEqProofs[Yl,ZdI]
     ((try simp only[ptA,kF,kV,ia]);refine Ym.sub (by simp[lk,Ya,AV.keys,ptA,kF,kV,ia]) ?_;simp only[ptA,kF,kV,ia,Wkl,ZdJ,and_true];(try simp[lk,Yc,Ya,AV.keys,ptA,kF,kV,ia]))
 . refine Qga ?_;by_cases cU:U=[]
   . have cS:sortI U=[]:=W0l.1 (by rw[sl,cU];rfl);have e3:nlV 88 (sortI U) = .nils:=(by simp[nlV,cS]);have e4:nlO 88 (sortI U)=[]:=by simp[nlO,cS]
     have e5:Y = .nils:=by
      have:setI U=[]:=W0l.1 (by have h2:=congrArg List.length cU;rw[W1U]at h2;omega);rw[hYe,this];rfl
     rw[e3,e4,e5];simp -implicitDefEqProofs[plT];refine Yd.of Zmi (by simp[AV.pure]) ?_;simp -implicitDefEqProofs
     ((try simp only[ptA,kF,kV]);refine Ym.sub (by simp[lk,Ya,AV.keys,ptA,kF,kV]) ?_;simp only[ptA,kF,kV,Wkl,and_true];(try simp[lk,Yc,Ya,AV.keys,ptA,kF,kV]))
   . have cS:¬sortI U=[]:=λh=>cU (W0l.1 (by rw[<- sl,h];rfl))
     have e3:nlV 88 (sortI U) = .osl 88 U.length:=(by simp[nlV,cS,sl]);have e4:nlO 88 (sortI U)=[(88,.row 1 ((sortI U).map ia))]:=by simp[nlO,cS]
     have e5:Y = .vsl ((setI U).map ia):=by
      have:¬setI U=[]:=λh=>cU (W1t.2 λx hx=>by have:=Zbq.2 hx;rw[h]at this;cases this)
      rw[hYe,Yg,if_neg (by simpa using this)]
     rw[e3,e4,e5];simp -implicitDefEqProofs[plT];refine Yd.sem (Z1B.byref hcp (λ_=>88) (by simp) (by simp) (by simp[St.get,lk,ZdI]) (by simp[ZdJ]) (by simp[Ya,AV.keys,lk]) rfl (by simp[AV.ren]) rfl rfl) ?_;by_cases hq:(setI U).length=U.length
     . have hOf:=hOf hq;rw[hOf]at *;simp -implicitDefEqProofs[Yl,ZdI,hq,AV.ren];refine Ym.trans (Ym.frz (λk=>k == 88) _) ?_
       ((try simp only[Yi,frzA,frzO,frz,Yh,Yj,St.get,AV.pure,ia,ptA,kF,kV,fV,hq]);refine Ym.sub (by simp[lk,Ya,AV.keys,Yi,frzA,frzO,frz,Yh,Yj,St.get,AV.pure,ia,ptA,kF,kV,fV,hq]) ?_;simp only[Yi,frzA,frzO,frz,Yh,Yj,St.get,AV.pure,ia,ptA,kF,kV,fV,hq,Wkl,and_true];(try simp[lk,Yc,Ya,AV.keys,Yi,frzA,frzO,frz,Yh,Yj,St.get,AV.pure,ia,ptA,kF,kV,fV,hq]))
     . simp -implicitDefEqProofs[Yl,rO,hq,AV.ren];refine Ym.trans (Ym.frz (λk=>k == 88) _) ?_
       ((try simp only[Yi,frzA,frzO,frz,Yh,Yj,St.get,AV.pure,ia,ptA,kF,kV,fV,hOl,hOt]);refine Ym.sub (by simp[lk,Ya,AV.keys,Yi,frzA,frzO,frz,Yh,Yj,St.get,AV.pure,ia,ptA,kF,kV,fV,hOl,hOt]) ?_;simp only[Yi,frzA,frzO,frz,Yh,Yj,St.get,AV.pure,ia,ptA,kF,kV,fV,hOl,hOt,Wkl,and_true];(try simp[lk,Yc,Ya,AV.keys,Yi,frzA,frzO,frz,Yh,Yj,St.get,AV.pure,ia,ptA,kF,kV,fV,hOl,hOt]))
 refine ZiO H hY 2 (d:=99) (f:=.t 97) (ys:=[.t 98]) (gd:=none) rfl (xs:=[.agg [V,Y]])
  ((98,.agg [V,Y])::(97,.func (.yield l') [] [])::plT F (.vsl (S.map ptA)) k l' i) ⟨(100,.bool false)::plT F (.vsl (S.map ptA)) k l' i,[]⟩ [] [(100,.bool true)] (W0C rfl) ?_ ?_ ?_ ?_ rfl rfl ?_ ?_ ?_ ?_ ?_ ?_
 . rw[W09,W09,hat,W0m,W0m,hpv]
 . intro x hx;simp only[W0g,W0Q,or_false]at hx;subst hx;simp[AV.pure,pV,pY]
 . intro q hq;simp only[W0g]at hq;rcases hq with rfl|rfl|hq
   . simp[AV.pure,pV,pY]
   . simp[AV.pure]
   . exact pT i q hq
 . simp -implicitDefEqProofs[plT]
   ((try simp only[ptA,kF,kV,AV.pure_keys _ pY]);refine Ym.sub (by simp[lk,Ya,AV.keys,ptA,kF,kV,AV.pure_keys _ pY]) ?_;simp only[ptA,kF,kV,AV.pure_keys _ pY,Wkl,and_true];(try simp[lk,Yc,Ya,AV.keys,ptA,kF,kV,AV.pure_keys _ pY]))
 . rfl
 . simp -implicitDefEqProofs[plT];exact (by (first|exact Wka|exact Wkb))
 . refine ZiK .normal ⟨plT F (.vsl (S.map ptA)) k l' i,[]⟩ (λM A=>?_) ⟨rfl,ZiK .normal ⟨plT F (.vsl (S.map ptA)) k l' (i+1),[]⟩ (λM A=>?_) ⟨i+1,rfl,rfl,by omega,by omega⟩⟩
   . refine Qga ?_;simp -implicitDefEqProofs[plT];exact (by (first|exact Wka|exact Wkb))
   . refine Qga ?_;simp -implicitDefEqProofs[plT,wi];exact (by (first|exact Wka|exact Wkb))
 . intro q hq
   cases hq
 . simp -implicitDefEqProofs;exact (by (first|exact Wka|exact Wkb))
 . intro A;refine Qga ?_;simp -implicitDefEqProofs;exact (by (first|exact Wka|exact Wkb))
def Zmk (r:Jr) (l:Jl) (hs:Jh) (ps S:Jp) (hnS:(S.map (·.no)).Nodup) (hS:S.length<=41) (h6:hs.length<=6) (hdl:(nums r).Pairwise (· < ·)) (hd:∀ x∈S,x.dw∈nums r) :
  IterG prog G 179 [.vptr [ofA r l hs ps] 0,.vptr [Yg (S.map ptA)] 0] ((plE (hs.map (·.id)) (nums r) S).map pvA) :=
 (Zmj r l hs ps S hnS hS h6 hdl hd).sub ⟨.rfl',.vptr ⟨.orNil _,trivial⟩,trivial⟩
section
open Qq Go.Proofs.Tryz
def Zml:RCode :=
 S [r 0 [b 2 0,n 4 .nils,n 5 .nils,n 6 O],r 1 [L 10 4 2,m 11 1,w 12 (.call 89 [.t 10,.t 11,.c I]),m 9 12,x 13 0 9,x 14 1 9,m 7 13,m 6 14],S [r 2 [m 15 6,k 16 .neq 15 O],K 16 3 [m 17 6,n 4 .nils,n 5 .nils,m 6 17]],r 4 [m 18 7,m 19 7,m 20 1,c 21 91 [19,20],c 22 95 [18,21],w 8 (.alloc [.nils,.nils]),s 2 8 22],R 5 [f 23 0 8,a [0] (l 24 23),f 25 1 8,a [2] (l 26 25),a [1,0,1] (m 4 24),a [3,4,0,1,2,3,4] (m 5 26),a [5,0,1,2,3,4,5] (n 6 O)],.ret]
def Zmm:List RRes:=[.t 4,.t 5,.t 6]
def Zmn:PCt prog 36 f36 Zml Zmm:=pcT func36 rfl
def Zmo:RCode :=
 S [r 0 [b 2 0,n 4 .nils,n 5 O],r 1 [L 10 4 2,m 11 1,w 12 (.call 89 [.t 10,.t 11,.c I]),m 9 12,x 13 0 9,x 14 1 9,m 6 13,m 7 14],S [r 2 [m 15 7,k 16 .neq 15 O],K 16 3 [m 17 7,n 4 .nils,m 5 17]],r 4 [m 18 6,m 19 1,c 20 91 [18,19],m 8 20],r 5 [m 21 8,m 22 6,m 23 8,c 24 95 [22,23],c 25 98 [24],w 26 (.call 97 [.t 21,.t 25,.c .nils]),c 27 90 [26],m 4 27,n 5 O],.ret]
def Zmp:List RRes:=[.t 4,.t 5]
def Zmq:PCt prog 38 f38 Zmo Zmp:=pcT func38 rfl
end
def Zms {x:Prt} {t:Jp} {m:Nat} {tk:Jp} (h:tk.any (clP x)=true):apD (x::t) (m+1) tk=apD t (m+1) tk:=by
 rw[apD,if_pos h]
def Zmt {x:Prt} {t:Jp} {m:Nat} {tk o:Jp} (h:tk.any (clP x)=false) (h2:apD t m (tk++[x])=some o):apD (x::t) (m+1) tk=some o:=by
 rw[apD,if_neg (by simp[h]),h2]
def Zmu {x:Prt} {t:Jp} {m:Nat} {tk:Jp} (h:tk.any (clP x)=false) (h2:apD t m (tk++[x])=none):apD (x::t) (m+1) tk=apD t (m+1) tk:=by
 rw[apD,if_neg (by simp[h]),h2]
def apR (l:Jp) (m:Nat) (tk:Jp):List Prt:=(apD l m tk).getD []
def Zmv {l:Jp} {m:Nat} {tk o:Jp} (h:apD l m tk=some o) (ht:tk≠[]):o≠[]:=by
 obtain ⟨M,h1,-⟩:=Zbw h;rw[h1];simp[ht]
def apS (W:AV) (l:Jp) (m i:Nat):St:=⟨[(15,.int .i64 i),(14,.int .i64 l.length),(13,.vsl (l.map ptA)),(0,.vsl (l.map ptA)),(1,.int .i64 (m+1:Nat)),(2,W)],[]⟩
def Zmw:PC prog G 155 [.nils] .nils:=by
 refine PC_of Tryz.func155 rfl (by kernel_rfl) (rc:=ZfD) (by kernel_rfl) (rs:=ZfE) (by kernel_rfl) (W0C rfl) λR _ hG hrd=>Qga ?_
 subst hG;simp -implicitDefEqProofs[ZfD,ZfE]
def Zmx:∀ (m:Nat) (l tk:Jp),m<=1000->l.length+tk.length<=100->PC prog G 97 [.vsl (l.map ptA),.int .i64 m,Yg (tk.map ptA)] (Yg ((apR l m tk).map ptA))
 | 0,l,tk,_,hl=>by
   have e:apR l 0 tk=tk:=(by unfold apR;cases l <;> rfl);rw[e];have pW:=ZlI tk;have sW:=ZlJ tk;generalize Yg (tk.map ptA)=W at *
   (refine ZfH rfl λR hG hrd=>Qga ?_;subst hG)
   simp -implicitDefEqProofs[ZfF,ZfG,sW]
 | m + 1,l,tk,hm,hl=>by
   have ih:=λi x=>Zmx m (l.drop (i+1)) (tk++[x]) (by omega)
   have pW:=ZlI tk;have kW:=AV.pure_keys _ pW;have wm:i64.wrap (((m+1:Nat):Int)-1)=(m:Int):=(by rw[Yf (by omega) (by omega)];omega);have cC:=λx=>PC.sub (Zm2 (G:=G) 154 [.vptr (ptA x) 0] (clP x) tk (by simp[AV.pure]) (by unfold Sml;omega) λy _=>Zm3 x y) (xs:=[Yg (tk.map ptA),.func (.func 154) [] [.vptr (ptA x) 0]]) ⟨.orNil _,.rfl',trivial⟩
   obtain ⟨W,hW⟩:=Qex (Yg (tk.map ptA));rw[<- hW]at cC pW kW ⊢;refine ZfH rfl λR hG' hrd=>?_
   subst hG';refine Qga ?_;have hm0:¬((m:Int)+1=0):=(by omega);simp -implicitDefEqProofs[ZfF,ZfG,hm0];refine Z8a (apS W l m) (λi=>apD l (m+1) tk=apD (l.drop i) (m+1) tk) l.length ?_ (by simp) ?_ ?_
   . simp only[apS]
     ((try simp only[kW]);refine Ym.sub (by simp[lk,Ya,AV.keys,kW]) ?_;simp only[kW,Wkl,and_true];(try simp[lk,Yc,Ya,AV.keys,kW]))
   . intro i hi hI;have wi:i64.wrap ((i:Int)+1)=((i+1:Nat):Int):=Yf;rw[W0x hi]at hI;obtain ⟨x,hx⟩:=Qex (l[i]);rw[<- hx]at hI;have hlx:l[i]=x:=hx.symm;have cC:=cC x;have ih:=ih i x (by simp;omega);have hpt:ptA x=[.int .i64 x.no,.int .i64 x.dy,.int .i64 x.ho,.int .i64 x.dw,.int .i64 x.lt,.int .i64 x.bk,.int .u8 x.lo]:=rfl;rw[hpt]at cC;have sW:∀ ok st,Yh ok st 6 W=some W:=λok st=>by rw[hW];exact ZlJ tk ok st
     refine Yb mixed 20 ?_;simp -implicitDefEqProofs[apS,hi,hlx,hpt];refine Yd.flat cC (by simp[AV.flat]) (by simp[Yj,snap,Yh,sW,St.get,lk,okAll,AV.pure]) ?_
     cases hc:tk.any (clP x)
     case true =>
      simp -implicitDefEqProofs[wi];refine Qgr ?_;simp -implicitDefEqProofs[wi];refine ⟨?_,hI.trans (Zms hc)⟩;simp only[apS]
      ((try simp only[kW]);refine Ym.sub (by simp[lk,Ya,AV.keys,kW]) ?_;simp only[kW,Wkl,and_true];(try simp[lk,Yc,Ya,AV.keys,kW]))
     have wm2:i64.wrap (m:Int)=(m:Int):=Yf;have hi0:(0:Int)<=(i:Int)+1:=(by omega);have hp7:∀ x:Prt,(ptA x).length=7:=λ_=>rfl
     have htk:(l.map ptA).take l.length=l.map ptA:=W0J (by simp);have hlm:i+1<=l.length:=hi;have lx:(l.drop (i+1)).map ptA=(l.map ptA).drop (i+1):=List.map_drop
     have eT:Yg ((tk++[x]).map ptA) = .vsl (tk.map ptA++[ptA x]):=by
      unfold Yg;rw[if_neg (by simp),W0r];rfl
     rw[lx,eT]at ih;have pQ:(Yg ((apR (l.drop (i+1)) m (tk++[x])).map ptA)).pure=true:=ZlI _;have kQ:=AV.pure_keys _ pQ
     have hQ:Yg ((apR (l.drop (i+1)) m (tk++[x])).map ptA)=match apD (l.drop (i+1)) m (tk++[x]) with|some o=>.vsl (o.map ptA)|none=>.nils:=by
      unfold apR
      cases e:apD (l.drop (i+1)) m (tk++[x]) with
      |none=>rfl
      | some o =>
        have:=Zmv e (by simp);simp only[W0P,Yg];rw[if_neg (by simpa using this)]
     obtain ⟨Q,hQe⟩:=Qex (Yg ((apR (l.drop (i+1)) m (tk++[x])).map ptA));rw[<- hQe]at ih pQ kQ hQ;simp -implicitDefEqProofs;have bb:(tk.length+1)*56<=70368744177664:=(by omega);have pT:∀ L:List Prt,(L.map ptA).all (λr=>r.all AV.pure)=true:=λL=>by simp[ptA,AV.pure]
     by_cases c0:tk=[]
     . have eW:W = .nils:=(by rw[hW,c0];rfl);rw[eW];refine GO0 (Zmr mixed 11 (by decide +kernel) ?_);simp only[W1Z,W1g,W1D,W1P]
       iterate 7 (rw[RE_op (by simp[wants]) (by simp[Z1y])];simp -implicitDefEqProofs[execE,wi,wm,wm2,hlm,hi0,hp7,htk])
       rw[ZjM (by simp[wants])];simp -implicitDefEqProofs;refine CallE.of Zmw (by simp[AV.pure]) ?_
       iterate 3 (rw[RE_op (by simp[wants]) (by simp[Z1y])];simp -implicitDefEqProofs[execE,hpt])
       refine ⟨rfl,⟨[(33,.vsl (tk.map ptA++[ptA x])),(28,.int .i64 m),(26,.vsl ((l.map ptA).drop (i+1))),(15,.int .i64 i),(14,.int .i64 l.length),(13,.vsl (l.map ptA)),(0,.vsl (l.map ptA)),(1,.int .i64 (m+1:Nat)),(2,.nils)],[]⟩,Ym.trans (Ym.frz (λk=>k == 33) _) ?_,?_⟩
       . simp only[c0]
         ((try simp only[Yi,frzA,frzO,frz,Yh,Yj,St.get,AV.pure,ptA]);refine Ym.sub (by simp[lk,Ya,AV.keys,Yi,frzA,frzO,frz,Yh,Yj,St.get,AV.pure,ptA]) ?_;simp only[Yi,frzA,frzO,frz,Yh,Yj,St.get,AV.pure,ptA,Wkl,and_true];(try simp[lk,Yc,Ya,AV.keys,Yi,frzA,frzO,frz,Yh,Yj,St.get,AV.pure,ptA]))
       rw[ZjM (by simp[wants])];simp -implicitDefEqProofs;refine CallE.of ih (by simp[AV.pure,ptA]) ?_;rw[RE_op (by simp[wants]) (by simp[Z1y])];simp -implicitDefEqProofs[execE];refine ⟨rfl,?_⟩
       cases e:apD (l.drop (i+1)) m (tk++[x]) with
       | some o =>
         rw[e]at hQ;have hQ:Q = .vsl (o.map ptA):=hQ;have ho:¬o=[]:=Zmv e (by simp);have eR:apR l (m+1) tk=o:=(by unfold apR;rw[hI,Zmt hc e];rfl);have pO:=pT o;refine Qgr ?_;simp -implicitDefEqProofs[hQ,ho,eR,Yg];refine Qgr ?_;simp -implicitDefEqProofs[pT o,ptA]
       | none =>
         rw[e]at hQ;have hQ:Q = .nils:=hQ;refine Qgr ?_;simp -implicitDefEqProofs[hQ,wi];refine ⟨?_,hI.trans (Zmu hc e)⟩;simp only[apS]
         ((try simp only[kW]);refine Ym.sub (by simp[lk,Ya,AV.keys,kW]) ?_;simp only[kW,Wkl,and_true];(try simp[lk,Yc,Ya,AV.keys,kW]))
     . have eW:W = .vsl (tk.map ptA):=(by rw[hW,Yg,if_neg (by simpa using c0)]);rw[eW];refine GO0 (Zmr mixed 11 (by decide +kernel) ?_);simp only[W1Z,W1g,W1D,W1P]
       iterate 7 (rw[RE_op (by simp[wants]) (by simp[Z1y])];simp -implicitDefEqProofs[execE,wi,wm,wm2,hlm,hi0,hp7,htk])
       rw[ZjM (by simp[wants])];simp -implicitDefEqProofs;refine CallE.new (NewS.of (Zm4 tk c0 (by unfold Sml;omega)) (λ_=>30) (by simp) (by simp[St.get,lk]) (by simp[AV.pure,ptA]) rfl) ?_;simp -implicitDefEqProofs[Yl,ZlD,AV.ren]
       iterate 3 (rw[RE_op (by simp[wants]) (by simp[Z1y])];simp -implicitDefEqProofs[execE,hpt,bb])
       refine ⟨rfl,⟨[(33,.vsl (tk.map ptA++[ptA x])),(28,.int .i64 m),(26,.vsl ((l.map ptA).drop (i+1))),(15,.int .i64 i),(14,.int .i64 l.length),(13,.vsl (l.map ptA)),(0,.vsl (l.map ptA)),(1,.int .i64 (m+1:Nat)),(2,.vsl (tk.map ptA))],[]⟩,Ym.trans (Ym.frz (λk=>k == 30) _) ?_,?_⟩
       . ((try simp only[Yi,frzA,frzO,frz,Yh,Yj,St.get,AV.pure,ptA]);refine Ym.sub (by simp[lk,Ya,AV.keys,Yi,frzA,frzO,frz,Yh,Yj,St.get,AV.pure,ptA]) ?_;simp only[Yi,frzA,frzO,frz,Yh,Yj,St.get,AV.pure,ptA,Wkl,and_true];(try simp[lk,Yc,Ya,AV.keys,Yi,frzA,frzO,frz,Yh,Yj,St.get,AV.pure,ptA]))
       rw[ZjM (by simp[wants])];simp -implicitDefEqProofs;refine CallE.of ih (by simp[AV.pure,ptA]) ?_;rw[RE_op (by simp[wants]) (by simp[Z1y])];simp -implicitDefEqProofs[execE];refine ⟨rfl,?_⟩
       cases e:apD (l.drop (i+1)) m (tk++[x]) with
       | some o =>
         rw[e]at hQ;have hQ:Q = .vsl (o.map ptA):=hQ;have ho:¬o=[]:=Zmv e (by simp);have eR:apR l (m+1) tk=o:=(by unfold apR;rw[hI,Zmt hc e];rfl);refine Qgr ?_;simp -implicitDefEqProofs[hQ,ho,eR,Yg];refine Qgr ?_;simp -implicitDefEqProofs[pT o,ptA]
       | none =>
         rw[e]at hQ;have hQ:Q = .nils:=hQ;refine Qgr ?_;simp -implicitDefEqProofs[hQ,wi];refine ⟨?_,hI.trans (Zmu hc e)⟩;simp only[apS]
         ((try simp only[kW]);refine Ym.sub (by simp[lk,Ya,AV.keys,kW]) ?_;simp only[kW,Wkl,and_true];(try simp[lk,Yc,Ya,AV.keys,kW]))
   . intro hI
     have e:apR l (m+1) tk=[]:=by
      unfold apR;rw[hI,List.drop_length];rfl
     refine Qga ?_;simp -implicitDefEqProofs[apS];refine Qgr ?_;simp -implicitDefEqProofs[e,Yg]
def ca7E (r:Jr) (l:Jl) (hs:Jh) (ps:Jp) (day:Int):List Int×List Int:=if as7 r l hs ps day 1=0 then caE (hs.map (·.id)) (nums r) (staL l hs ps day) else ([],[])
def ca7A (r:Jr) (l:Jl) (hs:Jh) (ps:Jp) (day:Int):AV:=.tup [Yg ((ca7E r l hs ps day).1.map ia),Yg ((ca7E r l hs ps day).2.map ia),.int .i64 (as7 r l hs ps day 1)]
def pr7E (r:Jr) (l:Jl) (hs:Jh) (ps:Jp) (day:Int):List Int:=if as7 r l hs ps day 1=0 then (apR (staL l hs ps day) (szP (caE (hs.map (·.id)) (nums r) (staL l hs ps day))) []).map (·.no) else []
def pr7A (r:Jr) (l:Jl) (hs:Jh) (ps:Jp) (day:Int):AV:=.tup [Yg ((pr7E r l hs ps day).map ia),.int .i64 (as7 r l hs ps day 1)]
def Zmy {r:Jr} {hs:Jh} {L:Jp} (h6:hs.length<=6) (h60:r.length<=60):(caE (hs.map (·.id)) (nums r) L).1.length<=6/\(caE (hs.map (·.id)) (nums r) L).2.length<=60:=by
 obtain ⟨s,-,e⟩:=Zby (hs.map (·.id)) (nums r) L;rw[e,plN];refine ⟨?_,?_⟩
 . show (bitL _ s).length<=6;rw[ZhU];have:=ZeY (hs.map (·.id)) s (hs.map (·.id)).length;rw[W0N]at this;show (sbN _ s (hs.map (·.id)).length).length<=6;rw[W0N];omega
 . exact W0O (W0D ..) (W0O (Z8A r) h60)
def Nsub.tup {xs ys:List AV} (h:NsubL xs ys):Nsub (.tup xs) (.tup ys):=λM W u hu=>by
 cases hu with
 | tup _ us h1 hx =>
   refine .tup ys us (by rw[h1,h.len]) λi y u hy hu=>?_
   obtain ⟨x,h2,h3⟩:=h.at i y hy;exact h3 _ _ _ (hx i x u h2 hu)
structure Cl7 (r:Jr) (hs:Jh) (ps:Jp):Prop where
 h6:hs.length<=6
 n60:r.length<=60
 ne:r≠[]
 no:(ps.map (·.no)).Nodup
 dl:(nums r).Pairwise (· < ·)
def Zmz {r:Jr} {l:Jl} {hs:Jh} {ps:Jp} (h:ck7 r l hs ps=0):Cl7 r hs ps:=by
 obtain ⟨h1,h2⟩:=ZiZ.1 h;obtain ⟨⟨q1,-⟩,-,q3,-⟩:=Zi5.1 h2;have hL:=ZhV (Zj0 h1);refine ⟨q1,(Zao hL).2,Zki (Zj0 h1),?_,Z8E (Z8C hL)⟩;rw[List.Nodup,W2o];exact q3.imp λh=>by omega
def ZmA (r:Jr) (l:Jl) (hs:Jh) (ps:Jp) (day:Int) (hw:WfP hs ps) (h0:ck7 r l hs ps=0) :
  PC prog G 95 [ofA r l hs ps,Yg ((staL l hs ps day).map ptA)] (pvA (caE (hs.map (·.id)) (nums r) (staL l hs ps day))):=by
 obtain ⟨h6,n60,-,hno,hdl⟩:=Zmz h0;have hsub:(staL l hs ps day).Sublist ps:=(by unfold staL;exact List.filter_sublist);have hpl:=hw.pl;have hle:=hsub.length_le;have hit:=Zmk (G:=G) r l hs ps (staL l hs ps day) (hno.sublist (hsub.map _)) (by omega) h6 hdl λx hx=>(Zlb h0 (hsub.subset hx)).2
 have:=Zm0 (G:=G) r l hs ps (staL l hs ps day) _ hit λp hp=>by
  unfold plE at hp;obtain ⟨v,hv,rfl⟩:=W0i.1 hp;rw[plN];refine ⟨?_,?_⟩
  . show (bitL _ v).length<=100;rw[ZhU];have:=ZeY (hs.map (·.id)) v (hs.map (·.id)).length;rw[W0N]at this;show (sbN _ v (hs.map (·.id)).length).length<=100;rw[W0N];omega
  . exact W0O (W0D ..) (W0O (Z8A r) (by omega))
 rwa [ZlY]at this
def ZmB (hG:GC G) (hN:GN G) (hP:GP G) (r:Jr) (l:Jl) (hs:Jh) (ps:Jp) (day:Int) (hl:WfN l) (hr:Wf r) (hd:Sml (nums r)) (hw:WfP hs ps) :
  PC prog G 36 [prA r l hs ps,.int .i64 day] (ca7A r l hs ps day):=by
 have ha:=Zj3 hG hN hP r l hs ps day 1 hl hr hd hw;have pO:=Zi9 r l hs ps;unfold asP at ha;unfold ca7A ca7E;by_cases h0:as7 r l hs ps day 1=0
 case neg =>
  rw[if_neg h0]at ha ⊢;unfold prA at *
  (refine Zmn rfl λR hG hrd=>Qga ?_;subst hG)
  simp -implicitDefEqProofs[Zml,Zmm];refine Qco (ha) ?_;simp -implicitDefEqProofs[h0,Yg]
 have k0:=(Zkr h0).1;have c1:=ZlG hG hN r l hs ps day hl hr hd hw k0;have c2:=ZmA (G:=G) r l hs ps day hw k0;have pS:=ZlI (staL l hs ps day);rw[if_pos h0,h0]at ha;rw[if_pos h0,h0];generalize caE (hs.map (·.id)) (nums r) (staL l hs ps day)=c at *;unfold pvA at c2;have d1:=ZlU c.1;have d2:=ZlU c.2;generalize Yg (c.1.map ia)=V1 at *;generalize Yg (c.2.map ia)=V2 at *;generalize Yg ((staL l hs ps day).map ptA)=W at *;unfold prA at *;rcases d1 with rfl|rfl <;> rcases d2 with rfl|rfl
 all_goals
  (refine Zmn rfl λR hG hrd=>Qga ?_;subst hG)
  simp -implicitDefEqProofs[Zml,Zmm];refine Qco (ha) ?_;simp -implicitDefEqProofs;refine Yd.of c1 (by simp[pO,AV.pure]) ?_;simp -implicitDefEqProofs;refine Yd.of c2 (by simp[pO,pS]) ?_;simp -implicitDefEqProofs[ia]
  try rfl
def ZmC (hG:GC G) (hN:GN G) (hP:GP G) (r:Jr) (l:Jl) (hs:Jh) (ps:Jp) (day:Int) (hl:WfN l) (hr:Wf r) (hd:Sml (nums r)) (hw:WfP hs ps) :
  PC prog G 38 [prA r l hs ps,.int .i64 day] (pr7A r l hs ps day):=by
 have ha:=Zj3 hG hN hP r l hs ps day 1 hl hr hd hw;have pO:=Zi9 r l hs ps;unfold asP at ha;unfold pr7A pr7E;by_cases h0:as7 r l hs ps day 1=0
 case neg =>
  rw[if_neg h0]at ha ⊢;unfold prA at *
  (refine Zmq rfl λR hG hrd=>Qga ?_;subst hG)
  simp -implicitDefEqProofs[Zmo,Zmp];refine Qco (ha) ?_;simp -implicitDefEqProofs[h0,Yg]
 have k0:=(Zkr h0).1;obtain ⟨h6,n60,-,-,-⟩:=Zmz k0;have hpl:=hw.pl;have hle:=ZlK (l:=l) (hs:=hs) (ps:=ps) (day:=day);have hcl:=Zmy (r:=r) (hs:=hs) (L:=staL l hs ps day) h6 n60;have c1:=ZlG hG hN r l hs ps day hl hr hd hw k0;have c2:=ZmA (G:=G) r l hs ps day hw k0;have pS:=ZlI (staL l hs ps day);rw[if_pos h0,h0]at ha;rw[if_pos h0,h0]
 have hRl:∀ m,(apR (staL l hs ps day) m []).length<=100:=λm=>by
  unfold apR
  cases e:apD (staL l hs ps day) m [] with
  |none=>simp
  | some o =>
    obtain ⟨M,h1,h2,-⟩:=Zbw e;have:=h2.length_le;simp only[W0P,h1,W18];omega
 generalize caE (hs.map (·.id)) (nums r) (staL l hs ps day)=c at *;have c3:=PC.sub (ZlM (G:=G) c.1 c.2 (by unfold Sml;omega) (by unfold Sml;omega)) (xs:=[.agg [Yg (c.1.map ia),Yg (c.2.map ia)]]) ⟨.agg ⟨.orNil _,.orNil _,trivial⟩,trivial⟩;have c4:=PC.sub (Zmx (G:=G) (szP c) (staL l hs ps day) [] (by unfold szP;omega) (by simp;omega)) (xs:=[Yg ((staL l hs ps day).map ptA),.int .i64 (szP c:Nat),.nils]) ⟨.orNil _,.rfl',.rfl',trivial⟩;have c5:=PC.sub (Zle (G:=G) (apR (staL l hs ps day) (szP c) []) (hRl _)) (xs:=[Yg ((apR (staL l hs ps day) (szP c) []).map ptA)]) ⟨.orNil _,trivial⟩;rw[ZlH]at c5;have sV:=Zl9 ((apR (staL l hs ps day) (szP c) []).map (·.no));have pA:=ZlI (apR (staL l hs ps day) (szP c) []);unfold pvA at c2;have p1:=ZjA c.1;have p2:=ZjA c.2;generalize Yg (((apR (staL l hs ps day) (szP c) []).map (·.no)).map ia)=V at *;generalize Yg ((apR (staL l hs ps day) (szP c) []).map ptA)=Q at *;generalize Yg ((staL l hs ps day).map ptA)=W at *;have eS:c.1.length+c.2.length=szP c:=rfl;rw[eS]at c3;generalize Yg (c.1.map ia)=V1 at *;generalize Yg (c.2.map ia)=V2 at *;unfold prA at *
 (refine Zmq rfl λR hG hrd=>Qga ?_;subst hG)
 simp -implicitDefEqProofs[Zmo,Zmp];refine Qco (ha) ?_;simp -implicitDefEqProofs;refine Yd.of c1 (by simp[pO,AV.pure]) ?_;simp -implicitDefEqProofs;refine Yd.of c2 (by simp[pO,pS]) ?_;simp -implicitDefEqProofs;refine Yd.of c3 (by simp[AV.pure,p1,p2]) ?_;simp -implicitDefEqProofs;refine Yd.of c4 (by simp[AV.pure,pS]) ?_;simp -implicitDefEqProofs;refine Yd.of c5 (by simp[pA]) ?_;simp -implicitDefEqProofs[sV]
def misI (l:Jl) (hs:Jh) (ps:Jp) (day id:Int):List Rf:=match hoF hs id with
 |some h=>misL l h ps day
 |none=>[]
def msE (r:Jr) (l:Jl) (hs:Jh) (ps:Jp) (day id:Int):List Rf:=if ab7 r l hs ps day 1 id []=0 then misI l hs ps day id else []
def msA (r:Jr) (l:Jl) (hs:Jh) (ps:Jp) (day id:Int):AV:=.tup [Yg ((msE r l hs ps day id).map ita),.int .i64 (ab7 r l hs ps day 1 id [])]
def rlV (k:Nat) (S:List Rf):AV:=if S=[] then .nils else .osl k S.length
def rlO (k:Nat) (S:List Rf):List (Nat×AObj):=if S=[] then [] else [(k,.row 2 (S.map ita))]
def msB (id:Int) (W:List Rf):List (Nat×AObj):=[(1005,.box [.int .i64 id]),(1010,.box [.mp 1029]),(1029,.mp (rfS W))]
def mi1 (W:List Rf) (d:Int) (P:List Int) (q:Nat):List Rf:=((P.take q).filter λn=>!decide ((d,n)∈W)).map λn=>(d,n)
def miK (W:List Rf) (f:Int->List Int) (D:List Int) (i:Nat):List Rf:=(D.take i).flatMap λd=>mi1 W d (f d) (f d).length
def ZmD {W:List Rf} {f:Int->List Int} {D:List Int} {i:Nat} (h:i<D.length):miK W f D (i+1)=miK W f D i++mi1 W D[i] (f D[i]) (f D[i]).length:=by
 unfold miK;rw[W08 h,List.flatMap_append];simp
def ZmE {W:List Rf} {d:Int} {P:List Int} {q:Nat}:(mi1 W d P q).length<=P.length:=by
 unfold mi1;rw[W0N];exact W0O (W0D ..) (by simp;omega)
def ZmF {W:List Rf} {d:Int} {P:List Int} {q:Nat} (h:q<P.length):mi1 W d P (q+1)=if (d,P[q])∈W then mi1 W d P q else mi1 W d P q++[(d,P[q])]:=by
 unfold mi1;rw[W08 h,W1a,W0r];by_cases c:(d,P[q])∈W
 . simp[c]
 . simp[c]
def ZmG {W:List Rf} {f:Int->List Int} {D:List Int} (hf:∀ d,(f d).length<=8):∀ i,(miK W f D i).length<=8*i
 |0=>by simp[miK]
 | i + 1=>by
   have:=ZmG (W:=W) (D:=D) hf i;by_cases h:i<D.length
   . rw[ZmD h,W0s];have:=ZmE (W:=W) (d:=D[i]) (P:=f D[i]) (q:=(f D[i]).length);have:=hf D[i];omega
   . have e:miK W f D (i+1)=miK W f D i:=(by unfold miK;rw[W0J (by omega),W0J (by omega)]);rw[e];omega
def ms1 (O:AV) (id:Int) (W:List Rf) (D:List Int) (U:List Rf) (i:Nat):St :=
 ⟨[(59,.int .i64 i),(58,.int .i64 D.length),(57,.vsl (D.map ia)),(13,rlV 82 U),(8,O),(5,.ptr 5 0),(10,.ptr 10 0)],[(5,.box [.int .i64 id]),(10,.box [.mp 29]),(29,.mp (rfS W))]++rlO 82 U⟩
def ms2 (O:AV) (id:Int) (W:List Rf) (D:List Int) (d:Int) (P:List Int) (U:List Rf) (i q:Nat):St :=
 ⟨[(68,.int .i64 q),(67,.int .i64 P.length),(66,.vsl (P.map ia)),(15,.int .i64 d),(59,.int .i64 i),(58,.int .i64 D.length),(57,.vsl (D.map ia)),(13,rlV 82 U),(8,O),(5,.ptr 5 0),(10,.ptr 10 0)],[(5,.box [.int .i64 id]),(10,.box [.mp 29]),(29,.mp (rfS W))]++rlO 82 U⟩
def ZmH (hG:GC G) (hN:GN G) (hP:GP G) (r:Jr) (l:Jl) (hs:Jh) (ps:Jp) (day id:Int) (hl:WfN l) (hr:Wf r) (hd:Sml (nums r)) (hw:WfP hs ps) :
  PC prog G 29 [prA r l hs ps,.int .i64 day,.int .i64 id] (msA r l hs ps day id):=by
 have ha0:=Zj5 hG hN hP r l hs ps day 1 id [] hl hr hd hw (by simp[Sml]);have ha:=PC.sub ha0 (xs:=[prA r l hs ps,.int .i64 day,.int .i64 1,.int .i64 id,.nils]) ⟨.rfl',.rfl',.rfl',.rfl',.nils,trivial⟩;have pO:=Zi9 r l hs ps;unfold abP at ha;unfold msA msE;by_cases h0:ab7 r l hs ps day 1 id []=0
 case neg =>
  rw[if_neg h0]at ha ⊢;unfold prA at *
  (refine Zgc rfl λR hG hrd=>Qga ?_;subst hG)
  simp -implicitDefEqProofs[Zga,Zgb];refine Qco (ha) ?_;simp -implicitDefEqProofs[h0,Yg]
 obtain ⟨q1,q2,-⟩:=Zks h0;have k0:=(Zkr q1).1;rw[if_pos h0,h0]at ha;rw[if_pos h0,h0];have hhl:=hw.hl;have c1:=Ziu (G:=G) r l hs ps id (by unfold Sml;omega);obtain ⟨k,hk,e1,e2⟩:=ZkW q2;rw[e1]at c1;have hdl:=hw.dl _ (W0e hk);have hds:=Zl8 k0 (W0e hk);obtain ⟨h,hh⟩:=Qex (hs[k]);rw[<- hh]at hdl hds e2;have hlk:hs[k]=h:=hh.symm;have hid:h.id=id:=(Zi6 e2).2;have hop:=Zj0 (ZiZ.1 k0).1;have hB:=ZeF (ZiZ.1 k0).1;have eN:∀ d,ndI l hs id d=ndsL l h d:=λd=>by unfold ndI;rw[e2]
 have c2:=λd (hm:d∈h.ds)=>Zl7 hG hN r l hs ps id d hl hr hd hw k0 q2 (hds d hm)
 simp only[eN]at c2;have hnn:∀ d,d∈h.ds->ndsL l h d≠[]:=λd hm=>ZhZ hop hB (hds d hm) hm
 have hn8:∀ d,(ndsL l h d).length<=8:=λd=>by
  unfold ndsL
  split
  . exact W0O (W0D ..) (W0f _)
  . simp
 have hmi:misI l hs ps day id=miK (thK id (outP ps day) (outP ps day).length) (ndsL l h) h.ds h.ds.length:=by
  unfold misI miK misL mi1;rw[e2];simp only[W0v,hid,Zls]
 rw[hmi];clear hmi;have hO:=Zjs (G:=G) r l hs ps day;have hit:=outIt (G:=G) r l hs ps day hw.pl;have eNl:=Zig ps day;have hat:=λk x h=>Zih (ps:=ps) (day:=day) (k:=k) (x:=x) h
 have hL:(outP ps day).length<=41:=W0O (W0D ..) hw.pl;have hho:hoa h=[.int .i64 h.id,.int .i64 h.fr,.int .i64 h.to,.vsl (h.ds.map ia)]:=rfl;have kO:=Zia r l hs ps;have fO:∀ ok st,frz ok st 6 (ofA r l hs ps)=some (ofA r l hs ps):=λok st=>by unfold ofA;simp[frz,AV.keys]
 have eO:ofA r l hs ps = .vptr [.vsl (r.map isa),.vsl (l.map na),.vsl (hs.map hoa),.vsl (ps.map ptA),.vsl ((nums r).map ia)] 0:=rfl;unfold prA at *;generalize outP ps day=L at *;generalize outE ps day=E at *;obtain ⟨O,hOe⟩:=Qex (ofA r l hs ps);rw[<- hOe]at pO kO fO eO c1 ha hO hit;simp only[<- hOe]at c2;clear hOe;refine Zgc rfl λR hG' hrd=>?_
 subst hG';refine Qga ?_;simp -implicitDefEqProofs[Zga,Zgb];refine Qco (ha) ?_;simp -implicitDefEqProofs;refine Yd.of hO (by simp[pO,AV.pure]) ?_;simp -implicitDefEqProofs
 refine ZiD hrd (by decide) hit (by simp[evA,St.tmp,lk]) (by simp[AV.pure,pO]) (λk=>k == 12) (by intro k hk;simp at hk;omega) r1K [(5,.ptr 1005 0),(10,.ptr 1010 0)]
  (λk=>msB id (thK id L k)) (λk=>msB id (thK id L (k+1))) (λk=>k<=L.length) (W1f _) ?_ ?_ ?_ ?_ ?_ ?_ ?_ ?_ ?_ ?_ ?_
 . intro k q hq;simp[msB]at hq;rcases hq with rfl|rfl|rfl <;> simp
 . intro k;simp[msB,r1K]
 . intro k;simp[msB,r1K]
 . intro k q hq;simp[msB]at hq ⊢;rcases hq with rfl|rfl|rfl <;> simp[isK,lk]
 . intro k q hq;simp[msB]at hq ⊢;rcases hq with rfl|rfl|rfl <;> exact .inl (by simp[isK,lk])
 . intro k;rfl
 . have e0:thK id L 0=[]:=rfl;have e1:rfS []=[]:=rfl;simp[msB,e0,e1,Yl,r1K,St.set,putO,AObj.ren,AV.ren]
 . intro k q hq;simp[msB]at hq;rcases hq with rfl|rfl|rfl
   . simp[Yc,Ya,AV.keys]
   . simp[msB,Yc,Ya,AV.keys,lk]
   . exact Zln _ _
 . intro q hq;simp at hq;rcases hq with rfl|rfl
   all_goals
    refine ⟨by simp[lk,AV.ren,r1K],by simp,by simp,λj k hk=>?_⟩;simp[AV.keys]at hk;subst hk;simp[msB,isK,lk]
 . intro k x hx hk R' hG'' hN'';obtain ⟨i,hkl,rfl⟩:=hat k x hx;have sc:=Zlq (id:=id) hkl;obtain ⟨y,hy⟩:=Qex (L[k]);rw[<- hy]at sc ⊢;have hpt:ptA y=[.int .i64 y.no,.int .i64 y.dy,.int .i64 y.ho,.int .i64 y.dw,.int .i64 y.lt,.int .i64 y.bk,.int .u8 y.lo]:=rfl;generalize thK id L k=W at *;generalize thK id L (k+1)=T at *;refine Qga ?_;simp -implicitDefEqProofs[msB,hpt];intro R'' hG3 hN3;refine Qga ?_;by_cases q1:y.ho=id
   case neg =>
    have sc:T=W:=(by rw[sc];simp[thP,q1]);simp -implicitDefEqProofs[hpt,q1];refine ⟨?_,by omega⟩;simp[sc,Yi,Zeu,Zlp,frzA,frz,AV.keys]
   by_cases q3:y.lo=0
   . have sc:T=addU W (y.dw,y.lt):=(by rw[sc];simp[thP,q1,q3]);simp -implicitDefEqProofs[hpt,q1,q3,Zlm];refine ⟨?_,by omega⟩;simp[sc,Yi,Zeu,Zlp,frzA,frz,AV.keys]
   . have sc:T=W:=(by rw[sc];simp[thP,q3]);simp -implicitDefEqProofs[hpt,q1,q3];refine ⟨?_,by omega⟩;simp[sc,Yi,Zeu,Zlp,frzA,frz,AV.keys]
 . intro _;rw[eNl];generalize thK id L L.length=W at *;simp -implicitDefEqProofs[msB,Yl,r1K,AV.ren,ZeV,Zlo];refine Qgr ?_;simp -implicitDefEqProofs[eO];rw[<- eO];refine Ye.of c1 (by simp[pO,AV.pure]) ?_;simp -implicitDefEqProofs[hk,hlk,hho];refine ⟨rfl,?_⟩;generalize hDe:h.ds=D at *;obtain ⟨f,hf⟩:=Qex (ndsL l h);rw[<- hf]at c2 hnn hn8 ⊢;clear hf;refine Z8a (λi=>ms1 O id W D (miK W f D i) i) (λ_=>True) D.length ?_ trivial ?_ ?_
   . have e0:miK W f D 0=[]:=rfl;simp only[ms1,e0,rlV,rlO,if_true,W1G]
     ((try simp only[kO]);refine Ym.sub (by simp[lk,Ya,AV.keys,kO]) ?_;simp only[kO,Wkl,Zln,and_true];(try simp[lk,Yc,Ya,AV.keys,kO]))
   . intro i hi _;have wi:i64.wrap ((i:Int)+1)=(i:Int)+1:=Yf;have sc:=ZmD (W:=W) (f:=f) hi;have hle:=ZmG (W:=W) (D:=D) hn8 i;obtain ⟨d,hde⟩:=Qex (D[i]);have hm:d∈D:=(by rw[hde];exact W0e hi);rw[<- hde]at sc;have hld:D[i]=d:=hde.symm;have c2:=c2 d hm;have hnn:=hnn d hm;have hn8:=hn8 d;obtain ⟨P,hPe⟩:=Qex (f d);rw[<- hPe]at c2 hnn hn8 sc;have oP:Yg (P.map ia) = .vsl (P.map ia):=(by unfold Yg;rw[if_neg (by simpa using hnn)]);rw[oP]at c2;obtain ⟨U,hU⟩:=Qex (miK W f D i);obtain ⟨U2,hU2⟩:=Qex (miK W f D (i+1));rw[<- hU]at sc hle;rw[<- hU2]at sc;have hw2:ms1 O id W D (miK W f D (i+1)) (i+1)=⟨[(59,.int .i64 (i+1:Nat)),(58,.int .i64 D.length),(57,.vsl (D.map ia)),(13,rlV 82 U2),(8,O),(5,.ptr 5 0),(10,.ptr 10 0)],[(5,.box [.int .i64 id]),(10,.box [.mp 29]),(29,.mp (rfS W))]++rlO 82 U2⟩:=(by rw[ms1,<- hU2]);obtain ⟨S2,hS2⟩:=Qex (ms1 O id W D (miK W f D (i+1)) (i+1));rw[<- hS2]at hw2;have hw1:ms1 O id W D (miK W f D i) i=⟨[(59,.int .i64 i),(58,.int .i64 D.length),(57,.vsl (D.map ia)),(13,rlV 82 U),(8,O),(5,.ptr 5 0),(10,.ptr 10 0)],[(5,.box [.int .i64 id]),(10,.box [.mp 29]),(29,.mp (rfS W))]++rlO 82 U⟩:=(by rw[ms1,<- hU]);by_cases cU:U=[]
     case' pos =>
      have hV:rlV 82 U = .nils:=(by simp[rlV,cU]);have hQ:rlO 82 U=[]:=by simp[rlO,cU]
     case' neg =>
      have hV:rlV 82 U = .osl 82 U.length:=(by simp[rlV,cU]);have hQ:rlO 82 U=[(82,.row 2 (U.map ita))]:=by simp[rlO,cU]
     all_goals
      refine Qga ?_;simp -implicitDefEqProofs[hw1,hV,hQ,hi,ia,hld];refine Yd.of c2 (by simp[pO,AV.pure]) ?_;simp -implicitDefEqProofs;refine Z8a (λq=>ms2 O id W D d P (U++mi1 W d P q) i q) (λ_=>True) P.length ?_ trivial ?_ ?_
      . have e0:mi1 W d P 0=[]:=rfl;simp only[ms2,e0,W1G,hV,hQ]
        ((try simp only[kO]);refine Ym.sub (by simp[lk,Ya,AV.keys,kO]) ?_;simp only[kO,Wkl,Zln,ZeP,and_true];(try simp[lk,Yc,Ya,AV.keys,kO]))
      . intro q hq _;have wq:i64.wrap ((q:Int)+1)=(q:Int)+1:=Yf;have so:=ZmF (W:=W) (d:=d) hq;have hl2:=ZmE (W:=W) (d:=d) (P:=P) (q:=q);obtain ⟨n,hn⟩:=Qex (P[q]);rw[<- hn]at so;have hln:P[q]=n:=hn.symm;obtain ⟨S,hS⟩:=Qex (U++mi1 W d P q);obtain ⟨T,hT⟩:=Qex (U++mi1 W d P (q+1));have hSl:S.length<=8*i+8:=(by rw[hS,W0s];omega);have bb:(S.length+1)*16<=70368744177664:=(by omega);have hv1:ms2 O id W D d P (U++mi1 W d P q) i q=⟨[(68,.int .i64 q),(67,.int .i64 P.length),(66,.vsl (P.map ia)),(15,.int .i64 d),(59,.int .i64 i),(58,.int .i64 D.length),(57,.vsl (D.map ia)),(13,rlV 82 S),(8,O),(5,.ptr 5 0),(10,.ptr 10 0)],[(5,.box [.int .i64 id]),(10,.box [.mp 29]),(29,.mp (rfS W))]++rlO 82 S⟩:=(by rw[ms2,<- hS]);have hv2:ms2 O id W D d P (U++mi1 W d P (q+1)) i (q+1)=⟨[(68,.int .i64 (q+1:Nat)),(67,.int .i64 P.length),(66,.vsl (P.map ia)),(15,.int .i64 d),(59,.int .i64 i),(58,.int .i64 D.length),(57,.vsl (D.map ia)),(13,rlV 82 T),(8,O),(5,.ptr 5 0),(10,.ptr 10 0)],[(5,.box [.int .i64 id]),(10,.box [.mp 29]),(29,.mp (rfS W))]++rlO 82 T⟩:=(by rw[ms2,<- hT]);by_cases cS:S=[]
        case' pos =>
         have hVS:rlV 82 S = .nils:=(by simp[rlV,cS]);have hQS:rlO 82 S=[]:=by simp[rlO,cS]
        case' neg =>
         have hVS:rlV 82 S = .osl 82 S.length:=(by simp[rlV,cS]);have hQS:rlO 82 S=[(82,.row 2 (S.map ita))]:=by simp[rlO,cS]
        all_goals
         refine Qga ?_;by_cases c:(d,n)∈W
         . rw[if_pos c]at so;have e:T=S:=(by rw[hT,hS,so]);simp -implicitDefEqProofs[hv1,hVS,hQS,hq,ia,hln,Zlk,c,wq];rw[hv2,e,hVS,hQS]
           ((try simp only[kO]);refine Ym.sub (by simp[lk,Ya,AV.keys,kO]) ?_;simp only[kO,Wkl,Zln,ZeP,and_true];(try simp[lk,Yc,Ya,AV.keys,kO]))
         . rw[if_neg c]at so;have e:T=S++[(d,n)]:=(by rw[hT,hS,so,W0U]);have hne:¬T=[]:=(by rw[e];simp);have em:T.map ita=S.map ita++[[.int .i64 d,.int .i64 n]]:=(by rw[e,W0r];rfl);have eT:T.length=S.length+1:=(by rw[e];simp);have hVT:rlV 82 T = .osl 82 (S.length+1):=(by simp[rlV,hne,eT]);have hQT:rlO 82 T=[(82,.row 2 (T.map ita))]:=(by simp[rlO,hne]);simp -implicitDefEqProofs[hv1,hVS,hQS,hq,ia,hln,Zlk,c,wq,bb];rw[hv2,hVT,hQT]
           first
            |(rw[em,cS];((try simp only[kO]);refine Ym.sub (by simp[lk,Ya,AV.keys,kO]) ?_;simp only[kO,Wkl,Zln,and_true];(try simp[lk,Yc,Ya,AV.keys,kO]));done)
            |(rw[<- em];((try simp only[kO,eT]);refine Ym.sub (by simp[lk,Ya,AV.keys,kO,eT]) ?_;simp only[kO,eT,Wkl,Zln,ZeP,and_true];(try simp[lk,Yc,Ya,AV.keys,kO,eT]));done)
      . intro _;rw[<- sc];refine Qga ?_;simp -implicitDefEqProofs[ms2];refine Qgr ?_;simp -implicitDefEqProofs[wi];rw[<- hS2,hw2];unfold rlV rlO
        split
        . ((try simp only[kO]);refine Ym.sub (by simp[lk,Ya,AV.keys,kO]) ?_;simp only[kO,Wkl,Zln,and_true];(try simp[lk,Yc,Ya,AV.keys,kO]))
        . ((try simp only[kO]);refine Ym.sub (by simp[lk,Ya,AV.keys,kO]) ?_;simp only[kO,Wkl,Zln,ZeP,and_true];(try simp[lk,Yc,Ya,AV.keys,kO]))
   . intro _;obtain ⟨U,hU⟩:=Qex (miK W f D D.length);rw[<- hU];refine Qga ?_;by_cases cU:U=[]
     . have hV:rlV 82 U = .nils:=(by simp[rlV,cU]);have hQ:rlO 82 U=[]:=(by simp[rlO,cU]);simp -implicitDefEqProofs[ms1,<- hU,hV,hQ];refine Qgr ?_;simp -implicitDefEqProofs[Yg,cU]
     . have hV:rlV 82 U = .osl 82 U.length:=(by simp[rlV,cU]);have hQ:rlO 82 U=[(82,.row 2 (U.map ita))]:=(by simp[rlO,cU]);simp -implicitDefEqProofs[ms1,<- hU,hV,hQ];refine Qgr ?_;simp -implicitDefEqProofs[Yg,cU,ita]
section
open Qq Go.Proofs.Tryz
noncomputable def ZmI:RCode :=
 S [r 0 [n 6 .nils],r 1 [m 10 0,m 11 1,w 12 (.slc 7 (.t 10) (some (.t 11)) none)],r 2 [m 13 2,e 14 13,m 7 14],S [r 3 [m 15 7,k 16 .eql 15 O],K 16 4 [m 17 0,m 6 17]],r 5 [m 18 0,e 19 18,m 8 19],S [r 6 [m 20 1,m 21 8,o 22 .eql 20 21],K 22 7 [m 23 0,m 24 2,w 25 (.app 7 56 (.t 23) (.t 24)),m 6 25]],S [(.raw (λ_ _=>true)),.cond (.t 31) (S [(.raw (λ_ _=>true)),(.raw (λ_ _=>true)),(.raw (λ_ _=>true)),r 12 [m 55 9,m 6 55],.ret]) .skip],r 13 [m 56 0,m 57 8,m 58 7,o 59 .add 57 58,w 60 (.slc 7 (.t 56) none (some (.t 59))),m 0 60],S [r 14 [m 61 2,m 62 0,m 63 1,m 64 7,o 65 .add 63 64,w 66 (.slc 7 (.t 62) (some (.t 65)) none),c 67 158 [61,66],t 68 67],.cond (.t 68) (S [(.raw (λ_ _=>true)),(.raw (λ_ _=>true)),r 17 [m 83 0,m 6 83],.ret]) .skip],(.raw (λ_ _=>true)),r 19 [m 89 0,m 90 1,w 91 (.slc 7 (.t 89) (some (.t 90)) none),m 92 7,c 93 159 [91,92]],r 20 [m 94 0,m 6 94],.ret]
def ZmJ:List RRes:=[.t 6]
def ZmK {G:Jg} {objs objs':List (Nat×AObj)} {args:List AV} {v:AV} (hn:args.length<=f108.ntmps) (h:∀ R:Run,R.G=G->R.Top->AR prog R ZmI ⟨iniT 0 args,objs⟩ (FinB ZmJ v objs')):PB prog G 108 objs args v objs' :=
 PB_of func108 rfl (by kernel_rfl) (rc:=ZmI) (by kernel_rfl) (rs:=ZmJ) (by kernel_rfl) hn (λR _ hG hr=>h R hG hr)
end
open Go.RowKit Go.Lib
def ZmL {P:Program} (w:World) (dT sT ty elem:TypeId) (b o dLen dCap:Nat) (a:Addr) (sLen sCap sz:Nat) (cs:List Value)
  (hu:P.underlying dT=some (.slice elem)) (hs:(P.info? elem).map (·.size)=some sz) (hn:cs.length=Nat.min sLen dLen*sz)
  (hsrc:∀ j v,cs[j]? = some v->w.cell? (a.add j)=some v) (hc:∀ j,j<cs.length->(w.cell? ⟨b,o+j,none⟩).isSome=true) (hf:∀ j,j<cs.length->w.frozen? ⟨b,o+j,none⟩=false) (h1:∀ v∈cs,v.oneCell'=true) :
  (Builtin.copy_ #[dT,sT] ty #[.slice (some ⟨b,o,none⟩) dLen dCap,.slice (some a) sLen sCap]).run P w = .ok (goInt (Nat.min sLen dLen)) (w.setCells b o cs):=by
 have hl:=run_loadCells_list (P:=P) w a cs hsrc;have hst:=run_storeCells_cells (P:=P) b o cs 0 w (by simpa using hc) (by simpa using hf) h1
 cases hq:P.info? elem with
 |none=>simp[hq]at hs
 | some i =>
   have hi:i.size=sz:=(by simpa [hq] using hs);simp[Builtin.copy_,run_underlying hu,Builtin.lenOf,Builtin.firstCells,sizeOf,typeInfo,hq,hi,<- hn,hl,hst]
def ZmQ {P:Program} (w:World) (tS tR e:TypeId) (ht:P.underlying tS=some (.slice e)) (size:Nat) (hz:∀ w,(Go.sizeOf e).run P w = .ok size w)
  (a b:Addr) (la ca lb cb:Nat) (hne:a.block≠b.block) (tA tB:TypeId) (kA kB:Nat)
  (hsa:w.shape? a.block=some (tA,kA)) (hkA:kA≠0) (hsb:w.shape? b.block=some (tB,kB)) (hfb:w.frozen? b=false) (hfe:w.frozen? { block:=b.block,off:=kB }=false) :
  (Extern.SlicesOverlaps.overlaps #[tS,tS] #[tR] #[.slice (some a) la ca,.slice (some b) lb cb]).run P w = .ok (.bool false) w:=by
 have hnb:(a.block != b.block)=true:=(by simpa using hne);have hnb':(a.block == b.block)=false:=by simpa using hne
 change Sem.run P (underlying tS>>=_) w=_
 by_cases h0:la=0∨lb=0∨size=0
 . simp[run_underlying ht,hz,h0]
 . cases kA with
   |zero=>exact absurd rfl hkA
   | succ kA =>
     cases q1:w.frozen? a <;> cases q2:w.frozen? { block:=a.block,off:=kA+1 } <;>
      simp[run_underlying ht,hz,h0,hnb,hnb',frozen,noView,viewAt,mayBeOne,stringish,shape,Sem.run,hsa,hsb,hfb,hfe,q1,q2]
set_option maxRecDepth 100000 in
def ZmR (b off n c i vb voff vc:Nat) (cs vs:List Value) (w:World) (hi:i<n) (hroom:n+1<=c) (hc63:c<=9223372036854775807) (hvb:vb≠b)
  (hcl:cs.length=n*7) (hvl:vs.length=7)
  (hcs:∀ j v,cs[j]? = some v->w.cell? ⟨b,off+j,none⟩=some v) (hsp:∀ j,j<(n+1)*7->(w.cell? ⟨b,off+j,none⟩).isSome=true) (hfz:∀ j,j<(n+1)*7->w.frozen? ⟨b,off+j,none⟩=false)
  (hvs:∀ j v,vs[j]? = some v->w.cell? ⟨vb,voff+j,none⟩=some v) (h1c:∀ v∈cs,v.oneCell'=true) (h1v:∀ v∈vs,v.oneCell'=true)
  (tA tB:TypeId) (kA kB:Nat) (hsa:w.shape? vb=some (tA,kA)) (hkA:kA≠0) (hsb:w.shape? b=some (tB,kB)) (hfb:∀ j,w.frozen? ⟨b,j,none⟩=false) :
  Calls prog 108 #[.slice (some ⟨b,off,none⟩) n c,.int .i64 i,.slice (some ⟨vb,voff,none⟩) 1 vc] w λe w' =>
   e = .returned (.slice (some ⟨b,off,none⟩) (n+1) c)/\w'=(w.drew.setCells b (off+(i+1)*7) (cs.drop (i*7))).setCells b (off+i*7) vs:=by
 have hz2:¬((i:Int)=(n:Int)):=(by omega);obtain ⟨ie,hie⟩ : ∃ ie,prog.info? 70=some ie:=⟨_,rfl⟩;have hsz7:ie.size=7:=(by revert hie;rintro ⟨⟩;rfl);have hsz:(prog.info? 70).map (·.size)=some 7:=(by rw[hie];simp[hsz7]);have hso:∀ w,(Go.sizeOf 70).run prog w = .ok 7 w:=λw=>by simp[sizeOf,typeInfo,hie,hsz7]
 have hov:∀ lb cb,(callFunc 158 #[.slice (some ⟨vb,voff,none⟩) 1 vc,.slice (some ⟨b,off+(i+1)*7,none⟩) lb cb]).run prog w = .ok (.value (.bool false)) w:=λlb cb=>by
  rw[run_callFunc_extern Tryz.func158 (by kernel_rfl) (by kernel_rfl) (by kernel_rfl) (e:=Extern.SlicesOverlaps.overlaps #[29,29] #[4]) (by kernel_rfl),
   ZmQ w 29 4 70 Tryz.underlying29 7 hso ⟨vb,voff,none⟩ ⟨b,off+(i+1)*7,none⟩ 1 vc lb cb hvb tA tB kA kB hsa hkA hsb (hfb _) (hfb _)]
  rfl
 have hdl:(cs.drop (i*7)).length=(n-i)*7:=(by rw[List.length_drop,hcl,Nat.sub_mul]);have hw1:i64.wrap ((i:Int)+1)=(i:Int)+1:=(by rw[IntKind.wrap_i64];omega);have hw2:i64.wrap ((n:Int)+1)=(n:Int)+1:=(by rw[IntKind.wrap_i64];omega);have hb1:(0:Int)<=(i:Int)+1:=(by omega);have hin:i<=n:=(by omega);have htn:((i:Int)+1).toNat=i+1:=(by omega);have htn2:((n:Int)+1).toNat=n+1:=(by omega);have hb2:¬(c=i+1):=(by omega);have hb3:(i:Int)<=(n:Int)+1:=(by omega);have hb4:¬(c=i):=(by omega);have hcn2:¬((c:Int)<(n:Int)+1):=(by omega);have hsp0:∀ j,j<(n+1)*7->(w.drew.cell? ⟨b,off+j,none⟩).isSome=true:=hsp;have e1:n-i+1+i=n+1:=(by omega);have m1:(n+1)*7=n*7+7:=(by omega);have m2:(i+1)*7=i*7+7:=(by omega);have m3:i*7+(n-i)*7=n*7:=by rw[<- W0Z];congr 1;omega
 have hcp1:∀ ty dc sc,(Builtin.copy_ #[29,29] ty #[.slice (some ⟨b,off+(i+1)*7,none⟩) (n-i) dc,.slice (some ⟨b,off+i*7,none⟩) (n+1-i) sc]).run prog w.drew = .ok (goInt ((n-i:Nat):Int)) (w.drew.setCells b (off+(i+1)*7) (cs.drop (i*7))):=λty dc sc=>by
  have hmin:Nat.min (n+1-i) (n-i)=n-i:=by simp only[Nat.min_def];split <;> omega
  have h:=ZmL w.drew 29 29 ty 70 b (off+(i+1)*7) (n-i) dc ⟨b,off+i*7,none⟩ (n+1-i) sc 7 (cs.drop (i*7)) Tryz.underlying29 hsz (by rw[hmin,hdl])
   (λj v hj=>by rw[Addr.add_lit,W1v];exact hcs (i*7+j) v (by rwa [W13]at hj))
   (λj hj=>by rw[W1v];exact hsp0 _ (by omega)) (λj hj=>by rw[W1v];exact hfz _ (by omega)) (λv hv=>h1c v (W1S hv))
  rwa [hmin]at h
 obtain ⟨W1,hW1⟩:=Qex (w.drew.setCells b (off+(i+1)*7) (cs.drop (i*7)))
 have hsp1:∀ k,k<(n+1)*7->(W1.cell? ⟨b,off+k,none⟩).isSome=true:=λk hk=>by
  rw[hW1];exact isSome_setCells b _ _ _ (λj hj=>by rw[W1v];exact hsp0 _ (by omega)) _ (hsp0 k hk)
 have hcp2:∀ ty dc,(Builtin.copy_ #[29,29] ty #[.slice (some ⟨b,off+i*7,none⟩) (n+1-i) dc,.slice (some ⟨vb,voff,none⟩) 1 vc]).run prog W1 = .ok (goInt 1) (W1.setCells b (off+i*7) vs):=λty dc=>by
  have hmin:Nat.min 1 (n+1-i)=1:=by simp only[Nat.min_def];split <;> omega
  have h:=ZmL W1 29 29 ty 70 b (off+i*7) (n+1-i) dc ⟨vb,voff,none⟩ 1 vc 7 vs Tryz.underlying29 hsz (by rw[hmin,hvl])
   (λj v hj=>by
    rw[Addr.add_lit,hW1,World.cell?_setCells_out b _ _ _ _ (λh _=>absurd h hvb)];exact hvs j v hj)
   (λj hj=>by rw[W1v];exact hsp1 _ (by omega)) (λj hj=>by rw[hW1,World.frozen?_setCells,W1v];exact hfz _ (by omega)) h1v
  rwa [hmin]at h
 rw[hW1]at hcp2;clear e1 m1 m2 m3
 go_enter Tryz.func108,Tryz.ntmps108
 go_wp2_with (simp only[hov])
 go_region_law (refine step_copy_runI rfl _ _ 29 29 rfl _ _ (by simp[Act.eval,Act.put]) (by simp[Act.eval,Act.put]) (hcp1 _ _ _) ?_)
 go_wp2_with (simp only[hcp2])
 go_ret
 first|exact ⟨rfl,rfl⟩|exact ⟨rfl,by rw[hW1]⟩
set_option maxRecDepth 100000 in
def ZmS (b off n c i vb voff vc:Nat) (cs vs:List Value) (w:World) (hi:i<n) (hnc:n<=c) (hroom:c<n+1) (hbig:(n+1)*56<=140737488355328)
  (hcl:cs.length=n*7) (hvl:vs.length=7)
  (hcs:∀ j v,cs[j]? = some v->w.cell? ⟨b,off+j,none⟩=some v)
  (hvs:∀ j v,vs[j]? = some v->w.cell? ⟨vb,voff+j,none⟩=some v) (h1c:∀ v∈cs,v.oneCell'=true) (h1v:∀ v∈vs,v.oneCell'=true)
  (ie:TypeInfo) (z:Value) (hie:prog.info? 70=some ie) (hz:ie.zero=some z) (hsz7:ie.size=7) (hzb:ie.bytes=56) (hzs:z.cells.size=7) :
  Calls prog 108 #[.slice (some ⟨b,off,none⟩) n c,.int .i64 i,.slice (some ⟨vb,voff,none⟩) 1 vc] w λe w' =>
   e = .returned (.slice (some ⟨w.heap.size,0,none⟩) (n+1) (grownCap w (n+1) c 70)) /\
   w'=(((w.drew.alloc (.cells ((cs.take (i*7)).toArray++Builtin.zeroCells z.cells (n+1-i)++Builtin.zeroCells z.cells (grownCap w (n+1) c 70-(n+1))) 70)).setCells w.heap.size (i*7) vs).drew).setCells w.heap.size ((i+1)*7) (cs.drop (i*7)):=by
 have hz2:¬((i:Int)=(n:Int)):=(by omega);have hz3:(c:Int)<(n:Int)+1:=(by omega);have hsz:(prog.info? 70).map (·.size)=some 7:=(by rw[hie];simp[hsz7]);have hbw:b<w.heap.size:=block_lt_of_cell (hcs 0 _ (W07 (by omega)));have hvw:vb<w.heap.size:=block_lt_of_cell (hvs 0 _ (W07 (by omega)));have hkk:(n:Int)+1-(i:Int)=((n+1-i:Nat):Int):=(by omega);have hik:i+(n+1-i)=n+1:=(by omega);have m0:i*7+(n-i)*7=n*7:=(by rw[<- W0Z];congr 1;omega);have m2:(i+1)*7=i*7+7:=(by omega);have m1:(n+1)*7=n*7+7:=(by omega);have m3:(n+1-i)*7=(n-i)*7+7:=(by rw[show n+1-i=(n-i)+1 by omega];omega);have htl:(cs.take (i*7)).length=i*7:=by rw[W15];omega
 have hold:(Builtin.firstCells ie.size i (.slice (some ⟨b,off,none⟩) i c)).run prog w.drew = .ok (cs.take (i*7)).toArray w.drew:=by
  rw[hsz7]
  exact run_firstCells_some (w:=w.drew) 7 i ⟨b,off,none⟩ i c (cs.take (i*7)) htl (λj v hj=>by
   rw[Addr.add_lit];rw[W1m]at hj
   split at hj
   . exact hcs j v hj
   . cases hj)
 have hrz:∀ ty,(Builtin.append_ #[29,3] ty #[.slice (some ⟨b,off,none⟩) i c,.int .i64 ((n:Int)+1-(i:Int))]).run prog w =
   .ok (.slice (some ⟨w.heap.size,0,none⟩) (n+1) (grownCap w (n+1) c 70)) (w.drew.alloc (.cells ((cs.take (i*7)).toArray++Builtin.zeroCells z.cells (n+1-i)++Builtin.zeroCells z.cells (grownCap w (n+1) c 70-(n+1))) 70)):=λty=>by
  have h:=Lib.run_append_grow_zeros w 29 3 ty 70 ie z .i64 .i64 Tryz.underlying29 Tryz.underlying3 hie hz (some ⟨b,off,none⟩) i c (cs.take (i*7)) hold (n+1-i) (by omega) (by omega) (by omega) (by omega) (by rw[hzb];omega) (by rw[hzb,hik];exact growslice_fits hroom hbig);rw[hik]at h;rw[hkk];exact h
 obtain ⟨G,hG⟩:=Qex (grownCap w (n+1) c 70);obtain ⟨ROW,hROW⟩ : ∃ ROW:Array Value,ROW=(cs.take (i*7)).toArray++Builtin.zeroCells z.cells (n+1-i)++Builtin.zeroCells z.cells (G-(n+1)):=⟨_,rfl⟩;rw[<- hG]at hrz ⊢;rw[<- hROW]at hrz ⊢
 have hRl:(n+1)*7<=ROW.size:=by
  rw[hROW];simp only[Array.size_append,List.size_toArray,htl,size_zeroCells,hzs];omega
 obtain ⟨W1,hW1⟩:=Qex (w.drew.alloc (.cells ROW 70));rw[<- hW1]at hrz
 have hN:∀ j,j<(n+1)*7->(W1.cell? ⟨w.heap.size,j,none⟩).isSome=true:=λj hj=>by
  rw[hW1,World.cell?_alloc_at (w:=w.drew) ROW _ w.heap.size j rfl,W0n (by omega)];rfl
 have hNf:∀ j,W1.frozen? ⟨w.heap.size,j,none⟩=false:=λj=>by rw[hW1];exact World.frozen?_alloc_at (w:=w.drew) ROW _ w.heap.size j rfl
 have hOb:∀ j v,w.cell? ⟨b,j,none⟩=some v->W1.cell? ⟨b,j,none⟩=some v:=λj v h=>by rw[hW1,World.cell?_alloc_past (w:=w.drew) _ b j hbw];exact h
 have hOv:∀ j v,w.cell? ⟨vb,j,none⟩=some v->W1.cell? ⟨vb,j,none⟩=some v:=λj v h=>by rw[hW1,World.cell?_alloc_past (w:=w.drew) _ vb j hvw];exact h
 have hdl:(cs.drop (i*7)).length=(n-i)*7:=(by rw[List.length_drop,hcl];omega);have hbN:b≠w.heap.size:=by omega
 have hcpA:∀ ty dc,(Builtin.copy_ #[29,29] ty #[.slice (some ⟨w.heap.size,i*7,none⟩) (n+1-i) dc,.slice (some ⟨vb,voff,none⟩) 1 vc]).run prog W1 = .ok (goInt 1) (W1.setCells w.heap.size (i*7) vs):=λty dc=>by
  have hmin:Nat.min 1 (n+1-i)=1:=by simp only[Nat.min_def];split <;> omega
  have h:=ZmL W1 29 29 ty 70 w.heap.size (i*7) (n+1-i) dc ⟨vb,voff,none⟩ 1 vc 7 vs Tryz.underlying29 hsz (by rw[hmin,hvl])
   (λj v hj=>by rw[Addr.add_lit];exact hOv _ v (hvs j v hj))
   (λj hj=>hN _ (by omega)) (λj hj=>hNf _) h1v
  rwa [hmin]at h
 have hcpB:∀ ty dc sc,(Builtin.copy_ #[29,29] ty #[.slice (some ⟨w.heap.size,(i+1)*7,none⟩) (n-i) dc,.slice (some ⟨b,off+i*7,none⟩) (n-i) sc]).run prog (W1.setCells w.heap.size (i*7) vs).drew = .ok (goInt ((n-i:Nat):Int)) ((W1.setCells w.heap.size (i*7) vs).drew.setCells w.heap.size ((i+1)*7) (cs.drop (i*7))):=λty dc sc=>by
  have hmin:Nat.min (n-i) (n-i)=n-i:=by simp
  have h:=ZmL (W1.setCells w.heap.size (i*7) vs).drew 29 29 ty 70 w.heap.size ((i+1)*7) (n-i) dc ⟨b,off+i*7,none⟩ (n-i) sc 7 (cs.drop (i*7)) Tryz.underlying29 hsz (by rw[hmin,hdl])
   (λj v hj=>by
    rw[Addr.add_lit];show (W1.setCells w.heap.size (i*7) vs).cell? _=some v;rw[World.cell?_setCells_out _ _ _ _ _ (λh _=>absurd h hbN),W1v];exact hOb _ v (hcs (i*7+j) v (by rwa [W13]at hj)))
   (λj hj=>by
    show ((W1.setCells w.heap.size (i*7) vs).cell? _).isSome=true;exact isSome_setCells _ _ _ _ (λt ht=>hN _ (by omega)) _ (hN _ (by omega)))
   (λj hj=>by
    show (W1.setCells w.heap.size (i*7) vs).frozen? _=false;rw[World.frozen?_setCells];exact hNf _) (λv hv=>h1c v (W1S hv))
  rwa [hmin]at h
 have hGn:n+1<=G:=by rw[hG];exact grownCap_ge w _ _ _
 have hG63:G<=9223372036854775807:=by
  have:=grownCap_le_maxLen w (n+1) c 70 (by unfold maxLen;omega);rw[<- hG]at this;unfold maxLen at this;omega
 have hGi:¬(G=i):=(by omega);have hGim:¬(G=i+1):=(by omega);have hci:¬(c=i):=(by omega);rw[<- hW1];have hw1:i64.wrap ((i:Int)+1)=(i:Int)+1:=(by rw[IntKind.wrap_i64];omega);have hw2:i64.wrap ((n:Int)+1)=(n:Int)+1:=(by rw[IntKind.wrap_i64];omega);have hw3:i64.wrap ((n:Int)+1-(i:Int))=(n:Int)+1-(i:Int):=(by rw[IntKind.wrap_i64];omega);have hb1:(0:Int)<=(i:Int)+1:=(by omega);have hin:i<=n:=(by omega);have htn:((i:Int)+1).toNat=i+1:=(by omega);have hb3:(i:Int)<=(n:Int):=(by omega);clear hkk hik hold hROW hG hRl m0 m1 m2 m3 htl hdl hN hNf hOb hOv;clear hW1
 go_enter Tryz.func108,Tryz.ntmps108
 go_wp2_with (first
  |(at_builtin;refine Lib.wpList_append_run _ rfl _ _ _ _ rfl _ _ rfl rfl _ _ (hrz _) ?_)
  |(at_builtin;refine wpList_copy_runI _ rfl _ _ 29 29 rfl _ _ rfl rfl (hcpA _ _) ?_))
 go_region_law (refine step_copy_runI rfl _ _ 29 29 rfl _ _ (by simp[Act.eval,Act.put]) (by simp[Act.eval,Act.put]) (hcpB _ _ _) ?_)
 go_wp2
 go_ret
 exact ⟨rfl,rfl⟩
open Go.RowKit Go.Lib
def ZmT {x:Prt} {y:AV} (h:y∈ptA x):∃ (k:IntKind) (n:Int),y = .int k n:=by
 simp only[ptA,W0g,W0Q,or_false]at h;rcases h with rfl|rfl|rfl|rfl|rfl|rfl|rfl <;> exact ⟨_,_,rfl⟩
def ZmU (x:Prt):(ptA x).length=7:=rfl
def ZmV {l:Jp} {x:Prt} {i:Nat} (hi:i<l.length) {m j:Nat} {r:List AV} {y:AV} (hm:((putP l x i).map ptA)[m]? = some r) (hj:r[j]? = some y) :
  j<7/\((m<i/\(l.map ptA)[m]? = some r)∨(m=i/\r=ptA x)∨(i<m/\(l.map ptA)[m-1]? = some r)):=by
 rw[W09,W04]at hm;obtain ⟨p,hp,rfl⟩:=hm;refine ⟨(W02.1 hj).1,?_⟩;unfold putP at hp;rw[W1s]at hp;have htl:(l.take i).length=i:=by simp;omega
 split at hp
 . rename_i q;rw[htl]at q;rw[List.getElem?_take_of_lt q]at hp;exact .inl ⟨q,by rw[W09,hp];rfl⟩
 . rename_i q;rw[htl]at q hp;by_cases e:m=i
   . subst e;rw[W2q,W2i,W00]at hp;exact .inr (.inl ⟨rfl,by rw[hp]⟩)
   . rw[show m-i=(m-i-1)+1 by omega,List.getElem?_cons_succ,W13,show i+(m-i-1)=m-1 by omega]at hp;exact .inr (.inr ⟨by omega,by rw[W09,hp];rfl⟩)
set_option maxRecDepth 100000 in
def ZmW (l:Jp) (x:Prt) (i:Nat) (hi:i<l.length) (hl:l.length<=41) :
  PB prog G 108 [(1000,.row 7 (l.map ptA))] [.osl 1000 l.length,.int .i64 i,.vsl [ptA x]] (.osl 1000 (l.length+1)) [(1000,.row 7 ((putP l x i).map ptA))]:=by
 refine ⟨by kernel_rfl,λR W κ vs hG hN hW hX hE hk hsz hvs=>?_⟩;have hg:(obSt [(1000,.row 7 (l.map ptA))]).get 1000=some (.row 7 (l.map ptA)):=rfl;obtain ⟨vs⟩:=vs
 match vs,hsz with
 |[v,vi,vx],_ =>
 have hv:=hvs 0 _ v rfl rfl;have hvi:=hvs 1 _ vi rfl rfl;have hvx:=hvs 2 _ vx rfl rfl;obtain rfl:vi = .int .i64 i:=by cases hvi with|pv h=>cases h;rfl
 obtain ⟨b,s,c,cs,t,hκ,rfl,hnc,hc,hb,hs,hr,hx⟩:=hk.osl hv hg (by simp);obtain ⟨a',cap,sz',bx,ox,f,rfl,q1,q2,q3,q4,q5,q6,q7⟩:=ZO hvx.vsl_inv';obtain ⟨rfl,q3b,q3c⟩:=q3 (by simp);obtain rfl:sz'=7:=(q5 (ptA x) (by simp)).symm;have hlt:=hk.loc_lt hκ;have hbb:bx≠b:=λe=>q3c (.inr ⟨1000,s,by rw[e];exact hκ⟩)
 have hcell:∀ q,q<l.length*7->∃ u,cs[s+q]? = some u/\u.oneCell'=true:=λq hq=>by
  have hm:q / 7<l.length:=(by omega);have hj:q % 7<(ptA l[q / 7]).length:=(by rw[ZmU];omega);obtain ⟨u,hu,hu2⟩:=hx (q / 7) (q % 7) (ptA l[q / 7]) ((ptA l[q / 7])[q % 7]) (by simp[hm]) (by simp[hj]);refine ⟨u,by rw[<- hu];congr 1;omega,?_⟩;obtain ⟨k,n,e⟩:=ZmT (W0e hj);rw[e]at hu2
  cases hu2 with|pv h=>cases h;rfl
 have hnew:∀ q,q<7->W.cell? ⟨bx,ox+q,none⟩=some (f 0 q)/\(f 0 q).oneCell'=true:=λq hq=>by
  have h1:=q6 0 q (by simp) hq;have hj:q<(ptA x).length:=hq;have h2:=q7 0 q (ptA x) ((ptA x)[q]) (by simp) (by simp[hj]);refine ⟨by simpa using h1,?_⟩;obtain ⟨k,n,e⟩:=ZmT (W0e hj);rw[e]at h2
  cases hf:f 0 q <;> rw[hf]at h2 <;> cases h2 <;> rfl
 obtain ⟨cl,hcl⟩ : ∃ cl:List Value,cl=(List.range (l.length*7)).map λq=>cs.getD (s+q) Go.undef:=⟨_,rfl⟩
 obtain ⟨vl,hvl⟩ : ∃ vl:List Value,vl=(List.range 7).map λq=>f 0 q:=⟨_,rfl⟩
 have hcll:cl.length=l.length*7:=(by rw[hcl];simp);have hvll:vl.length=7:=by rw[hvl];simp
 have hcla:∀ q u,cl[q]? = some u->q<l.length*7/\cs[s+q]? = some u/\u.oneCell'=true:=λq u hq=>by
  have hlt2:q<l.length*7:=(by have:=(W02.1 hq).1;omega);obtain ⟨u2,h1,h2⟩:=hcell q hlt2;rw[hcl,W09,W0L hlt2,W0m,W00,W0a,h1]at hq;simp only[W0P]at hq;subst hq;exact ⟨hlt2,h1,h2⟩
 have hclb:∀ q u,q<l.length*7->cs[s+q]? = some u->cl[q]? = some u:=λq u hq h1=>by
  rw[hcl,W09,W0L hq,W0m,W0a,h1];rfl
 have hvla:∀ q u,vl[q]? = some u->W.cell? ⟨bx,ox+q,none⟩=some u/\u.oneCell'=true:=λq u hq=>by
  have hlt2:q<7:=(by have:=(W02.1 hq).1;omega);rw[hvl,W09,W0L hlt2,W0m,W00]at hq;subst hq;exact hnew q hlt2
 have hvlb:∀ q,q<7->vl[q]? = some (f 0 q):=λq hq=>by rw[hvl,W09,W0L hq];rfl
 have h1c:∀ u∈cl,u.oneCell'=true:=λu hu=>by
  obtain ⟨q,hq⟩:=List.mem_iff_getElem?.1 hu;exact (hcla q u hq).2.2
 have h1v:∀ u∈vl,u.oneCell'=true:=λu hu=>by
  obtain ⟨q,hq⟩:=List.mem_iff_getElem?.1 hu;exact (hvla q u hq).2
 have hW:∀ q u,cl[q]? = some u->W.cell? ⟨b,s+q,none⟩=some u:=λq u hq=>by
  rw[World.cell?,hb];exact (hcla q u hq).2.1
 have hfz:∀ q,W.frozen? ⟨b,q,none⟩=false:=λq=>by simp[World.frozen?,hb]
 have hput:(putP l x i).length=l.length+1:=Zfh
 have fin:∀ (c2:Array Value) (o2:Nat),(∀ q u,q<i*7->cl[q]? = some u->c2[o2+q]? = some u)->(∀ q u,vl[q]? = some u->c2[o2+i*7+q]? = some u)->(∀ q u,cl[i*7+q]? = some u->c2[o2+(i+1)*7+q]? = some u) ->
   ∀ (m j:Nat) (r:List AV) (y:AV),((putP l x i).map ptA)[m]? = some r->r[j]? = some y->∃ v,c2[o2+m*7+j]? = some v/\VR ((obSt [(1000,.row 7 (l.map ptA))]).env R.M κ) W y v:=λc2 o2 f1 f2 f3 m j r y hm hj=>by
  obtain ⟨hj7,h|h|h⟩:=ZmV hi hm hj
  . obtain ⟨u,h1,h2⟩:=hx m j r y h.2 hj;have hlm:=h.1;refine ⟨u,?_,h2⟩;rw[W1v];exact f1 _ u (by omega) (hclb _ u (by omega) (by rw[<- W1v];exact h1))
  . obtain ⟨rfl,rfl⟩:=h;exact ⟨f 0 j,f2 j _ (hvlb j hj7),.pv (q7 0 j (ptA x) y rfl hj)⟩
  . obtain ⟨u,h1,h2⟩:=hx (m-1) j r y h.2 hj;have hlm:m-1<l.length:=(by have:=(W02.1 h.2).1;simpa using this);refine ⟨u,?_,h2⟩;have e1:o2+m*7+j=o2+(i+1)*7+((m-1-i)*7+j):=(by omega);rw[e1];refine f3 _ u (hclb _ u (by omega) ?_);rw[<- h1];congr 1;omega
 have hrows:∀ r∈(putP l x i).map ptA,r.length=7:=λr h=>by
  obtain ⟨p,-,rfl⟩:=W0i.1 h;rfl
 have hlen:(l.map ptA).length<((putP l x i).map ptA).length:=(by simp only[W0N];omega);by_cases hroom:l.length+1<=c
 . have hsh:∃ tA kA,W.shape? bx=some (tA,kA)/\kA≠0:=by
    have h1:=(hnew 0 (by omega)).1;unfold World.cell? at h1;unfold World.shape?
    split at h1
    . rename_i c2 e2 f2 hh;simp only[Option.isSome_none,W05,if_false]at h1;have:=(W0c.1 h1).1;exact ⟨_,_,by rw[hh],by omega⟩
    . cases h1
   obtain ⟨tA,kA,s1,s2⟩:=hsh;refine (ZmR b s l.length c i bx ox cap cl vl W hi hroom (by unfold maxLen at hc;omega) hbb hcll hvll hW (λj hj=>by simp[World.cell?,hb];omega) (λj _=>hfz _) (λj u h=>(hvla j u h).1) h1c h1v tA t kA cs.size s1 s2 (by simp[World.shape?,hb]) hfz).mono ?_;rintro e W' ⟨rfl,rfl⟩;have hdl:(cl.drop (i*7)).length=(l.length-i)*7:=(by rw[List.length_drop,hcll,Nat.sub_mul]);have m3:i*7+(l.length-i)*7=l.length*7:=(by rw[<- W0Z];congr 1;omega);have hb':W.drew.heap[b]? = some (.cells cs t (0,0)):=hb;obtain ⟨c1,d1,d2,d3,d4⟩:=ZD b (cl.drop (i*7)) (s+(i+1)*7) W.drew cs t hb' (by omega);obtain ⟨c2,g1,g2,g3,g4⟩:=ZD b vl (s+i*7) _ c1 t d1 (by omega)
   obtain ⟨k1,k2⟩:=hk.regrow (rows':=(putP l x i).map ptA) (nb:=(b,s)) (W':=(W.drew.setCells b (s+(i+1)*7) (cl.drop (i*7))).setCells b (s+i*7) vl) hg hκ hlen (by rw[ZE,ZE];exact W0f _)
    (λj hj hne=>by rw[World.heap_setCells_other _ b _ _ (by rw[ZE];exact hj) hne,World.heap_setCells_other W.drew b _ _ hj hne];rfl) (by rw[World.os_setCells,World.os_setCells];rfl) (by rw[ZF,ZF];rfl) (by rw[World.output_setCells,World.output_setCells];rfl) g1 (.inl rfl)
    ⟨hrows,by rw[g2,d2,W0N,hput];simp only;omega,fin c2 s (λq u hq h=>by
     rw[g3 _ (.inl (by omega)),d3 _ (.inl (by omega))];exact (hcla q u h).2.1) (λq u h=>g4 q u h) (λq u h=>by
     rw[g3 _ (.inr (by omega))];exact d4 q u (by rw[W13];exact h))⟩
   exact ⟨_,_,rfl,k1,.osl 1000 _ 7 ((putP l x i).map ptA).length _ _ _ (by simp[St.env,St.get,obSt,lk,AObj.dim]) (by simp[hput]) λ_=>⟨b,s,c2,t,by simp[St.env],rfl,by simp,by simpa using hroom,hc,g1,by omega⟩⟩
 . obtain ⟨ie,hie⟩ : ∃ ie,prog.info? 70=some ie:=⟨_,rfl⟩;have hi3:∃ z,ie.zero=some z/\ie.size=7/\ie.bytes=56/\z.cells.size=7:=(by revert hie;rintro ⟨⟩;exact ⟨_,rfl,rfl,rfl,rfl⟩);obtain ⟨z,z1,z2,z3,z4⟩:=hi3;refine (ZmS b s l.length c i bx ox cap cl vl W hi hnc (by omega) (by omega) hcll hvll hW (λj u h=>(hvla j u h).1) h1c h1v ie z hie z1 z2 z3 z4).mono ?_;have hge:=grownCap_ge W (l.length+1) c 70;have hcm:grownCap W (l.length+1) c 70<=maxLen:=grownCap_le_maxLen W (l.length+1) c 70 (by unfold maxLen;omega);generalize hgc:grownCap W (l.length+1) c 70=gc at *;rintro e W' ⟨rfl,rfl⟩;have hdl:(cl.drop (i*7)).length=(l.length-i)*7:=(by rw[List.length_drop,hcll,Nat.sub_mul]);have htl:(cl.take (i*7)).length=i*7:=(by rw[W15,hcll];omega);have m3:i*7+(l.length-i)*7=l.length*7:=(by rw[<- W0Z];congr 1;omega);obtain ⟨ROW,hROW⟩ : ∃ ROW:Array Value,ROW=(cl.take (i*7)).toArray++Builtin.zeroCells z.cells (l.length+1-i)++Builtin.zeroCells z.cells (gc-(l.length+1)):=⟨_,rfl⟩;rw[<- hROW]
   have hRs:ROW.size=gc*7:=by
    rw[hROW];simp only[Array.size_append,List.size_toArray,htl,size_zeroCells,z4];omega
   have hR1:∀ q u,q<i*7->cl[q]? = some u->ROW[q]? = some u:=λq u hq h=>by
    rw[hROW,W0W,if_pos (by simp only[Array.size_append,List.size_toArray,htl];omega),W0W,if_pos (by simp only[List.size_toArray,htl];omega),W2s,List.getElem?_take_of_lt hq];exact h
   obtain ⟨c1,d1,d2,d3,d4⟩:=ZD W.heap.size vl (i*7) (W.drew.alloc (.cells ROW 70)) ROW 70 (heap_alloc_new W.drew _) (by omega);obtain ⟨c2,g1,g2,g3,g4⟩:=ZD W.heap.size (cl.drop (i*7)) ((i+1)*7) ((W.drew.alloc (.cells ROW 70)).setCells W.heap.size (i*7) vl).drew c1 70 d1 (by omega);have hsz2:(W.drew.alloc (.cells ROW 70)).heap.size=W.heap.size+1:=by simp
   have hold:∀ j,j<W.heap.size->((((W.drew.alloc (.cells ROW 70)).setCells W.heap.size (i*7) vl).drew).setCells W.heap.size ((i+1)*7) (cl.drop (i*7))).heap[j]? = W.heap[j]?:=λj hj=>by
    rw[World.heap_setCells_other _ W.heap.size _ _ (by show j<((W.drew.alloc (.cells ROW 70)).setCells W.heap.size (i*7) vl).heap.size;rw[ZE,hsz2];omega) (by omega)];show ((W.drew.alloc (.cells ROW 70)).setCells W.heap.size (i*7) vl).heap[j]? = _;rw[World.heap_setCells_other _ W.heap.size _ _ (by rw[hsz2];omega) (by omega)];exact heap_alloc_old W.drew _ hj
   obtain ⟨k1,k2⟩:=hk.regrow (rows':=(putP l x i).map ptA) (nb:=(W.heap.size,0)) (W':=(((W.drew.alloc (.cells ROW 70)).setCells W.heap.size (i*7) vl).drew).setCells W.heap.size ((i+1)*7) (cl.drop (i*7))) hg hκ hlen
    (by rw[ZE];show _<=((W.drew.alloc (.cells ROW 70)).setCells W.heap.size (i*7) vl).heap.size;rw[ZE,hsz2];omega)
    (λj hj _=>hold j hj) (by rw[World.os_setCells];show ((W.drew.alloc (.cells ROW 70)).setCells W.heap.size (i*7) vl).os=_;rw[World.os_setCells];rfl)
    (by rw[ZF];show ((W.drew.alloc (.cells ROW 70)).setCells W.heap.size (i*7) vl).tape=_;rw[ZF];rfl)
    (by rw[World.output_setCells];show ((W.drew.alloc (.cells ROW 70)).setCells W.heap.size (i*7) vl).output=_;rw[World.output_setCells];rfl) g1
    (.inr ⟨rfl,by rw[ZE];show _<((W.drew.alloc (.cells ROW 70)).setCells W.heap.size (i*7) vl).heap.size;rw[ZE,hsz2];omega,hold b hlt⟩)
    ⟨hrows,by rw[g2,d2,hRs,W0N,hput];simp only;omega,fin c2 0 (λq u hq h=>by
     rw[W1N,g3 _ (.inl (by omega)),d3 _ (.inl (by omega))];exact hR1 q u hq h) (λq u h=>by
     have:=(W02.1 h).1;rw[W1N,g3 _ (.inl (by omega))];exact d4 q u h) (λq u h=>by
     rw[W1N];exact g4 q u (by rw[W13];exact h))⟩
   exact ⟨_,_,rfl,k1,.osl 1000 _ 7 ((putP l x i).map ptA).length _ _ _ (by simp[St.env,St.get,obSt,lk,AObj.dim]) (by simp[hput]) λ_=>⟨W.heap.size,0,c2,70,by simp[St.env],rfl,by simp,by simpa using hge,hcm,g1,by omega⟩⟩
section
open Qq Go.Proofs.Tryz
def ZmX:RCode :=
 S [r 0 [b 3 1,n 4 O],S [r 1 [m 6 0,e 7 6,n 8 O],.block 0 (.loop (S [r 2 [o 9 .lss 8 7],.cond (.t 9) .skip (.exit 0),.block 1 (S [r 3 [m 10 8,m 5 10],R 4 [L 11 7 3,m 12 0,m 13 5,a [1,2] (i 14 7 12 13),a [3] (L 15 7 14),a [0,4] (w 16 (.eqs false [.i,.i,.i,.i,.i,.i,.i] (.t 11) (.t 15)))],K 16 5 [m 17 5,m 4 17]]),r 6 [k 18 .add 8 I,m 8 18]]))],r 7 [n 4 (.int .i64 (-1))],.ret]
def ZmY:List RRes:=[.t 4]
def ZmZ:PCt prog 103 f103 ZmX ZmY:=pcT func103 rfl
def Zn0:RCode :=
 S [r 0 [n 2 O],r 1 [m 3 0,w 4 (.vop (.sh false) [(.t 3),(.c (.int .u64 1))]),w 5 (.vop (.bits .and) [(.t 4),(.c (.int .u64 6148914691236517205))]),m 6 0,w 7 (.vop (.bits .and) [(.t 6),(.c (.int .u64 6148914691236517205))]),o 8 .add 5 7,m 0 8],r 2 [m 9 0,w 10 (.vop (.sh false) [(.t 9),(.c (.int .u64 2))]),w 11 (.vop (.bits .and) [(.t 10),(.c (.int .u64 3689348814741910323))]),m 12 0,w 13 (.vop (.bits .and) [(.t 12),(.c (.int .u64 3689348814741910323))]),o 14 .add 11 13,m 0 14],r 3 [m 15 0,w 16 (.vop (.sh false) [(.t 15),(.c (.int .u64 4))]),m 17 0,o 18 .add 16 17,w 19 (.vop (.bits .and) [(.t 18),(.c (.int .u64 1085102592571150095))]),m 0 19],r 4 [m 20 0,m 21 0,w 22 (.vop (.sh false) [(.t 21),(.c (.int .u64 8))]),o 23 .add 20 22,m 0 23],r 5 [m 24 0,m 25 0,w 26 (.vop (.sh false) [(.t 25),(.c (.int .u64 16))]),o 27 .add 24 26,m 0 27],r 6 [m 28 0,m 29 0,w 30 (.vop (.sh false) [(.t 29),(.c (.int .u64 32))]),o 31 .add 28 30,m 0 31],r 7 [m 32 0,w 33 (.conv .i64 (.t 32)),w 34 (.vop (.bits .and) [(.t 33),(.c (.int .i64 127))]),m 2 34],.ret]
def Zn1:List RRes:=[.t 2]
def Zn2:PCt prog 102 f102 Zn0 Zn1:=pcT func102 rfl
def Zn3:RCode :=
 S [r 0 [n 3 (.bool false)],r 1 [l 4 1,w 5 (.nilck (.t 4)),f 6 4 5,l 7 6,m 8 0,c 9 87 [7,8],t 10 9,m 3 10],.ret]
def Zn4:List RRes:=[.t 3]
def Zn5:PCt prog 100 f100 Zn3 Zn4:=pcT func100 rfl
def Zn6:RCode :=
 S [r 0 [n 2 .nils],S [r 1 [m 3 0,w 4 (.vop (.eqn false) [(.t 3),(.c .nils)])],K 4 2 [n 2 .nils]],r 3 [w 5 (.bsl true 1 0 [] []),m 6 0,w 7 (.app 1 8 (.t 5) (.t 6)),m 2 7],.ret]
def Zn7:List RRes:=[.t 2]
def Zn8:PCt prog 156 f156 Zn6 Zn7:=pcT func156 rfl
def Zn9:RCode :=
 S [r 0 [w 2 (.alloc [.nils,.nils,.nils,.nils])],R 1 [m 8 0,a [0] (w 9 (.nilck (.t 8))),a [1] (f 10 0 9),a [2] (f 11 0 10),a [3] (f 12 1 11),a [4] (l 13 12),a [5] (c 14 120 [13]),a [6] (w 15 (.build [.nils,.nils] [(1,1,.t 14)])),m 16 0,a [8] (w 17 (.nilck (.t 16))),a [9] (f 18 0 17),a [10] (f 19 3 18),a [11] (l 20 19),a [12,6] (c 21 155 [20]),a [7,13] (w 22 (.build [.nils,.nils,.nils,.nils] [(0,2,.t 15),(3,1,.t 21)])),w 3 (.alloc [.nils,.nils,.nils,.nils]),a [15,14,13,0,1,2,3,4,5,6,7,8,9,10,11,12,13,14,15] (s 4 3 22)],S [r 2 [m 23 0,w 24 (.nilck (.t 23)),f 25 0 24,f 26 0 25,f 27 0 26,f 28 0 27,l 29 28,e 30 29,n 31 O],.block 0 (.loop (S [r 3 [o 32 .lss 31 30],.cond (.t 32) .skip (.exit 0),.block 1 (S [r 4 [i 33 5 29 31,L 34 5 33,w 5 (.alloc [O,O,.int .u8 0,.nils,.nils]),s 5 5 34],R 5 [f 35 3 5,a [0] (l 36 35),a [1] (c 37 121 [36]),f 38 4 5,a [3] (l 39 38),a [4,2] (c 40 122 [39]),a [0,1,2,3,4] (f 41 3 5),a [6,2,5,0,1,2,3,4] (s 1 41 37),a [0,1,2,3,4,5,6,7] (f 42 4 5),a [8,5,7,0,1,2,3,4,5,6,7] (s 1 42 40)],r 6 [f 43 0 3,f 44 0 43,f 45 0 44,l 46 45,L 47 5 5,w 48 (.bsl false 5 1 [O,O,.int .u8 0,.nils,.nils] [(0,.t 47)]),w 49 (.app 5 72 (.t 46) (.t 48)),f 50 0 3,f 51 0 50,f 52 0 51,s 1 52 49]]),r 7 [k 53 .add 31 I,m 31 53]]))],S [r 8 [m 54 0,w 55 (.nilck (.t 54)),f 56 0 55,f 57 2 56,l 58 57,e 59 58,n 60 O],.block 2 (.loop (S [r 9 [o 61 .lss 60 59],.cond (.t 61) .skip (.exit 2),.block 3 (S [r 10 [i 62 4 58 60,L 63 4 62,w 7 (.alloc [O,O,O,.nils]),s 4 7 63],r 11 [f 64 3 7,l 65 64,c 66 156 [65],f 67 3 7,s 1 67 66],r 12 [f 68 2 3,l 69 68,L 70 4 7,w 71 (.bsl false 4 1 [O,O,O,.nils] [(0,.t 70)]),w 72 (.app 4 48 (.t 69) (.t 71)),f 73 2 3,s 1 73 72]]),r 13 [k 74 .add 60 I,m 60 74]]))],r 14 [L 75 4 3,s 4 2 75],.ret]
def Zna:List RRes:=[.c 2 true 4]
def Znb:PCt prog 101 f101 Zn9 Zna:=pcT func101 rfl
def Znc:RCode :=
 S [r 0 [b 4 0,w 8 (.alloc [.nils,.nils,.nils,.nils]),n 9 O],r 1 [L 21 4 4,m 22 1,w 23 (.call 89 [.t 21,.t 22,.c I]),m 20 23,x 24 0 20,x 25 1 20,w 10 (.alloc [.nilp]),s 1 10 24,m 11 25],S [r 2 [m 26 11,k 27 .neq 26 O],K 27 3 [w 28 (.build [.nils,.nils,.nils,.nils] []),m 29 11,s 4 8 28,m 9 29]],r 4 [n 12 (.int .u64 0)],S [r 5 [m 30 2,e 31 30,n 32 O],.block 0 (.loop (S [r 6 [o 33 .lss 32 31],.cond (.t 33) .skip (.exit 0),.block 1 (S [r 7 [i 34 1 30 32,l 35 34,m 14 35],r 8 [l 36 10,m 37 14,c 38 82 [36,37],m 15 38],S [r 9 [m 39 15,k 40 .lss 39 O],K 40 10 [w 41 (.build [.nils,.nils,.nils,.nils] []),s 4 8 41,n 9 (.int .i64 6)]],r 11 [m 42 12,m 43 15,w 44 (.vop (.sh true) [(.c (.int .u64 1)),(.t 43)]),w 45 (.vop (.bits .or) [(.t 42),(.t 44)]),m 12 45]]),r 12 [k 46 .add 32 I,m 32 46]]))],S [r 13 [m 47 3,w 48 (.mkf (.func 100) [] [.t 10]),c 49 85 [47,48]],K 49 14 [w 50 (.build [.nils,.nils,.nils,.nils] []),s 4 8 50,n 9 (.int .i64 6)]],r 15 [l 51 10,c 52 101 [51],w 16 (.alloc [.nils,.nils,.nils,.nils]),s 4 16 52],S [r 16 [m 53 12,c 54 102 [53],m 55 3,e 56 55,o 57 .add 54 56,k 58 .eql 57 O],K 58 17 [L 59 4 16,s 4 8 59,n 9 O]],S [r 18 [l 60 10,m 61 1,c 62 91 [60,61],e 63 62,n 64 O],.block 2 (.loop (S [r 19 [o 65 .lss 64 63],.cond (.t 65) .skip (.exit 2),.block 3 (S [r 20 [i 66 7 62 64,L 67 7 66,w 18 (.alloc [O,O,O,O,O,O,.int .u8 0]),s 7 18 67],S [r 21 [m 68 12,l 69 10,f 70 2 18,l 71 70,c 72 82 [69,71],w 73 (.vop (.sh false) [(.t 68),(.t 72)]),w 74 (.vop (.bits .and) [(.t 73),(.c (.int .u64 1))]),k 75 .eql 74 (.int .u64 0),m 76 75,g 76 true (m 77 3),g 76 true (f 78 3 18),g 76 true (f 79 0 78),g 76 true (l 80 79),g 76 true (c 81 87 [77,80]),g 76 true (t 82 81),v 83 76 82],.cond (.t 83) (.exit 3) .skip],R 22 [l 84 10,a [0] (w 85 (.nilck (.t 84))),a [1] (f 86 0 85),a [2] (f 87 3 86),a [3] (l 88 87),L 89 7 18,a [4,5] (c 90 103 [88,89]),a [6,6,0,1,2,3,4,5,6] (m 19 90)],R 23 [f 91 3 16,a [0] (l 92 91),m 93 19,f 94 3 16,a [3] (l 95 94),m 96 19,m 97 1,a [1,2,0,1,2,6] (i 98 7 92 93),a [7,0,1,2,6] (f 99 5 98),a [8,6,0,1,2,6] (s 1 99 97),a [4,5,0,1,2,3,4,5,6,7,8,9] (i 100 7 95 96),a [10,0,1,2,3,4,5,6,7,8,9] (f 101 6 100),a [11,9,0,1,2,3,4,5,6,7,8,9] (z (.store 1 (.t 101) (.c (.int .u8 0))))]]),r 24 [k 102 .add 64 I,m 64 102]]))],r 25 [L 103 4 16,s 4 8 103,n 9 O],.ret]
def Znd:List RRes:=[.c 8 true 4,.t 9]
def Zne:PCt prog 40 f40 Znc Znd:=pcT func40 rfl
def Znf:RCode :=
 S [r 0 [b 2 0,n 4 O],r 1 [f 5 0 2,l 6 5,m 7 1,c 8 107 [6,7],m 4 8],.ret]
def Zng:List RRes:=[.t 4]
def Znh:PCt prog 106 f106 Znf Zng:=pcT func106 rfl
def Zni:RCode :=
 S [r 0 [n 6 O,n 7 (.bool false)],r 1 [m 12 0,e 13 12,m 8 13],r 2 [m 14 8,n 9 O,m 10 14],.block 0 (.loop (S [S [r 3 [m 15 9,m 16 10,o 17 .lss 15 16],.cond (.t 17) .skip (.exit 0)],.block 1 (S [r 4 [m 18 9,m 19 10,o 20 .add 18 19,w 21 (.conv .u64 (.t 20)),w 22 (.vop (.sh false) [(.t 21),(.c (.int .u64 1))]),w 23 (.conv .i64 (.t 22)),m 11 23],r 5 [m 24 2,m 25 0,m 26 11,i 27 7 25 26,L 28 7 27,m 29 1,w 30 (.callv (.t 24) [.t 28,.t 29]),k 31 .lss 30 O],.cond (.t 31) (r 6 [m 32 11,k 33 .add 32 I,m 9 33]) (r 7 [m 34 11,m 10 34])])])),r 8 [m 35 9,m 36 9,m 37 8,o 38 .lss 36 37,m 39 38,g 39 true (m 40 2),g 39 true (m 41 0),g 39 true (m 42 9),g 39 true (i 43 7 41 42),g 39 true (L 44 7 43),g 39 true (m 45 1),g 39 true (w 46 (.callv (.t 40) [.t 44,.t 45])),g 39 true (k 47 .eql 46 O),v 48 39 47,m 6 35,m 7 48],.ret]
def Znj:List RRes:=[.t 6,.t 7]
def Znk:PCt prog 105 f105 Zni Znj:=pcT func105 rfl
def Znl:RCode :=
 S [r 0 [b 2 0,b 3 1,w 4 (.alloc [.nils,.nils,.nils,.nils]),n 5 O],r 1 [L 12 4 2,c 13 76 [12],m 11 13,x 14 0 11,x 15 1 11,m 6 14,m 7 15],S [r 2 [m 16 7,k 17 .neq 16 O],K 17 3 [w 18 (.build [.nils,.nils,.nils,.nils] []),m 19 7,s 4 4 18,m 5 19]],S [r 4 [f 20 3 2,l 21 20,e 22 21,k 23 .eql 22 (.int .i64 30)],K 23 5 [w 24 (.build [.nils,.nils,.nils,.nils] []),s 4 4 24,n 5 (.int .i64 9)]],r 6 [m 25 6,c 26 101 [25],w 8 (.alloc [.nils,.nils,.nils,.nils]),s 4 8 26],r 7 [f 28 3 8,l 29 28,f 30 0 3,l 31 30,w 32 (.call 105 [.t 29,.t 31,.c (.func (.func 106) [] [])]),m 27 32,x 33 0 27,x 34 1 27,m 9 33,m 10 34],r 8 [f 35 3 8,l 36 35,m 37 9,L 38 7 3,w 39 (.bsl false 7 1 [O,O,O,O,O,O,.int .u8 0] [(0,.t 38)]),c 40 108 [36,37,39],f 41 3 8,s 1 41 40],S [r 9 [L 42 4 8,c 43 23 [42],k 44 .neq 43 O],K 44 10 [w 45 (.build [.nils,.nils,.nils,.nils] []),s 4 4 45,n 5 (.int .i64 70)]],r 11 [L 46 4 8,s 4 4 46,n 5 O],.ret]
def Znm:List RRes:=[.c 4 true 4,.t 5]
def Znn:PCt prog 42 f42 Znl Znm:=pcT func42 rfl
end
def Zno {x y:Prt}:(decide (x.no=y.no)&&(decide (x.dy=y.dy)&&(decide (x.ho=y.ho)&&(decide (x.dw=y.dw)&&(decide (x.lt=y.lt)&&(decide (x.bk=y.bk)&&decide (x.lo=y.lo)))))))=decide (x=y):=by
 cases x;cases y
 rw[W2h];simp
def Znp (x:Prt) (l:Jp) (hl:Sml l):PC prog G 103 [.vsl (l.map ptA),.agg (ptA x)] (.int .i64 (fstOf (λy=>decide (x=y)) l)):=by
 unfold Sml at hl;have hpx:ptA x=[.int .i64 x.no,.int .i64 x.dy,.int .i64 x.ho,.int .i64 x.dw,.int .i64 x.lt,.int .i64 x.bk,.int .u8 x.lo]:=rfl;refine ZmZ rfl λR hG hrd=>?_
 subst hG;refine Qga ?_;simp -implicitDefEqProofs[ZmX,ZmY];refine Z8a (λi=>⟨[(8,.int .i64 i),(7,.int .i64 l.length),(0,.vsl (l.map ptA)),(3,.ptr 3 0)],[(3,.box (ptA x))]⟩) (λi=>∀ j (h:j<l.length),j<i->decide (x=l[j])=false) l.length ?_ (by simp) ?_ ?_
 . ((try simp only[hpx]);refine Ym.sub (by simp[lk,Ya,AV.keys,hpx]) ?_;simp only[hpx,Wkl,and_true];(try simp[lk,Yc,Ya,AV.keys,hpx]))
 . intro i hi he;have w1:i64.wrap ((i:Int)+1)=((i+1:Nat):Int):=Yf;obtain ⟨y,hy⟩:=Qex (l[i]);have hly:l[i]=y:=hy.symm;have hpy:ptA y=[.int .i64 y.no,.int .i64 y.dy,.int .i64 y.ho,.int .i64 y.dw,.int .i64 y.lt,.int .i64 y.bk,.int .u8 y.lo]:=rfl;have hpi:=Zno (x:=x) (y:=y);refine Qga ?_;simp -implicitDefEqProofs[hi,hly,hpx,hpy,eqL,eq1];refine ⟨rfl,?_⟩;rw[hpi];by_cases e:x=y
   . have hf:fstOf (λy=>decide (x=y)) l=i:=Z8X hi (by simp[hly,e]) he;rw[W0M e];simp -implicitDefEqProofs;refine Qgr ?_;simp -implicitDefEqProofs[hf]
   . rw[W0S e];simp -implicitDefEqProofs[w1];refine ⟨?_,λj q1 q2=>?_⟩
     . ((try simp only[hpx]);refine Ym.sub (by simp[lk,Ya,AV.keys,hpx]) ?_;simp only[hpx,Wkl,and_true];(try simp[lk,Yc,Ya,AV.keys,hpx]))
     . by_cases e2:j=i
       . subst e2;rw[hly];exact e
       . exact of_decide_eq_false (he j q1 (by omega))
 . intro he;refine Qga ?_;simp -implicitDefEqProofs;refine Qgr ?_;simp -implicitDefEqProofs[Z8Y (p:=λy=>decide (x=y)) (l:=l) (λj hj=>he j hj hj)]
def cmN (a b:Int):Int:=if a<b then -1 else if b<a then 1 else 0
def Znq (z:Prt) (n:Int):PC prog G 106 [.agg (ptA z),.int .i64 n] (.int .i64 (cmN z.no n)):=by
 have c:=Z9D (G:=G) z.no n
 (refine Znh rfl λR hG hrd=>Qga ?_;subst hG)
 simp -implicitDefEqProofs[Znf,Zng,ptA];unfold cmN;refine Qco (c) ?_;simp -implicitDefEqProofs
def Znr (r:Jr) (l:Jl) (hs:Jh) (ps:Jp) (d:Int) (hd:Sml (nums r)):PC prog G 100 [.int .i64 d,.vptr [ofA r l hs ps] 0] (.bool (!decide (d∈nums r))):=by
 have c:=Ze3 (G:=G) (nums r) d hd;have eO:ofA r l hs ps = .vptr [.vsl (r.map isa),.vsl (l.map na),.vsl (hs.map hoa),.vsl (ps.map ptA),.vsl ((nums r).map ia)] 0:=rfl;rw[eO]
 (refine Zn5 rfl λR hG hrd=>Qga ?_;subst hG)
 simp -implicitDefEqProofs[Zn3,Zn4];refine Qco (c) ?_;simp -implicitDefEqProofs
def Zns {l:Jp} (h:riP l) {i j:Nat} (hij:i<j) (hj:j<l.length):(l[i]'(by omega)).no<l[j].no:=W0Y.1 h i j (by omega) hj hij
def bsB (l:Jp) (x:Prt):Bool:=match l[plP l x]? with|some y=>decide (y.no=x.no)|none=>false
def Znt (a b:Int):decide (cmN a b<0)=decide (a<b):=by unfold cmN;split <;> (try split) <;> simp_all
def Znu (a b:Int):decide (cmN a b=0)=decide (a=b):=by unfold cmN;split <;> (try split) <;> simp_all <;> omega
def Znv (g:Nat) (x:Prt) (l:Jp) (hl:Sml l) (hr:riP l) (hg:∀ z∈l,PC prog G g [.agg (ptA z),.int .i64 x.no] (.int .i64 (cmN z.no x.no))) :
  PC prog G 105 [.vsl (l.map ptA),.int .i64 x.no,.func (.func g) [] []] (.tup [.int .i64 (plP l x),.bool (bsB l x)]):=by
 unfold Sml at hl;have hpl:=λz:Prt=>show ptA z=[.int .i64 z.no,.int .i64 z.dy,.int .i64 z.ho,.int .i64 z.dw,.int .i64 z.lt,.int .i64 z.bk,.int .u8 z.lo] from rfl
 (refine Znk rfl λR hG hrd=>Qga ?_;subst hG)
 simp -implicitDefEqProofs[Zni,Znj]
 refine Z1Q (λp:Nat×Nat=>⟨[(10,.int .i64 p.2),(9,.int .i64 p.1),(8,.int .i64 l.length),(0,.vsl (l.map ptA)),(1,.int .i64 x.no),(2,.func (.func g) [] [])],[]⟩)
  (λp=>p.1<=p.2/\p.2<=l.length/\(∀ y∈l.take p.1,y.no<x.no)/\∀ y∈l.drop p.2,x.no<=y.no) (λp=>p.2-p.1) (0,l.length) ?_ ⟨W1f _,W0f _,by simp,by simp⟩ ?_
 . (first|exact Wka|exact Wkb)
 rintro ⟨a,b⟩ ⟨hab,hbl,h1,h2⟩;dsimp only at hab hbl h1 h2;refine Qga ?_;by_cases hlt:a<b
 . obtain ⟨m,hm⟩:=Qex ((a+b) / 2);have w1:i64.wrap ((a:Int)+b)=(a:Int)+b:=Yf;have w2:IntKind.u64.wrap ((a:Int)+b)=(a:Int)+b:=by rw[IntKind.wrap_u64];omega
   have w3:((a:Int)+b).fdiv (2 ^ min 1 IntKind.u64.bits)=(m:Int):=by
    rw[show (2:Int) ^ min 1 IntKind.u64.bits=2 from rfl,Int.fdiv_eq_ediv_of_nonneg _ (by omega)];omega
   have w4:i64.wrap (m:Int)=(m:Int):=Yf;have w5:i64.wrap ((m:Int)+1)=((m+1:Nat):Int):=Yf;have hml:m<l.length:=(by omega);obtain ⟨z,hz⟩:=Qex (l[m]);have hlz:l[m]=z:=hz.symm;have hgz:=hg z (by rw[hz];exact W0e hml);rw[hpl]at hgz;simp -implicitDefEqProofs[hlt,w1,w2,w3,w4,hml,hlz,hpl];refine Yd.of hgz (by simp[AV.pure]) ?_;by_cases c:z.no<x.no
   . simp -implicitDefEqProofs[Znt,c,w5];refine ⟨(m+1,b),?_,⟨by dsimp only;omega,hbl,?_,h2⟩,by dsimp only;omega⟩
     . (first|exact Wka|exact Wkb)
     . intro y hy;obtain ⟨j,hj,rfl⟩:=W0k hy;rw[W1V];have hj2:j<m+1:=(by simp at hj;omega);by_cases e:j=m
       . subst e;rw[hlz];exact c
       . have:=Zns hr (i:=j) (j:=m) (by omega) hml;rw[hlz]at this;omega
   . simp -implicitDefEqProofs[Znt,c];refine ⟨(a,m),?_,⟨by dsimp only;omega,by dsimp only;omega,h1,?_⟩,by dsimp only;omega⟩
     . (first|exact Wka|exact Wkb)
     . intro y hy;dsimp only at hy;obtain ⟨j,hj,rfl⟩:=W0k hy;rw[List.getElem_drop];have hj2:m+j<l.length:=(by simp at hj;omega);by_cases e:j=0
       . subst e;simp only[W1X,hlz];omega
       . have:=Zns hr (i:=m) (j:=m+j) (by omega) hj2;rw[hlz]at this;omega
 . have eab:a=b:=(by omega);subst eab;have hp:plP l x=a:=Zfk hr hbl h1 h2;by_cases c:a<l.length
   . obtain ⟨z,hz⟩:=Qex (l[a]);have hlz:l[a]=z:=hz.symm;have hgz:=hg z (by rw[hz];exact W0e c);rw[hpl]at hgz;have hb:bsB l x=decide (z.no=x.no):=(by unfold bsB;rw[hp,W07 c,hlz]);rw[hp,hb];simp -implicitDefEqProofs[hlt];refine Qgr ?_;simp -implicitDefEqProofs[c,hlz,hpl];refine Yd.of hgz (by simp[AV.pure]) ?_;simp -implicitDefEqProofs[Znu]
   . have hb:bsB l x=false:=(by unfold bsB;rw[hp,W25 (by omega)]);rw[hp,hb];simp -implicitDefEqProofs[hlt];refine Qgr ?_;simp -implicitDefEqProofs[c]
def ocF (v:Nat):Int:=((List.range 8).filter λi=>v.testBit i).length
def Znw:∀ v,v<256->(ocF v=0↔v=0):=by decide +kernel
def Znx:∀ v,v<256->0<=ocF v/\ocF v<=8:=by decide +kernel
def Zny:∀ v,v<256->PC prog G 102 [.int .u64 (v:Nat)] (.int .i64 (ocF v)):=by
 intro v hv
 (refine Zn2 rfl λR hG hrd=>Qga ?_;subst hG)
 simp -implicitDefEqProofs[Zn0,Zn1];clear hrd
 revert v
 decide +kernel
section
open Qq Go.Proofs.Tryz
def Znz:RCode :=
 S [r 0 [n 2 .nils],S [r 1 [m 3 0,w 4 (.vop (.eqn false) [(.t 3),(.c .nils)])],K 4 2 [n 2 .nils]],r 3 [w 5 (.bsl true 10 0 [] []),m 6 0,w 7 (.app 10 72 (.t 5) (.t 6)),m 2 7],.ret]
def ZnA:List RRes:=[.t 2]
def ZnB:PCt prog 120 f120 Znz ZnA:=pcT func120 rfl
end
def ZnC (l:Jl):((l.map na).all λr=>r.all AV.pure)=true:=by simp[na,AV.pure]
def ZnD (l:List (Int×Int)) (hl:Sml l):PC prog G 121 [.vsl (l.map ita)] (.vsl (l.map ita)):=by
 by_cases hne:l=[]
 . subst hne;exact Zag
 unfold Sml at hl;have b1:l.length*16<=70368744177664:=(by omega);have h0:¬l.length=0:=λe=>hne (W0l.1 e)
 have k1:(l.map ita).all (λr=>r.length == 2)=true:=(by simp[ita]);have k2:(l.map ita).all (λr=>r.all AV.one)=true:=(by simp[ita,AV.one]);have k5:(l.map ita).all (λr=>r.all AV.pure)=true:=by simp[ita,AV.pure]
 (refine Z7l rfl λR hG hrd=>Qga ?_;subst hG)
 simp -implicitDefEqProofs[Z7j,Z7k,h0,hne,b1,k1,k2,k5]
def ZnE (l:List Dm) (hl:Sml l):PC prog G 122 [.vsl (l.map dma)] (.vsl (l.map dma)):=by
 by_cases hne:l=[]
 . subst hne;exact Zah
 unfold Sml at hl;have b1:l.length*24<=70368744177664:=(by omega);have h0:¬l.length=0:=λe=>hne (W0l.1 e)
 have k1:(l.map dma).all (λr=>r.length == 3)=true:=(by simp[dma]);have k2:(l.map dma).all (λr=>r.all AV.one)=true:=(by simp[dma,AV.one]);have k5:(l.map dma).all (λr=>r.all AV.pure)=true:=by simp[dma,AV.pure]
 (refine Z7o rfl λR hG hrd=>Qga ?_;subst hG)
 simp -implicitDefEqProofs[Z7m,Z7n,h0,hne,b1,k1,k2,k5]
def rwI (r:Jr) (i:Nat):List (List AV):=(r.take i).map isa
def ZnF {r:Jr} {i:Nat} (h:i<r.length):rwI r (i+1)=rwI r i++[isa r[i]]:=by
 unfold rwI;rw[W08 h,W0r];rfl
def ZnG {r:Jr} {i:Nat} (h:i<=r.length):(rwI r i).length=i:=by simp[rwI];omega
def ZnH (o:List (Nat×AObj)) (r:Jr) (i:Nat):Yc o (.row 5 (rwI r i))=true:=by
 simp only[Yc,W03,rwI,W0i];rintro x ⟨y,-,rfl⟩ v hv;simp only[isa,W0g,W0Q,or_false]at hv;rcases hv with rfl|rfl|rfl|rfl|rfl <;> simp[Ya,AV.keys]
def coK:Nat->Bool:=λk=>decide (k<1000) && !(k == 621)
def coV (i:Nat):AV:=if i=0 then .nils else .osl 49 i
def coO (r:Jr) (i:Nat):List (Nat×AObj):=if i=0 then [] else [(49,.row 5 (rwI r i))]
def coS (O:AV) (B:List (List AV)) (ps:Jp) (r:Jr) (i:Nat):St :=
 ⟨[(31,.int .i64 i),(30,.int .i64 r.length),(29,.vsl (r.map isa)),(3,.ptr 3 0),(2,.ptr 2 0),(0,O)],coO r i++[(3,.box [coV i,.vsl B,.nils,.osl 621 ps.length]),(621,.row 7 (ps.map ptA)),(2,.box [.nils,.nils,.nils,.nils])]⟩
def coT (O:AV) (B:List (List AV)) (ps:Jp) (r:Jr) (hs H:Jh) (i:Nat):St :=
 ⟨[(60,.int .i64 i),(59,.int .i64 hs.length),(58,.vsl (hs.map hoa)),(3,.ptr 3 0),(2,.ptr 2 0),(0,O)],[(3,.box [.vsl (r.map isa),.vsl B,hlV 72 H,.osl 621 ps.length]),(621,.row 7 (ps.map ptA)),(2,.box [.nils,.nils,.nils,.nils])]++hlO 72 H⟩
def ZnI:PC prog G 120 [.vsl []] (.vsl []):=by
 refine Za9 Tryz.func120 rfl (by kernel_rfl) (rc:=Znz) (by kernel_rfl) (rs:=ZnA) (by kernel_rfl) (W0C rfl) λR _ hG hrd=>Qga ?_
 simp -implicitDefEqProofs[Znz,ZnA,FinZ,nz]
def ZnJ (l:Jl) (hl:Sml l):PC prog G 120 [.vsl (l.map na)] (.vsl (l.map na)):=by
 by_cases hne:l=[]
 . subst hne;exact ZnI
 unfold Sml at hl;have b1:l.length*72<=70368744177664:=(by omega);have h0:¬l.length=0:=λe=>hne (W0l.1 e)
 have k1:(l.map na).all (λr=>r.length == 10)=true:=(by simp[na]);have k2:(l.map na).all (λr=>r.all AV.one)=true:=(by simp[na,AV.one]);have k5:=ZnC l
 (refine ZnB rfl λR hG hrd=>Qga ?_;subst hG)
 simp -implicitDefEqProofs[Znz,ZnA,h0,hne,b1,k1,k2,k5]
def ZnK:PC prog G 156 [.vsl []] (.vsl []):=by
 refine Za9 Tryz.func156 rfl (by kernel_rfl) (rc:=Zn6) (by kernel_rfl) (rs:=Zn7) (by kernel_rfl) (W0C rfl) λR _ hG hrd=>Qga ?_
 simp -implicitDefEqProofs[Zn6,Zn7,FinZ,nz]
def ZnL (l:List Int) (hl:Sml l):PC prog G 156 [.vsl (l.map ia)] (.vsl (l.map ia)):=by
 by_cases hne:l=[]
 . subst hne;exact ZnK
 unfold Sml at hl;have b1:l.length*8<=70368744177664:=(by omega);have h0:¬l.length=0:=λe=>hne (W0l.1 e)
 have k1:(l.map ia).all (λr=>r.length == 1)=true:=(by simp[ia]);have k2:(l.map ia).all (λr=>r.all AV.one)=true:=(by simp[ia,AV.one]);have k5:(l.map ia).all (λr=>r.all AV.pure)=true:=by simp[ia,AV.pure]
 (refine Zn8 rfl λR hG hrd=>Qga ?_;subst hG)
 simp -implicitDefEqProofs[Zn6,Zn7,h0,hne,b1,k1,k2,k5]
def ofE (r:Jr) (l:Jl) (hs:Jh) (E:AV):AV:=.vptr [.vsl (r.map isa),.vsl (l.map na),.vsl (hs.map hoa),E,.vsl ((nums r).map ia)] 0
def ZnM (r:Jr) (l:Jl) (hs:Jh) (E:AV) (hE:E.pure=true):(ofE r l hs E).pure=true:=by simp[ofE,AV.pure]
def ZnN (r:Jr) (l:Jl) (hs:Jh) (ps:Jp) (E:AV) (pE:E.pure=true) (cP:PB prog G 155 [] [E] (.osl 5 ps.length) [(5,.row 7 (ps.map ptA))]) (hr:Wf r) (hl:Sml l) (hw:WfP hs ps) (hne:r≠[]) (h80:r.length<=80) :
  PB prog G 101 [] [ofE r l hs E] (.agg [.vsl (r.map isa),.vsl (l.map na),Yg (hs.map hoa),.osl 621 ps.length]) [(621,.row 7 (ps.map ptA))]:=by
 have kE:=AV.pure_keys _ pE;have hhl:=hw.hl;have hpl:=hw.pl;have hdl:=hw.dl;have cN:=ZnJ (G:=G) l hl;have hI:=λx (hx:x∈r)=>hr.1.2 x hx
 obtain ⟨B,hB⟩:=Qex (l.map na);obtain ⟨N,hN⟩:=Qex (AV.vsl B);have pN:N.pure=true:=(by rw[hN,hB];simp[AV.pure,na]);have kN:=AV.pure_keys _ pN;obtain ⟨cs,hO,hc0,hc1,hc2,hc3⟩ : ∃ cs,ofE r l hs E = .vptr cs 0/\cs[0]? = some (.vsl (r.map isa))/\cs[1]? = some (.vsl B)/\cs[2]? = some (.vsl (hs.map hoa))/\cs[3]? = some E:=⟨_,rfl,rfl,by rw[hB];rfl,rfl,rfl⟩;have pO:=ZnM r l hs E pE;rw[hO]at pO ⊢;have kO:=AV.pure_keys _ pO;have rN:=λρ=>AV.ren_pure (ρ:=ρ) N pN
 rw[<- hB]at cN ⊢;rw[hN]at pN kN rN;refine Z5i coK (by intro k hk;simp[coK]at hk;omega) Tryz.func101 rfl (by kernel_rfl) (rc:=Zn9) (by kernel_rfl) (rs:=Zna) (by kernel_rfl) (W0C rfl) λR _ hG' hrd=>Yb mixed 4 ?_
 subst hG';simp -implicitDefEqProofs[Zn9,Zna];refine GO0 (ZjK mixed ?_)
 iterate 6 (rw[RE_op (by simp[wants]) (by simp[Z1y])];simp -implicitDefEqProofs[execE,hc0,hc1,hc2,hc3])
 rw[ZjM (by simp[wants])];simp -implicitDefEqProofs;refine CallE.of cN (by simp[pN]) ?_
 iterate 6 (rw[RE_op (by simp[wants]) (by simp[Z1y])];simp -implicitDefEqProofs[execE,hc0,hc1,hc2,hc3])
 rw[ZjM (by simp[wants])];simp -implicitDefEqProofs;refine CallE.new (NewS.of cP (λk=>k+616) (by simp) (by simp[St.get,lk]) (by simp[pE]) rfl) ?_;simp -implicitDefEqProofs[Yl,ZlD,AV.ren]
 iterate 3 (rw[RE_op (by simp[wants]) (by simp[Z1y])];simp -implicitDefEqProofs[execE])
 refine ⟨(by simp only[kE,List.flatMap_nil,W1G,W18];rfl),?_⟩;refine Qgr ?_;simp -implicitDefEqProofs[hc0];refine Z8a (coS (.vptr cs 0) B ps r) (λ_=>True) r.length ?_ trivial ?_ ?_
 . simp only[coS,coV,coO,if_true,W18]
   ((try simp only[ZkQ]);refine Ym.sub (by simp[lk,Ya,AV.keys,ZkQ]) ?_;simp only[ZkQ,Wkl,and_true];(try simp[lk,Yc,Ya,AV.keys,ZkQ]))
 . intro i hi _;have wi:i64.wrap ((i:Int)+1)=(i:Int)+1:=Yf;have sc:=ZnF hi;have hx2:=hI _ (W0e hi);obtain ⟨x,hx⟩:=Qex (r[i]);have hax:isa r[i]=[.int .i64 x.d,.int .i64 x.l,.int .u8 x.k,.vsl (x.its.map ita),.vsl (x.dms.map dma)]:=(by rw[<- hx];rfl);rw[<- hx]at hx2;rw[hax]at sc;have c1:=ZnD (G:=R.G) x.its hx2.1;have c2:=ZnE (G:=R.G) x.dms hx2.2;refine Qga ?_;unfold coS;by_cases h0i:i=0
   . subst h0i;have e0:rwI r 0=[]:=rfl;have w1:i64.wrap 1=1:=rfl;rw[e0,W18]at sc;replace sc:rwI r 1=[[.int .i64 x.d,.int .i64 x.l,.int .u8 x.k,.vsl (x.its.map ita),.vsl (x.dms.map dma)]]:=sc;simp only[coV,coO,if_true,W18];simp -implicitDefEqProofs[hi,hax,w1];refine Qco (c1) ?_;simp -implicitDefEqProofs;refine Qco (c2) ?_;simp -implicitDefEqProofs[w1];refine ⟨rfl,?_⟩;rw[sc]
     (refine Wkc ?_;simp only[ZkQ,Wkl,and_true];(try simp[lk,Yc,Ya,AV.keys]))
   . have b1:(i+1)*72<=70368744177664:=(by omega);have hln:=ZnG (r:=r) (i:=i) (by omega);simp only[coV,coO,h0i,if_false,W1e,W18];simp -implicitDefEqProofs[hi,hax];refine Qco (c1) ?_;simp -implicitDefEqProofs;refine Qco (c2) ?_;simp -implicitDefEqProofs[b1,wi,hln];refine ⟨rfl,?_⟩;rw[<- sc]
     (refine Wkc ?_;simp only[ZnH,ZkQ,Wkl,and_true];(try simp[lk,Yc,Ya,AV.keys]))
 . intro _;have hr0:r.length≠0:=λe=>hne (W0l.1 e)
   have hrw:rwI r r.length=r.map isa:=(by unfold rwI;rw[W0v]);have pr:((r.map isa).all λr=>r.all AV.pure)=true:=(by simp[isa,AV.pure]);have pP:((ps.map ptA).all λr=>r.all AV.pure)=true:=by simp[ptA,AV.pure]
   have fP:∀ ok st,frzO ok st (.row 7 (ps.map ptA)) = .row 7 (ps.map ptA):=λok st=>by
    simp only[frzO,W10]
    congr 2
    funext p;simp[ptA,frzA,frz,AV.keys]
   refine Qga ?_;unfold coS;rw[show coO r r.length=[(49,.row 5 (r.map isa))] by unfold coO;rw[if_neg hr0,hrw],show coV r.length = .osl 49 r.length by unfold coV;rw[if_neg hr0]];simp -implicitDefEqProofs;refine Qgr ?_;simp -implicitDefEqProofs[hc2];refine Z8a (λi=>coT (.vptr cs 0) B ps r hs (hs.take i) i) (λ_=>True) hs.length ?_ trivial ?_ ?_
   . refine Ym.trans (Ym.frz (λk=>k == 49) _) ?_;simp only[coT,hlV,hlO,W1g,if_true,W1G]
     ((try simp only[Yi,frzA,fP,frzO,frz,Yh,Yj,St.get,AV.pure,pr]);refine Ym.sub (by simp[lk,Ya,AV.keys,Yi,frzA,fP,frzO,frz,Yh,Yj,St.get,AV.pure,pr]) ?_;simp only[Yi,frzA,fP,frzO,frz,Yh,Yj,St.get,AV.pure,pr,Wkl,ZkQ,and_true];(try simp[lk,Yc,Ya,AV.keys,Yi,frzA,fP,frzO,frz,Yh,Yj,St.get,AV.pure,pr]))
     intro a _;simp[ptA,frzA,frz,AV.keys]
   . intro i hi _;have hdi:=hdl _ (W0e hi);obtain ⟨h,hhe⟩:=Qex (hs[i]);rw[<- hhe]at hdi;have hlx:hs[i]=h:=hhe.symm;have hho:hoa h=[.int .i64 h.id,.int .i64 h.fr,.int .i64 h.to,.vsl (h.ds.map ia)]:=rfl;have c3:=ZnL (G:=R.G) h.ds (by unfold Sml;omega);have wi:i64.wrap ((i:Int)+1)=(i:Int)+1:=Yf;have tk:hs.take (i+1)=hs.take i++[h]:=(by rw[W08 hi,hlx]);have tl:(hs.take i).length=i:=(by simp;omega);have bb:(i+1)*48<=70368744177664:=(by omega);obtain ⟨H,hH⟩:=Qex (hs.take i);rw[<- hH]at tk tl;have em:(H++[h]).map hoa=H.map hoa++[hoa h]:=(by simp);have hne:¬H++[h]=[]:=(by simp);have hV2:hlV 72 (H++[h]) = .osl 72 (i+1):=(by unfold hlV;rw[if_neg hne];simp[tl]);have hO2:hlO 72 (H++[h])=[(72,.row 4 (H.map hoa++[hoa h]))]:=(by unfold hlO;rw[if_neg hne,em]);refine Qga ?_;by_cases cH:H=[]
     case' pos =>
      have hV:hlV 72 H = .nils:=(by simp[hlV,cH]);have hQ:hlO 72 H=[]:=by simp[hlO,cH]
     case' neg =>
      have hV:hlV 72 H = .osl 72 i:=(by simp[hlV,cH,tl]);have hQ:hlO 72 H=[(72,.row 4 (H.map hoa))]:=by simp[hlO,cH]
     all_goals
      simp -implicitDefEqProofs[coT,<- hH,hV,hQ,hi,hlx,hho,wi,bb,tl];refine Qco (c3) ?_;simp -implicitDefEqProofs[coT,<- hH,hV,hQ,hi,hlx,hho,wi,bb,tl];simp only[tk,hV2,hO2,hho];rw[<- hho,<- em]
      ((try simp only[hho]);refine Ym.sub (by simp[lk,Ya,AV.keys,hho]) ?_;simp only[hho,Wkl,ZkQ,ZkP,and_true];(try simp[lk,Yc,Ya,AV.keys,hho]))
      all_goals exact ⟨by rw[<- tl,cH];rfl,cH⟩
   . intro _;have tl:hs.take hs.length=hs:=W0v;refine Qga ?_;by_cases cH:hs=[]
     . have hV:hlV 72 hs = .nils:=(by simp[hlV,cH]);have hQ:hlO 72 hs=[]:=(by simp[hlO,cH]);simp -implicitDefEqProofs[coT,tl,hV,hQ];refine Qgr ?_;simp -implicitDefEqProofs;simp -implicitDefEqProofs[FinO,Yi,coK,fP,frzA,frz,AV.keys,pr,kN,Yg,cH]
     . have hV:hlV 72 hs = .osl 72 hs.length:=(by simp[hlV,cH]);have hQ:hlO 72 hs=[(72,.row 4 (hs.map hoa))]:=(by simp[hlO,cH]);simp -implicitDefEqProofs[coT,tl,hV,hQ];refine Qgr ?_;simp -implicitDefEqProofs;simp -implicitDefEqProofs[FinO,Yi,coK,fP,frzA,frz,AV.keys,pr,kN,Yg,cH,hoa,AV.pure]
def ZnO (r:Jr) (l:Jl) (hs:Jh) (ps:Jp) (hr:Wf r) (hl:Sml l) (hw:WfP hs ps) (hne:r≠[]) (h80:r.length<=80) (hp:ps≠[]) :
  PB prog G 101 [] [ofA r l hs ps] (.agg [.vsl (r.map isa),.vsl (l.map na),Yg (hs.map hoa),.osl 621 ps.length]) [(621,.row 7 (ps.map ptA))] :=
 ZnN r l hs ps (.vsl (ps.map ptA)) (by simp[AV.pure,ptA]) (Zm4 ps hp (by have:=hw.pl;unfold Sml;omega)) hr hl hw hne h80
end Go.Proofs.YtcdlimgkliklhaaGreatDoor
