/-
  What the program's functions on notes compute: the eight checks.
-/
import Derived.Test.YtcdlimgkliklhaaGreatDoorNEeToNe
set_option linter.all false
set_option maxHeartbeats 8000000
namespace Go.Proofs.YtcdlimgkliklhaaGreatDoor
open Tryz (prog)
open IntKind (i64)
open Go.RowKit
variable {G:Jg}
theorem  Zdq (n lo hi:Int):PC prog G 182 [.int .i64 n,.vptr [.int .i64 lo] 0,.vptr [.int .i64 hi] 0] (.bool (!inR n lo hi)):=by
 (refine Zc5 rfl λR hG hrd=>Qga ?_;subst hG)
 by_cases h1:n<lo
 . have h2:¬lo<=n:=(by omega);simp -implicitDefEqProofs[Zc3,Zc4,h1,h2,inR]
 . have h2:lo<=n:=(by omega);by_cases h3:hi<n
   . have h4:¬n<=hi:=(by omega);simp -implicitDefEqProofs[Zc3,Zc4,h1,h2,h3,h4,inR]
   . have h4:n<=hi:=(by omega);simp -implicitDefEqProofs[Zc3,Zc4,h1,h2,h3,h4,inR]
theorem  Zdr (lo hi:Int) (l:List Int) (hl:Sml l):PC prog G 163 [.int .i64 lo,.int .i64 hi,.vsl (l.map ia)] (.bool (l.all λn=>inR n lo hi)):=by
 (refine Zc2 rfl λR hG hrd=>Qga ?_;subst hG)
 simp -implicitDefEqProofs[Zc0,Zc1]
 (first|refine Yd.flat (Z91 182 [.vptr [.int .i64 lo] 0,.vptr [.int .i64 hi] 0] (λn=>!inR n lo hi) l (by simp[AV.pure]) hl (λn _=>Zdq n lo hi)) (by simp[AV.flat]) (by simp) ?_|refine Ye.flat (Z91 182 [.vptr [.int .i64 lo] 0,.vptr [.int .i64 hi] 0] (λn=>!inR n lo hi) l (by simp[AV.pure]) hl (λn _=>Zdq n lo hi)) (by simp[AV.flat]) (by simp) ?_)
 have e:(!l.any λn=>!inR n lo hi)=l.all λn=>inR n lo hi:=by simp[W2l]
 simp -implicitDefEqProofs[e]
theorem  Zds (lo hi n:Int):PC prog G 163 [.int .i64 lo,.int .i64 hi,.vsl [[.int .i64 n]]] (.bool (inR n lo hi)):=by
 have h:=Zdr (G:=G) lo hi [n] (by simp[Sml]);simpa [ia] using h
theorem  Zdt (lo hi n m:Int):PC prog G 163 [.int .i64 lo,.int .i64 hi,.vsl [[.int .i64 n],[.int .i64 m]]] (.bool (inR n lo hi&&inR m lo hi)):=by
 have h:=Zdr (G:=G) lo hi [n,m] (by simp[Sml]);simpa [ia] using h
theorem  Zdu (g:Nat) (caps:List AV) (p:Nte->Bool) (l:Jl) (hc:caps.all AV.pure=true) (hl:Sml l)
  (hg:∀ x∈l,PC prog G g (.agg (na x)::caps) (.bool (p x))) :
  PC prog G 123 [.vsl (l.map na),.func (.func g) [] caps] (.int .i64 (fstOf p l)):=by
 (refine ZcW rfl λR hG hrd=>Qga ?_;subst hG)
 unfold Sml at hl;have hc2:∀ x∈caps,x.pure=true:=W03.1 hc;simp -implicitDefEqProofs[ZcU,ZcV];refine Z8a (λi=>⟨[(8,.int .i64 i),(7,.int .i64 l.length),(0,.vsl (l.map na)),(1,.func (.func g) [] caps)],[]⟩) (λi=>∀ j (h:j<l.length),j<i->p l[j]=false) l.length (by (first|exact Wka|exact Wkb)) (by simp) ?_ ?_
 . intro i hi he;refine Qga ?_;have w1:i64.wrap ((i:Int)+1)=((i+1:Nat):Int):=Yf;have hgi:=hg _ (W0e hi);have hln:(na l[i]).length=10:=rfl;have htk:(na l[i]).take 10=na l[i]:=rfl;simp -implicitDefEqProofs[hi,hln,htk];refine Yd.of hgi (by simpa [AV.pure,na] using hc2) ?_
   cases h3:p l[i]
   . simp -implicitDefEqProofs[w1];refine ⟨(by (first|exact Wka|exact Wkb)),λj q1 q2=>?_⟩;by_cases e:j=i
     . subst e;exact h3
     . exact he j q1 (by omega)
   . simp -implicitDefEqProofs;refine Qgr ?_;simp -implicitDefEqProofs[Z8X hi h3 he]
 . intro he;refine Qga ?_;simp -implicitDefEqProofs;refine Qgr ?_;simp -implicitDefEqProofs[Z8Y (p:=p) (l:=l) (λj hj=>he j hj hj)]
theorem  Zdv (g:Nat) (caps:List AV) (p:Nte->Bool) (l:Jl) (hc:caps.all AV.pure=true) (hl:Sml l)
  (hg:∀ x∈l,PC prog G g (.agg (na x)::caps) (.bool (p x))) :
  PC prog G 244 [.vsl (l.map na),.func (.func g) [] caps] (.bool (l.any p)):=by
 (refine ZcT rfl λR hG hrd=>Qga ?_;subst hG)
 simp -implicitDefEqProofs[ZcR,ZcS];have hc2:∀ x∈caps,x.pure=true:=W03.1 hc;refine Yd.of (Zdu g caps p l hc hl hg) (by simpa [AV.pure] using hc2) ?_;have e:=Z8Z p l;simp -implicitDefEqProofs[e]
theorem  Zdw (a b:Int):PC prog G 151 [.vsl [[.int .i64 a],[.int .i64 b]]] (.int .i64 (if a=0 then b else a)):=by
 (refine Zdh rfl λR hG hrd=>Qga ?_;subst hG)
 simp -implicitDefEqProofs[Zdf,Zdg];refine Z8a (λi=>⟨[(8,.int .i64 i),(7,.int .i64 2),(6,.vsl [[.int .i64 a],[.int .i64 b]]),(3,.int .i64 0)],[]⟩) (λi=>(0<i->a=0)/\(1<i->b=0)) 2 (by (first|exact Wka|exact Wkb)) (by simp) ?_ ?_
 . intro i hi he;refine Qga ?_
   match i,hi,he with
   | 0,_,_ =>
     have w1:i64.wrap 1=1:=rfl;by_cases h:a=0
     . simp -implicitDefEqProofs[h,w1]
       (first|exact Wka|exact Wkb)
     . simp -implicitDefEqProofs[h];refine Qgr ?_;simp -implicitDefEqProofs[h]
   | 1,_,he =>
     have h0:=he.1 (by omega);have w1:i64.wrap 2=2:=rfl;by_cases h:b=0
     . simp -implicitDefEqProofs[h,w1];exact ⟨(by (first|exact Wka|exact Wkb)),h0⟩
     . simp -implicitDefEqProofs[h];refine Qgr ?_;simp -implicitDefEqProofs[h,h0]
 . rintro ⟨h0,h1⟩;refine Qga ?_;have e0:=h0 (by omega);have e1:=h1 (by omega);simp -implicitDefEqProofs;refine Qgr ?_;simp -implicitDefEqProofs[e0,e1]
theorem  Zdx (x y:Nte):PC prog G 245 [.agg (na y),.vptr (na x) 0] (.bool (decide (y.nu=x.ca))):=by
 (refine Zcq rfl λR hG hrd=>Qga ?_;subst hG)
 simp -implicitDefEqProofs[Zco,Zcp,na]
section
variable (r:Jr) (l:Jl) (i:Nat) (hi:i<l.length) (hw:WfN l) (hr:Wf r)
include hi hw hr
theorem  Zdy:PC prog G 237 [.agg [.vsl (r.map isa),.vsl (l.map na)],.int .i64 i] (.bool (cN1 (nAt l i))):=by
 rw[ZaZ hi]
 (refine Zc8 rfl λR hG hrd=>Qga ?_;subst hG)
 simp -implicitDefEqProofs[Zc6,Zc7,hi,na];refine Qco (Zds 1 9999 l[i].nu) ?_
 cases h1:inR l[i].nu 1 9999
 . simp -implicitDefEqProofs[cN1,h1]
 simp -implicitDefEqProofs[hi,na];refine Qco (Zds 0 14610 l[i].dy) ?_;simp -implicitDefEqProofs[cN1,h1]
theorem  Zdz:PC prog G 238 [.agg [.vsl (r.map isa),.vsl (l.map na)],.int .i64 i] (.bool (cN2 (nAt l i))):=by
 rw[ZaZ hi]
 (refine Zcb rfl λR hG hrd=>Qga ?_;subst hG)
 by_cases h1:l[i].sg<=2 <;> by_cases h2:l[i].wy<=3 <;> simp -implicitDefEqProofs[Zc9,Zca,hi,na,cN2,h1,h2]
theorem  ZdA:PC prog G 239 [.agg [.vsl (r.map isa),.vsl (l.map na)],.int .i64 i] (.bool (cN3 (nAt l i))):=by
 rw[ZaZ hi]
 (refine Zce rfl λR hG hrd=>Qga ?_;subst hG)
 simp -implicitDefEqProofs[Zcc,Zcd,hi,na];refine Qco (Zdt 1 999 l[i].fr l[i].tu) ?_
 cases h1:inR l[i].fr 1 999&&inR l[i].tu 1 999
 . simp -implicitDefEqProofs[cN3,h1]
 . by_cases h2:l[i].fr<=l[i].tu <;> simp -implicitDefEqProofs[cN3,h1,h2]
end
section
variable (hG:GC G) (r:Jr) (l:Jl) (i:Nat) (hi:i<l.length) (hw:WfN l) (hr:Wf r)
include hi hw hr
include hG in
theorem  ZdB (ho:openV r=0):PC prog G 240 [.agg [.vsl (r.map isa),.vsl (l.map na)],.int .i64 i] (.bool (cN4 r (nAt l i))):=by
 rw[ZaZ hi];have ha:=at_pc hG r l[i].dr l[i].lt hr;rw[rega]at ha;obtain ⟨x,hxx⟩:=Qex (l[i]);rw[<- hxx]at ha ⊢;have hlx:l[i]=x:=hxx.symm;have hna:na x=[.int .i64 x.nu,.int .i64 x.dy,.int .u8 x.sg,.int .i64 x.dr,.int .i64 x.lt,.int .i64 x.fr,.int .i64 x.tu,.int .i64 x.ca,.bool x.up,.int .u8 x.wy]:=rfl
 have he:(atP r x.dr x.lt).2=0↔(findN x.dr x.lt r).isSome=true:=by
  unfold atP;rw[if_pos ho]
  cases findN x.dr x.lt r <;> simp
 (refine Zch rfl λR hG hrd=>Qga ?_;subst hG)
 by_cases hz:x.dr=0/\x.lt=0
 . simp -implicitDefEqProofs[Zcf,Zcg,hi,hlx,hna,hz.1,hz.2,cN4]
 . have hz1:¬(0=x.dr/\0=x.lt):=λh=>hz ⟨h.1.symm,h.2.symm⟩
   have e4:cN4 r x=decide ((atP r x.dr x.lt).2=0):=by
    rw[cN4,if_neg hz]
    cases q:(findN x.dr x.lt r).isSome
    . rw[eq_comm,W1b,he,q];simp
    . rw[eq_comm,W0b,he,q]
   rw[e4];have ey:isa (atP r x.dr x.lt).1=[.int .i64 (atP r x.dr x.lt).1.d,.int .i64 (atP r x.dr x.lt).1.l,.int .u8 (atP r x.dr x.lt).1.k,.vsl ((atP r x.dr x.lt).1.its.map ita),.vsl ((atP r x.dr x.lt).1.dms.map dma)]:=rfl;rw[ey]at ha;generalize atP r x.dr x.lt=v at *;by_cases q1:x.dr=0
   . have q2:¬x.lt=0:=λh=>hz ⟨q1,h⟩
     have q2':¬0=x.lt:=λh=>q2 h.symm
     rw[q1]at ha;simp -implicitDefEqProofs[Zcf,Zcg,hi,hlx,hna,q1,q2,q2'];refine Qco (ha) ?_;simp -implicitDefEqProofs
   . have q1':¬0=x.dr:=λh=>q1 h.symm
     simp -implicitDefEqProofs[Zcf,Zcg,hi,hlx,hna,q1,q1'];refine Qco (ha) ?_;simp -implicitDefEqProofs
theorem  ZdC:PC prog G 242 [.agg [.vsl (r.map isa),.vsl (l.map na)],.int .i64 i] (.bool (cN5 (nAt l i))):=by
 rw[ZaZ hi]
 (refine Zck rfl λR hG hrd=>Qga ?_;subst hG)
 by_cases h1:2<=l[i].lt
 . simp -implicitDefEqProofs[Zci,Zcj,hi,na,cN5,h1]
 . cases h2:l[i].up
   . by_cases h3:l[i].wy=0 <;> simp -implicitDefEqProofs[Zci,Zcj,hi,na,cN5,h1,h2,h3]
   . simp -implicitDefEqProofs[Zci,Zcj,hi,na,cN5,h1,h2]
theorem  ZdD:PC prog G 243 [.agg [.vsl (r.map isa),.vsl (l.map na)],.int .i64 i] (.bool (cN6 l i (nAt l i))):=by
 have hl:=hw.1;unfold Sml at hl;rw[ZaZ hi];obtain ⟨x,hxx⟩:=Qex (l[i]);rw[<- hxx];have hlx:l[i]=x:=hxx.symm;have hna:na x=[.int .i64 x.nu,.int .i64 x.dy,.int .u8 x.sg,.int .i64 x.dr,.int .i64 x.lt,.int .i64 x.fr,.int .i64 x.tu,.int .i64 x.ca,.bool x.up,.int .u8 x.wy]:=rfl;have hc:=Zdv (G:=G) 245 [.vptr (na x) 0] (λy=>decide (y.nu=x.ca)) (l.take i) (by simp[AV.pure,na]) (by unfold Sml;simp;omega) (λy _=>Zdx x y);have i1:i<=l.length:=(by omega);have bl:∀ x:Nte,(na x).length=10:=λ_=>rfl
 rw[List.map_take]at hc
 have pu:∀ x∈List.take i (List.map na l),∀ y∈x,y.pure=true:=λx hx y hy=>by
  obtain ⟨z,-,rfl⟩:=W0i.1 (W1r hx);simp only[na,W0g,W0Q,or_false]at hy;rcases hy with rfl|rfl|rfl|rfl|rfl|rfl|rfl|rfl|rfl|rfl <;> simp[AV.pure]
 (refine Zcn rfl λR hG hrd=>Qga ?_;subst hG)
 by_cases h1:x.ca=0
 . simp -implicitDefEqProofs[Zcl,Zcm,hi,hlx,hna,cN6,h1]
 . simp -implicitDefEqProofs[Zcl,Zcm,hi,hlx,hna,cN6,h1,i1,bl];rw[hna]at hc;refine Yd.flat hc (by simp[AV.flat]) (by simp) ?_;simp -implicitDefEqProofs
theorem  ZdE:PC prog G 248 [.agg [.vsl (r.map isa),.vsl (l.map na)],.int .i64 i] (.bool (cN8 l i (nAt l i))):=by
 have hl:=hw.1;unfold Sml at hl
 cases i with
 | zero =>
   (refine Zcz rfl λR hG hrd=>Qga ?_;subst hG)
   simp -implicitDefEqProofs[Zcx,Zcy,cN8];rfl
 | succ k =>
   have hk:k<l.length:=(by omega);have w1:i64.wrap ((k:Int)+1-1)=(k:Int):=(by rw[Yf (by omega) (by omega)];omega);have w2:i64.wrap (k:Int)=(k:Int):=Yf;have i0:¬(k:Int)+1=0:=(by omega);have k1:(0:Int)<=(k:Int)+1:=(by omega);have k2:((k:Int)+1).toNat=k+1:=(by omega);have e8:cN8 l (k+1) (nAt l (k+1))=(decide (l[k].dy<l[k+1].dy)||(decide (l[k].dy=l[k+1].dy)&&decide (l[k].nu<l[k+1].nu))):=(by rw[cN8,ZaZ hk,ZaZ hi]);have hc1:=Z9D (G:=G) l[k].dy l[k+1].dy;have hc2:=Z9D (G:=G) l[k].nu l[k+1].nu;have hR:∀ a b:AV,(List.range 2).map (λi=>List.take 1 (List.drop i [a,b]))=[[a],[b]]:=λ_ _=>rfl
   obtain ⟨a,b,ha,hb,hv⟩ : ∃ a b:Int,(if l[k].dy<l[k+1].dy then (-1:Int) else if l[k+1].dy<l[k].dy then 1 else 0)=a/\(if l[k].nu<l[k+1].nu then (-1:Int) else if l[k+1].nu<l[k].nu then 1 else 0)=b/\decide ((if a=0 then b else a)<0)=(decide (l[k].dy<l[k+1].dy)||(decide (l[k].dy=l[k+1].dy)&&decide (l[k].nu<l[k+1].nu))):=by
    refine ⟨_,_,rfl,rfl,?_⟩;rcases Int.lt_trichotomy l[k].dy l[k+1].dy with q|q|q
    . simp[q]
    . rw[q];rcases Int.lt_trichotomy l[k].nu l[k+1].nu with q2|q2|q2
      . simp[q2]
      . rw[q2];simp
      . have:¬l[k].nu<l[k+1].nu:=(by omega);simp[q2,this]
    . have h1:¬l[k].dy<l[k+1].dy:=(by omega);have h2:¬l[k].dy=l[k+1].dy:=(by omega);simp[q,h1,h2]
   rw[ha]at hc1;rw[hb]at hc2;have ho:=Zdw (G:=G) a b;rw[e8,<- hv];clear hv;generalize (if a=0 then b else a)=c at *
   (refine Zcz rfl λR hG hrd=>Qga ?_;subst hG)
   simp -implicitDefEqProofs[Zcx,Zcy,hi,hk,w1,w2,i0,k1,k2,na];refine Qco (hc1) ?_;simp -implicitDefEqProofs[hi,hk,w1,w2,i0,k1,k2,na];refine Qco (hc2) ?_;simp -implicitDefEqProofs[hR];refine Qco (ho) ?_;simp -implicitDefEqProofs;rfl
theorem  ZdF (y:Nte):PC prog G 247 [.agg (na y),.vptr [.vsl (r.map isa),.vsl (l.map na)] 0,.vptr [.int .i64 i] 0] (.bool (decide (y.nu=(nAt l i).nu))):=by
 rw[ZaZ hi]
 (refine Zcw rfl λR hG hrd=>Qga ?_;subst hG)
 simp -implicitDefEqProofs[Zcu,Zcv,na,hi];rfl
theorem  ZdG:PC prog G 246 [.agg [.vsl (r.map isa),.vsl (l.map na)],.int .i64 i] (.bool (cN7 l i (nAt l i))):=by
 have hl:=hw.1;unfold Sml at hl;have hc:=Zdv (G:=G) 247 [.vptr [.vsl (r.map isa),.vsl (l.map na)] 0,.vptr [.int .i64 i] 0] (λy=>decide (y.nu=(nAt l i).nu)) (l.take i) (by simp[AV.pure,isa,na]) (by unfold Sml;simp;omega) (λy _=>ZdF r l i hi hw hr y);have i1:i<=l.length:=(by omega);have bl:∀ x:Nte,(na x).length=10:=λ_=>rfl
 rw[List.map_take]at hc
 have pu:∀ x∈List.take i (List.map na l),∀ y∈x,y.pure=true:=λx hx y hy=>by
  obtain ⟨z,-,rfl⟩:=W0i.1 (W1r hx);simp only[na,W0g,W0Q,or_false]at hy;rcases hy with rfl|rfl|rfl|rfl|rfl|rfl|rfl|rfl|rfl|rfl <;> simp[AV.pure]
 have pn:(l.map na).all (λr=>r.all AV.pure)=true:=(by simp[na,AV.pure]);have pi:=Zdo r;have e7:cN7 l i (nAt l i) = !(l.take i).any λy=>decide (y.nu=(nAt l i).nu):=rfl
 rw[e7]
 (refine Zct rfl λR hG hrd=>Qga ?_;subst hG)
 simp -implicitDefEqProofs[Zcr,Zcs,i1,bl];refine Yd.flat hc (by simp[AV.flat]) (by simp[pn,pi]) ?_;simp -implicitDefEqProofs
end
def ZdH (ok:Nat->Bool) (st:St) (l:List Int):frzO ok st (.row 1 (l.map ia)) = .row 1 (l.map ia):=by
 simp only[frzO,W10]
 congr 2
 funext p;simp[ia,frzA,frz,AV.keys]
def ZdI (ρ:Nat->Nat) (l:List Int):AObj.ren ρ (.row 1 (l.map ia)) = .row 1 (l.map ia):=by
 simp only[AObj.ren,W10]
 congr 2
 funext p;simp[ia,AV.ren]
def ZdJ (o:List (Nat×AObj)) (l:List Int):Yc o (.row 1 (l.map ia))=true:=by
 simp only[Yc,W03,W0i];rintro x ⟨y,-,rfl⟩ v hv;simp only[ia,W0B]at hv;subst hv;simp[Ya,AV.keys]
def ZdK (S:ByteArray):RCode:=.seq (.reg 0 false [{ d:=some 2,op:=.mov (.c (.int .i64 0)) }]) (.seq (.seq (.reg 1 false [{ d:=some 3,op:=.mov (.t 0) },{ d:=some 4,op:=.bin .geq (.t 3) (.c (.int .u64 4294967296)) }]) (.cond (.t 4) (.seq (.reg 2 false [{ d:=some 5,op:=.mov (.t 0) },{ d:=some 6,op:=.vop (.sh false) [(.t 5),(.c (.int .u64 32))] },{ d:=some 0,op:=.mov (.t 6) }]) (.reg 3 false [{ d:=some 2,op:=.mov (.c (.int .i64 32)) }])) (.skip))) (.seq (.seq (.reg 4 false [{ d:=some 7,op:=.mov (.t 0) },{ d:=some 8,op:=.bin .geq (.t 7) (.c (.int .u64 65536)) }]) (.cond (.t 8) (.seq (.reg 5 false [{ d:=some 9,op:=.mov (.t 0) },{ d:=some 10,op:=.vop (.sh false) [(.t 9),(.c (.int .u64 16))] },{ d:=some 0,op:=.mov (.t 10) }]) (.reg 6 false [{ d:=some 11,op:=.mov (.t 2) },{ d:=some 12,op:=.bin .add (.t 11) (.c (.int .i64 16)) },{ d:=some 2,op:=.mov (.t 12) }])) (.skip))) (.seq (.seq (.reg 7 false [{ d:=some 13,op:=.mov (.t 0) },{ d:=some 14,op:=.bin .geq (.t 13) (.c (.int .u64 256)) }]) (.cond (.t 14) (.seq (.reg 8 false [{ d:=some 15,op:=.mov (.t 0) },{ d:=some 16,op:=.vop (.sh false) [(.t 15),(.c (.int .u64 8))] },{ d:=some 0,op:=.mov (.t 16) }]) (.reg 9 false [{ d:=some 17,op:=.mov (.t 2) },{ d:=some 18,op:=.bin .add (.t 17) (.c (.int .i64 8)) },{ d:=some 2,op:=.mov (.t 18) }])) (.skip))) (.seq (.reg 10 false [{ d:=some 19,op:=.mov (.t 2) },{ d:=some 20,op:=.mov (.t 0) },{ d:=some 21,op:=.conv .u8 (.t 20) },{ d:=some 22,op:=.vop .sidx [(.c (.str S)),(.t 21)] },{ d:=some 23,op:=.conv .i64 (.t 22) },{ d:=some 24,op:=.bin .add (.t 19) (.t 23) },{ d:=some 2,op:=.mov (.t 24) }]) (.ret))))) 
def ZdL (l:List Int) (a b:Nat) (h1:a<=b) (h2:b<=l.length) (h3:l.length<=1000) :
  PB prog G 183 [(1000,.row 1 (l.map ia))] [.osl 1000 l.length,.int .i64 a,.int .i64 b] (.tup []) [(1000,.row 1 ((srtI l a b).map ia))]:=by
 (refine Zde (W0C rfl) λR hG hrd=>Qga ?_;subst hG)
 have w1:i64.wrap ((a:Int)+1)=a+1:=Yf;simp -implicitDefEqProofs[Zdb,Zdc,w1];refine Z8a (λi=>⟨[(6,.int .i64 ((a:Int)+1+i)),(0,.osl 1000 l.length),(1,.int .i64 a),(2,.int .i64 b)],[(1000,.row 1 ((srtI l a (a+1+i)).map ia))]⟩) (λi=>True) (b-(a+1)) ?_ trivial ?_ ?_
 . rw[Zbe (by omega) (by omega)]
   (refine Wkc ?_;simp only[ZdJ,Wkl,and_true];(try simp[lk,Yc,Ya,AV.keys]))
 . intro i hi _;refine Qga ?_;have k1:(a:Int)+1+i<b:=(by omega);simp -implicitDefEqProofs[k1];have hI:a+1+i<l.length:=(by omega);have z:=Zbg (l:=l) (a:=a) (i:=a+1+i) (by omega) hI;have z0:a+1+i-a=i+1:=(by omega);rw[z0]at z;rw[z];have hat:=λp (hp:p+1<=a+1+i-a)=>Zbj (l:=l) (a:=a) (i:=a+1+i) (p:=p) (by omega) hI hp
   have hend:=λp=>Zbk (l:=l) (a:=a) (i:=a+1+i) (p:=p) (by omega) hI
   have hln:=λp (hp:p<=a+1+i-a)=>Zbh (l:=l) (a:=a) (i:=a+1+i) (p:=p) (by omega) hI hp
   have hsl:=Zbf (l:=l) (a:=a) (i:=a+1+i) (by omega);generalize hsg:sortI ((l.take (a+1+i)).drop a)=s at *;generalize hxx:l[a+1+i]=x at *
   refine Z1Q (λp:Nat=>⟨[(7,.int .i64 ((a:Int)+p)),(6,.int .i64 ((a:Int)+1+i)),(0,.osl 1000 l.length),(1,.int .i64 a),(2,.int .i64 b)],[(1000,.row 1 ((mvI l a (a+1+i) p).map ia))]⟩)
    (λp=>p<=i+1/\∀ y∈s.drop p,x<y) (λp=>p) (i+1) ?_ ⟨W0f _,λy hy=>by rw[W1j (by omega)]at hy;cases hy⟩ ?_
   . have e9:(a:Int)+1+i=(a:Int)+(i+1:Nat):=(by omega);rw[e9]
     (refine Wkc ?_;simp only[ZdJ,Wkl,and_true];(try simp[lk,Yc,Ya,AV.keys]))
   . rintro p ⟨hp,hd⟩;refine Qga ?_
     cases p with
     | zero =>
       have k2:¬(a:Int)<a:=(by omega);simp -implicitDefEqProofs;refine ⟨rfl,?_⟩;refine Qgr ?_;have w3:i64.wrap ((a:Int)+1+i+1)=(a:Int)+1+(i+1):=(by rw[Yf (by omega) (by omega)];omega);have he:=hend 0 (W1f _) hd (λq hq=>by omega);have he2:a+1+i+1=a+1+(i+1):=(by omega);rw[he2]at he;rw[he];simp -implicitDefEqProofs[w3]
       (refine Wkc ?_;simp only[ZdJ,Wkl,and_true];(try simp[lk,Yc,Ya,AV.keys]))
     | succ p =>
       obtain ⟨y,hy0,hy1,hy2,hy3,hy4⟩:=hat p (by omega);have hl2:=hln (p+1) (by omega);have k2:(a:Int)<(a:Int)+(p+1):=(by omega);have k3:((a:Int)+(p+1)).toNat=a+p+1:=(by omega);have w2:i64.wrap ((a:Int)+(p+1)-1)=(a:Int)+p:=(by rw[Yf (by omega) (by omega)];omega);have k4:((a:Int)+p).toNat=a+p:=(by omega);have k5:a+p+1<l.length:=(by omega);have k6:a+p<l.length:=(by omega);have k7:(0:Int)<=(a:Int)+(p+1):=(by omega);have k8:(0:Int)<=(a:Int)+p:=(by omega);have he:=hend (p+1) (by omega) hd;generalize mvI l a (a+1+i) (p+1)=Q at *;obtain ⟨q1,g1⟩:=W02.1 hy1;obtain ⟨q2,g2⟩:=W02.1 hy2;have hls:=Z9p (G:=R.G) x y;simp -implicitDefEqProofs[k2,k3,w2,k4,k5,k6,k7,k8,g1,g2,hl2,ia];refine Qco (hls) ?_;by_cases hlt:x<y
       . simp -implicitDefEqProofs[hlt,k3,w2,k4,k5,k6,k7,k8,g1,g2,hl2,ia];refine ⟨rfl,rfl,p,?_,⟨by omega,λu hu=>?_⟩,W2u _⟩
         . have e1:∀ z:Int,[AV.int .i64 z]=ia z:=λ_=>rfl
           rw[e1,e1,<- W2r,<- W2r,hy3]
           (refine Wkc ?_;simp only[ZdJ,Wkl,and_true];(try simp[lk,Yc,Ya,AV.keys]))
         . obtain ⟨hps,gs⟩:=W02.1 hy0;rw[W0x hps,gs]at hu;rcases W0g.1 hu with rfl|hu
           . exact hlt
           . exact hd u hu
       . simp -implicitDefEqProofs[hlt];refine ⟨rfl,?_⟩;refine Qgr ?_;have w3:i64.wrap ((a:Int)+1+i+1)=(a:Int)+1+(i+1):=by rw[Yf (by omega) (by omega)];omega
         have he:=he (λq hq u hu hk=>by
          have:q=p:=(by omega);subst this;rw[hy0]at hu
          cases hu
          exact hlt hk)
         have he2:a+1+i+1=a+1+(i+1):=(by omega);rw[he2]at he;rw[he];simp -implicitDefEqProofs[w3]
         (refine Wkc ?_;simp only[ZdJ,Wkl,and_true];(try simp[lk,Yc,Ya,AV.keys]))
 . intro _;refine Qga ?_;have k1:¬(a:Int)+1+(b-(a+1):Nat)<b:=by omega
   have e:srtI l a (a+1+(b-(a+1)))=srtI l a b:=by
    rcases W0q a b with h|h
    . congr 1;omega
    . rw[Zbe (by omega) (by omega),Zbe (by omega) (by omega)]
   rw[e];simp -implicitDefEqProofs[k1];refine Qgr ?_;simp -implicitDefEqProofs;refine ⟨[],rfl,rfl,?_⟩;simp[Yi,newK,ZdH]
def ZdM (l:List Int):srtI l 0 l.length=sortI l:=by simp[srtI]
def ZdN (l:List Int) (m:Int) (h3:l.length<=12) :
  PB prog G 164 [(1000,.row 1 (l.map ia))] [.osl 1000 l.length,.int .i64 0,.int .i64 l.length,.int .i64 m] (.tup []) [(1000,.row 1 ((sortI l).map ia))]:=by
 have hp:=ZdL (G:=G) l 0 l.length (W1f _) (W0f _) (by omega);rw[ZdM]at hp
 (refine Zda (W0C rfl) λR hG hrd=>Qga ?_;subst hG)
 have w1:i64.wrap (l.length:Int)=(l.length:Int):=Yf;have k1:(l.length:Int)<=12:=(by omega);simp -implicitDefEqProofs[Zd7,Zd8];refine Z1Q (λ_:Unit=>⟨[(0,.osl 1000 l.length),(1,.int .i64 0),(2,.int .i64 l.length)],[(1000,.row 1 (l.map ia))]⟩) (λ_=>True) (λ_=>0) () ?_ trivial ?_
 . (refine Wkc ?_;simp only[ZdJ,Wkl,and_true];(try simp[lk,Yc,Ya,AV.keys]))
 rintro ⟨⟩ -;refine Qga ?_;simp -implicitDefEqProofs[w1,k1,h3];refine Yd.sem (Z1B.byref hp id (by simp) (by simp) (by simp[St.get,lk,ZdI]) (by simp[ZdJ]) (by simp[Ya,AV.keys,lk]) rfl (by simp[AV.ren]) rfl rfl) ?_;simp -implicitDefEqProofs[Yl,ZdI];refine Qgr ?_;simp -implicitDefEqProofs;refine ⟨[],rfl,rfl,?_⟩;simp[Yi,newK,ZdH]
set_option maxRecDepth 100000 in
def ZdO (n:Nat) (h:n<=12):∃ v:Int,PC prog G 193 [.int .u64 n] (.int .i64 v):=by
 have k1:¬(4294967296:Int)<=n:=(by omega);have k2:¬(65536:Int)<=n:=(by omega);have k3:¬(256:Int)<=n:=(by omega);obtain ⟨S,hS,hz⟩ : ∃ S,Zdl=ZdK S/\S.size=256:=⟨_,rfl,rfl⟩;have hn:n<S.size:=(by omega);obtain ⟨c,hc⟩ : ∃ c,S[n]? = some c:=⟨S[n],getElem?_pos S n hn⟩
 have w1:IntKind.u8.wrap (n:Int)=(n:Int):=by
  match n,h with
  |0,_=>rfl
  |1,_=>rfl
  |2,_=>rfl
  |3,_=>rfl
  |4,_=>rfl
  |5,_=>rfl
  |6,_=>rfl
  |7,_=>rfl
  |8,_=>rfl
  |9,_=>rfl
  |10,_=>rfl
  |11,_=>rfl
  |12,_=>rfl
 refine ⟨i64.wrap (0+i64.wrap (c.toNat:Int)),?_⟩;refine Zdn rfl λR hG hrd=>?_
 rw[hS];refine Qga ?_;simp -implicitDefEqProofs[ZdK,Zdm,k1,k2,k3,w1,hc]
def ZdP (n:Nat) (h:n<=12):∃ v:Int,PC prog G 165 [.int .u64 n] (.int .i64 v):=by
 obtain ⟨v,hv⟩:=ZdO (G:=G) n h;refine ⟨v,?_⟩
 (refine Zdk rfl λR hG hrd=>Qga ?_;subst hG)
 simp -implicitDefEqProofs[Zdi,Zdj];refine Qco (hv) ?_;simp -implicitDefEqProofs
def ZdQ (l:List Int) (h3:l.length<=12) :
  PB prog G 115 [(1000,.row 1 (l.map ia))] [.osl 1000 l.length] (.tup []) [(1000,.row 1 ((sortI l).map ia))]:=by
 obtain ⟨v,hv⟩:=ZdP (G:=G) l.length h3;have hp:=ZdN (G:=G) l v h3
 (refine Zd6 (W0C rfl) λR hG hrd=>Qga ?_;subst hG)
 have w1:IntKind.u64.wrap (l.length:Int)=(l.length:Int):=IntWalk.u64_in _ ⟨by omega,by omega⟩;simp -implicitDefEqProofs[Zd3,Zd4,w1];refine Qco (hv) ?_;simp -implicitDefEqProofs;refine Yd.sem (Z1B.byref hp id (by simp) (by simp) (by simp[St.get,lk,ZdI]) (by simp[ZdJ]) (by simp[Ya,AV.keys,lk]) rfl (by simp[AV.ren]) rfl rfl) ?_;simp -implicitDefEqProofs[Yl,ZdI];refine ⟨[],rfl,rfl,?_⟩;simp[Yi,newK,ZdH]
def ZdR:PC prog G 183 [.nils,.int .i64 0,.int .i64 0] (.tup []):=by
 (refine Zdd rfl λR hG hrd=>Qga ?_;subst hG)
 have w1:i64.wrap 1=1:=rfl;simp -implicitDefEqProofs[Zdb,Zdc,w1];refine Z1Q (λ_:Unit=>⟨[(6,.int .i64 1),(2,.int .i64 0)],[]⟩) (λ_=>True) (λ_=>0) () (by (first|exact Wka|exact Wkb)) trivial ?_;rintro ⟨⟩ -;refine Qga ?_;simp -implicitDefEqProofs;refine Qgr ?_;simp -implicitDefEqProofs
def ZdS (m:Int):PC prog G 164 [.nils,.int .i64 0,.int .i64 0,.int .i64 m] (.tup []):=by
 (refine Zd9 rfl λR hG hrd=>Qga ?_;subst hG)
 have w1:i64.wrap 0=0:=rfl;simp -implicitDefEqProofs[Zd7,Zd8];refine Z1Q (λ_:Unit=>⟨[(0,.nils),(1,.int .i64 0),(2,.int .i64 0)],[]⟩) (λ_=>True) (λ_=>0) () (by (first|exact Wka|exact Wkb)) trivial ?_;rintro ⟨⟩ -;refine Qga ?_;simp -implicitDefEqProofs[w1];refine Qco (ZdR) ?_;simp -implicitDefEqProofs;refine Qgr ?_;simp -implicitDefEqProofs
def ZdT:PC prog G 115 [.nils] (.tup []):=by
 obtain ⟨v,hv⟩:=ZdP (G:=G) 0 (by omega);have w1:IntKind.u64.wrap 0=0:=rfl
 (refine Zd5 rfl λR hG hrd=>Qga ?_;subst hG)
 simp -implicitDefEqProofs[Zd3,Zd4,w1];refine Qco (hv) ?_;simp -implicitDefEqProofs;refine Qco (ZdS v) ?_;simp -implicitDefEqProofs
def K8n:List AV:=[.func (.func 237) [] [],.func (.func 238) [] [],.func (.func 239) [] [],.func (.func 240) [] [],.func (.func 242) [] [],.func (.func 243) [] [],.func (.func 246) [] [],.func (.func 248) [] []]
def GN (G:Jg):Prop:=G 0=some K8n
def ckK (r:Jr) (l:Jl) (i:Nat):Nat->Bool
 |0=>cN1 (nAt l i)
 |1=>cN2 (nAt l i)
 |2=>cN3 (nAt l i)
 |3=>cN4 r (nAt l i)
 |4=>cN5 (nAt l i)
 |5=>cN6 l i (nAt l i)
 |6=>cN7 l i (nAt l i)
 |_=>cN8 l i (nAt l i)
def ZdU {r:Jr} {l:Jl} {i:Nat}:noteB r l i=true↔∀ j,j<8->ckK r l i j=true:=by
 simp only[noteB,W01]
 constructor
 . rintro ⟨⟨⟨⟨⟨⟨⟨h1,h2⟩,h3⟩,h4⟩,h5⟩,h6⟩,h7⟩,h8⟩ j hj
   match j,hj with
   |0,_=>exact h1
   |1,_=>exact h2
   |2,_=>exact h3
   |3,_=>exact h4
   |4,_=>exact h5
   |5,_=>exact h6
   |6,_=>exact h7
   |7,_=>exact h8
 . intro h;exact ⟨⟨⟨⟨⟨⟨⟨h 0 (by omega),h 1 (by omega)⟩,h 2 (by omega)⟩,h 3 (by omega)⟩,h 4 (by omega)⟩,h 5 (by omega)⟩,h 6 (by omega)⟩,h 7 (by omega)⟩
def opA (l:Jl):AV:=if opU l=[] then .nils else .vsl ((sortI (opU l)).map ia)
def fileA (r:Jr) (l:Jl):AV:=.vptr [.vsl (r.map isa),.vsl (l.map na),.vsl ((nums r).map ia),opA l] 0
def opdA (r:Jr) (l:Jl):AV:=.tup [if chN r l=0 then fileA r l else .nilp,.int .i64 (chN r l)]
def onu (l:Jl) (i:Nat):List Int:=(opN l i).map (·.nu)
def ZdV {l:Jl} {i:Nat} (h:i<l.length):onu l (i+1)=if l[i].sg=1 then onu l i++[l[i].nu] else onu l i:=by
 unfold onu;rw[Zb0 h];split
 . rw[W0r];rfl
 . rfl
def ZdW (l:Jl) (i:Nat):(onu l i).length<=i:=by unfold onu;rw[W0N];exact Zb1 l i
def opdT (l:Jl):List (Nat×AV):=[(31,.int .i64 l.length),(30,.vsl (l.map na)),(6,.ptr 28 0),(7,.bool false),(1,.ptr 1 0)]
def opdO (r:Jr) (l:Jl) (i:Nat):List (Nat×AObj):=if onu l i=[] then [(1,.box [.vsl (r.map isa),.vsl (l.map na)]),(28,.box [.vsl (r.map isa),.vsl (l.map na),.vsl ((nums r).map ia),.nils])]
 else [(1,.box [.vsl (r.map isa),.vsl (l.map na)]),(28,.box [.vsl (r.map isa),.vsl (l.map na),.vsl ((nums r).map ia),.osl 59 (onu l i).length]),(59,.row 1 ((onu l i).map ia))]
def opdS (r:Jr) (l:Jl) (i:Nat):St:=⟨(32,.int .i64 i)::opdT l,opdO r l i⟩
def opdI (r:Jr) (l:Jl) (i:Nat) (x:Nte) (j:Nat):St:=⟨(38,.int .i64 j)::(37,.agg K8n)::(8,.int .i64 i)::(9,.ptr 9 0)::(32,.int .i64 i)::opdT l,(9,.box (na x))::opdO r l i⟩
def kNall (hG:GC G) {r:Jr} {l:Jl} {i:Nat} (hi:i<l.length) (hw:WfN l) (hr:Wf r) (ho:openV r=0) (j:Nat) (hj:j<8) :
  ∃ f,(K8n.drop j).take 1=[.func (.func f) [] []]/\PC prog G f [.agg [.vsl (r.map isa),.vsl (l.map na)],.int .i64 i] (.bool (ckK r l i j)):=by
 match j,hj with
 |0,_=>exact ⟨_,rfl,Zdy r l i hi hw hr⟩
 |1,_=>exact ⟨_,rfl,Zdz r l i hi hw hr⟩
 |2,_=>exact ⟨_,rfl,ZdA r l i hi hw hr⟩
 |3,_=>exact ⟨_,rfl,ZdB hG r l i hi hw hr ho⟩
 |4,_=>exact ⟨_,rfl,ZdC r l i hi hw hr⟩
 |5,_=>exact ⟨_,rfl,ZdD r l i hi hw hr⟩
 |6,_=>exact ⟨_,rfl,ZdG r l i hi hw hr⟩
 |7,_=>exact ⟨_,rfl,ZdE r l i hi hw hr⟩
def ZdX (hG:GC G) (hN:GN G) (r:Jr) (l:Jl) (hw:WfN l) (hr:Wf r):PC prog G 119 [.agg [.vsl (r.map isa),.vsl (l.map na)]] (opdA r l):=by
 have hl:=hw.1;unfold Sml at hl;have hd:=Zav hG r hr;rw[rega]at hd;unfold GN at hN
 (refine ZcC rfl λR hG hrd=>Qga ?_;subst hG)
 by_cases ho:openV r=0
 case neg =>
  have e:chN r l=openV r:=(by rw[chN,if_neg ho]);simp -implicitDefEqProofs[ZcA,ZcB];refine Qco (hd) ?_;simp -implicitDefEqProofs[ho,opdA,e]
 rw[if_pos ho,ho]at hd;by_cases h12:12<l.length
 . have h12':(12:Int)<l.length:=by omega
   have hB:Zb2 r l=false:=by
    have:¬l.length<=12:=(by omega);simp[Zb2,this]
   have e:chN r l=30:=(by rw[chN,if_pos ho,hB];rfl);simp -implicitDefEqProofs[ZcA,ZcB];refine Qco (hd) ?_;simp -implicitDefEqProofs[opdA,e,h12,h12']
 have h12':¬(12:Int)<l.length:=(by omega);simp -implicitDefEqProofs[ZcA,ZcB];refine Qco (hd) ?_;simp -implicitDefEqProofs[h12,h12'];refine Z8a (opdS r l) (λi=>∀ j,j<i->noteB r l j=true) l.length ?_ (by simp) ?_ ?_
 . have e0:onu l 0=[]:=rfl;simp only[opdS,opdO,opdT,e0,if_true]
   (refine Wkc ?_;simp only[Wkl,and_true];(try simp[lk,Yc,Ya,AV.keys]))
 . intro i hi he;refine Qga ?_;obtain ⟨x,hxx⟩:=Qex (l[i]);have hlx:l[i]=x:=hxx.symm;have hna:na x=[.int .i64 x.nu,.int .i64 x.dy,.int .u8 x.sg,.int .i64 x.dr,.int .i64 x.lt,.int .i64 x.fr,.int .i64 x.tu,.int .i64 x.ca,.bool x.up,.int .u8 x.wy]:=rfl;have hk:=kNall hG hi hw hr ho;have wi:i64.wrap ((i:Int)+1)=(i:Int)+1:=Yf;have sc:=ZdV hi;have ol:=ZdW l i;rw[hlx]at sc;have t8:K8n.take 8=K8n:=rfl;have l8:K8n.length=8:=rfl;by_cases c:onu l i=[]
   case' pos =>
    simp -implicitDefEqProofs[opdS,opdO,opdT,c,hi,hlx,hna,hN,t8,l8]
   case' neg =>
    simp -implicitDefEqProofs[opdS,opdO,opdT,c,hi,hlx,hna,hN,t8,l8]
   all_goals
    refine Z8a (opdI r l i x) (λj=>∀ k,k<j->ckK r l i k=true) 8 ?_ (by simp) ?_ ?_
    . simp only[opdI,opdO,opdT,c,if_true,if_false]
      ((try simp only[hna,K8n]);refine Ym.sub (by simp[lk,Ya,AV.keys,hna,K8n]) ?_;simp only[hna,K8n,Wkl,ZdJ,and_true];(try simp[lk,Yc,Ya,AV.keys,hna,K8n]))
    . intro j hj hJ;refine Qga ?_;obtain ⟨f,hf1,hf2⟩:=hk j hj;have wj:i64.wrap ((j:Int)+1)=(j:Int)+1:=Yf;have j1:(j:Int)<8:=(by omega);have j2:j+1<=8:=(by omega);have j3:j<=7:=(by omega);simp -implicitDefEqProofs[opdI,opdO,opdT,c,j1,j2,j3,l8,hf1,hj];refine Qco (hf2) ?_
      cases hb:ckK r l i j
      . have hB:Zb2 r l=false:=by
         cases q:Zb2 r l
         . rfl
         . simp only[Zb2,W01]at q;have h1:=Z8r.1 q.1.2 i hi;have h2:=ZdU.1 h1 j hj;rw[hb]at h2;cases h2
        have e:chN r l=30:=(by rw[chN,if_pos ho,hB];rfl);simp -implicitDefEqProofs;refine Qgr ?_;simp -implicitDefEqProofs;refine Qgr ?_;simp -implicitDefEqProofs[opdA,e]
      . simp -implicitDefEqProofs[wj];refine ⟨?_,λk hk=>?_⟩
        . simp only[opdI,opdO,opdT,c,if_true,if_false]
          ((try simp only[hna,K8n]);refine Ym.sub (by simp[lk,Ya,AV.keys,hna,K8n]) ?_;simp only[hna,K8n,Wkl,ZdJ,and_true];(try simp[lk,Yc,Ya,AV.keys,hna,K8n]))
        . rcases W0q k j with h1|h1
          . exact hJ k h1
          . obtain rfl:k=j:=(by omega);exact hb
    . intro hJ;refine Qga ?_;have hnb:noteB r l i=true:=ZdU.2 hJ
      have he2:∀ j,j<i+1->noteB r l j=true:=λj hj=>by
       rcases W0q j i with h1|h1
       . exact he j h1
       . obtain rfl:j=i:=(by omega);exact hnb
      have bb:((onu l i).length+1)*8<=70368744177664:=(by omega);simp -implicitDefEqProofs[opdI,opdO,opdT,c];refine Qgr ?_;by_cases q:x.sg=1
      . rw[if_pos q]at sc;have hne:onu l (i+1)≠[]:=(by rw[sc];simp);simp -implicitDefEqProofs[hna,q,bb,wi];refine ⟨rfl,?_,he2⟩;simp only[opdS,opdO,opdT,hne,if_false];have e1:(onu l (i+1)).map ia=(onu l i).map ia++[[AV.int .i64 x.nu]]:=(by rw[sc,W0r];rfl);have e2:(onu l (i+1)).length=(onu l i).length+1:=by rw[sc];simp
        first
         |(rw[c,W18]at sc;rw[sc];((try simp only[ia]);refine Ym.sub (by simp[lk,Ya,AV.keys,ia]) ?_;simp only[ia,Wkl,and_true];(try simp[lk,Yc,Ya,AV.keys,ia]));done)
         |(rw[<- e1,e2];(refine Wkc ?_;simp only[ZdJ,Wkl,and_true];(try simp[lk,Yc,Ya,AV.keys]));done)
      . rw[if_neg q]at sc;simp -implicitDefEqProofs[hna,q,wi];refine ⟨?_,he2⟩;simp only[opdS,opdO,opdT,sc,c,if_true,if_false]
        (refine Wkc ?_;simp only[ZdJ,Wkl,and_true];(try simp[lk,Yc,Ya,AV.keys]))
 . intro he;refine Qga ?_;have hall:(List.range l.length).all (noteB r l)=true:=Z8r.2 he;have hu:onu l l.length=opU l:=rfl;have hul:=ZdW l l.length;have hln:(onu l l.length).length=(opN l l.length).length:=by simp[onu]
   have hB:Zb2 r l=decide ((opN l l.length).length<=5):=by
    have h2:l.length<=12:=(by omega);simp[Zb2,hall,h2]
   rw[<- hln]at hB;by_cases c:onu l l.length=[]
   . have hB2:Zb2 r l=true:=(by rw[hB,c];rfl);have e:chN r l=0:=(by rw[chN,if_pos ho,hB2];rfl);have ea:opA l = .nils:=(by rw[opA,<- hu,if_pos c]);simp -implicitDefEqProofs[opdS,opdO,opdT,c];refine Qgr ?_;simp -implicitDefEqProofs;refine Qco (ZdT) ?_;simp -implicitDefEqProofs[opdA,e,fileA,ea]
   . by_cases h5:5<(onu l l.length).length
     . have h5':(5:Int)<(onu l l.length).length:=(by omega);have hB2:Zb2 r l=false:=(by rw[hB];exact W0S (by omega));have e:chN r l=30:=(by rw[chN,if_pos ho,hB2];rfl);simp -implicitDefEqProofs[opdS,opdO,opdT,c];refine Qgr ?_;simp -implicitDefEqProofs[h5,h5',opdA,e]
     . have h5':¬(5:Int)<(onu l l.length).length:=(by omega);have hB2:Zb2 r l=true:=(by rw[hB];exact W0M (by omega));have e:chN r l=0:=(by rw[chN,if_pos ho,hB2];rfl);have ea:opA l = .vsl ((sortI (opU l)).map ia):=(by rw[opA,<- hu,if_neg c]);have hsp:=ZdQ (G:=R.G) (onu l l.length) (by omega);have pu:((sortI (opU l)).map ia).all (λr=>r.all AV.pure)=true:=(by simp[ia,AV.pure]);have sl:(sortI (opU l)).length=(onu l l.length).length:=(by rw[Zbc,<- hu]);simp -implicitDefEqProofs[opdS,opdO,opdT,c];refine Qgr ?_;simp -implicitDefEqProofs[h5,h5'];refine Yd.sem (Z1B.byref hsp (λ_=>59) (by simp) (by simp) (by simp[St.get,lk,ZdI]) (by simp[ZdJ]) (by simp[Ya,AV.keys,lk]) rfl (by simp[AV.ren]) rfl rfl) ?_;rw[hu];rw[hu]at sl;simp -implicitDefEqProofs[Yl,ZdI,opdA,e,fileA,ea,pu,sl]
def dropZ:Nat->RCode->RCode
 |0,c=>c
 |n+1,.seq _ c=>dropZ n c
 |_+1,c=>c
def GOz {P:Program} {R:Run} {c:RCode} {ks:List KF} {Φ:Exit->St->Prop} {st:St} (h:AR P R c st (RetP P R ks Φ)):GO P R 0 (.run c) ks Φ st:=h
def lfS (U s:List Int) (i:Nat):List Int:=U.filter λn=>!decide (n∈s.take i)
def ZdY {U s:List Int} {i:Nat} (hi:i<s.length) (hU:U.Nodup):(lfS U s i).erase s[i]=lfS U s (i+1):=by
 have hn:(lfS U s i).Nodup:=hU.filter _;rw[hn.erase_eq_filter];unfold lfS;rw[List.filter_filter];refine List.filter_congr λn _=>?_
 have hm:n∈s.take (i+1)↔(n∈s.take i∨n=s[i]):=(by rw[W08 hi,W0h,W0B]);by_cases e:n=s[i]
 . rw[W0M (hm.2 (.inr e)),bne_eq_false_iff_eq.2 e];rfl
 . by_cases e2:n∈s.take i
   . rw[W0M (hm.2 (.inl e2)),W0M e2];simp
   . rw[W0S (λh=>(hm.1 h).elim e2 e),W0S e2];simp[e]
def truI (l:Jl) (s:List Int) (i:Nat):Prop:=∀ j,j<i->s.getD j 0∈opU l/\(0<j->s.getD (j-1) 0<s.getD j 0)
def ZdZ {l:Jl} {s:List Int} {i:Nat} (h:truI l s i):∀ a b,a<b->b<i->s.getD a 0<s.getD b 0
 |a,0,h1,_=>by omega
 | a,b+1,h1,h2=>by
   have h3:=(h (b+1) h2).2 (by omega);rw[W19]at h3;rcases W0q a b with h4|h4
   . have:=ZdZ h a b h4 (by omega);omega
   . obtain rfl:a=b:=(by omega);exact h3
def Ze0 {l:Jl} {U s:List Int} {i:Nat} (hU:∀ n,n∈U↔n∈opU l) (hi:i<s.length) (h:truI l s i):(s[i]∈lfS U s i/\(0<i->s.getD (i-1) 0<=s[i]))↔truI l s (i+1):=by
 have eg:∀ j,∀ hj:j<s.length,s.getD j 0=s[j]:=λj hj=>by simp[W0j,hj]
 unfold lfS;rw[W0G,hU]
 constructor
 . rintro ⟨⟨h1,h2⟩,h3⟩ j hj;rcases W0q j i with h4|h4
   . exact h j h4
   . obtain rfl:j=i:=(by omega);rw[eg j hi];refine ⟨h1,λh0=>?_⟩;have h5:=h3 h0;have hj1:j-1<s.length:=by omega
     have h6:s.getD (j-1) 0≠s[j]:=λe=>by
      have:s[j]∈s.take j:=(by rw[<- e,eg _ hj1];rw[W1Q];exact ⟨j-1,by omega,rfl⟩);simp[this]at h2
     omega
 . intro h1;have h2:=h1 i (by omega);rw[eg i hi]at h2;refine ⟨⟨h2.1,?_⟩,λh0=>Int.le_of_lt (h2.2 h0)⟩
   have:s[i] ∉ s.take i:=λhm=>by
    obtain ⟨j,hj,e⟩:=W1Q.1 hm;have:=ZdZ h1 j i (by omega) (by omega);rw[eg i hi,eg j (by omega)]at this;omega
   simp[this]
def Ze1 {l:Jl} {s:List Int}:truB l s=true↔truI l s s.length:=by
 unfold truB truI;rw[Z8r];refine forall_congr' λj=>forall_congr' λhj=>?_
 rw[W01,W0b];refine and_congr_right λ_=>?_
 cases j with
 |zero=>simp
 |succ j=>simp
def Ze2 (l:List Int) (n:Int) (h:Sml l):PC prog G 129 [.vsl (l.map ia),.int .i64 n] (.int .i64 (idx l n)):=by
 (refine Zd2 rfl λR hG hrd=>Qga ?_;subst hG)
 unfold Sml at h;simp -implicitDefEqProofs[Zd0,Zd1];refine Z8a (λi=>⟨[(8,.int .i64 i),(7,.int .i64 l.length),(0,.vsl (l.map ia)),(1,.int .i64 n)],[]⟩) (λi=>n ∉ l.take i) l.length (by (first|exact Wka|exact Wkb)) (by simp) ?_ ?_
 . intro i hi he;refine Qga ?_;have w1:i64.wrap ((i:Int)+1)=(i:Int)+1:=Yf;by_cases e:n=l[i]
   . have hm:n∈l:=e ▸ W0e hi
     have hix:l.idxOf n=i:=by
      have hs:=W11 i l;rw[W0x hi]at hs;rw[<- hs,List.idxOf_append,if_neg he,List.idxOf_cons];simp[e];omega
     have e2:idx l n=i:=(by rw[idx,if_pos hm,hix]);simp -implicitDefEqProofs[hi,ia,e];refine Qgr ?_;rw[e]at e2;simp -implicitDefEqProofs[e2]
   . simp -implicitDefEqProofs[hi,ia,e,w1];refine ⟨by (first|exact Wka|exact Wkb),?_⟩;rw[W08 hi,W0h,W0B];exact λh=>h.elim he e
 . intro he;rw[W0v]at he;refine Qga ?_;have e2:idx l n = -1:=(by rw[idx,if_neg he]);simp -implicitDefEqProofs;refine Qgr ?_;simp -implicitDefEqProofs[e2]
def Ze3 (l:List Int) (n:Int) (h:Sml l):PC prog G 87 [.vsl (l.map ia),.int .i64 n] (.bool (decide (n∈l))):=by
 have hc:=Ze2 (G:=G) l n h
 have e:decide (0<=idx l n)=decide (n∈l):=by
  have:=Z8y (l:=l) (n:=n);by_cases h:n∈l
  . rw[W0M h,W0M];have:¬idx l n<0:=λh2=>(this.1 h2) h
    omega
  . rw[W0S h,W0S];have:=this.2 h;omega
 (refine ZcZ rfl λR hG hrd=>Qga ?_;subst hG)
 simp -implicitDefEqProofs[ZcX,ZcY];refine Qco (hc) ?_;simp -implicitDefEqProofs[e]
def Ze4 (o:List (Nat×AObj)) (l:List Int):Yc o (.mp (lfA l))=true:=by
 simp only[Yc,W03,lfA,W0i];rintro _ ⟨y,-,rfl⟩;simp[Ya,AV.keys]
def Ze5 (r:Jr) (l:Jl) (s:List Int) (hs:Sml s) (hU:(opU l).Nodup) (hl:(opU l).length<=12):PC prog G 166 [fileA r l,.vsl (s.map ia)] (.int .i64 (if truB l s=true then 0 else 31)):=by
 unfold Sml at hs;have hUs:(sortI (opU l)).Nodup:=(Zb8 _).symm.nodup hU;have hsl:=Zbc (opU l);obtain ⟨S,hS⟩:=Qex (sortI (opU l));have hSm:∀ n,n∈S↔n∈opU l:=λn=>by rw[hS];exact Zbd
 rw[<- hS]at hUs hsl
 have hO:(S=[]/\opA l = .nils)∨(S≠[]/\opA l = .vsl (S.map ia)):=by
  by_cases c:opU l=[]
  . exact .inl ⟨W0l.1 (by rw[hsl,c];rfl),by rw[opA,if_pos c]⟩
  . exact .inr ⟨λe=>c (W0l.1 (by rw[<- hsl,e];rfl)),by rw[opA,if_neg c,hS]⟩
 have key : ∀ R:Run,R.G=G->R.Top->∀ (rc:RCode),rc=dropZ 3 ZcG->AR prog R rc ⟨[(5,.mp 10),(1,.vsl (s.map ia))],[(10,.mp (lfA S))]⟩ (Fin ZcH (.int .i64 (if truB l s=true then 0 else 31))):=λR _ _ rc hrc=>by
  subst hrc;refine Qga ?_;simp -implicitDefEqProofs[dropZ,ZcG];refine Z8a (λi=>⟨[(25,.int .i64 i),(24,.int .i64 s.length),(23,.vsl (s.map ia)),(5,.mp 10),(1,.vsl (s.map ia))],[(10,.mp (lfA (lfS S s i)))]⟩) (λi=>truI l s i) s.length ?_ (λj hj=>by omega) ?_ ?_
  . have e0:lfS S s 0=S:=by unfold lfS;simp
    ((try simp only[e0]);refine Ym.sub (by simp[lk,Ya,AV.keys,e0]) ?_;simp only[e0,Wkl,Ze4,and_true];(try simp[lk,Yc,Ya,AV.keys,e0]))
  . intro i hi hI;refine Qga ?_;have wi:i64.wrap ((i:Int)+1)=(i:Int)+1:=Yf;have gl:=Z9S s[i] (lfS S s i);have st:=Ze0 hSm hi hI;have le:=ZdY (s:=s) hi hUs
    have no:¬truI l s (i+1)->truB l s=false:=λh=>by
     cases q:truB l s
     . rfl
     . exact absurd (λj hj=>Ze1.1 q j (by omega)) h
    by_cases hm:s[i]∈lfS S s i
    . rw [if_pos hm]at gl;have dl:=Z9V hm;rw[le]at dl
      cases i with
      | zero =>
        have w1:i64.wrap 1=1:=rfl;have h1:=st.1 ⟨hm,λh=>by omega⟩;simp -implicitDefEqProofs[hi,ia,gl,dl,w1];refine ⟨?_,h1⟩
        (refine Wkc ?_;simp only[Ze4,Wkl,and_true];(try simp[lk,Yc,Ya,AV.keys]))
      | succ k =>
        have hk:k<s.length:=(by omega);have k1:(k:Int)+1<s.length:=(by omega);have k2:((k:Int)+1).toNat=k+1:=(by omega);have k3:(0:Int)<=(k:Int)+1:=(by omega);have k4:(0:Int)<(k:Int)+1:=(by omega);have wk:i64.wrap ((k:Int)+1-1)=(k:Int):=(by rw[Yf (by omega) (by omega)];omega);have wk2:i64.wrap (k:Int)=(k:Int):=Yf;have wk3:i64.wrap ((k:Int)+1+1)=(k:Int)+1+1:=Yf;have eg:s.getD (k+1-1) 0=s[k]:=(by simp[W0j,hk]);rw[eg]at st;by_cases hlt:s[k+1]<s[k]
        . have hB:=no λh=>by have:=(st.2 h).2 (by omega);omega
          simp -implicitDefEqProofs[hi,hk,ia,gl,k1,k2,k3,k4,wk,wk2,hlt];refine Qgr ?_;simp -implicitDefEqProofs[hB,ZcH]
        . have h1:=st.1 ⟨hm,λ_=>by omega⟩;simp -implicitDefEqProofs[hi,hk,ia,gl,k1,k2,k3,k4,wk,wk2,wk3,hlt,dl];refine ⟨?_,h1⟩
          (refine Wkc ?_;simp only[Ze4,Wkl,and_true];(try simp[lk,Yc,Ya,AV.keys]))
    . rw[if_neg hm]at gl;have hB:=no λh=>hm (st.2 h).1
      simp -implicitDefEqProofs[hi,ia,gl];refine Qgr ?_;simp -implicitDefEqProofs[hB,ZcH]
  . intro hI;have hB:=Ze1.2 hI;refine Qga ?_;simp -implicitDefEqProofs;refine Qgr ?_;simp -implicitDefEqProofs[hB,ZcH]
 refine ZcI rfl λR hG hrd=>?_
 have key:=key R hG hrd _ rfl;rcases hO with ⟨h1,h2⟩ | ⟨h1,h2⟩
 . refine Qga ?_;simp -implicitDefEqProofs[ZcG,fileA,h2];refine Z8a (λi=>⟨[(16,.int .i64 i),(15,.int .i64 0),(5,.mp 10),(1,.vsl (s.map ia))],[(10,.mp (lfA S))]⟩) (λ_=>True) 0 ?_ trivial (λi hi=>by omega) ?_
   . have e0:lfA []=[]:=rfl
     ((try simp only[h1,e0]);refine Ym.sub (by simp[lk,Ya,AV.keys,h1,e0]) ?_;simp only[h1,e0,Wkl,Ze4,and_true];(try simp[lk,Yc,Ya,AV.keys,h1,e0]))
   . intro _;refine Qga ?_;simp -implicitDefEqProofs;refine Z2R mixed 2 ?_;simp -implicitDefEqProofs;refine GOz (Z2Q ?_ key)
     (refine Wkc ?_;simp only[Ze4,Wkl,and_true];(try simp[lk,Yc,Ya,AV.keys]))
 . refine Qga ?_;simp -implicitDefEqProofs[ZcG,fileA,h2];refine Z8a (λi=>⟨[(16,.int .i64 i),(15,.int .i64 S.length),(14,.vsl (S.map ia)),(5,.mp 10),(1,.vsl (s.map ia))],[(10,.mp (lfA (S.take i)))]⟩) (λ_=>True) S.length ?_ trivial ?_ ?_
   . have e0:lfA []=[]:=rfl
     ((try simp only[W1g,e0]);refine Ym.sub (by simp[lk,Ya,AV.keys,W1g,e0]) ?_;simp only[W1g,e0,Wkl,Ze4,and_true];(try simp[lk,Yc,Ya,AV.keys,W1g,e0]))
   . intro i hi _;refine Qga ?_;have wi:i64.wrap ((i:Int)+1)=(i:Int)+1:=Yf
     have hni:S[i] ∉ S.take i:=λhm=>by
      obtain ⟨j,hj,e⟩:=W1Q.1 hm;have:=(List.nodup_iff_pairwise_ne.1 hUs);have:=W0Y.1 this j i (by omega) hi (by omega);exact this e
     have pl:=Z9T hni;have e1:S.take i++[S[i]]=S.take (i+1):=(W08 hi).symm;rw[e1]at pl;simp -implicitDefEqProofs[hi,ia,pl,wi]
     (refine Wkc ?_;simp only[Ze4,Wkl,and_true];(try simp[lk,Yc,Ya,AV.keys]))
   . intro _;refine Qga ?_;simp -implicitDefEqProofs;refine Z2R mixed 2 ?_;simp -implicitDefEqProofs;refine GOz (Z2Q ?_ key)
     ((try simp only[W0v]);refine Ym.sub (by simp[lk,Ya,AV.keys,W0v]) ?_;simp only[W0v,Wkl,Ze4,and_true];(try simp[lk,Yc,Ya,AV.keys,W0v]))
section
open Qq Tryz
end
section
open Qq Tryz
end
def GO0 {P:Program} {R:Run} {c:RCode} {ks:List KF} {Φ:Exit->St->Prop} {st:St} (h:AR P R c st (RetP P R ks Φ)):GO P R 0 (.run c) ks Φ st:=h
def mpA {α:Type} (f:α->AV) (l:List (Int×α)):List (AV×AV):=l.map λp=>(.int .i64 p.1,f p.2)
def mlk {α:Type} (n:Int):List (Int×α)->Option α
 |[]=>none
 |p::l=>if n=p.1 then some p.2 else mlk n l
def Ze6 {α:Type} (f:α->AV) (n:Int):∀ l:List (Int×α),∃ o:Option Nat,(KK.i .i64).find (.int .i64 n) (mpA f l)=some o/\match o with
  |some j=>∃ v,l[j]? = some (n,v)/\mlk n l=some v
  |none=>mlk n l=none/\∀ p∈l,p.1≠n
 |[]=>⟨none,rfl,rfl,by simp⟩
 | p :: r=>by
   obtain ⟨o,h1,h2⟩:=Ze6 f n r;by_cases e:n=p.1
   . refine ⟨some 0,by simp[mpA,KK.find,KK.eq,e],p.2,by simp[e],by simp[mlk,e]⟩
   . refine ⟨o.map (· + 1),?_,?_⟩
     . simp only[mpA,W0F,KK.find,KK.eq,and_self,if_true,e,W1x];rw[show r.map (λp=>(AV.int .i64 p.1,f p.2))=mpA f r from rfl,h1];rfl
     . cases o with
       |none=>exact ⟨by simp only[mlk,e,if_false];exact h2.1,λq hq=>by
        rcases W0g.1 hq with rfl|hq
        . exact λh=>e h.symm
        . exact h2.2 q hq⟩
       | some j =>
         obtain ⟨v,h3,h4⟩:=h2;exact ⟨v,by simpa using h3,by simp only[mlk,e,if_false];exact h4⟩
def Ze7 {α:Type} (f:α->AV) (n:Int) (l:List (Int×α)):(KK.i .i64).get (.int .i64 n) (mpA f l)=some ((mlk n l).map f):=by
 obtain ⟨o,h1,h2⟩:=Ze6 f n l;have hi:(KK.i .i64).is (.int .i64 n)=true:=(by simp[KK.is]);unfold KK.get;rw[if_pos hi,h1]
 cases o with
 |none=>simp[h2.1]
 |some j=>obtain ⟨v,h3,h4⟩:=h2;simp[mpA,h3,h4]
section
open Qq Tryz
def Ze8:RCode :=
 S [r 0 [n 4 (.bool false)],S [r 1 [m 6 0,e 7 6,m 8 1,e 9 8,o 10 .neq 7 9],K 10 2 [n 4 (.bool false)]],S [r 3 [n 5 O],.block 0 (.loop (S [S [r 4 [m 11 5,m 12 0,e 13 12,o 14 .lss 11 13],.cond (.t 14) .skip (.exit 0)],.block 1 (S [R 6 [m 17 0,m 18 5,a [0,1] (i 19 2 17 18),a [2] (L 20 2 19),m 21 1,m 22 5,a [4,5] (i 23 2 21 22),a [6] (L 24 2 23),a [3,7] (w 25 (.eqs true [.i,.i] (.t 20) (.t 24)))],K 25 7 [n 4 (.bool false)]]),r 5 [m 15 5,k 16 .add 15 I,m 5 16]]))],r 8 [n 4 (.bool true)],.ret]
def Ze9:List RRes:=[.t 4]
def Zea:PCt prog 33 f33 Ze8 Ze9:=pcT func33 rfl
end
def needL (n:Int) (l:List (Int×Int)):Bool:=l.any λy=>decide (y.1=n)
inductive Up (T:Int->Iss) (l:List Int) (d:Int):Int->Prop
 |base (n:Int) (hn:n∈l) (h:needL d (T n).its=true):Up T l d n
 |step (n m:Int) (hn:n∈l) (h:needL m (T n).its=true) (hm:Up T l d m):Up T l d n
def Up.trans {T:Int->Iss} {l:List Int} {d m n:Int} (h1:Up T l d m) (h2:Up T l m n):Up T l d n:=by
 induction h2 with
 |base n hn h=>exact .step n m hn h h1
 |step n k hn h _ ih=>exact .step n k hn h ih
def Up.mem {T:Int->Iss} {l:List Int} {d n:Int} (h:Up T l d n):n∈l:=by cases h <;> assumption
def Zeb (a b:List (Int×Int)) (ha:Sml a):PC prog G 33 [.vsl (a.map ita),.vsl (b.map ita)] (.bool (decide (a=b))):=by
 (refine Zea rfl λR hG hrd=>Qga ?_;subst hG)
 by_cases hl:a.length=b.length
 . have hl':(a.length:Int)=b.length:=(by omega);simp -implicitDefEqProofs[Ze8,Ze9,hl'];refine Z8a (λi=>⟨[(5,.int .i64 i),(0,.vsl (a.map ita)),(1,.vsl (b.map ita))],[]⟩) (λi=>∀ j (h:j<a.length),j<i->a[j]=b[j]) a.length (by (first|exact Wka|exact Wkb)) (by simp) ?_ ?_
   . intro i hi he;refine Qga ?_;unfold Sml at ha;have hi2:i<b.length:=(by omega);have w1:i64.wrap ((i:Int)+1)=((i+1:Nat):Int):=Yf;simp -implicitDefEqProofs[hi,hi2,ita];refine ⟨rfl,?_⟩;by_cases h2:a[i]=b[i]
     . simp -implicitDefEqProofs[h2,w1];refine ⟨(by (first|exact Wka|exact Wkb)),λj h1 h3=>?_⟩;by_cases e:j=i
       . subst e;exact h2
       . exact he j h1 (by omega)
     . have h3:¬a=b:=λe=>h2 (by subst e;rfl)
       rw[Z8k h2];simp -implicitDefEqProofs;refine Qgr ?_;simp -implicitDefEqProofs[h3]
   . intro he;refine Qga ?_;have h3:a=b:=W1I hl λj h1 h2=>he j h1 h1
     simp -implicitDefEqProofs;refine Qgr ?_;simp -implicitDefEqProofs[h3]
 . have hl':¬(a.length:Int)=b.length:=(by omega);have h3:¬a=b:=λe=>hl (by rw[e])
   simp -implicitDefEqProofs[Ze8,Ze9,hl',h3]
def Yg (l:List (List AV)):AV:=if l=[] then .nils else .vsl l
def Zec (l:List (List AV)):(Yg l).keys=[]:=by unfold Yg;split <;> simp[AV.keys]
def Zed (o:List (Nat×AObj)) (l:List Int):Yc o (.mp (lfA l))=true:=by
 simp only[Yc,W03,lfA,W0i];rintro x ⟨y,-,rfl⟩;simp[Ya,AV.keys]
def mpP {α:Type} (n:Int) (v:α):List (Int×α)->List (Int×α)
 |[]=>[(n,v)]
 |p::l=>if n=p.1 then (n,v)::l else p::mpP n v l
def Zee {α:Type} (n:Int) (v:α):∀ (l:List (Int×α)) (m:Int),mlk m (mpP n v l)=if m=n then some v else mlk m l
 |[],m=>by simp[mpP,mlk]
 | p :: l,m=>by
   have ih:=Zee n v l m;simp only[mpP];by_cases e:n=p.1
   . rw[if_pos e];simp only[mlk];by_cases e2:m=n
     . rw[if_pos e2,if_pos e2]
     . rw[if_neg e2,if_neg e2,if_neg (by rw[<- e];exact e2)]
   . rw[if_neg e];simp only[mlk];by_cases e2:m=p.1
     . rw[if_pos e2,if_pos e2,if_neg (by rintro rfl;exact e e2)]
     . rw[if_neg e2,if_neg e2];exact ih
def Zef {α:Type} (f:α->AV) (n:Int) (v:α):∀ l:List (Int×α),∃ o:Option Nat,(KK.i .i64).find (.int .i64 n) (mpA f l)=some o/\match o with
  |some j=>mpP n v l=l.set j (n,v)
  |none=>mpP n v l=l++[(n,v)]
 |[]=>⟨none,rfl,rfl⟩
 | p :: r=>by
   obtain ⟨o,h1,h2⟩:=Zef f n v r;by_cases e:n=p.1
   . exact ⟨some 0,by simp[mpA,KK.find,KK.eq,e],by simp[mpP,e]⟩
   . refine ⟨o.map (· + 1),?_,?_⟩
     . simp only[mpA,W0F,KK.find,KK.eq,and_self,if_true,e,W1x];rw[show r.map (λp=>(AV.int .i64 p.1,f p.2))=mpA f r from rfl,h1];rfl
     . cases o with
       |none=>simp only[Option.map_none,mpP,if_neg e,h2];rfl
       |some j=>simp only[W0m,mpP,if_neg e,h2];rfl
def Zeg {α:Type} (f:α->AV) (n:Int) (v:α) (l:List (Int×α)):(KK.i .i64).put (.int .i64 n) (f v) (mpA f l)=some (mpA f (mpP n v l)):=by
 obtain ⟨o,h1,h2⟩:=Zef f n v l;have hi:(KK.i .i64).is (.int .i64 n)=true:=(by simp[KK.is]);unfold KK.put;rw[if_pos hi,h1]
 cases o with
 |none=>simp only[h2];simp[mpA]
 |some j=>rw[h2];simp[mpA,W2r]
def ifK (s w:List Int) (m:Int) (l:Jl):Nat->Nat->List (Int×Bool)->List (Int×Bool)
 |0,_,K=>K
 |n+1,i,K=>if (mlk (i:Int) K).isSome=true then K else mpP (i:Int) (fB s w m l i) ((List.range (l.length-(i+1))).foldl (λK j=>if (gwB (bsF s w m) (λx y=>decide (y.ca=x.nu)) l (nAt l i) i (i+1+j)&&decide ((nAt l (i+1+j)).ca=(nAt l i).nu))=true then ifK s w m l n (i+1+j) K else K) K)
def stK (s w:List Int) (m:Int) (l:Jl) (n i:Nat) (K:List (Int×Bool)) (j:Nat):List (Int×Bool):=if (gwB (bsF s w m) (λx y=>decide (y.ca=x.nu)) l (nAt l i) i (i+1+j)&&decide ((nAt l (i+1+j)).ca=(nAt l i).nu))=true then ifK s w m l n (i+1+j) K else K
def lpK (s w:List Int) (m:Int) (l:Jl) (n i:Nat) (K:List (Int×Bool)) (j:Nat):List (Int×Bool):=(List.range j).foldl (stK s w m l n i) K
def Zeh {s w:List Int} {m:Int} {l:Jl} {n i:Nat} {K:List (Int×Bool)}:ifK s w m l (n+1) i K=if (mlk (i:Int) K).isSome=true then K else mpP (i:Int) (fB s w m l i) (lpK s w m l n i K (l.length-(i+1))):=rfl
def Zei {s w:List Int} {m:Int} {l:Jl} {n i j:Nat} {K:List (Int×Bool)}:lpK s w m l n i K (j+1)=stK s w m l n i (lpK s w m l n i K j) j:=by rw[lpK,W1y,W1q];rfl
def OkK (s w:List Int) (m:Int) (l:Jl) (K:List (Int×Bool)):Prop:=∀ (i:Nat) (b:Bool),mlk (i:Int) K=some b->b=fB s w m l i
def Zej {s w:List Int} {m:Int} {l:Jl}:∀ (n i:Nat) {K:List (Int×Bool)},OkK s w m l K->OkK s w m l (ifK s w m l n i K)
 |0,_,_,h=>h
 | n + 1,i,K,h=>by
   rw[Zeh]
   split
   . exact h
   . have key:∀ j,OkK s w m l (lpK s w m l n i K j):=by
      intro j
      induction j with
      |zero=>exact h
      | succ j ih =>
        rw[Zei,stK]
        split
        . exact Zej n _ ih
        . exact ih
     intro k b hb;rw[Zee]at hb
     split at hb
     . rename_i e;have e:k=i:=(by omega);subst e;exact (W1L hb).symm
     . exact key _ k b hb
def Zek {s w:List Int} {m:Int} {l:Jl} {n i:Nat} {K:List (Int×Bool)} (h:OkK s w m l K):∀ j,OkK s w m l (lpK s w m l n i K j)
 |0=>h
 | j+1=>by
   rw[Zei,stK]
   split
   . exact Zej n _ (Zek h j)
   . exact Zek h j
def Zel {α:Type} {p:α->Bool} {h:α->α->Bool} {l:List α} {x:α} {i:Nat}:∀ {k j:Nat},i<k->k<=j->j<=l.length->gwB p h l x i k=false->gwB p h l x i j=false
 |k,0,h1,h2,_,_=>by omega
 | k,j+1,h1,h2,h3,h4=>by
   rcases W0q k (j+1) with h5|h5
   . rw[Zb7 (by omega) (by omega),Zel h1 (by omega:k<=j) (by omega) h4];rfl
   . obtain rfl:k=j+1:=(by omega);exact h4
def Zem {s w:List Int} {m:Int} {l:Jl} {n i:Nat} {K:List (Int×Bool)} {j:Nat} (hj:gwB (bsF s w m) (λx y=>decide (y.ca=x.nu)) l (nAt l i) i (i+1+j)=false):∀ j',j<=j'->i+1+j'<=l.length->lpK s w m l n i K j'=lpK s w m l n i K j
 | 0, h, _ => by obtain rfl:j=0:=by omega
                 rfl
 | j'+1,h,h2=>by
   rcases W0q j (j'+1) with h5|h5
   . rw[Zei,stK,Zel (by omega) (by omega:i+1+j<=i+1+j') (by omega) hj];exact Zem hj j' (by omega) (by omega)
   . obtain rfl:j=j'+1:=(by omega);rfl
def Zen (o:List (Nat×AObj)) (l:List (Int×Bool)):Yc o (.mp (mpA AV.bool l))=true:=by
 simp only[Yc,W03,mpA,W0i];rintro _ ⟨y,-,rfl⟩;simp[Ya,AV.keys]
def Zeo (ρ:Nat->Nat) (l:List (Int×Bool)):(mpA AV.bool l).map (λp=>(p.1.ren ρ,p.2.ren ρ))=mpA AV.bool l:=by
 simp[mpA,W0y,AV.ren]
def Zep (ok:Nat->Bool) (st:St) (l:List (Int×Bool)):frzO ok st (.mp (mpA AV.bool l)) = .mp (mpA AV.bool l):=by
 simp only[frzO,mpA,W10]
 congr 1
 refine W0K λp _=>?_
 simp[frzA,frz,AV.keys]
def fcO (F sV wV:AV) (m:Int) (K:List (Int×Bool)):List (Nat×AObj) :=
 [(1009,.box [.mp 1011]),(1004,.box [F]),(1005,.box [sV]),(1006,.box [wV]),(1007,.box [.int .i64 m]),(1010,.box [.func (.func 162) [] [.ptr 1009 0,.ptr 1004 0,.ptr 1005 0,.ptr 1006 0,.ptr 1007 0,.ptr 1010 0]]),(1011,.mp (mpA AV.bool K))]
def fcC:List AV:=[.ptr 1009 0,.ptr 1004 0,.ptr 1005 0,.ptr 1006 0,.ptr 1007 0,.ptr 1010 0]
def liA (nl:Bool) (s:List Int):AV:=if nl=true/\s=[] then .nils else .vsl (s.map ia)
def Zeq (nl:Bool) (s:List Int):(liA nl s).pure=true:=by unfold liA;split <;> simp[AV.pure,ia]
def Zer (nl:Bool) (s:List Int):(liA nl s).keys=[]:=by unfold liA;split <;> simp[AV.keys]
def Zes (ok:Nat->Bool) (st:St) (nl:Bool) (s:List Int):frz ok st 6 (liA nl s)=some (liA nl s):=by unfold liA;split <;> simp[frz,AV.keys]
def Zet (ρ:Nat->Nat) (nl:Bool) (s:List Int):(liA nl s).ren ρ=liA nl s:=by unfold liA;split <;> simp[AV.ren]
def Zeu (ok:Nat->Bool) (st:St) (xs:List AV):frzO ok st (.box xs) = .box (xs.map (frzA ok st)):=rfl
def Zev (n:Int):PC prog G 87 [.nils,.int .i64 n] (.bool false):=by
 have hi:PC prog G 129 [.nils,.int .i64 n] (.int .i64 (-1)):=by
  (refine Zd2 rfl λR hG hrd=>Qga ?_;subst hG)
  simp -implicitDefEqProofs[Zd0,Zd1];refine Z8a (λi=>⟨[(8,.int .i64 i),(7,.int .i64 0)],[]⟩) (λi=>True) 0 (by (first|exact Wka|exact Wkb)) trivial (λi hi=>by omega) ?_;intro _;refine Qga ?_;simp -implicitDefEqProofs;refine Qgr ?_;simp -implicitDefEqProofs
 (refine ZcZ rfl λR hG hrd=>Qga ?_;subst hG)
 simp -implicitDefEqProofs[ZcX,ZcY];refine Qco (hi) ?_;simp -implicitDefEqProofs
def Zew (nl:Bool) (s:List Int) (n:Int) (h:Sml s):PC prog G 87 [liA nl s,.int .i64 n] (.bool (decide (n∈s))):=by
 unfold liA
 split
 . rename_i e;rw[e.2];exact Zev n
 . exact Ze3 s n h
def is_pb (r:Jr) (l:Jl) (ns nw:Bool) (s w:List Int) (m:Int) (hl:l.length<=12) (hs:Sml s) (hw:Sml w):∀ (n i:Nat) (K:List (Int×Bool)),i<l.length->l.length-i<=n->OkK s w m l K ->
  PB prog G 162 (fcO (fileA r l) (liA ns s) (liA nw w) m K) (.int .i64 i::fcC) (.bool (fB s w m l i)) (fcO (fileA r l) (liA ns s) (liA nw w) m (ifK s w m l n i K))
 |0,i,K,hi,hn,_=>by omega
 | n + 1, i, K,hi,hn,hK=>by
   have hrec:=λk K h1 h2 h3=>is_pb r l ns nw s w m hl hs hw n k K h1 h2 h3
   have gK:=Ze7 AV.bool (i:Int) K;have hx:=ZaZ hi;have c1:=Zew (G:=G) ns s (nAt l i).nu hs;have c2:=Zew (G:=G) nw w (nAt l i).nu hw;have c3:=Zds (G:=G) (nAt l i).fr (nAt l i).tu m;have fe:=Zb5 (p:=bsF s w m) (h:=λx y:Nte=>decide (y.ca=x.nu)) hi;have k1:=Zer ns s;have k2:=Zer nw w;have p1:=Zeq ns s;have p2:=Zeq nw w;have r1:=λρ=>Zet ρ ns s
   have r2:=λρ=>Zet ρ nw w
   have f1:=λok st=>Zes ok st ns s
   have f2:=λok st=>Zes ok st nw w
   rw[Zeh];generalize liA ns s=sV at *;generalize liA nw w=wV at *;have hF:fileA r l = .vptr [.vsl (r.map isa),.vsl (l.map na),.vsl ((nums r).map ia),opA l] 0:=rfl;have fF:∀ ok st,frz ok st 6 (fileA r l)=some (fileA r l):=λok st=>by rw[hF];simp[frz,AV.keys]
   have kF:(fileA r l).keys=[]:=(by rw[hF];simp[AV.keys]);refine ZcQ (W0C rfl) λR hG hrd=>?_
   subst hG
   cases q:mlk (i:Int) K with
   | some b =>
     have eb:=hK i b q;rw[q]at gK;refine Qga ?_;simp -implicitDefEqProofs[ZcO,ZcP,fcO,fcC,gK,eb];simp -implicitDefEqProofs[FinB,Yi,newK,Zep,Zeu,frzA,frz,fF,f1,f2,tupV,Z29,ZcP]
   | none =>
     rw[q]at gK;have hna:na (nAt l i)=[.int .i64 (nAt l i).nu,.int .i64 (nAt l i).dy,.int .u8 (nAt l i).sg,.int .i64 (nAt l i).dr,.int .i64 (nAt l i).lt,.int .i64 (nAt l i).fr,.int .i64 (nAt l i).tu,.int .i64 (nAt l i).ca,.bool (nAt l i).up,.int .u8 (nAt l i).wy]:=rfl;rw[<- hx]at fe;have lok:=λj=>Zek (n:=n) (i:=i) hK j
     have lsu:=λj=>Zei (s:=s) (w:=w) (m:=m) (l:=l) (n:=n) (i:=i) (j:=j) (K:=K)
     have lst:=λj=>Zem (s:=s) (w:=w) (m:=m) (l:=l) (n:=n) (i:=i) (K:=K) (j:=j)
     unfold stK at lsu;have gb:=Zb6 (p:=bsF s w m) (h:=λx y:Nte=>decide (y.ca=x.nu)) (l:=l) (x:=nAt l i) (i:=i);have gs:=λk=>Zb7 (p:=bsF s w m) (h:=λx y:Nte=>decide (y.ca=x.nu)) (l:=l) (x:=nAt l i) (i:=i) (k:=k)
     have gst:=λk j (h1:i<k) (h2:k<=j) (h3:j<=l.length)=>Zel (p:=bsF s w m) (h:=λx y:Nte=>decide (y.ca=x.nu)) (l:=l) (x:=nAt l i) h1 h2 h3
     have fbs:fB s w m l i=gwB (bsF s w m) (λx y=>decide (y.ca=x.nu)) l (nAt l i) i l.length:=fe;rw[fbs];have pm:=λb K=>Zeg AV.bool (i:Int) b K
     generalize hxx:nAt l i=x at *;have hlx:l[i]=x:=hx.symm;unfold ZcO;refine ZbU (S:=⟨[(0,.int .i64 i),(1,.ptr 1009 0),(2,.ptr 1004 0),(3,.ptr 1005 0),(4,.ptr 1006 0),(5,.ptr 1007 0),(6,.ptr 1010 0)],fcO (.vptr [.vsl (r.map isa),.vsl (l.map na),.vsl ((nums r).map ia),opA l] 0) sV wV m K⟩) (Qga ?_) ?_
     . simp -implicitDefEqProofs[fcO,fcC,hF]
       ((try simp only[Zen,k1,k2]);refine Ym.sub (by simp[lk,Ya,AV.keys,Zen,k1,k2]) ?_;simp only[Zen,k1,k2,Wkl,and_true];(try simp[lk,Yc,Ya,AV.keys,Zen,k1,k2]))
     refine ZbU (S:=⟨[(0,.int .i64 i),(1,.ptr 1009 0),(2,.ptr 1004 0),(3,.ptr 1005 0),(4,.ptr 1006 0),(5,.ptr 1007 0),(6,.ptr 1010 0)],fcO (.vptr [.vsl (r.map isa),.vsl (l.map na),.vsl ((nums r).map ia),opA l] 0) sV wV m K⟩) (Qga ?_) ?_
     . simp -implicitDefEqProofs[fcO,gK]
       ((try simp only[Zen,k1,k2]);refine Ym.sub (by simp[lk,Ya,AV.keys,Zen,k1,k2]) ?_;simp only[Zen,k1,k2,Wkl,and_true];(try simp[lk,Yc,Ya,AV.keys,Zen,k1,k2]))
     refine ZbU (S:=⟨[(0,.int .i64 i),(1,.ptr 1009 0),(2,.ptr 1004 0),(3,.ptr 1005 0),(4,.ptr 1006 0),(5,.ptr 1007 0),(6,.ptr 1010 0),(11,.ptr 11 0)],(11,.box (na x))::fcO (.vptr [.vsl (r.map isa),.vsl (l.map na),.vsl ((nums r).map ia),opA l] 0) sV wV m K⟩) (Qga ?_) ?_
     . simp -implicitDefEqProofs[fcO,hi,hlx,hna]
       ((try simp only[Zen,k1,k2,hna]);refine Ym.sub (by simp[lk,Ya,AV.keys,Zen,k1,k2,hna]) ?_;simp only[Zen,k1,k2,hna,Wkl,and_true];(try simp[lk,Yc,Ya,AV.keys,Zen,k1,k2,hna]))
     refine ZbU (S:=⟨[(0,.int .i64 i),(1,.ptr 1009 0),(2,.ptr 1004 0),(3,.ptr 1005 0),(4,.ptr 1006 0),(5,.ptr 1007 0),(6,.ptr 1010 0),(11,.ptr 11 0),(12,.bool (bsF s w m x))],(11,.box (na x))::fcO (.vptr [.vsl (r.map isa),.vsl (l.map na),.vsl ((nums r).map ia),opA l] 0) sV wV m K⟩) (Qga ?_) ?_
     . unfold bsF;have go3:∀ b:Bool,(decide (x.sg=2)||decide (x.nu∈s))=b->True:=λ_ _=>trivial
       by_cases e1:x.sg=2
       . simp -implicitDefEqProofs[fcO,hna,e1,p1,p2];refine Yd.of c2 (by simp[p2,AV.pure]) ?_;by_cases e2:x.nu∈w
         . simp -implicitDefEqProofs[e2,p1,p2]
           ((try simp only[Zen,k1,k2,fcO]);refine Ym.sub (by simp[lk,Ya,AV.keys,Zen,k1,k2,fcO]) ?_;simp only[Zen,k1,k2,fcO,Wkl,and_true];(try simp[lk,Yc,Ya,AV.keys,Zen,k1,k2,fcO]))
         . simp -implicitDefEqProofs[e2,p1,p2];refine Qco (c3) ?_;simp -implicitDefEqProofs
           ((try simp only[Zen,k1,k2,fcO]);refine Ym.sub (by simp[lk,Ya,AV.keys,Zen,k1,k2,fcO]) ?_;simp only[Zen,k1,k2,fcO,Wkl,and_true];(try simp[lk,Yc,Ya,AV.keys,Zen,k1,k2,fcO]))
       . simp -implicitDefEqProofs[fcO,hna,e1,p1,p2];refine Yd.of c1 (by simp[p1,AV.pure]) ?_;by_cases e3:x.nu∈s
         . simp -implicitDefEqProofs[e3,p1,p2];refine Yd.of c2 (by simp[p2,AV.pure]) ?_;by_cases e2:x.nu∈w
           . simp -implicitDefEqProofs[e2,p1,p2]
             ((try simp only[Zen,k1,k2,fcO]);refine Ym.sub (by simp[lk,Ya,AV.keys,Zen,k1,k2,fcO]) ?_;simp only[Zen,k1,k2,fcO,Wkl,and_true];(try simp[lk,Yc,Ya,AV.keys,Zen,k1,k2,fcO]))
           . simp -implicitDefEqProofs[e2,p1,p2];refine Qco (c3) ?_;simp -implicitDefEqProofs
             ((try simp only[Zen,k1,k2,fcO]);refine Ym.sub (by simp[lk,Ya,AV.keys,Zen,k1,k2,fcO]) ?_;simp only[Zen,k1,k2,fcO,Wkl,and_true];(try simp[lk,Yc,Ya,AV.keys,Zen,k1,k2,fcO]))
         . simp -implicitDefEqProofs[e3,p1,p2]
           ((try simp only[Zen,k1,k2,fcO]);refine Ym.sub (by simp[lk,Ya,AV.keys,Zen,k1,k2,fcO]) ?_;simp only[Zen,k1,k2,fcO,Wkl,and_true];(try simp[lk,Yc,Ya,AV.keys,Zen,k1,k2,fcO]))
     rw[<- gb];have w1:i64.wrap ((i:Int)+1)=((i+1:Nat):Int):=Yf;refine ZbU (S:=⟨[(0,.int .i64 i),(1,.ptr 1009 0),(12,.bool (gwB (bsF s w m) (λx y=>decide (y.ca=x.nu)) l x i l.length))],fcO (.vptr [.vsl (r.map isa),.vsl (l.map na),.vsl ((nums r).map ia),opA l] 0) sV wV m (lpK s w m l n i K (l.length-(i+1)))⟩) (Qga ?_) ?_
     . simp -implicitDefEqProofs[w1];refine Z1Q (λk=>⟨[(0,.int .i64 i),(1,.ptr 1009 0),(2,.ptr 1004 0),(3,.ptr 1005 0),(4,.ptr 1006 0),(5,.ptr 1007 0),(6,.ptr 1010 0),(11,.ptr 11 0),(12,.bool (gwB (bsF s w m) (λx y=>decide (y.ca=x.nu)) l x i k)),(13,.int .i64 (k:Int))],(11,.box (na x))::fcO (.vptr [.vsl (r.map isa),.vsl (l.map na),.vsl ((nums r).map ia),opA l] 0) sV wV m (lpK s w m l n i K (k-(i+1)))⟩) (λk=>i+1<=k/\k<=l.length) (λk=>l.length-k) (i+1) (by ((try simp only[Zen,k1,k2,fcO,lpK,List.range_zero,List.foldl_nil,hna,W2q]);refine Ym.sub (by simp[lk,Ya,AV.keys,Zen,k1,k2,fcO,lpK,List.range_zero,List.foldl_nil,hna,W2q]) ?_;simp only[Zen,k1,k2,fcO,lpK,List.range_zero,List.foldl_nil,hna,W2q,Wkl,and_true];(try simp[lk,Yc,Ya,AV.keys,Zen,k1,k2,fcO,lpK,List.range_zero,List.foldl_nil,hna,W2q]))) ⟨by omega,by omega⟩ ?_;rintro k ⟨hk1,hk2⟩;have gst':=gst k l.length hk1 hk2 (W0f _);have lst':=lst (k-(i+1)) ;rw[show i+1+(k-(i+1))=k by omega]at lst';by_cases hb:gwB (bsF s w m) (λx y=>decide (y.ca=x.nu)) l x i k=true
       . rcases W0q k l.length with h5|h5
         . have w2:i64.wrap ((k:Int)+1)=(((k+1:Nat)):Int):=(by rw[Yf (by omega) (by omega)];omega);have hnj:na (nAt l k)=[.int .i64 (nAt l k).nu,.int .i64 (nAt l k).dy,.int .u8 (nAt l k).sg,.int .i64 (nAt l k).dr,.int .i64 (nAt l k).lt,.int .i64 (nAt l k).fr,.int .i64 (nAt l k).tu,.int .i64 (nAt l k).ca,.bool (nAt l k).up,.int .u8 (nAt l k).wy]:=rfl;have hy:=ZaZ h5;have hg:=gs k (by omega) h5;have hr:=hrec k (lpK s w m l n i K (k-(i+1))) h5 (by omega) (lok _);have hls:=lsu (k-(i+1));rw[show i+1+(k-(i+1))=k by omega,show k-(i+1)+1=k+1-(i+1) by omega]at hls;rw[hb,W1k]at hg hls;rw[<- hy]at hg;change _ = !(fB s w m l k&&_) at hg;generalize hyy:nAt l k=y at *;have hly:l[k]=y:=hy.symm;by_cases h6:y.ca=x.nu
           . simp only[h6,W1i,W2c,if_true]at hg hls;rw[fcO,hF]at hr;refine Yb mixed 9 ?_;simp -implicitDefEqProofs[hb,h5,hna,h6,fcO,hly,hnj];refine GO0 (Z5m mixed 15 (by decide) ?_);simp -implicitDefEqProofs[hb,h5,hna,h6,fcO,hly,hnj];refine ⟨rfl,Yd.sem (Z1B.byref hr id (by simp) (by simp) (by simp[St.get,lk,AV.ren,AObj.ren,Zeo,r1,r2]) (by simp only[W0g,W0Q,or_false,W1M,forall_eq,Zen,and_true];simp[lk,Yc,Ya,AV.keys,k1,k2]) (by simp[Ya,AV.keys,lk,rega,fcC]) rfl (by simp[AV.ren,rega,fcC]) rfl rfl) ?_⟩;simp -implicitDefEqProofs[Yl,fcO,AV.ren,AObj.ren,Zeo,r1,r2];refine Qgr ?_;simp -implicitDefEqProofs[w2];refine ⟨k+1,?_,⟨by omega,by omega⟩,(by show l.length-(k+1)<l.length-k;omega)⟩;simp only[hg,hls]
             ((try simp only[Zen,k1,k2,hna]);refine Ym.sub (by simp[lk,Ya,AV.keys,Zen,k1,k2,hna]) ?_;simp only[Zen,k1,k2,hna,Wkl,and_true];(try simp[lk,Yc,Ya,AV.keys,Zen,k1,k2,hna]))
           . simp only[h6,W1x,W2a,W1E,W05,if_false]at hg hls;refine Qga ?_;simp -implicitDefEqProofs[hb,h5,hna,h6,fcO,hly,hnj,w2];refine ⟨rfl,k+1,?_,⟨by omega,by omega⟩,(by show l.length-(k+1)<l.length-k;omega)⟩;simp only[hg,hls]
             ((try simp only[Zen,k1,k2,hna]);refine Ym.sub (by simp[lk,Ya,AV.keys,Zen,k1,k2,hna]) ?_;simp only[Zen,k1,k2,hna,Wkl,and_true];(try simp[lk,Yc,Ya,AV.keys,Zen,k1,k2,hna]))
         . obtain rfl:k=l.length:=(by omega);refine Qga ?_;simp -implicitDefEqProofs[hb,fcO];refine Qgr ?_;simp -implicitDefEqProofs
           ((try simp only[Zen,k1,k2,hna]);refine Ym.sub (by simp[lk,Ya,AV.keys,Zen,k1,k2,hna]) ?_;simp only[Zen,k1,k2,hna,Wkl,and_true];(try simp[lk,Yc,Ya,AV.keys,Zen,k1,k2,hna]))
       . have hb:gwB (bsF s w m) (λx y=>decide (y.ca=x.nu)) l x i k=false:=(by simpa using hb);have e1:=lst' hb (l.length-(i+1)) (by omega) (by omega);rw[e1,gst' hb];refine Qga ?_;simp -implicitDefEqProofs[hb,fcO];refine Qgr ?_;simp -implicitDefEqProofs
         ((try simp only[Zen,k1,k2,hna]);refine Ym.sub (by simp[lk,Ya,AV.keys,Zen,k1,k2,hna]) ?_;simp only[Zen,k1,k2,hna,Wkl,and_true];(try simp[lk,Yc,Ya,AV.keys,Zen,k1,k2,hna]))
     refine Qga ?_;have pm':=pm (gwB (bsF s w m) (λx y=>decide (y.ca=x.nu)) l x i l.length) (lpK s w m l n i K (l.length-(i+1)));simp -implicitDefEqProofs[fcO,pm'];simp -implicitDefEqProofs[FinB,Yi,newK,Zep,Zeu,frzA,frz,hF,f1,f2,tupV,Z29,ZcP]
def Zex {r:Jr} {l:Jl} (h:Zb2 r l=true):(l.map (·.nu)).Nodup:=by
 simp only[Zb2,W01]at h;have h1:=Z8r.1 h.1.2;rw[List.nodup_iff_pairwise_ne,W2o,W0Y];intro i j hi hj hij e;have h2:=h1 j hj;simp only[noteB,W01]at h2;have h3:=h2.1.2;simp only[cN7,W1C,W26]at h3;refine h3 l[i] (W1Q.2 ⟨i,by omega,rfl⟩) ?_;rw[ZaZ hj];simpa using e
def Zey {r:Jr} {l:Jl} (h:Zb2 r l=true):(opU l).Nodup/\(opU l).length<=12:=by
 refine ⟨?_,?_⟩
 . exact List.Sublist.nodup (by unfold opU opN;rw[W0v];exact (List.filter_sublist).map _) (Zex h)
 . simp only[Zb2,W01,W0b]at h;have:=h.2;unfold opU;rw[W0N];omega
def Zez (r:Jr) (l:Jl):(fileA r l).pure=true:=by unfold fileA opA;split <;> simp[AV.pure,isa,na]
def ZeA (ok:Nat->Bool) (st:St) (r:Jr) (l:Jl):Yh ok st 6 (fileA r l)=some (fileA r l):=by
 have h:=Zez r l;unfold fileA at *;simp[Yh,h]
def ZeB (r:Jr) (l:Jl):(fileA r l).one=true:=by unfold fileA;simp[AV.one,AV.known]
def ZeC (hG:GC G) (hN:GN G) (r:Jr) (l:Jl) (hw:WfN l) (hr:Wf r):PC prog G 130 [.agg [.vsl (r.map isa),.vsl (l.map na)]] (.int .i64 (chN r l)):=by
 have ho:=ZdX hG hN r l hw hr;unfold opdA at ho
 (refine ZcF rfl λR hG hrd=>Qga ?_;subst hG)
 simp -implicitDefEqProofs[ZcD,ZcE];refine Qco (ho) ?_;simp -implicitDefEqProofs
def askA (r:Jr) (l:Jl) (s:List Int) (m:Int):AV:=.tup [if asN r l s m=0 then fileA r l else .nilp,.int .i64 (asN r l s m)]
def ZeD (hG:GC G) (hN:GN G) (r:Jr) (l:Jl) (s:List Int) (m:Int) (hw:WfN l) (hr:Wf r) (hs:Sml s):PC prog G 117 [.agg [.vsl (r.map isa),.vsl (l.map na)],.vsl (s.map ia),.int .i64 m] (askA r l s m):=by
 have ho:=ZdX hG hN r l hw hr;have hi:=Zds (G:=G) 1 999 m;unfold opdA at ho
 (refine ZcL rfl λR hG hrd=>Qga ?_;subst hG)
 unfold askA asN;by_cases h0:chN r l=0
 . have hB:Zb2 r l=true:=by
    unfold chN at h0
    split at h0
    . cases q:Zb2 r l
      . rw[q]at h0;cases h0
      . rfl
    . rename_i e;exact absurd h0 e
   have hU:=Zey hB;have ht:=Ze5 (G:=R.G) r l s hs hU.1 hU.2;have hp:=Zez r l;have sn:=λok st=>ZeA ok st r l
   have h1:=ZeB r l;rw[if_pos h0,h0]at ho;generalize fileA r l=F at *;simp -implicitDefEqProofs[ZcJ,ZcK];refine Qco (ho) ?_;simp -implicitDefEqProofs[h0];refine Yd.of ht (by simp[hp,AV.pure]) ?_
   cases q:truB l s
   . simp -implicitDefEqProofs[q]
   . simp -implicitDefEqProofs[q];refine Qco (hi) ?_
     cases q2:inR m 1 999
     . simp -implicitDefEqProofs[q2]
     . simp -implicitDefEqProofs[q2,hp,sn]
 . rw[if_neg h0]at ho;simp -implicitDefEqProofs[ZcJ,ZcK];refine Qco (ho) ?_;simp -implicitDefEqProofs[h0]
def ffC:AV:=.func (.func 162) [] [.ptr 9 0,.ptr 4 0,.ptr 5 0,.ptr 6 0,.ptr 7 0,.ptr 10 0]
def ffO (F sV wV:AV) (m:Int):List (Nat×AObj):=[(4,.box [F]),(5,.box [sV]),(6,.box [wV]),(7,.box [.int .i64 m]),(11,.mp []),(9,.box [.mp 11]),(10,.box [ffC])]
def ffK (k:Nat):Bool:=decide (k<1000) && !(k == 4||k == 5||k == 6||k == 7||k == 9||k == 10||k == 11)
def ZeE (r:Jr) (l:Jl) (ns nw:Bool) (s w:List Int) (m:Int):PB prog G 114 [] [fileA r l,liA ns s,liA nw w,.int .i64 m] ffC (ffO (fileA r l) (liA ns s) (liA nw w) m):=by
 have hF:fileA r l = .vptr [.vsl (r.map isa),.vsl (l.map na),.vsl ((nums r).map ia),opA l] 0:=rfl;have hc:∀ (b:Bool) (s:List Int),liA b s = .nils∨liA b s = .vsl (s.map ia):=λb s=>by unfold liA;split;exact .inl rfl;exact .inr rfl
 refine Z5i ffK (by intro k hk;simp[ffK]at hk;omega) Tryz.func114 rfl (by kernel_rfl) (rc:=ZcM) (by kernel_rfl) (rs:=ZcN) (by kernel_rfl) (W0C rfl) λR _ hG hrd=>Qga ?_
 rw[hF];rcases hc ns s with h1|h1 <;> rcases hc nw w with h2|h2 <;> rw[h1,h2]
 . simp -implicitDefEqProofs[ZcM,ZcN];simp -implicitDefEqProofs[FinO,Yi,ffK,Zeu,frzO,frzA,frz,Yj,AV.keys,tupV,Z29,ffC,ffO]
 . simp -implicitDefEqProofs[ZcM,ZcN];simp -implicitDefEqProofs[FinO,Yi,ffK,Zeu,frzO,frzA,frz,Yj,AV.keys,tupV,Z29,ffC,ffO]
 . simp -implicitDefEqProofs[ZcM,ZcN];simp -implicitDefEqProofs[FinO,Yi,ffK,Zeu,frzO,frzA,frz,Yj,AV.keys,tupV,Z29,ffC,ffO]
 . simp -implicitDefEqProofs[ZcM,ZcN];simp -implicitDefEqProofs[FinO,Yi,ffK,Zeu,frzO,frzA,frz,Yj,AV.keys,tupV,Z29,ffC,ffO]
def frK (s w:List Int) (m:Int) (l:Jl) (i:Nat):List (Int×Bool):=(List.range i).foldl (λK j=>ifK s w m l l.length j K) []
section
open Qq Tryz
end
section
open Qq Tryz
end
section
open Qq Tryz
end
section
open Qq Tryz
end
structure Rul where
 nu:Int
 dy:Int
 fd:Int
 fl:Int
 td:Int
 tl:Int
 bo:Bool
 br:Int
 deriving DecidableEq,Inhabited
def sB (day:Int) (q:List Rul) (i:Nat):Bool:=gcB (λx=>decide (x.dy<=day)) (λx y=>decide (y.br=x.nu)) q i
structure Stq where
 fd:Int
 fl:Int
 td:Int
 tl:Int
 nu:Int
 nt:Bool
 deriving DecidableEq,Inhabited
def ZeF {r:Jr} {l:Jl} (h:chN r l=0):Zb2 r l=true:=by
 unfold chN at h
 split at h
 . cases q:Zb2 r l
   . rw[q]at h;cases h
   . rfl
 . rename_i e;exact absurd h e
def ZeG {r:Jr} {l:Jl} {s:List Int} {m:Int} (h:asN r l s m=0):chN r l=0/\truB l s=true/\inR m 1 999=true:=by
 unfold asN at h
 split at h
 . rename_i h1
   split at h
   . rename_i h2
     split at h
     . rename_i h3;exact ⟨h1,h2,h3⟩
     . cases h
   . cases h
 . rename_i e;exact absurd h e
def ZeH {r:Jr} {l:Jl} (h:Zb2 r l=true):l.length<=12:=by simp only[Zb2,W01,W0b]at h;exact h.1.1
def Nsub (x y:AV):Prop:=∀ (M:Nat->Prop) (W:World) (u:Value),PV M W x u->PV M W y u
def Nsub.rfl' {x:AV}:Nsub x x:=λ_ _ _ h=>h
def Nsub.nils:Nsub .nils (.vsl []):=λ_ _ _ h=>by
 cases h
 exact .vsl [] none 0 1 0 0 (λ_ _=>undef) (W0f _) (W1f _) (λh=>absurd rfl h) (λ_=>⟨rfl,rfl⟩) (by simp) (by simp) (by simp)
def Nsub.orNil (l:List (List AV)):Nsub (Yg l) (.vsl l):=by
 unfold Go.Proofs.YtcdlimgkliklhaaGreatDoor.Yg
 split
 . rename_i e;rw[e];exact .nils
 . exact .rfl'
def NsubL:List AV->List AV->Prop
 |[],[]=>True
 |x::xs,y::ys=>Nsub x y/\NsubL xs ys
 |_,_=>False
def NsubL.len:∀ {xs ys:List AV},NsubL xs ys->xs.length=ys.length
 |[],[],_=>rfl
 |_::_,_::_,h=>by simp only[W1p,NsubL.len h.2]
 |[],_::_,h=>h.elim
 |_::_,[],h=>h.elim
def NsubL.at:∀ {xs ys:List AV},NsubL xs ys->∀ (i:Nat) (y:AV),ys[i]? = some y->∃ x,xs[i]? = some x/\Nsub x y
 |[],[],_,i,y,h=>by simp at h
 | x::xs,y::ys,h,0,z,e=>by
   simp only[W2i,W00]at e;subst e;exact ⟨x,rfl,h.1⟩
 | x::xs,y::ys,h,i+1,z,e=>by
   simp only[List.getElem?_cons_succ]at e;obtain ⟨w,h1,h2⟩:=NsubL.at h.2 i z e;exact ⟨w,by simpa using h1,h2⟩
 |[],_::_,h,_,_,_=>h.elim
 |_::_,[],h,_,_,_=>h.elim
def Nsub.agg {xs ys:List AV} (h:NsubL xs ys):Nsub (.agg xs) (.agg ys):=λM W u hu=>by
 cases hu with
 | agg _ us h1 hx =>
   refine .agg ys us (by rw[h1,h.len]) λi y u hy hu=>?_
   obtain ⟨x,h2,h3⟩:=h.at i y hy;exact h3 _ _ _ (hx i x u h2 hu)
def PC.sub {P:Program} {G:Jg} {f:FuncId} {xs ys:List AV} {v:AV} (h:PC P G f ys v) (hs:NsubL xs ys):PC P G f xs v :=
 ⟨h.1,λM W vs hM hG hz hv=>h.2 M W vs hM hG (hz.trans hs.len) λi y u hi hu=>by
  obtain ⟨x,h2,h3⟩:=hs.at i y hi;exact h3 _ _ _ (hv i x u h2 hu)⟩
def rfp (d l:Int) (x:Iss):Bool:=decide (x.d=d/\x.l=l)
def ZeI {r:Jr} {d l:Int}:(findN d l r).isSome=r.any (rfp d l):=by
 induction r with
 |nil=>rfl
 | cons x r ih =>
   simp only[findN,List.any_cons]
   split
   . rename_i h;simp[rfp,h]
   . rename_i h;have:rfp d l x=false:=W0S h;rw[ih,this,W1O]
abbrev Rf:=Int×Int
def frS (x:Stq):Rf:=(x.fd,x.fl)
def toS (x:Stq):Rf:=(x.td,x.tl)
def edg (L:List Stq):List (Rf×Rf):=L.map λx=>(frS x,toS x)
def pth (E:List (Rf×Rf)) (y:Rf):Nat->Rf->Bool
 |0,x=>decide (x=y)
 |n+1,x=>E.any λe=>decide (e.1=x)&&pth E y n e.2
def diN (E:List (Rf×Rf)) (y x:Rf):Option Nat:=(List.range (E.length+1)).find? λn=>pth E y n x
def diV (E:List (Rf×Rf)) (y x:Rf):Int:=match diN E y x with
 |some n=>n
 |none=>1048576
def md (E:List (Rf×Rf)) (y:Rf) (n:Nat) (x:Rf):Prop:=pth E y n x=true/\∀ m,m<n->pth E y m x=false
section
variable {E:List (Rf×Rf)} {x y z:Rf} {n m:Nat}
def ZeJ:pth E y (n+1) x=true↔∃ e∈E,e.1=x/\pth E y n e.2=true:=by
 simp[pth,W14]
def ZeK (h1:md E y n x) (h2:md E y m x):n=m:=by
 rcases W0R n m with h|h|h
 . have:=h2.2 n h;rw[h1.1]at this;cases this
 . exact h
 . have:=h1.2 m h;rw[h2.1]at this;cases this
def md_of:∀ n,pth E y n x=true->∃ m,m<=n/\md E y m x:=by
 intro n
 induction n using Nat.strongRecOn with
 | _ n ih =>
   intro h;by_cases c:∃ m,m<n/\pth E y m x=true
   . obtain ⟨m,h1,h2⟩:=c;obtain ⟨k,h3,h4⟩:=ih m h1 h2;exact ⟨k,by omega,h4⟩
   . refine ⟨n,W0f _,h,λm hm=>?_⟩
     cases q:pth E y m x
     . rfl
     . exact absurd ⟨m,hm,q⟩ c
def ZeL (h:md E y (n+1) x):∃ e∈E,e.1=x/\md E y n e.2:=by
 obtain ⟨e,h1,h2,h3⟩:=ZeJ.1 h.1;refine ⟨e,h1,h2,h3,λm hm=>?_⟩
 cases q:pth E y m e.2
 . rfl
 . have:=h.2 (m+1) (by omega);rw[ZeJ.2 ⟨e,h1,h2,q⟩]at this;cases this
def ZeM:∀ (n:Nat) (x:Rf),md E y n x->∃ ss:List Rf,ss.length=n/\(∀ s∈ss,s∈E.map (·.1)/\∃ k,k<=n/\0<k/\md E y k s)/\ss.Nodup
 |0,x,_=>⟨[],rfl,by simp,.nil⟩
 | n + 1,x,h=>by
   obtain ⟨e,h1,h2,h3⟩:=ZeL h;obtain ⟨ss,l1,l2,l3⟩:=ZeM n e.2 h3;refine ⟨x::ss,by simp[l1],?_,W1z.2 ⟨λhm=>?_,l3⟩⟩
   . intro s hs;rcases W0g.1 hs with rfl|hs
     . exact ⟨W0i.2 ⟨e,h1,h2⟩,n+1,W0f _,by omega,h⟩
     . obtain ⟨q1,k,q2,q3,q4⟩:=l2 s hs;exact ⟨q1,k,by omega,q3,q4⟩
   . obtain ⟨-,k,q2,-,q4⟩:=l2 x hm;have:=ZeK h q4;omega
def md_le (h:md E y n x):n<=E.length:=by
 obtain ⟨ss,l1,l2,l3⟩:=ZeM n x h;have:=List.Nodup.length_le_of_subset l3 (l₂:=E.map (·.1)) λs hs=>(l2 s hs).1
 simpa [l1] using this
def ZeN:diN E y x=some n↔md E y n x:=by
 unfold diN
 constructor
 . intro h;have h1:=List.find?_some h;refine ⟨h1,λm hm=>?_⟩;obtain ⟨-,us,vs,e,h2⟩:=List.find?_eq_some_iff_append.1 h;have e1:∀ k:Nat,(List.range (E.length+1))[k]? = (us++n::vs)[k]?:=λk=>by rw[e]
   have hn:us.length=n:=by
    have h3:=e1 us.length;rw[W0o (W0f _),W2q,W2i]at h3;obtain ⟨h4,h5⟩:=W02.1 h3;rw[List.getElem_range]at h5;exact h5
   have hm2:m∈us:=by
    have h3:=e1 m;have hl:m<(List.range (E.length+1)).length:=(by rw[e,W0s];omega);rw[W0E (by omega),W07 hl,List.getElem_range]at h3;exact W0d h3.symm
   simpa using h2 m hm2
 . intro h;have hl:=md_le h;rw[List.find?_eq_some_iff_append];refine ⟨h.1,List.range n,(List.range (E.length-n)).map (n+1 + ·),?_,λm hm=>?_⟩
   . have:E.length+1=n+1+(E.length-n):=(by omega);rw[this,List.range_add,W1y,W0U];rfl
   . simp[h.2 m (W1u.1 hm)]
def ZeO:diN E y x=none↔∀ n,pth E y n x=false:=by
 constructor
 . intro h n
   cases q:pth E y n x
   . rfl
   . obtain ⟨m,-,hm⟩:=md_of n q;rw[ZeN.2 hm]at h;cases h
 . intro h
   cases q:diN E y x with
   |none=>rfl
   | some n =>
     have:=(ZeN.1 q).1;rw[h n]at this;cases this
end
def ZeP (o:List (Nat×AObj)) (l:List Rf):Yc o (.row 2 (l.map ita))=true:=by
 simp only[Yc,W03,W0i];rintro x ⟨y,-,rfl⟩ v hv;simp only[ita,W0g,W0Q,or_false]at hv;rcases hv with rfl|rfl <;> simp[Ya,AV.keys]
structure BfI (E:List (Rf×Rf)) (l:List Rf) (y:Rf) (out:List Int):Prop where
 len:out.length=l.length
 ok:∀ (i:Nat) (v:Int) (x:Rf),out[i]? = some v->l[i]? = some x->0<=v/\v<=1048576/\(v=1048576∨pth E y v.toNat x=true)/\(x=y->v=0)
def rlx (l:List Rf) (out:List Int) (e:Rf×Rf):Prop:=∃ (ka kb:Nat) (va vb:Int),l[ka]? = some e.1/\l[kb]? = some e.2/\out[ka]? = some va/\out[kb]? = some vb/\vb+1<va
def NoR (E:List (Rf×Rf)) (l:List Rf) (out:List Int):Prop:=∀ e∈E,¬rlx l out e
def NoI (L:List Stq) (l:List Rf) (out:List Int) (i:Nat):Prop:=∀ j (h:j<L.length),j<i->¬rlx l out (frS L[j],toS L[j])
def NoI.all {L:List Stq} {l:List Rf} {out:List Int} (h:NoI L l out L.length):NoR (edg L) l out:=by
 intro e he;obtain ⟨x,hx,rfl⟩:=W0i.1 he;obtain ⟨j,hj,rfl⟩:=W0k hx;exact h j hj hj
def NoI.step {L:List Stq} {l:List Rf} {out:List Int} {i:Nat} (h:NoI L l out i) (hi:i<L.length) (h1:¬rlx l out (frS L[i],toS L[i])):NoI L l out (i+1):=by
 intro j hj hji;rcases W0q j i with q|q
 . exact h j hj q
 . obtain rfl:j=i:=(by omega);exact h1
def BfI.start {E:List (Rf×Rf)} {l:List Rf} {y:Rf} {k:Nat} (hn:l.Nodup) (hk:l[k]? = some y):BfI E l y ((List.replicate l.length 1048576).set k 0):=by
 refine ⟨by simp,λi v x hv hx=>?_⟩;have hi:i<l.length:=(W02.1 hx).1;rw[W2p]at hv
 split at hv
 . rename_i e;subst e;rw[W1H,if_pos hi,W00]at hv;rw[hk,W00]at hx;subst hv;subst hx;exact ⟨by omega,by omega,.inr (by simp[pth]),λ_=>rfl⟩
 . rename_i e;rw[List.getElem?_replicate,if_pos hi,W00]at hv;subst hv;refine ⟨by omega,by omega,.inl rfl,?_⟩;rintro rfl;exact absurd ((List.getElem?_inj hi hn).1 (hx.trans hk.symm)) (λq=>e q.symm)
def BfI.step {E:List (Rf×Rf)} {l:List Rf} {y:Rf} {out:List Int} (h:BfI E l y out) (hn:l.Nodup) {e:Rf×Rf} (he:e∈E) {ka kb:Nat} {va vb:Int} (h1:l[ka]? = some e.1) (h2:l[kb]? = some e.2) (h3:out[ka]? = some va) (h4:out[kb]? = some vb) (h5:vb+1<va) :
  BfI E l y (out.set ka (vb+1)):=by
 refine ⟨by simp[h.len],λi v x hv hx=>?_⟩;rw[W2p]at hv
 split at hv
 . rename_i q;subst q;have hi:ka<out.length:=(W02.1 h3).1;rw[if_pos hi,W00]at hv;subst hv;obtain ⟨a1,a2,a3,a4⟩:=h.ok kb vb _ h4 h2;obtain ⟨b1,b2,b3,b4⟩:=h.ok ka va x h3 hx;rw[h1,W00]at hx;subst hx;refine ⟨by omega,by omega,.inr ?_,λq=>?_⟩
   . rcases a3 with a3|a3
     . omega
     . rw[show (vb+1).toNat=vb.toNat+1 by omega];exact ZeJ.2 ⟨e,he,rfl,a3⟩
   . have:=b4 q;omega
 . exact h.ok i v x hv hx
def BfI.fin {E:List (Rf×Rf)} {l:List Rf} {y:Rf} {out:List Int} (h:BfI E l y out) (hE:E.length<=1000) (hl:∀ e∈E,e.1∈l/\e.2∈l) (hr:∀ e∈E,¬rlx l out e):out=l.map (diV E y):=by
 have low:∀ (m:Nat) (i:Nat) (v:Int) (x:Rf),out[i]? = some v->l[i]? = some x->pth E y m x=true->v<=m:=by
  intro m
  induction m with
  | zero =>
    intro i v x hv hx hp;have:x=y:=(by simpa [pth] using hp);have:=(h.ok i v x hv hx).2.2.2 this;omega
  | succ m ih =>
    intro i v x hv hx hp;obtain ⟨e,he,rfl,hp2⟩:=ZeJ.1 hp;obtain ⟨kb,hkb,hb⟩:=W0k (hl e he).2;have hb':l[kb]? = some e.2:=(by rw[W07 hkb,hb]);have hkb2:kb<out.length:=(by rw[h.len];exact hkb);have h2:=ih kb _ _ (W07 hkb2) hb' hp2;rcases Int.lt_or_le (out[kb]+1) v with h3|h3
    . exact absurd ⟨i,kb,v,out[kb],hx,hb',hv,W07 hkb2,h3⟩ (hr e he)
    . omega
 refine List.ext_getElem? λi=>?_
 rw[W09];by_cases hi:i<l.length
 . have hi2:i<out.length:=(by rw[h.len];exact hi);rw[W07 hi2,W07 hi,W0m,W00];obtain ⟨a1,a2,a3,-⟩:=h.ok i _ _ (W07 hi2) (W07 hi);have hlow:=λm=>low m i _ _ (W07 hi2) (W07 hi)
   unfold diV
   cases q:diN E y l[i] with
   | none =>
     rcases a3 with a3|a3
     . exact a3
     . rw[ZeO.1 q]at a3;cases a3
   | some n =>
     have hm:=ZeN.1 q;have hle:=md_le hm;have h1:=hlow n hm.1;rcases a3 with a3|a3
     . omega
     . have h2:n<=out[i].toNat:=by
        rcases W0q out[i].toNat n with h2|h2
        . have:=hm.2 _ h2;rw[a3]at this;cases this
        . exact h2
       simp only;omega
 . rw[W25 (by rw[h.len];omega),W25 (by omega)];rfl
def knLk (x:Rf):List (Rf×Int)->Option Int
 |[]=>none
 |p::r=>if x=p.1 then some p.2 else knLk x r
def ZeQ {x a:Rf} {v:Int}:∀ {kn:List (Rf×Int)},knLk x (kn++[(a,v)])=match knLk x kn with
  |some w=>some w
  |none=>if x=a then some v else none
 |[]=>by simp[knLk]
 | p::r=>by
   simp only[W1e,knLk]
   split
   . rfl
   . exact ZeQ
structure LnS where
 left:List Int
 kn:List (Rf×Int)
 nx:List Rf
 deriving Inhabited
def lnS (n:Int) (s:LnS) (i:Nat) (e:Rf×Rf):LnS :=
 if (i:Int)∈s.left then match knLk e.2 s.kn with
  | some k=>if n<=k then s else match knLk e.1 s.kn with
    |some _=>⟨s.left.erase i,s.kn,s.nx⟩
    |none=>⟨s.left.erase i,s.kn++[(e.1,n)],s.nx++[e.1]⟩
  |none=>s
 else s
structure LnV (E:List (Rf×Rf)) (y:Rf) (n:Nat) (s:LnS):Prop where
 a:∀ x d,knLk x s.kn=some d->∃ m:Nat,d=m/\md E y m x/\m<=n
 b:∀ x (m:Nat),md E y m x->m<=n->knLk x s.kn=some (m:Int)
 c:∀ i (h:i<E.length),(i:Int) ∉ s.left->knLk E[i].1 s.kn≠none
structure LnW (E:List (Rf×Rf)) (y:Rf) (n:Nat) (s0 s:LnS) (i:Nat):Prop where
 a:∀ x d,knLk x s.kn=some d->∃ m:Nat,d=m/\md E y m x/\m<=n+1
 b:∀ x (m:Nat),md E y m x->m<=n->knLk x s.kn=some (m:Int)
 c:∀ j (h:j<E.length),(j:Int) ∉ s.left->knLk E[j].1 s.kn≠none
 e:∀ j (h:j<E.length),j<i->∀ m:Nat,md E y m E[j].2->m<=n->knLk E[j].1 s.kn≠none
 f:s.kn=s0.kn++s.nx.map λx=>(x,(n:Int)+1)
 g:∀ x∈s.nx,md E y (n+1) x
section
variable {E:List (Rf×Rf)} {y:Rf} {n m:Nat} {s0 s:LnS} {i:Nat}
def ZeR {x a:Rf} {v:Int} {kn:List (Rf×Int)} (h:knLk x kn≠none):knLk x (kn++[(a,v)])≠none:=by
 rw[ZeQ]
 cases q:knLk x kn with
 |none=>exact absurd q h
 |some w=>simp
def ZeS {l:List Int} {a b:Int} (h:a ∉ l.erase b):a ∉ l∨a=b:=by
 by_cases q:a=b
 . exact .inr q
 . exact .inl λhm=>h ((List.mem_erase_of_ne q).2 hm)
def LnW.step (h:LnW E y n s0 s i) (hi:i<E.length):LnW E y n s0 (lnS ((n:Int)+1) s i E[i]) (i+1):=by
 have lst:∀ {P:Nat->Prop},(∀ j,j<i->P j)->P i->∀ j,j<i+1->P j:=λh1 h2 j hj=>by
  rcases W0q j i with q|q
  . exact h1 j q
  . obtain rfl:j=i:=(by omega);exact h2
 unfold lnS;by_cases c1:(i:Int)∈s.left
 . rw [if_pos c1]
   cases q:knLk E[i].2 s.kn with
   | none =>
     refine ⟨h.a,h.b,h.c,λj hj hji m hm hmn=>?_,h.f,h.g⟩;rcases W0q j i with p|p
     . exact h.e j hj p m hm hmn
     . obtain rfl:j=i:=(by omega);rw[h.b _ m hm hmn]at q;cases q
   | some k =>
     simp only;obtain ⟨m,hm1,hm2,hm3⟩:=h.a _ _ q;by_cases c2:(n:Int)+1<=k
     . rw[if_pos c2];refine ⟨h.a,h.b,h.c,λj hj hji m' hm' hmn=>?_,h.f,h.g⟩;rcases W0q j i with p|p
       . exact h.e j hj p m' hm' hmn
       . obtain rfl:j=i:=(by omega);have:=ZeK hm' hm2;omega
     . rw [if_neg c2]
       have c3:∀ j (h:j<E.length),(j:Int) ∉ s.left.erase (i:Int)->j≠i->knLk E[j].1 s.kn≠none:=λj hj hn hne=>by
        rcases ZeS hn with p|p
        . exact h.c j hj p
        . exact absurd (by omega) hne
       cases r:knLk E[i].1 s.kn with
       | some w =>
         refine ⟨h.a,h.b,λj hj hn=>?_,λj hj hji m' hm' hmn=>?_,h.f,h.g⟩
         . by_cases p:j=i
           . subst p;rw[r];simp
           . exact c3 j hj hn p
         . rcases W0q j i with p|p
           . exact h.e j hj p m' hm' hmn
           . obtain rfl:j=i:=(by omega);rw[r];simp
       | none =>
         have hp:pth E y (m+1) E[i].1=true:=ZeJ.2 ⟨E[i],W0e hi,rfl,hm2.1⟩;obtain ⟨m1,g1,g2⟩:=md_of _ hp
         have g3:m1=n+1:=by
          rcases W0q n m1 with p|p
          . omega
          . rw[h.b _ m1 g2 p]at r;cases r
         subst g3;refine ⟨λx d hx=>?_,λx m' hm' hmn=>?_,λj hj hn=>?_,λj hj hji m' hm' hmn=>?_,?_,λx hx=>?_⟩
         . simp only at hx;rw[ZeQ]at hx
           cases p:knLk x s.kn with
           |some w=>rw[p]at hx;simp only[W00]at hx;subst hx;exact h.a x _ p
           | none =>
             rw[p]at hx;simp only at hx
             split at hx
             . rename_i e1;subst e1;simp only[W00]at hx;exact ⟨n+1,by omega,g2,W0f _⟩
             . cases hx
         . simp only;rw[ZeQ,h.b x m' hm' hmn]
         . simp only;by_cases p:j=i
           . subst p;rw[ZeQ,r];simp
           . exact ZeR (c3 j hj hn p)
         . simp only;rcases W0q j i with p|p
           . exact ZeR (h.e j hj p m' hm' hmn)
           . obtain rfl:j=i:=(by omega);rw[ZeQ,r];simp
         . simp only[W0r,W0F,W1d];rw[h.f,W0U]
         . simp only[W0h,W0B]at hx;rcases hx with hx|rfl
           . exact h.g x hx
           . exact g2
 . rw[if_neg c1];refine ⟨h.a,h.b,h.c,λj hj hji m hm hmn=>?_,h.f,h.g⟩;rcases W0q j i with p|p
   . exact h.e j hj p m hm hmn
   . obtain rfl:j=i:=(by omega);exact h.c j hj c1
def LnW.fin (h:LnW E y n s0 s E.length):LnV E y (n+1) s:=by
 refine ⟨h.a,λx m hm hmn=>?_,h.c⟩;rcases W0q m (n+1) with p|p
 . exact h.b x m hm (by omega)
 . obtain rfl:m=n+1:=(by omega);obtain ⟨e,he,rfl,h2⟩:=ZeL hm;obtain ⟨j,hj,rfl⟩:=W0k he;have h3:=h.e j hj hj n h2 (W0f _)
   cases q:knLk E[j].1 s.kn with
   |none=>exact absurd q h3
   | some d =>
     obtain ⟨m',h4,h5,h6⟩:=h.a _ _ q;have:=ZeK hm h5;subst this;subst h4;rfl
end
def IterG (P:Program) (G:Jg) (gf:Nat) (caps els:List AV):Prop :=
 entB P gf=true/\∀ (n l:Nat) (lb:Array Value) (J:Nat->(Nat->Prop)->World->Prop) (K:World->Prop) (M:Nat->Prop) (W:World),2<=n->(∀ k M A B,J k M A->Ext A B->J k M B)->(∀ A B,K A->Ext A B->K B) ->
  (∀ k M A,J k M A->∀ b,M b->b<A.heap.size)->(∀ k M A,J k M A->GR G M A)->CP M W caps lb ->
  (∀ (k:Nat) (x:AV) (u:Value) (M:Nat->Prop) (A:World),J k M A->els[k]? = some x->PV M A x u ->
   YieldAt Fence.wide (n-1) P l #[u] A λe A'=>(e = .returned (.bool true)/\∃ M',J (k+1) M' A'/\Since M A M' A')∨(e = .returned (.bool false)/\K A')) ->
  J 0 M W->CallsIn Fence.wide n P gf (#[.func (.yield l) #[] #[]]++lb) W λe W'=>(∃ v,e = .returned v)/\((∃ M,J els.length M W')∨K W')
def ZeT {n:Nat} {P:Program} {g:Operand} {p:Nat} {assign body:Code} {Q:Exit->Act->World->Prop} {a:Act} {w:World}
  {gf:Nat} {lb:Array Value} {caps els:List AV} (hg:a.eval g = .func (.func gf) #[] lb) {G:Jg} (hit:IterG P G gf caps els) (hn:3<=n)
  (I:Nat->(Nat->Prop)->World->Prop) (K:World->Prop) (M0:Nat->Prop) (hIe:∀ k M A B,I k M A->Ext A B->I k M B) (hKe:∀ A B,K A->Ext A B->K B)
  (hIo:∀ (k l:Nat) (M:Nat->Prop) (W:World) (r r':Loop),w.heap.size<=l->I k M W->W.heap[l]? = some (.loop r)->I k M (W.putObj l (.loop r')))
  (hKo:∀ (l:Nat) (W:World) (r r':Loop),w.heap.size<=l->K W->W.heap[l]? = some (.loop r)->K (W.putObj l (.loop r')))
  (hIM:∀ k M A,I k M A->(∀ b,M b->b<A.heap.size)/\∀ (b:Nat) (o:Obj),w.heap.size<=b->A.heap[b]? = some o->Odd o->¬M b)
  (hIG:∀ k M A,I k M A->GR G M A) (hcaps:CP M0 w caps lb) (h0:I 0 M0 w)
  (hround:∀ (l k m:Nat) (x:AV) (u:Value) (M:Nat->Prop) (W:World) (lr:Loop),w.heap.size<=l->I k M W->W.heap[l]? = some (.loop lr)->els[k]? = some x->PV M W x u ->
   assign.wpIn (FW (some l)) m P (Exit.then (λa1 W1=>(∀ (b:Nat) (o:Obj),W.heap[b]? = some o->Odd o->W1.heap[b]? = some o) /\
     body.wpIn (FW (some l)) m P (λe _ W'=>((∀ (b:Nat) (o:Obj),W.heap[b]? = some o->Odd o->b≠l->W'.heap[b]? = some o)/\W'.heap[l]? = some (.loop { lr with state:=.busy })) /\
      ((e = .normal/\∃ M',I (k+1) M' W'/\W.heap.size<=W'.heap.size/\∀ b,b<W.heap.size->¬M b->¬M' b/\(b≠l->W'.heap[b]? = W.heap[b]?))∨(e = .ret/\K W'))) a1 (W1.putObj l (.loop { lr with state:=.busy }))) (λ_ _ _=>False))
    { tmps:=a.tmps.setIfInBounds p u,defers:=[] } W)
  (hdone:∀ (D:Nat) (M:Nat->Prop) (W:World),w.heap.size<=D->I els.length M W->W.heap[D]? = some (.deferred (some []))->Q .normal { a with defers:=coll D::a.defers } W)
  (hstop:∀ (D:Nat) (W:World),w.heap.size<=D->K W->W.heap[D]? = some (.deferred (some []))->Q .ret { a with defers:=coll D::a.defers } W) :
  (Code.rangeFunc g #[p] assign body).wpIn (FW none) n P Q a w:=by
 refine wpIn_rangeFunc ?_;intro fn hfn;obtain ⟨rec,hrec⟩ : ∃ rec:LoopState->Option Code->Loop,rec=λst pe=>{ state:=st,pending:=pe,fn,tmps:=a.tmps,params:=#[p],assign,body,defers:=w.heap.size }:=⟨_,rfl⟩
 obtain ⟨W1,hW1⟩ : ∃ W1,(w.alloc (.deferred (some []))).alloc (.loop (rec .ready none))=W1:=⟨_,rfl⟩;have hE1:Ext w W1:=by rw[<- hW1];exact (Ext.refl w).al.al
 have hL1:W1.heap[w.heap.size+1]? = some (.loop (rec .ready none)):=by
  rw[<- hW1];have:=World.alloc_heap_new (w.alloc (.deferred (some []))) (.loop (rec .ready none));rwa [World.size_alloc]at this
 have hK1:W1.heap[w.heap.size]? = some (.deferred (some [])):=by
  rw[<- hW1];exact (Below.heap_alloc _ _ _ (by simp)).trans (World.alloc_heap_new w _)
 have hI1:I 0 M0 W1:=hIe _ _ _ _ h0 hE1;have hC1:CP M0 W1 caps lb:=⟨hcaps.1,λi x u hx hu=>(hcaps.2 i x u hx hu).mono (λb hb hM=>⟨hM,hE1.block b hb⟩) hE1.size⟩
 refine ⟨w.heap.size+1,[{ target:=.collected w.heap.size,args:=#[] }],W1,{ target:=.fn (.func gf) lb,args:=#[.func (.yield (w.heap.size+1)) #[] #[]] },W1,gf,
  #[.func (.yield (w.heap.size+1)) #[] #[]]++lb,W1,?_,?_,λ_ _=>trivial,?_,Z24,?_⟩
 . rw[<- hW1,hrec];exact run_enterLoop_outer _ _ _ _ _
 . simp only[resolve,hg];simp[go_sem]
 . simp[invoke,go_sem,Z1W hit.1]
 . have stay : ∀ {A B:World} {b:Nat} {o:Obj},Ext A B->A.heap[b]? = some o->B.heap[b]? = some o:=λh hb=>(h.block _ (W0c.1 hb).1).trans hb
   refine (hit.2 (n-1) (w.heap.size+1) lb
    (λk M W=>I k M W/\W.heap[w.heap.size+1]? = some (.loop (rec .ready none))/\W.heap[w.heap.size]? = some (.deferred (some [])))
    (λW=>K W/\W.heap[w.heap.size+1]? = some (.loop (rec .done (some .ret)))/\W.heap[w.heap.size]? = some (.deferred (some [])))
    M0 W1 (by omega) (λk M A B h e=>⟨hIe k M A B h.1 e,stay e h.2.1,stay e h.2.2⟩) (λA B h e=>⟨hKe A B h.1 e,stay e h.2.1,stay e h.2.2⟩) (λk M A h=>(hIM k M A h.1).1) (λk M A h=>hIG k M A h.1) hC1 ?_ ⟨hI1,hL1,hK1⟩).mono ?_
   . rintro k x u M W ⟨hi,hl,hk⟩ hr hus;have hls:w.heap.size+1<W.heap.size:=(W0c.1 hl).1;have hy:=run_yield (P:=P) (args:=#[u]) hl (by rw[hrec];rfl);rw[hrec]at hy
     have hfold:(#[p].zip #[u]).foldl (λt (x:Nat×Value)=>match x with|(p,v)=>t.setIfInBounds p v) a.tmps=a.tmps.setIfInBounds p u:=by
      rw[<- Array.foldl_toList,Array.toList_zip];rfl
     have hy:(Instr.yield (w.heap.size+1) #[u]).run P W = .ok (.round (w.heap.size+1) fn (a.tmps.setIfInBounds p u) assign body) W:=(by rw[<- hfold];exact hy);refine ⟨fn,_,assign,body,hy,roundIn_of_wpIn hfn (wpIn_mono (hround (w.heap.size+1) k _ x u M W _ (by omega) hi hl hr hus) ?_)⟩;rintro e a1 W2 hp
     cases e with
     | normal =>
       obtain ⟨hodd0,hp⟩:=hp;have hl2:=hodd0 _ _ hl trivial;have hk2:=hodd0 _ _ hk trivial;have hls2:w.heap.size+1<W2.heap.size:=(W0c.1 hl2).1;refine ⟨_,run_beginRound hl2 (by rw[hrec]),wpIn_mono hp ?_⟩;rintro e a3 W3 ⟨⟨hodd,hl3⟩,hp3⟩;have hd3:=hodd _ _ hk trivial (by omega);have hls3:=(W0c.1 hl3).1
       have fin:∀ jump:Option Code,(W3.putObj (w.heap.size+1) (.loop (rec (if jump.isNone then .ready else .done) jump))).heap[w.heap.size+1]? = some (.loop (rec (if jump.isNone then .ready else .done) jump)) /\
         (W3.putObj (w.heap.size+1) (.loop (rec (if jump.isNone then .ready else .done) jump))).heap[w.heap.size]? = some (.deferred (some [])):=λjump =>
        ⟨World.putObj_heap_same hls3,(World.putObj_heap_other (by omega)).trans hd3⟩
       rcases hp3 with ⟨rfl,M',hi3,hsz3,hs3⟩ | ⟨rfl,hk3⟩
       . have hr3:=run_endRound (P:=P) none hl3;have f1:=fin none;rw[hrec]at hr3 f1;refine ⟨_,_,hr3,.inl ⟨rfl,M',⟨hIo _ _ _ _ _ _ (by omega) hi3 hl3,?_,f1.2⟩,by simpa using hsz3,λb hb hM=>⟨(hs3 b hb hM).1,?_⟩⟩⟩
         . rw[hrec];exact f1.1
         . by_cases e:b=w.heap.size+1
           . subst e;rw[hl,hrec];exact f1.1
           . rw[World.putObj_heap_other e];exact (hs3 b hb hM).2 e
       . have hr3:=run_endRound (P:=P) (some .ret) hl3;have f1:=fin (some .ret);rw[hrec]at hr3 f1;refine ⟨_,_,hr3,.inr ⟨rfl,hKo _ _ _ _ (by omega) hk3 hl3,?_,f1.2⟩⟩;rw[hrec];exact f1.1
     |_=>exact hp.elim
   . rintro e W2 ⟨⟨v,rfl⟩,⟨M,hi,hl,hk⟩ | ⟨hi,hl,hk⟩⟩
     . exact ⟨none,_,by have:=run_endLoop (P:=P) hl (by rw[hrec];simp);rw[hrec]at this;exact this,hdone _ M _ (W0f _) (hIo _ _ _ _ _ _ (by omega) hi hl) ((World.putObj_heap_other (by omega)).trans hk)⟩
     . exact ⟨some .ret,_,by have:=run_endLoop (P:=P) hl (by rw[hrec];simp);rw[hrec]at this;exact this,wpIn_ret (hstop _ _ (W0f _) (hKo _ _ _ _ (by omega) hi hl) ((World.putObj_heap_other (by omega)).trans hk))⟩
section
variable {P:Program} {R:Run} {st:St} {a:Act} {W:World} {κ:Nat->Option (Nat×Nat)}
def ZeU {g:RA} {p gf:Nat} {assign body:RCode} {Φ:Exit->St->Prop} {caps els:List AV} (hrd:R.Top) (hit:IterG P R.G gf caps els) (hg:evA R.G st g = .func (.func gf) [] caps) (hp:caps.all AV.pure=true)
  (ρ:Nat->Nat) (t0:List (Nat×AV)) (objs:Nat->List (Nat×AObj)) (keys:List Nat) (Iv:Nat->Prop) (hI0:Iv 0) (hkeys:∀ k,(objs k).map (·.1)=keys) (hK:∀ k∈keys,1000<=k) (hinj:(keys.map ρ).Nodup)
  (h0:Yl ρ (objs 0) st=st) (hin:∀ k,∀ q∈objs k,Yc (objs k) q.2=true)
  (ht0:∀ q∈t0,lk st.t q.1=some (q.2.ren ρ)/\q.1≠p/\∀ k∈q.2.keys,k∈keys)
  (hround:∀ (k:Nat) (x:AV),els[k]? = some x->Iv k->∀ R':Run,R'.G=R.G->R'.N=R.N->AR P R' assign ⟨(p,x)::t0,objs k⟩ λe s1=>e = .normal/\∀ R'':Run,R''.G=R.G->R''.N=R.N ->
   AR P R'' body s1 (RndB (λo=>o=objs (k+1)/\Iv (k+1)) λo=>o.map (·.1)=keys/\Φ .ret (Yl ρ o st)))
  (hdone:Iv els.length->Φ .normal (Yl ρ (objs els.length) st)):AR P R (.rngf g [p] assign body) st Φ:=by
 intro c hc m a W hs
 cases c <;> simp only[Z1A,W05,W01,W0A]at hc
 rename_i g' ps' ca cb;obtain ⟨⟨⟨⟨hcg,hps⟩,hpn⟩,hca⟩,hcb⟩:=hc;have hpn:p<R.N:=(by simpa using hpn);obtain rfl:ps' = #[p]:=(by rw[<- W16];exact hps);rw[hrd.1];refine wpFW.2 ((wpFW (n:=3)).1 ?_);obtain ⟨κ0,hs⟩:=hs;obtain ⟨S,hS⟩ : ∃ S:Nat->St,S=λk=>Yl ρ (objs k) st:=⟨_,rfl⟩
 have hSt:∀ k,(S k).t=st.t:=λk=>by rw[hS];exact Z52 ρ _ _
 have nod:∀ {o:List (Nat×AObj)},o.map (·.1)=keys->(o.map λp=>ρ p.1).Nodup:=λ{o} ho=>by
  have:o.map (λp=>ρ p.1)=(o.map (·.1)).map ρ:=(by simp[W10,W0y]);rw[this,ho];exact hinj
 have isk:∀ {o:List (Nat×AObj)},o.map (·.1)=keys->∀ k,isK o k=true↔k∈keys:=λ{o} ho k=>by rw[isK,Z55,ho]
 have hevg:∀ k,evA R.G (S k) g = .func (.func gf) [] caps:=λk=>by
  rw[<- hg]
  cases g <;> simp only[evA,St.tmp,hSt]
 have hv0:=hs.ev hcg;rw[hg]at hv0;obtain ⟨us0,lb,hav,hus0,hlb0⟩:=hv0.func_inv
 obtain rfl:us0 = #[]:=by
  have:=hus0.1;rw[<- W16];exact W0l.1 (by simpa using this)
 have hcaps:∀ k W κ,SK R (S k) a W κ->CP ((S k).env R.M κ).M W caps lb:=λk W κ h=>by
  have h1:=h.ev hcg;rw[hevg,hav]at h1;obtain ⟨us1,lb1,h2,-,h3⟩:=h1.func_inv;simp only[Value.func.injEq]at h2;obtain ⟨-,-,rfl⟩:=h2;exact ⟨by simpa using h3.1,λi x u hx hu=>(h3.2 i x u hx (by simpa using hu)).toPV (W03.1 hp x (W0d hx))⟩
 obtain ⟨cs0,e0,nd0,hc0,-⟩:=hs.defers
 have marks:∀ (D:Nat) (st1:St) (W1:World) (κ1:Nat->Option (Nat×Nat)),W.heap.size<=D->SK R st1 a W1 κ1->W1.heap[D]? = some (.deferred (some []))->SK R st1 { a with defers:=coll D::a.defers } W1 κ1:=λD st1 W1 κ1 hD h hd=>by
  obtain ⟨cs1,e1,nd1,hc1,-⟩:=h.defers;obtain rfl:cs1=cs0:=Z58 (List.append_cancel_right (e1.symm.trans e0));refine h.odd ⟨rfl,λb=>.inl rfl⟩ rfl rfl rfl (λb _=>rfl) rfl ⟨D::cs1,by simp[e1],W1z.2 ⟨λhm=>?_,nd1⟩,λc hm=>?_,λe=>by rw[hrd.2]at e;cases e⟩
  . have:=(W0c.1 (hc0 D hm).2).1;omega
  . rcases W0g.1 hm with rfl|hm
    . exact ⟨W0O hs.kp.size hD,hd⟩
    . exact hc1 c hm
 have put:∀ (l:Nat) (st1:St) (W1:World) (κ1:Nat->Option (Nat×Nat)) (r r':Loop),W.heap.size<=l->SK R st1 a W1 κ1->W1.heap[l]? = some (.loop r)->SK R st1 a (W1.putObj l (.loop r')) κ1:=λl st1 W1 κ1 r r' hl h hr=>by
  obtain ⟨cs1,e1,nd1,hc1,hz1⟩:=h.defers;have:=hs.kp.size;refine h.odd (.put hr trivial) rfl rfl rfl (λb hb=>World.putObj_heap_other (by omega)) rfl ⟨cs1,e1,nd1,λc hm=>⟨(hc1 c hm).1,?_⟩,hz1⟩;rw[World.putObj_heap_other (by rintro rfl;have:=(hc1 _ hm).2;rw[hr]at this;cases this)];exact (hc1 c hm).2
 have hs0:SK R (S 0) a W κ0:=by rw[hS];show SK R (Yl ρ (objs 0) st) a W κ0;rw[h0];exact hs
 refine ZeT (I:=λk M W'=>∃ κ,(M=((S k).env R.M κ).M/\Iv k)/\SK R (S k) a W' κ) (K:=λW'=>∃ s κ,Φ .ret s/\SK R s a W' κ) (M0:=((S 0).env R.M κ0).M) (caps:=caps) (els:=els) hav hit (by omega) (λk M A B h e=>h.imp λκ h=>⟨h.1,h.2.grow e⟩) (λA B ⟨s,κ,h1,h2⟩ e=>⟨s,κ,h1,h2.grow e⟩)
  (λk l M W' r r' hl ⟨κ,hM,h⟩ hr=>⟨κ,hM,put l _ _ _ r r' hl h hr⟩) (λl W' r r' hl ⟨s,κ,h1,h⟩ hr=>⟨s,κ,h1,put l _ _ _ r r' hl h hr⟩) (λk M A ⟨κ,⟨hM,_⟩,h⟩=>?_) (λk M A ⟨κ,⟨hM,_⟩,h⟩=>hM ▸ h.gr) (hcaps 0 W κ0 hs0) ⟨κ0,⟨rfl,hI0⟩,hs0⟩ ?_ ?_ ?_
 . subst hM;refine ⟨λb hb=>h.owned_lt hb,λb o hb ho hodd hM=>?_⟩;rcases hM with hM | ⟨q,s,hq⟩
   . have:=h.low b hM;have:=hs.kp.size;omega
   . exact h.notOdd hq ho hodd
 . intro l k m x u M W1 lr hl hI hlr hx hxu;obtain ⟨κ,⟨rfl,hIk⟩,h⟩:=hI;have hkk:∀ q,isK (objs k) q=true->q∈keys:=λq hq=>(isk (hkeys k) q).1 hq
   have enterAt:∀ W',SK R (S k) a W' κ->SK (rC (objs k) ρ R (S k) κ W') (obSt (objs k)) noAct W' (kC (objs k) ρ κ)/\∀ (x:AV) (v:Value),inK (objs k) x->VR ((S k).env R.M κ) W' (x.ren ρ) v->VR ((obSt (objs k)).env (mC (objs k) ρ R (S k) κ) (kC (objs k) ρ κ)) W' x v:=λW' h =>
    Z4Z h (λq hq=>hK q (hkk q hq)) (λq q' h1 h2 e=>Z56 hinj (hkk q h1) (hkk q' h2) e) (λq o hq=>by rw[hS];exact Z54 ρ _ _ q o (nod (hkeys k)) hq)
     (λq o hq=>by
      have h2:=hin k (q,o) (Z4J hq);have kept:∀ x,Ya (objs k) x=true->inK (objs k) x:=λx hx k' hk'=>W03.1 hx k' hk'
      cases o with
      |box cells=>exact λx hx=>kept x (W03.1 h2 x hx)
      |row sz rows=>exact λr hr x hx=>kept x (W03.1 (W03.1 h2 r hr) x hx)
      | mp kvs =>
        intro p hp;have:=W03.1 h2 p hp;simp only[W01]at this;exact ⟨kept _ this.1,kept _ this.2⟩)
   obtain ⟨h1,conv⟩:=enterAt W1 h
   have hXo:∀ W',SK R (S k) a W' κ->∀ b,(rC (objs k) ρ R (S k) κ W').X b->∀ o,W'.heap[b]? = some o->¬Odd o:=λW' h b ⟨q,s,hq⟩ o ho hodd=>by
    simp only[kC]at hq
    split at hq
    . exact h.notOdd hq ho hodd
    . cases hq
   have hMM:∀ b,((obSt (objs k)).env (mC (objs k) ρ R (S k) κ) (kC (objs k) ρ κ)).M b->((S k).env R.M κ).M b:=λb hb=>by
    rcases hb with hb | ⟨q,s,hq⟩
    . exact hb.1
    . simp only[kC]at hq
      split at hq
      . exact .inr ⟨ρ q,s,hq⟩
      . cases hq
   let R1:Run:={ rC (objs k) ρ R (S k) κ W1 with N:=R.N,rd:=some l }
   have hN:R.N=a.tmps.size:=h.size.symm
   have start:SK R1 ⟨(p,x)::t0,objs k⟩ { tmps:=a.tmps.setIfInBounds p u,defers:=[] } W1 (kC (objs k) ρ κ):=by
    refine ⟨.nil _ _ _ _,by show (a.tmps.setIfInBounds p u).size=R.N;simp[hN],λn y hy=>?_,h1.obj,h1.dom,h1.inj,h1.low,h1.apart,h1.kp,h1.gr,h1.mono,h1.ent⟩;have hy:lk ((p,x)::t0) n=some y:=hy;show VR ((obSt (objs k)).env (mC (objs k) ρ R (S k) κ) (kC (objs k) ρ κ)) W1 y ((a.tmps.setIfInBounds p u).getD n Go.undef);simp only[lk]at hy
    split at hy
    . rename_i e;subst e;obtain rfl:x=y:=(by simpa using hy);have hlt:p<a.tmps.size:=(by rw[<- hN];exact hpn);have e:(a.tmps.setIfInBounds p u).getD p Go.undef=u:=(by simp[Array.getD,hlt]);rw[e];exact .pv (hxu.mono (λb _ hb=>⟨λhb'=>hb (hMM b hb'),rfl⟩) (W0f _))
    . rename_i e
      have e2:(a.tmps.setIfInBounds p u).getD n Go.undef=a.tmps.getD n Go.undef:=by
       simp only[W0a,W0p,if_neg e]
      rw[e2];obtain ⟨g1,g2,g3⟩:=ht0 (n,y) (Z4J hy);have g4:=h.tm n (y.ren ρ) (by show lk (S k).t n=_;rw[hSt];exact g1);exact conv y _ (λq hq=>(isk (hkeys k) q).2 (g3 q hq)) g4
   refine wpIn_mono (hround k x hx hIk R1 rfl rfl ca hca m _ W1 ⟨_,start⟩) ?_;rintro e a1 W2 ⟨s1,⟨rfl,hbody⟩,κ1,h2⟩;refine ⟨λb o hb ho=>h2.keepOdd (hXo W1 h) hb ho,?_⟩;have hl2:W2.heap[l]? = some (.loop lr):=h2.keepOdd (hXo W1 h) hlr trivial;have h3:=SK.both rfl h2 (o':=.loop { lr with state:=.busy }) hl2 hlr;have hb:=put l _ W1 κ lr { lr with state:=.busy } hl h hlr;refine wpIn_mono (hbody { R1 with W0:=W1.putObj l (.loop { lr with state:=.busy }) } rfl rfl cb hcb m _ _ ⟨_,h3⟩) ?_;rintro e a2 W3 ⟨s2,hrnd,hs2⟩
   have hodd:∀ κ2,SK { R1 with W0:=W1.putObj l (.loop { lr with state:=.busy }) } s2 a2 W3 κ2->(∀ (b:Nat) (o:Obj),W1.heap[b]? = some o->Odd o->b≠l->W3.heap[b]? = some o)/\W3.heap[l]? = some (.loop { lr with state:=.busy }):=λκ2 h4 =>
    ⟨λb o hb1 ho hne=>h4.keepOdd (hXo _ hb) ((World.putObj_heap_other hne).trans hb1) ho,
     h4.keepOdd (hXo _ hb) (o:=.loop { lr with state:=.busy }) (World.putObj_heap_same (W0c.1 hlr).1) trivial⟩
   have leave:∀ o':List (Nat×AObj),o'.map (·.1)=keys->(Yi newK s2).o=o'->∃ κ3,SK R (Yl ρ o' st) a W3 κ3/\Mono ((S k).env R.M κ) (W1.putObj l (.loop { lr with state:=.busy })) ((Yl ρ o' st).env R.M κ3) W3:=λo' hk' he=>by
    obtain ⟨κ2,h4⟩:=Ym.frz newK s2 (λk hk=>by simp[newK];omega) _ a2 W3 hs2;have g:=h4.sub (t':=[]) (λn x hx=>by simp[lk]at hx);have e:({ Yi newK s2 with t:=[] }:St)=obSt o':=(by subst he;rfl);rw[e]at g
    have g2:SK (rC (objs k) ρ R (S k) κ (W1.putObj l (.loop { lr with state:=.busy }))) (obSt o') noAct W3 κ2 :=
     ⟨.nil _ _ _ _,rfl,λn x hx=>by simp[obSt,St.tmp,lk]at hx,g.obj,g.dom,g.inj,g.low,g.apart,g.kp,g.gr,g.mono,g.ent⟩
    obtain ⟨κ3,h5,h6,-⟩:=Z50 hb (st1:=Yl ρ o' st) (λq q' h1 h2 e=>Z56 hinj (hkk q h1) (hkk q' h2) e) (λq o hq=>by rw[hS];exact Z54 ρ _ _ q o (nod (hkeys k)) hq)
     (λq=>by
      have h1:=isk hk' q;have h2:=isk (hkeys k) q
      cases e1:isK o' q <;> cases e2:isK (objs k) q <;> simp_all) g2 ((Z52 ρ _ _).trans (hSt k).symm) (λq o hq=>Z54 ρ _ _ q o (nod hk') hq)
     (λj hj=>by
      have out:∀ {o:List (Nat×AObj)},o.map (·.1)=keys->(Yl ρ o st).get j=st.get j:=λ{o} ho=>Z53 ρ j _ _ λq hq=>hj q.1 ((isk (hkeys k) q.1).2 (by rw[<- ho];exact W0i.2 ⟨q,hq,rfl⟩))
      rw[hS];exact (out hk').trans (out (hkeys k)).symm)
    exact ⟨κ3,h5,h6⟩
   obtain ⟨κ2,h4⟩:=id hs2;refine ⟨hodd κ2 h4,?_⟩
   cases e with
   | normal =>
     obtain ⟨κ3,h5,h6⟩:=leave (objs (k+1)) (hkeys _) hrnd.1;refine .inl ⟨rfl,_,⟨κ3,⟨rfl,hrnd.2⟩,by rw[hS];exact h5⟩,by have:=h6.size;simpa using this,λb hb1 hM=>?_⟩;obtain ⟨g1,g2⟩:=h6.imm b (by simpa using hb1) hM;exact ⟨by rw[hS];exact g1,λhne=>g2.trans (World.putObj_heap_other hne)⟩
   | ret =>
     obtain ⟨hk',hΦ⟩:=hrnd;obtain ⟨κ3,h5,-⟩:=leave _ hk' rfl;exact .inr ⟨rfl,_,κ3,hΦ,h5⟩
   |_=>exact hrnd.elim
 . rintro D M W1 hD ⟨κ,⟨-,hIk⟩,h⟩ hd;refine ⟨_,?_,κ,marks D _ _ _ hD h hd⟩;rw[hS];exact hdone hIk
 . rintro D W1 hD ⟨s,κ,h1,h⟩ hd;exact ⟨s,h1,κ,marks D _ _ _ hD h hd⟩
end
def ZeV (ρ:Nat->Nat) (xs:List AV):(AObj.box xs).ren ρ = .box (xs.map (AV.ren ρ)):=rfl
def ZeW (G:Jg) (M:Nat->Prop) (W:World) (N:Nat) (rd:Option Nat):Run :=
 { G:=G,M:=M,X:=λ_=>False,W0:=W,N:=N,E0:={ M:=M,loc:=λ_=>none,row:=λ_=>none },rd:=rd,nm:=true }
def ZeX {G:Jg} {M:Nat->Prop} {W:World} {N:Nat} {rd:Option Nat} {t:List (Nat×AV)} {a:Act} (hgr:GR G M W) (hM:∀ b,M b->b<W.heap.size) (hd:a.defers=[]) (hN:a.tmps.size=N) (ht:TT' M W t a):SR (ZeW G M W N rd) ⟨t,[]⟩ a W:=by
 have hGM:∀ b,b<W.heap.size->¬M b->¬((⟨t,[]⟩ : St).env M (λ_=>none)).M b/\W.heap[b]? = W.heap[b]?:=λb _ h1=>⟨(by rintro (h2 | ⟨k,s,h2⟩) <;> first|exact h1 h2|cases h2),rfl⟩
 refine ⟨λ_=>none,⟨[],by simp[hd,ZeW],.nil,by simp,λ_=>rfl⟩,hN,λn x hx=>.pv ((ht n x hx).mono hGM (W0f _)),(λk o ho=>by simp[St.get,lk]at ho),(λk p hk=>by cases hk),(λk k' b s s' hk=>by cases hk),hM,λ_ _ h=>h,Kp.refl _ _,(hgr.mono hGM (W0f _)),⟨W0f _,hGM,λk p hk=>(by cases hk),λk sz m hk=>(by cases hk)⟩,λ_ _=>⟨rfl,rfl⟩⟩
def endG {G:Jg} {M:Nat->Prop} {W W':World} {N:Nat} {rd:Option Nat} {st:St} {a:Act} (h:SR (ZeW G M W N rd) st a W') {t:List (Nat×AV)} (hw:Ym st ⟨t,[]⟩) (hp:∀ q∈t,q.2.pure=true) :
  a.defers=[]/\a.tmps.size=N/\TT' M W' t a/\Ext W W':=by
 obtain ⟨κ,hk⟩:=hw _ _ _ h;obtain ⟨cs,e,-,-,hz⟩:=hk.defers
 have hκ:∀ k,κ k=none:=λk=>by
  cases e:κ k with
  |none=>rfl
  |some p=>obtain ⟨o,ho⟩:=hk.dom k p e;simp[St.get,lk]at ho
 refine ⟨by rw[e,hz rfl];rfl,hk.size,λn x hx=>?_,⟨hk.kp.os,hk.kp.tape,hk.kp.output,hk.kp.size,λi hi=>hk.kp.block i hi (λh=>h)⟩⟩;refine ((hk.tm n x hx).toPV (hp (n,x) (Z4J hx))).mono (λb _ hb=>⟨λh=>hb (.inl h),rfl⟩) (W0f _)
def sbN (U:List Int) (v:Nat):Nat->List Int
 |0=>[]
 |i+1=>if v / 2 ^ i % 2=1 then sbN U v i++[U.getD i 0] else sbN U v i
def sbT (U:List Int) (v:Nat):List Int:=sbN U v U.length
def ZeY (U:List Int) (v:Nat):∀ i,(sbN U v i).length<=i
 |0=>W0f _
 | i+1=>by
   have:=ZeY U v i;rw[sbN];split
   . simp;omega
   . omega
def opQ (l:Jl):List Int:=sortI (opU l)
def ZeZ {r:Jr} {l:Jl} (h:Zb2 r l=true):(opQ l).length<=5:=by
 simp only[Zb2,W01,W0b]at h;rw[opQ,Zbc,opU,W0N];exact h.2
def bitU {v i:Nat} (h:v<64) (hi:i<6):i64.wrap ((((v:Int).fdiv (2 ^ (min i IntKind.i64.bits)) % 2 ^ IntKind.i64.bits).toNat &&& (1 % 2 ^ IntKind.i64.bits):Nat):Int)=if v / 2 ^ i % 2=1 then 1 else 0:=by
 have h1:∀ n:_root_.Fin 64,∀ k:_root_.Fin 6,i64.wrap ((((n.val:Int).fdiv (2 ^ (min k.val IntKind.i64.bits)) % 2 ^ IntKind.i64.bits).toNat &&& (1 % 2 ^ IntKind.i64.bits):Nat):Int)=if n.val / 2 ^ k.val % 2=1 then 1 else 0:=by decide +kernel
 exact h1 ⟨v,h⟩ ⟨i,hi⟩
def shU {n:Nat} (h:n<6):i64.wrap (2 ^ (min n IntKind.i64.bits))=((2 ^ n:Nat):Int):=by
 have h1:∀ k:_root_.Fin 6,i64.wrap (2 ^ (min k.val IntKind.i64.bits))=((2 ^ k.val:Nat):Int):=(by decide +kernel);exact h1 ⟨n,h⟩
def pow5 {n:Nat} (h:n<=5):2 ^ n<=32:=by
 have:n=0∨n=1∨n=2∨n=3∨n=4∨n=5:=(by omega);rcases this with rfl|rfl|rfl|rfl|rfl|rfl <;> decide
def PC.out {P:Program} {G:Jg} {f:FuncId} {xs:List AV} {v w:AV} (h:PC P G f xs v) (hs:Nsub v w):PC P G f xs w :=
 ⟨h.1,λM W vs a b c d=>(h.2 M W vs a b c d).mono λ_ _ ⟨u,h1,h2,h3⟩=>⟨u,h1,hs _ _ _ h2,h3⟩⟩
def zN1:Nte:=⟨0,0,0,0,1,0,0,0,false,0⟩
def byV (s:List Int) (m:Int) (l:Jl) (d:Int):Nat->Nte
 |0=>zN1
 |i+1=>if (nAt l i).dr=d/\fB s [] m l i=true then nAt l i else byV s m l d i
def byK (s:List Int) (m:Int) (l:Jl) (d:Int):Nat->List (Int×Bool)->List (Int×Bool)
 |0,K=>K
 |i+1,K=>if (nAt l i).dr=d then if fB s [] m l i=true then ifK s [] m l l.length i K else byK s m l d i (ifK s [] m l l.length i K) else byK s m l d i K
def z10:List AV:=[.int .i64 0,.int .i64 0,.int .u8 0,.int .i64 0,.int .i64 0,.int .i64 0,.int .i64 0,.int .i64 0,.bool false,.int .u8 0]
def byS (F sV:AV) (m d:Int) (x:Nat×List (Int×Bool)):St :=
 ⟨[(7,.int .i64 ((x.1:Int)-1)),(6,.ptr 6 0),(0,F),(1,.func (.func 162) [] fcC),(2,.int .i64 d)],(6,.box z10)::fcO F sV .nils m x.2⟩
def by_pb (r:Jr) (l:Jl) (s:List Int) (m d:Int) (K:List (Int×Bool)) (hl:l.length<=12) (hs:Sml s) (hK:OkK s [] m l K) :
  PB prog G 113 (fcO (fileA r l) (.vsl (s.map ia)) .nils m K) [fileA r l,.func (.func 162) [] fcC,.int .i64 d] (.agg (na (byV s m l d l.length))) (fcO (fileA r l) (.vsl (s.map ia)) .nils m (byK s m l d l.length K)):=by
 have hI:=λi K hi hK=>is_pb (G:=G) r l false true s [] m hl hs (by simp[Sml]) l.length i K hi (by omega) hK
 have e1:liA false s = .vsl (s.map ia):=(by simp[liA]);have e2:liA true [] = .nils:=(by simp[liA]);rw[e1,e2]at hI;have hF:fileA r l = .vptr [.vsl (r.map isa),.vsl (l.map na),.vsl ((nums r).map ia),opA l] 0:=rfl;have fF:∀ ok st,frz ok st 6 (fileA r l)=some (fileA r l):=λok st=>by rw[hF];simp[frz,AV.keys]
 have kF:(fileA r l).keys=[]:=(by rw[hF];simp[AV.keys]);have rF:=λρ=>AV.ren_pure (ρ:=ρ) (fileA r l) (Zez r l)
 simp only[hF]at hI fF kF rF ⊢;refine ZbB (W0C rfl) λR hG hrd=>?_
 subst hG;refine Qga ?_;have w0:i64.wrap ((l.length:Int)-1)=(l.length:Int)-1:=Yf;simp -implicitDefEqProofs[Zbz,ZbA,fcO,fcC,w0];refine Z1Q (byS (.vptr [.vsl (r.map isa),.vsl (l.map na),.vsl ((nums r).map ia),opA l] 0) (.vsl (s.map ia)) m d) (λx=>x.1<=l.length/\OkK s [] m l x.2/\byV s m l d x.1=byV s m l d l.length/\byK s m l d x.1 x.2=byK s m l d l.length K) (λx=>x.1) (l.length,K) ?_ ⟨W0f _,hK,rfl,rfl⟩ ?_
 . simp only[byS,z10,fcO,fcC]
   ((try simp only[ia]);refine Ym.sub (by simp[lk,Ya,AV.keys,ia]) ?_;simp only[ia,Wkl,Zen,and_true];(try simp[lk,Yc,Ya,AV.keys,ia]))
 rintro ⟨i,K'⟩ ⟨h1,h2,h3,h4⟩;simp only at h1 h2 h3 h4
 cases i with
 | zero =>
   refine Qga ?_;simp -implicitDefEqProofs[byS,z10,fcO,fcC];refine Qgr ?_;rw[<- h3,<- h4];simp -implicitDefEqProofs[byV,byK,zN1,na];simp -implicitDefEqProofs[FinB,Yi,newK,Zep,Zeu,frzA,frz,fF,tupV,Z29,ZbA]
 | succ i =>
   have hi:i<l.length:=h1;have hI:=hI i K' hi h2;have hx:=ZaZ hi;rw[byV]at h3;rw[byK]at h4;generalize hxx:nAt l i=x at *;have hlx:l[i]=x:=hx.symm;have hnx:na x=[.int .i64 x.nu,.int .i64 x.dy,.int .u8 x.sg,.int .i64 x.dr,.int .i64 x.lt,.int .i64 x.fr,.int .i64 x.tu,.int .i64 x.ca,.bool x.up,.int .u8 x.wy]:=rfl;have w1:i64.wrap ((i:Int)-1)=(i:Int)-1:=Yf;have w2:((i:Int)+1-1)=(i:Int):=(by omega);refine Qga ?_;by_cases c:x.dr=d
   . simp only[fcO]at hI;simp -implicitDefEqProofs[byS,z10,fcO,fcC,hi,hlx,hnx,c,w2];refine Yd.sem (Z1B.byref hI id (by simp) (by simp) (by simp[St.get,lk,AV.ren,AObj.ren,Zeo,ia,rF]) (by simp only[W0g,W0Q,or_false,W1M,forall_eq,Zen,and_true];simp[lk,Yc,Ya,AV.keys]) (by simp[Ya,AV.keys,lk,fcC]) rfl (by simp[AV.ren,fcC]) rfl rfl) ?_;simp -implicitDefEqProofs[Yl,AV.ren,AObj.ren,Zeo,ia,rF]
     cases hb:fB s [] m l i
     . rw[if_pos c,hb,if_neg (by simp)]at h4;rw[if_neg (λh=>by rw[hb]at h;cases h.2)]at h3;simp -implicitDefEqProofs[w1];refine ⟨(i,ifK s [] m l l.length i K'),?_,⟨by omega,Zej _ _ h2,h3,h4⟩,W2u _⟩;simp only[byS,z10,fcO,fcC]
       (refine Wkc ?_;simp only[Zen,Wkl,and_true];(try simp[lk,Yc,Ya,AV.keys]))
     . rw[if_pos c,hb,if_pos rfl]at h4;rw[if_pos ⟨c,hb⟩]at h3;rw[<- h3,<- h4];have hnd:na x=[.int .i64 x.nu,.int .i64 x.dy,.int .u8 x.sg,.int .i64 d,.int .i64 x.lt,.int .i64 x.fr,.int .i64 x.tu,.int .i64 x.ca,.bool x.up,.int .u8 x.wy]:=(by rw[<- c];rfl);simp -implicitDefEqProofs[hnd];refine Qgr ?_;simp -implicitDefEqProofs[FinB,Yi,newK,Zep,Zeu,frzA,frz,fF,tupV,Z29,ZbA]
   . rw[if_neg (λh=>c h.1)]at h3;rw[if_neg c]at h4;simp -implicitDefEqProofs[byS,z10,fcO,fcC,hi,hlx,hnx,c,w1,w2];refine ⟨(i,K'),?_,⟨by omega,h2,h3,h4⟩,W2u _⟩;simp only[byS,z10,fcO,fcC]
     ((try simp only[ia]);refine Ym.sub (by simp[lk,Ya,AV.keys,ia]) ?_;simp only[ia,Wkl,Zen,and_true];(try simp[lk,Yc,Ya,AV.keys,ia]))
def ltV (l:Jl) (d m:Int) (v:Nat):Int:=(byV (sbT (opQ l) v) m l d l.length).lt
def r8:List Int:=[1,2,3,4,5,6,7,8]
def Zf0 {x:Int}:x∈r8↔1<=x/\x<=8:=by simp[r8];omega
def r8_lt:r8.Pairwise (· < ·):=by decide
def posL (l:Jl) (d m:Int):List Int:=r8.filter λx=>(List.range (2 ^ (opQ l).length)).any λv=>decide (ltV l d m v=x)
def mk1 (h:Hld) (x:Nte):List Int:=(if inR x.fr h.fr h.to=true then [x.fr] else [])++(if inR (x.tu+1) h.fr h.to=true then [x.tu+1] else [])
def mks (l:Jl) (h:Hld):List Int:=h.fr::l.flatMap (mk1 h)
def ndsL (l:Jl) (h:Hld) (d:Int):List Int:=if h.ds.contains d=true then r8.filter λx=>(mks l h).any λm=>(posL l d m).contains x else []
def Zf1 {n a b:Int}:inR n a b=true↔a<=n/\n<=b:=by simp[inR]
def Zf2 {l:Jl} {h:Hld} {m:Int}:m∈mks l h↔m=h.fr∨∃ x∈l,(m=x.fr/\h.fr<=x.fr/\x.fr<=h.to)∨(m=x.tu+1/\h.fr<=x.tu+1/\x.tu+1<=h.to):=by
 unfold mks;rw[W0g,W0u]
 constructor
 . rintro (q | ⟨x,hx,q⟩)
   . exact .inl q
   . right
     refine ⟨x,hx,?_⟩;rcases W0h.1 q with q|q <;> split at q <;> rename_i e
     . exact .inl ⟨W0B.1 q,Zf1.1 e⟩
     . cases q
     . exact .inr ⟨W0B.1 q,Zf1.1 e⟩
     . cases q
 . rintro (q | ⟨x,hx,⟨q,q2⟩ | ⟨q,q2⟩⟩)
   . exact .inl q
   . right
     refine ⟨x,hx,W0h.2 (.inl ?_)⟩;rw[if_pos (Zf1.2 q2)];exact W0B.2 q
   . right
     refine ⟨x,hx,W0h.2 (.inr ?_)⟩;rw[if_pos (Zf1.2 q2)];exact W0B.2 q
def Zf3 (l:Jl) (d m:Int):(posL l d m).Pairwise (· < ·):=r8_lt.filter _
def Zf4 (l:Jl) (h:Hld) (d:Int):(ndsL l h d).Pairwise (· < ·):=by
 unfold ndsL
 split
 . exact r8_lt.filter _
 . exact .nil
def Zf5 {l:Jl} {d m x:Int}:x∈posL l d m↔(1<=x/\x<=8)/\∃ v,v<2 ^ (opQ l).length/\ltV l d m v=x:=by
 simp[posL,Zf0]
def Zf6 {l:Jl} {h:Hld} {d x:Int}:x∈ndsL l h d↔d∈h.ds/\∃ m∈mks l h,x∈posL l d m:=by
 unfold ndsL;by_cases e:d∈h.ds
 . rw[if_pos (by simpa using e)];simp only[W0G,W14,W0w,e,true_and]
   constructor
   . exact λq=>q.2
   . rintro ⟨m,h1,h2⟩;exact ⟨(Zf5.1 h2).1 |> Zf0.2,m,h1,h2⟩
 . rw[if_neg (by simpa using e)];simp[e]
def Zf7 {l:Jl} {h:Hld} (h0:h.fr<=h.to) {m:Int} (hm:m∈mks l h):h.fr<=m/\m<=h.to:=by
 rcases Zf2.1 hm with rfl | ⟨x,-,⟨rfl,q⟩ | ⟨rfl,q⟩⟩ <;> omega
def Zf8 {l:Jl} {d m:Int} (h:∀ v,1<=ltV l d m v/\ltV l d m v<=8):posL l d m≠[]:=by
 intro e;have:ltV l d m 0∈posL l d m:=Zf5.2 ⟨h 0,0,Nat.two_pow_pos _,rfl⟩;rw[e]at this
 cases this
def hoF (hs:Jh) (id:Int):Option Hld:=hs.find? λh=>decide (h.id=id)
def stB (l:Jl) (hs:Jh) (day:Int) (x:Prt):Bool:=outB x day&&match hoF hs x.ho with
 |some h=>h.ds.contains x.dw && !(ndsL l h x.dw).contains x.lt
 |none=>false
def staL (l:Jl) (hs:Jh) (ps:Jp) (day:Int):List Prt:=ps.filter (stB l hs day)
def rchB (a b:List Int) (x:Prt):Bool:=a.contains x.ho||b.contains x.dw
def calP (l:Jl) (hs:Jh) (day:Int) (a b:List Int) (x:Prt):Prt:=if (stB l hs day x&&rchB a b x)=true then { x with bk:=day,lo:=0 } else x
def herB (id day:Int) (x:Prt):Bool:=decide (x.ho=id)&&outB x day
def sureM (ps:Jp) (day id d:Int):Int:=((ps.filter λx=>herB id day x&&decide (x.dw=d)&&decide (x.lo=0)).map (·.lt)).foldl max 0
def perhL (ps:Jp) (day id d:Int):List Int:=(ps.filter λx=>herB id day x&&decide (x.dw=d) && !decide (x.lo=0)).map (·.lt)
def wkL (ps:Jp) (day id d:Int):List Int:=sureM ps day id d::r9.filter λn=>decide (sureM ps day id d<n)&&(perhL ps day id d).contains n
def Zf9 (ps:Jp) (day id d:Int):(wkL ps day id d).Pairwise (· < ·):=by
 unfold wkL;refine W1l.2 ⟨λn hn=>?_,r9_lt.filter _⟩;have:=(W0G.1 hn).2;simp only[W01,W0b]at this;exact this.1
def Zfa {ps:Jp} {day id d n:Int}:n∈perhL ps day id d↔∃ x∈ps,(herB id day x&&decide (x.dw=d) && !decide (x.lo=0))=true/\x.lt=n:=by
 unfold perhL;rw[W0i]
 constructor
 . rintro ⟨x,hx,e⟩;exact ⟨x,(W0G.1 hx).1,(W0G.1 hx).2,e⟩
 . rintro ⟨x,hx,q,e⟩;exact ⟨x,W0G.2 ⟨hx,q⟩,e⟩
def wrN (a b:List Int):Int:=if (a.any λx=>b.any λy=>!decide (x=y))=false then 0 else if (a.any λx=>b.any λy=>decide (x=y))=false then 2 else 1
def Zfb {a:List Int} (h:a.Pairwise (· < ·)) {y:Int} (he:∀ x∈a,x=y) (hn:a≠[]):a=[y]:=by
 match a,hn with
 |[x],_=>rw[he x (W0H ..)]
 | x::z::t,_ =>
   have h1:=he x (by simp);have h2:=he z (by simp);have:=(W1l.1 h).1 z (by simp);omega
def Zfc {a b:List Int} (ha:a.Pairwise (· < ·)) (hb:b.Pairwise (· < ·)) (na:a≠[]) (nb:b≠[]):(a.any λx=>b.any λy=>!decide (x=y))=false↔(a.length=1/\a=b):=by
 rw[W26]
 constructor
 . intro h
   have h2:∀ x∈a,∀ y∈b,x=y:=λx hx y hy=>by
    have:=h x hx;rw[Bool.not_eq_true,W26]at this;have:=this y hy;simpa using this
   obtain ⟨x,hx⟩:=List.exists_mem_of_ne_nil a na;obtain ⟨y,hy⟩:=List.exists_mem_of_ne_nil b nb;have e1:=Zfb ha (λz hz=>h2 z hz y hy) na;have e2:=Zfb hb (λz hz=>(h2 x hx z hz).symm) nb;have e3:=h2 x hx y hy;rw[e1,e2,e3];exact ⟨rfl,rfl⟩
 . rintro ⟨h1,rfl⟩ x hx
   match a,h1 with
   |[z],_=>simp at hx;subst hx;simp
def Zfd (ps:Jp) (day id d n:Int):Bool:=ps.any λx=>herB id day x&&decide (x.dw=d)&&decide (x.lt=n)&&decide (x.lo=0)
def misL (l:Jl) (h:Hld) (ps:Jp) (day:Int):List (Int×Int):=h.ds.flatMap λd=>((ndsL l h d).filter λn=>!Zfd ps day h.id d n).map λn=>(d,n)
def Zfe {l:Jl} {h:Hld} {ps:Jp} {day:Int} {x:Int×Int}:x∈misL l h ps day↔x.1∈h.ds/\x.2∈ndsL l h x.1/\Zfd ps day h.id x.1 x.2=false:=by
 unfold misL;rw[W0u]
 constructor
 . rintro ⟨d,hd,q⟩;obtain ⟨n,hn,rfl⟩:=W0i.1 q;have:=W0G.1 hn;exact ⟨hd,this.1,by simpa using this.2⟩
 . rintro ⟨h1,h2,h3⟩;exact ⟨x.1,h1,W0i.2 ⟨x.2,W0G.2 ⟨h2,by simp[h3]⟩,rfl⟩⟩
def Zff {l:Jl} {h:Hld} {ps more:Jp} {day:Int} (hm:∀ x∈misL l h ps day,∃ y∈more,y.ho=h.id/\y.dw=x.1/\y.lt=x.2/\y.lo=0/\outB y day=true):misL l h (ps++more) day=[]:=by
 rw[W1t];intro x hx;obtain ⟨h1,h2,h3⟩:=Zfe.1 hx;unfold Zfd at h3;rw[W2g,W1T]at h3;obtain ⟨y,hy,e1,e2,e3,e4,e5⟩:=hm x (Zfe.2 ⟨h1,h2,h3.1⟩);have:=W26.1 h3.2 y hy;simp[herB,e1,e2,e3,e4,e5]at this
def riP (ps:Jp):Prop:=ps.Pairwise λx y=>x.no<y.no
def putP (ps:Jp) (x:Prt) (p:Nat):List Prt:=ps.take p++x::ps.drop p
def plP (ps:Jp) (x:Prt):Nat:=ps.countP λy=>decide (y.no<x.no)
def Zfg {ps:Jp} {x y:Prt} {p:Nat}:y∈putP ps x p↔y=x∨y∈ps:=by
 unfold putP;rw[W0h,W0g];have:y∈ps↔y∈ps.take p∨y∈ps.drop p:=(by rw[<- W0h,W11]);rw[this]
 constructor
 . rintro (h|h|h)
   . exact .inr (.inl h)
   . exact .inl h
   . exact .inr (.inr h)
 . rintro (h|h|h)
   . exact .inr (.inl h)
   . exact .inl h
   . exact .inr (.inr h)
def Zfh {ps:Jp} {x:Prt} {p:Nat}:(putP ps x p).length=ps.length+1:=by
 unfold putP;simp only[W0s,W15,W1p,List.length_drop];omega
def Zfi {ps:Jp} (h:riP ps) {x y:Prt} (hx:x∈ps) (hy:y∈ps) (e:x.no=y.no):x=y:=by
 induction ps with
 |nil=>cases hx
 | cons a t ih =>
   obtain ⟨h1,h2⟩:=W1l.1 h;rcases W0g.1 hx with ex|hx <;> rcases W0g.1 hy with ey|hy
   . rw[ex,ey]
   . have:=h1 y hy;rw[<- ex]at this;omega
   . have:=h1 x hx;rw[<- ey]at this;omega
   . exact ih h2 hx hy
def Zfj {ps:Jp} {x y:Prt} {p:Nat} (hy:y∈ps) (e:y.no=x.no):¬riP (putP ps x p):=by
 intro h;unfold putP riP at h;rw[W28]at h;obtain ⟨-,h2,h3⟩:=h;have hm:y∈ps.take p∨y∈ps.drop p:=(by rw[<- W0h,W11];exact hy);rcases hm with hm|hm
 . have:=h3 y hm x (W0H ..);omega
 . have:=(W1l.1 h2).1 y hm;omega
def Zfk {ps:Jp} {x:Prt} (h:riP ps):∀ {p:Nat} (_:p<=ps.length) (_:∀ y∈ps.take p,y.no<x.no) (_:∀ y∈ps.drop p,x.no<=y.no),plP ps x=p:=by
 intro p hp h1 h2;unfold plP
 conv=>lhs;rw[<- W11 p ps]
 rw[List.countP_append]
 have a:(ps.take p).countP (λy=>decide (y.no<x.no))=p:=by
  rw[List.countP_eq_length.2 λy hy=>by simpa using h1 y hy];simp;omega
 have b:(ps.drop p).countP (λy=>decide (y.no<x.no))=0:=by
  rw[List.countP_eq_zero];intro y hy;have:=h2 y hy;simp;omega
 omega
def Zfl {ps:Jp} {x:Prt} (h:riP ps):(∀ y∈ps.take (plP ps x),y.no<x.no)/\∀ y∈ps.drop (plP ps x),x.no<=y.no:=by
 induction ps with
 |nil=>simp
 | cons a t ih =>
   obtain ⟨h1,h2⟩:=W1l.1 h;obtain ⟨g1,g2⟩:=ih h2;by_cases c:a.no<x.no
   . have e:plP (a::t) x=plP t x+1:=(by unfold plP;rw[List.countP_cons_of_pos (by simpa using c)]);rw[e,W1Z,W1D];exact ⟨λy hy=>(W0g.1 hy).elim (λq=>q ▸ c) (g1 y),g2⟩
   . have e:plP (a::t) x=0:=by
      unfold plP;rw[List.countP_eq_zero];intro y hy;rcases W0g.1 hy with rfl|hy
      . simpa using c
      . have:=h1 y hy;simp;omega
     rw[e,W1g,W1P];refine ⟨by simp,λy hy=>?_⟩;rcases W0g.1 hy with rfl|hy
     . omega
     . have:=h1 y hy;omega
def Zfm {ps:Jp} {x:Prt} (h:riP ps) (hn:∀ y∈ps,y.no≠x.no):riP (putP ps x (plP ps x)):=by
 obtain ⟨g1,g2⟩:=Zfl (x:=x) h;unfold putP riP;rw[W28];refine ⟨h.sublist (List.take_sublist ..),W1l.2 ⟨λy hy=>?_,h.sublist (List.drop_sublist ..)⟩,λy hy z hz=>?_⟩
 . have:=g2 y hy;have:=hn y (W1S hy);omega
 . rcases W0g.1 hz with rfl|hz
   . exact g1 y hy
   . have:=g1 y hy;have:=g2 z hz;omega
def exN:List Nte:=[⟨101,100,2,30,2,5,999,0,false,0⟩,⟨102,200,1,10,2,8,20,0,false,0⟩,⟨103,300,2,0,0,10,12,101,false,0⟩,⟨104,400,2,30,1,15,15,0,false,0⟩]
def exH:List Hld:=[⟨1,6,9,[10,30]⟩,⟨2,16,999,[30]⟩,⟨3,418,418,[10,30]⟩]
def exP1:List Prt:=[⟨1,10,1,30,1,-1,0⟩,⟨2,120,1,30,2,-1,0⟩,⟨3,10,2,30,1,-1,0⟩,⟨4,10,3,30,1,-1,1⟩,⟨5,10,3,10,1,-1,0⟩,⟨6,210,1,10,2,-1,0⟩,⟨7,10,1,10,1,205,0⟩]
def exDl:List Int:=[10,20,30,40,50]
def Zfn:opQ exN=[102]:=Zbb (by decide +kernel) (by simp[SrtI])
def ltU (U:List Int) (l:Jl) (d m:Int) (v:Nat):Int:=(byV (sbT U v) m l d l.length).lt
def posU (U:List Int) (l:Jl) (d m:Int):List Int:=r8.filter λx=>(List.range (2 ^ U.length)).any λv=>decide (ltU U l d m v=x)
def ndsU (U:List Int) (l:Jl) (h:Hld) (d:Int):List Int:=if h.ds.contains d=true then r8.filter λx=>(mks l h).any λm=>(posU U l d m).contains x else []
def staU (U:List Int) (l:Jl) (hs:Jh) (ps:Jp) (day:Int):List Prt:=ps.filter λx=>outB x day&&match hoF hs x.ho with
 |some h=>h.ds.contains x.dw && !(ndsU U l h x.dw).contains x.lt
 |none=>false
def Zfo (l:Jl) (d m:Int):posL l d m=posU (opQ l) l d m:=rfl
def Zfp (l:Jl) (h:Hld) (d:Int):ndsL l h d=ndsU (opQ l) l h d:=rfl
def Zfq (l:Jl) (hs:Jh) (ps:Jp) (day:Int):staL l hs ps day=staU (opQ l) l hs ps day:=rfl
def Zfr:staL exN exH exP1 300=[⟨1,10,1,30,1,-1,0⟩,⟨3,10,2,30,1,-1,0⟩,⟨4,10,3,30,1,-1,1⟩]:=by
 rw[Zfq,Zfn];decide +kernel
def ex_wk:wkL exP1 300 3 30=[0,1]:=by decide +kernel
def ex_nd:ndsL exN ⟨1,6,9,[10,30]⟩ 10=[1,2]:=by rw[Zfp,Zfn];decide +kernel
def ex_ca:caE [1,2,3] exDl (staL exN exH exP1 300)=([],[30]):=by rw[Zfr];decide +kernel
def ex_po:posL exN 30 418=[2]:=by rw[Zfo,Zfn];decide +kernel
def Zfs:posL exN 10 9=[1,2]:=by rw[Zfo,Zfn];decide +kernel
def Zft:posL exN 30 6=[2]:=by rw[Zfo,Zfn];decide +kernel
section
open Qq Tryz
def Zfu:RCode :=
 S [r 0 [b 2 0,n 3 (.bool false)],r 1 [f 4 2 1,l 5 4,f 6 2 2,l 7 6,o 8 .eql 5 7,m 9 8,g 9 false (f 10 3 1),g 9 false (f 11 0 10),g 9 false (l 12 11),g 9 false (f 13 3 2),g 9 false (f 14 0 13),g 9 false (l 15 14),g 9 false (o 16 .eql 12 15),u 17 9 16,m 3 17],.ret]
def Zfv:List RRes:=[.t 3]
def Zfw:PCt prog 154 f154 Zfu Zfv:=pcT func154 rfl
def Zfx:RCode :=
 S [r 0 [n 4 O],S [r 1 [m 6 0,e 7 6,n 8 O],.block 0 (.loop (S [r 2 [o 9 .lss 8 7],.cond (.t 9) .skip (.exit 0),.block 1 (S [r 3 [m 10 8,m 5 10],r 4 [m 11 1,m 12 0,m 13 5,i 14 7 12 13,L 15 7 14,w 16 (.callv (.t 11) [.t 15])],K 16 5 [m 17 5,m 4 17]]),r 6 [k 18 .add 8 I,m 8 18]]))],r 7 [n 4 (.int .i64 (-1))],.ret]
def Zfy:List RRes:=[.t 4]
def Zfz:PCt prog 180 f180 Zfx Zfy:=pcT func180 rfl
def ZfA:RCode :=
 S [r 0 [n 4 (.bool false)],r 1 [m 5 0,m 6 1,c 7 180 [5,6],k 8 .geq 7 O,m 4 8],.ret]
def ZfB:List RRes:=[.t 4]
def ZfC:PCt prog 153 f153 ZfA ZfB:=pcT func153 rfl
def ZfD:RCode :=
 S [r 0 [n 2 .nils],S [r 1 [m 3 0,w 4 (.vop (.eqn false) [(.t 3),(.c .nils)])],K 4 2 [n 2 .nils]],r 3 [w 5 (.bsl true 7 0 [] []),m 6 0,w 7 (.app 7 56 (.t 5) (.t 6)),m 2 7],.ret]
def ZfE:List RRes:=[.t 2]
def ZfF:RCode :=
 S [r 0 [n 6 .nils],S [r 1 [m 10 1,k 11 .eql 10 O],K 11 2 [m 12 2,m 6 12]],S [r 3 [m 13 0,e 14 13,n 15 O],.block 0 (.loop (S [r 4 [o 16 .lss 15 14],.cond (.t 16) .skip (.exit 0),.block 1 (S [r 5 [m 17 15,i 18 7 13 15,L 19 7 18,w 8 (.alloc [O,O,O,O,O,O,.int .u8 0]),m 7 17,s 7 8 19],S [r 6 [m 20 2,w 21 (.mkf (.func 154) [] [.t 8]),c 22 153 [20,21]],.cond (.t 22) (.exit 1) .skip],R 7 [m 23 0,m 24 7,a [1] (k 25 .add 24 I),a [0,2] (w 26 (.slc 7 (.t 23) (some (.t 25)) none)),m 27 1,a [4] (k 28 .sub 27 I),m 29 2,a [6] (c 30 155 [29]),L 31 7 8,a [8] (w 32 (.bsl false 7 1 [O,O,O,O,O,O,.int .u8 0] [(0,.t 31)])),a [7,9,7] (w 33 (.app 7 56 (.t 30) (.t 32))),a [3,5,10,10] (c 34 97 [26,28,33]),a [11,11,0,1,2,3,4,5,6,7,8,9,10,11] (m 9 34)],r 8 [m 35 9,w 36 (.vop (.eqn true) [(.t 35),(.c .nils)])],K 36 9 [m 37 9,m 6 37]]),r 10 [k 38 .add 15 I,m 15 38]]))],r 11 [n 6 .nils],.ret]
def ZfG:List RRes:=[.t 6]
def ZfH:PCt prog 97 f97 ZfF ZfG:=pcT func97 rfl
end
end Go.Proofs.YtcdlimgkliklhaaGreatDoor
