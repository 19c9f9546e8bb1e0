/-
  What the program's functions on notes compute: the eight checks.
-/
import Derived.Test.YtpkfmfkccbnnjaaGreatDoorJEdToNe
import Derived.Test.YtpkfmfkccbnnjaaGreatDoorJRcVToEc
import Derived.Test.YtpkfmfkccbnnjaaGreatDoorJAmLToAmR
set_option linter.all false
set_option linter.unusedSimpArgs false
set_option linter.unusedVariables false
set_option linter.unusedSectionVars false
namespace Go.Proofs.YtpkfmfkccbnnjaaGreatDoor
open Go.RowKit
section
variable {G:Nat→Option (List AV)}
theorem ZgL (n lo hi:Int):PC Tryz.prog G 159 [.int .i64 n,.vptr [.int .i64 lo] 0,.vptr [.int .i64 hi] 0] (.bool (!inR n lo hi)):=by
 (refine Zfn rfl fun R hG hrd=>Yc Yb 1000 ?_;subst hG)
 by_cases h1:n<lo
 · have h2:¬lo≤n:=(by omega);simp -implicitDefEqProofs[Zfl,Zfm,h1,h2,inR]
 · have h2:lo≤n:=(by omega);by_cases h3:hi<n
   · have h4:¬n≤hi:=(by omega);simp -implicitDefEqProofs[Zfl,Zfm,h1,h2,h3,h4,inR]
   · have h4:n≤hi:=(by omega);simp -implicitDefEqProofs[Zfl,Zfm,h1,h2,h3,h4,inR]
theorem ZgM (lo hi:Int) (l:List Int) (hl:Sml l):PC Tryz.prog G 136 [.int .i64 lo,.int .i64 hi,.vsl (l.map ia)] (.bool (l.all fun n=>inR n lo hi)):=by
 (refine Zfk rfl fun R hG hrd=>Yc Yb 1000 ?_;subst hG)
 simp -implicitDefEqProofs[Zfi,Zfj]
 (first|refine Ye.flat (ZbP 159 [.vptr [.int .i64 lo] 0,.vptr [.int .i64 hi] 0] (fun n=>!inR n lo hi) l (by simp[AV.pure]) hl (fun n _=>ZgL n lo hi)) (by simp[AV.flat]) (by simp) ?_|refine Yf.flat (ZbP 159 [.vptr [.int .i64 lo] 0,.vptr [.int .i64 hi] 0] (fun n=>!inR n lo hi) l (by simp[AV.pure]) hl (fun n _=>ZgL n lo hi)) (by simp[AV.flat]) (by simp) ?_)
 have e:(!l.any fun n=>!inR n lo hi)=l.all fun n=>inR n lo hi:=by simp[List.all_eq_not_any_not]
 simp -implicitDefEqProofs[e]
theorem ZgN (lo hi n:Int):PC Tryz.prog G 136 [.int .i64 lo,.int .i64 hi,.vsl [[.int .i64 n]]] (.bool (inR n lo hi)):=by
 have h:=ZgM (G:=G) lo hi [n] (by simp[Sml]);simpa [ia] using h
theorem ZgO (lo hi n m:Int):PC Tryz.prog G 136 [.int .i64 lo,.int .i64 hi,.vsl [[.int .i64 n],[.int .i64 m]]] (.bool (inR n lo hi&&inR m lo hi)):=by
 have h:=ZgM (G:=G) lo hi [n,m] (by simp[Sml]);simpa [ia] using h
theorem ZgP (g:Nat) (caps:List AV) (p:Nte→Bool) (l:List Nte) (hc:caps.all AV.pure=true) (hl:Sml l)
  (hg:∀ x∈l,PC Tryz.prog G g (.agg (na x)::caps) (.bool (p x))) :
  PC Tryz.prog G 217 [.vsl (l.map na),.func (.func g) [] caps] (.int .i64 (fstOf p l)):=by
 (refine Zgh rfl fun R hG hrd=>Yc Yb 1000 ?_;subst hG)
 unfold Sml at hl;have hc2:∀ x∈caps,x.pure=true:=List.all_eq_true.1 hc;simp -implicitDefEqProofs[Zgf,Zgg];refine ZaV (fun i=>⟨[(8,.int .i64 i),(7,.int .i64 l.length),(0,.vsl (l.map na)),(1,.func (.func g) [] caps)],[]⟩) (fun i=>∀ j (h:j<l.length),j<i→p l[j]=false) l.length (by (first|exact Yn.tm (by simp[lk])|exact Yn.sub (by simp[lk,Ya,AV.keys]) (by simp[lk,Yd,Ya,AV.keys]))) (by simp) ?_ ?_
 · intro i hi he;refine Yc Yb 1000 ?_;have w1:IntKind.i64.wrap ((i:Int)+1)=((i+1:Nat):Int):=Yg (by omega) (by omega);have hgi:=hg _ (List.getElem_mem hi);have hln:(na l[i]).length=10:=rfl;have htk:(na l[i]).take 10=na l[i]:=rfl;simp -implicitDefEqProofs[hi,hln,htk];refine Ye.of hgi (by simpa [AV.pure,na] using hc2) ?_
   cases h3:p l[i]
   · simp -implicitDefEqProofs[w1];refine ⟨(by (first|exact Yn.tm (by simp[lk])|exact Yn.sub (by simp[lk,Ya,AV.keys]) (by simp[lk,Yd,Ya,AV.keys]))),fun j q1 q2=>?_⟩;by_cases e:j=i
     · subst e;exact h3
     · exact he j q1 (by omega)
   · simp -implicitDefEqProofs;refine Z2N Yb 1000 ?_;simp -implicitDefEqProofs[ZbL hi h3 he]
 · intro he;refine Yc Yb 1000 ?_;simp -implicitDefEqProofs[];refine Z2N Yb 1000 ?_;simp -implicitDefEqProofs[ZbM (p:=p) (l:=l) (fun j hj=>he j hj hj)]
theorem ZgQ (g:Nat) (caps:List AV) (p:Nte→Bool) (l:List Nte) (hc:caps.all AV.pure=true) (hl:Sml l)
  (hg:∀ x∈l,PC Tryz.prog G g (.agg (na x)::caps) (.bool (p x))) :
  PC Tryz.prog G 210 [.vsl (l.map na),.func (.func g) [] caps] (.bool (l.any p)):=by
 (refine Zge rfl fun R hG hrd=>Yc Yb 1000 ?_;subst hG)
 simp -implicitDefEqProofs[Zgc,Zgd];have hc2:∀ x∈caps,x.pure=true:=List.all_eq_true.1 hc;refine Ye.of (ZgP g caps p l hc hl hg) (by simpa [AV.pure] using hc2) ?_;have e:=ZbN p l;simp -implicitDefEqProofs[e]
theorem ZgR (a b:Int):PC Tryz.prog G 111 [.vsl [[.int .i64 a],[.int .i64 b]]] (.int .i64 (if a=0 then b else a)):=by
 (refine ZgC rfl fun R hG hrd=>Yc Yb 1000 ?_;subst hG)
 simp -implicitDefEqProofs[ZgA,ZgB];refine ZaV (fun i=>⟨[(8,.int .i64 i),(7,.int .i64 2),(6,.vsl [[.int .i64 a],[.int .i64 b]]),(3,.int .i64 0)],[]⟩) (fun i=>(0<i→a=0)∧(1<i→b=0)) 2 (by (first|exact Yn.tm (by simp[lk])|exact Yn.sub (by simp[lk,Ya,AV.keys]) (by simp[lk,Yd,Ya,AV.keys]))) (by simp) ?_ ?_
 · intro i hi he;refine Yc Yb 1000 ?_
   match i,hi,he with
   | 0,_,_ =>
     have w1:IntKind.i64.wrap 1=1:=rfl;by_cases h:a=0
     · simp -implicitDefEqProofs[h,w1]
       (first|exact Yn.tm (by simp[lk])|exact Yn.sub (by simp[lk,Ya,AV.keys]) (by simp[lk,Yd,Ya,AV.keys]))
     · simp -implicitDefEqProofs[h];refine Z2N Yb 1000 ?_;simp -implicitDefEqProofs[h]
   | 1,_,he =>
     have h0:=he.1 (by omega);have w1:IntKind.i64.wrap 2=2:=rfl;by_cases h:b=0
     · simp -implicitDefEqProofs[h,w1];exact ⟨(by (first|exact Yn.tm (by simp[lk])|exact Yn.sub (by simp[lk,Ya,AV.keys]) (by simp[lk,Yd,Ya,AV.keys]))),h0⟩
     · simp -implicitDefEqProofs[h];refine Z2N Yb 1000 ?_;simp -implicitDefEqProofs[h,h0]
 · rintro ⟨h0,h1⟩;refine Yc Yb 1000 ?_;have e0:=h0 (by omega);have e1:=h1 (by omega);simp -implicitDefEqProofs[];refine Z2N Yb 1000 ?_;simp -implicitDefEqProofs[e0,e1]
theorem ZgS (x y:Nte):PC Tryz.prog G 211 [.agg (na y),.vptr (na x) 0] (.bool (decide (y.nu=x.ca))):=by
 (refine ZfI rfl fun R hG hrd=>Yc Yb 1000 ?_;subst hG)
 simp -implicitDefEqProofs[ZfG,ZfH,na]
section
variable (r:List Iss) (l:List Nte) (i:Nat) (hi:i<l.length) (hw:WfN l) (hr:Wf r)
include hi hw hr
theorem ZgT:PC Tryz.prog G 203 [.agg [.vsl (r.map isa),.vsl (l.map na)],.int .i64 i] (.bool (cN1 (nAt l i))):=by
 rw[ZdJ hi]
 (refine Zfq rfl fun R hG hrd=>Yc Yb 1000 ?_;subst hG)
 simp -implicitDefEqProofs[Zfo,Zfp,hi,na]
 (first|refine Ye.of (ZgN 1 9999 l[i].nu) (by simp) ?_|refine Yf.of (ZgN 1 9999 l[i].nu) (by simp) ?_)
 cases h1:inR l[i].nu 1 9999
 · simp -implicitDefEqProofs[cN1,h1]
 simp -implicitDefEqProofs[hi,na]
 (first|refine Ye.of (ZgN 0 14610 l[i].dy) (by simp) ?_|refine Yf.of (ZgN 0 14610 l[i].dy) (by simp) ?_)
 simp -implicitDefEqProofs[cN1,h1]
theorem ZgU:PC Tryz.prog G 204 [.agg [.vsl (r.map isa),.vsl (l.map na)],.int .i64 i] (.bool (cN2 (nAt l i))):=by
 rw[ZdJ hi]
 (refine Zft rfl fun R hG hrd=>Yc Yb 1000 ?_;subst hG)
 by_cases h1:l[i].sg≤2 <;> by_cases h2:l[i].wy≤3 <;> simp -implicitDefEqProofs[Zfr,Zfs,hi,na,cN2,h1,h2]
theorem ZgV:PC Tryz.prog G 205 [.agg [.vsl (r.map isa),.vsl (l.map na)],.int .i64 i] (.bool (cN3 (nAt l i))):=by
 rw[ZdJ hi]
 (refine Zfw rfl fun R hG hrd=>Yc Yb 1000 ?_;subst hG)
 simp -implicitDefEqProofs[Zfu,Zfv,hi,na]
 (first|refine Ye.of (ZgO 1 999 l[i].fr l[i].tu) (by simp) ?_|refine Yf.of (ZgO 1 999 l[i].fr l[i].tu) (by simp) ?_)
 cases h1:inR l[i].fr 1 999&&inR l[i].tu 1 999
 · simp -implicitDefEqProofs[cN3,h1]
 · by_cases h2:l[i].fr≤l[i].tu <;> simp -implicitDefEqProofs[cN3,h1,h2]
end
section
variable (hG:GC G) (r:List Iss) (l:List Nte) (i:Nat) (hi:i<l.length) (hw:WfN l) (hr:Wf r)
include hi hw hr
include hG in
theorem ZgW (ho:openV r=0):PC Tryz.prog G 206 [.agg [.vsl (r.map isa),.vsl (l.map na)],.int .i64 i] (.bool (cN4 r (nAt l i))):=by
 rw[ZdJ hi];have ha:=at_pc hG r l[i].dr l[i].lt hr;rw[rega]at ha;obtain ⟨x,hxx⟩ : ∃ x,x=l[i]:=⟨_,rfl⟩;rw[← hxx]at ha ⊢;have hlx:l[i]=x:=hxx.symm;have hna:na x=[.int .i64 x.nu,.int .i64 x.dy,.int .u8 x.sg,.int .i64 x.dr,.int .i64 x.lt,.int .i64 x.fr,.int .i64 x.tu,.int .i64 x.ca,.bool x.up,.int .u8 x.wy]:=rfl
 have he:(atP r x.dr x.lt).2=0↔(findN x.dr x.lt r).isSome=true:=by
  unfold atP;rw[if_pos ho]
  cases findN x.dr x.lt r <;> simp
 (refine Zfz rfl fun R hG hrd=>Yc Yb 1000 ?_;subst hG)
 by_cases hz:x.dr=0∧x.lt=0
 · simp -implicitDefEqProofs[Zfx,Zfy,hi,hlx,hna,hz.1,hz.2,cN4]
 · have hz1:¬(0=x.dr∧0=x.lt):=fun h=>hz ⟨h.1.symm,h.2.symm⟩
   have e4:cN4 r x=decide ((atP r x.dr x.lt).2=0):=by
    rw[cN4,if_neg hz]
    cases q:(findN x.dr x.lt r).isSome
    · rw[eq_comm,decide_eq_false_iff_not,he,q];simp
    · rw[eq_comm,decide_eq_true_eq,he,q]
   rw[e4];have ey:isa (atP r x.dr x.lt).1=[.int .i64 (atP r x.dr x.lt).1.d,.int .i64 (atP r x.dr x.lt).1.l,.int .u8 (atP r x.dr x.lt).1.k,.vsl ((atP r x.dr x.lt).1.its.map ita),.vsl ((atP r x.dr x.lt).1.dms.map dma)]:=rfl;rw[ey]at ha;generalize atP r x.dr x.lt=v at *;by_cases q1:x.dr=0
   · have q2:¬x.lt=0:=fun h=>hz ⟨q1,h⟩
     have q2':¬0=x.lt:=fun h=>q2 h.symm
     rw[q1]at ha;simp -implicitDefEqProofs[Zfx,Zfy,hi,hlx,hna,q1,q2,q2']
     (first|refine Ye.of (ha) (by simp) ?_|refine Yf.of (ha) (by simp) ?_)
     simp -implicitDefEqProofs[]
   · have q1':¬0=x.dr:=fun h=>q1 h.symm
     simp -implicitDefEqProofs[Zfx,Zfy,hi,hlx,hna,q1,q1']
     (first|refine Ye.of (ha) (by simp) ?_|refine Yf.of (ha) (by simp) ?_)
     simp -implicitDefEqProofs[]
theorem ZgX:PC Tryz.prog G 208 [.agg [.vsl (r.map isa),.vsl (l.map na)],.int .i64 i] (.bool (cN5 (nAt l i))):=by
 rw[ZdJ hi]
 (refine ZfC rfl fun R hG hrd=>Yc Yb 1000 ?_;subst hG)
 by_cases h1:2≤l[i].lt
 · simp -implicitDefEqProofs[ZfA,ZfB,hi,na,cN5,h1]
 · cases h2:l[i].up
   · by_cases h3:l[i].wy=0 <;> simp -implicitDefEqProofs[ZfA,ZfB,hi,na,cN5,h1,h2,h3]
   · simp -implicitDefEqProofs[ZfA,ZfB,hi,na,cN5,h1,h2]
theorem ZgY:PC Tryz.prog G 209 [.agg [.vsl (r.map isa),.vsl (l.map na)],.int .i64 i] (.bool (cN6 l i (nAt l i))):=by
 have hl:=hw.1;unfold Sml at hl;rw[ZdJ hi];obtain ⟨x,hxx⟩ : ∃ x,x=l[i]:=⟨_,rfl⟩;rw[← hxx];have hlx:l[i]=x:=hxx.symm;have hna:na x=[.int .i64 x.nu,.int .i64 x.dy,.int .u8 x.sg,.int .i64 x.dr,.int .i64 x.lt,.int .i64 x.fr,.int .i64 x.tu,.int .i64 x.ca,.bool x.up,.int .u8 x.wy]:=rfl;have hc:=ZgQ (G:=G) 211 [.vptr (na x) 0] (fun y=>decide (y.nu=x.ca)) (l.take i) (by simp[AV.pure,na]) (by unfold Sml;simp;omega) (fun y _=>ZgS x y);have i1:i≤l.length:=(by omega);have bl:∀ x:Nte,(na x).length=10:=fun _=>rfl
 rw[List.map_take]at hc
 have pu:∀ x∈List.take i (List.map na l),∀ y∈x,y.pure=true:=fun x hx y hy=>by
  obtain ⟨z,-,rfl⟩:=List.mem_map.1 (List.mem_of_mem_take hx);simp only[na,List.mem_cons,List.not_mem_nil,or_false]at hy;rcases hy with rfl|rfl|rfl|rfl|rfl|rfl|rfl|rfl|rfl|rfl <;> simp[AV.pure]
 (refine ZfF rfl fun R hG hrd=>Yc Yb 1000 ?_;subst hG)
 by_cases h1:x.ca=0
 · simp -implicitDefEqProofs[ZfD,ZfE,hi,hlx,hna,cN6,h1]
 · simp -implicitDefEqProofs[ZfD,ZfE,hi,hlx,hna,cN6,h1,i1,bl];rw[hna]at hc;refine Ye.flat hc (by simp[AV.flat]) (by simp) ?_;simp -implicitDefEqProofs[]
theorem ZgZ:PC Tryz.prog G 214 [.agg [.vsl (r.map isa),.vsl (l.map na)],.int .i64 i] (.bool (cN8 l i (nAt l i))):=by
 have hl:=hw.1;unfold Sml at hl
 cases i with
 | zero =>
   (refine ZfR rfl fun R hG hrd=>Yc Yb 1000 ?_;subst hG)
   simp -implicitDefEqProofs[ZfP,ZfQ,cN8];rfl
 | succ k =>
   have hk:k<l.length:=(by omega);have w1:IntKind.i64.wrap ((k:Int)+1-1)=(k:Int):=(by rw[Yg (by omega) (by omega)];omega);have w2:IntKind.i64.wrap (k:Int)=(k:Int):=Yg (by omega) (by omega);have i0:¬(k:Int)+1=0:=(by omega);have k1:(0:Int)≤(k:Int)+1:=(by omega);have k2:((k:Int)+1).toNat=k+1:=(by omega);have e8:cN8 l (k+1) (nAt l (k+1))=(decide (l[k].dy<l[k+1].dy)||(decide (l[k].dy=l[k+1].dy)&&decide (l[k].nu<l[k+1].nu))):=(by rw[cN8,ZdJ hk,ZdJ hi]);have hc1:=Zcr (G:=G) l[k].dy l[k+1].dy;have hc2:=Zcr (G:=G) l[k].nu l[k+1].nu;have hR:∀ a b:AV,(List.range 2).map (fun i=>List.take 1 (List.drop i [a,b]))=[[a],[b]]:=fun _ _=>rfl
   obtain ⟨a,b,ha,hb,hv⟩ : ∃ a b:Int,(if l[k].dy<l[k+1].dy then (-1:Int) else if l[k+1].dy<l[k].dy then 1 else 0)=a∧(if l[k].nu<l[k+1].nu then (-1:Int) else if l[k+1].nu<l[k].nu then 1 else 0)=b∧decide ((if a=0 then b else a)<0)=(decide (l[k].dy<l[k+1].dy)||(decide (l[k].dy=l[k+1].dy)&&decide (l[k].nu<l[k+1].nu))):=by
    refine ⟨_,_,rfl,rfl,?_⟩;rcases Int.lt_trichotomy l[k].dy l[k+1].dy with q|q|q
    · simp[q]
    · rw[q];rcases Int.lt_trichotomy l[k].nu l[k+1].nu with q2|q2|q2
      · simp[q2]
      · rw[q2];simp
      · have:¬l[k].nu<l[k+1].nu:=(by omega);simp[q2,this]
    · have h1:¬l[k].dy<l[k+1].dy:=(by omega);have h2:¬l[k].dy=l[k+1].dy:=(by omega);simp[q,h1,h2]
   rw[ha]at hc1;rw[hb]at hc2;have ho:=ZgR (G:=G) a b;rw[e8,← hv];clear hv;generalize (if a=0 then b else a)=c at *
   (refine ZfR rfl fun R hG hrd=>Yc Yb 1000 ?_;subst hG)
   simp -implicitDefEqProofs[ZfP,ZfQ,hi,hk,w1,w2,i0,k1,k2,na]
   (first|refine Ye.of (hc1) (by simp) ?_|refine Yf.of (hc1) (by simp) ?_)
   simp -implicitDefEqProofs[hi,hk,w1,w2,i0,k1,k2,na]
   (first|refine Ye.of (hc2) (by simp) ?_|refine Yf.of (hc2) (by simp) ?_)
   simp -implicitDefEqProofs[hR]
   (first|refine Ye.of (ho) (by simp) ?_|refine Yf.of (ho) (by simp) ?_)
   simp -implicitDefEqProofs[];rfl
theorem Zh0 (y:Nte):PC Tryz.prog G 213 [.agg (na y),.vptr [.vsl (r.map isa),.vsl (l.map na)] 0,.vptr [.int .i64 i] 0] (.bool (decide (y.nu=(nAt l i).nu))):=by
 rw[ZdJ hi]
 (refine ZfO rfl fun R hG hrd=>Yc Yb 1000 ?_;subst hG)
 simp -implicitDefEqProofs[ZfM,ZfN,na,hi];rfl
theorem Zh1:PC Tryz.prog G 212 [.agg [.vsl (r.map isa),.vsl (l.map na)],.int .i64 i] (.bool (cN7 l i (nAt l i))):=by
 have hl:=hw.1;unfold Sml at hl;have hc:=ZgQ (G:=G) 213 [.vptr [.vsl (r.map isa),.vsl (l.map na)] 0,.vptr [.int .i64 i] 0] (fun y=>decide (y.nu=(nAt l i).nu)) (l.take i) (by simp[AV.pure,isa,na]) (by unfold Sml;simp;omega) (fun y _=>Zh0 r l i hi hw hr y);have i1:i≤l.length:=(by omega);have bl:∀ x:Nte,(na x).length=10:=fun _=>rfl
 rw[List.map_take]at hc
 have pu:∀ x∈List.take i (List.map na l),∀ y∈x,y.pure=true:=fun x hx y hy=>by
  obtain ⟨z,-,rfl⟩:=List.mem_map.1 (List.mem_of_mem_take hx);simp only[na,List.mem_cons,List.not_mem_nil,or_false]at hy;rcases hy with rfl|rfl|rfl|rfl|rfl|rfl|rfl|rfl|rfl|rfl <;> simp[AV.pure]
 have pn:(l.map na).all (fun r=>r.all AV.pure)=true:=(by simp[na,AV.pure]);have pi:=ZgJ r;have e7:cN7 l i (nAt l i) = !(l.take i).any fun y=>decide (y.nu=(nAt l i).nu):=rfl
 rw[e7]
 (refine ZfL rfl fun R hG hrd=>Yc Yb 1000 ?_;subst hG)
 simp -implicitDefEqProofs[ZfJ,ZfK,i1,bl];refine Ye.flat hc (by simp[AV.flat]) (by simp[pn,pi]) ?_;simp -implicitDefEqProofs[]
end
end
theorem Zh2 (ok:Nat→Bool) (st:St) (l:List Int):frzO ok st (.row 1 (l.map ia)) = .row 1 (l.map ia):=by
 simp only[frzO,List.map_map]
 congr 2
 funext p;simp[ia,frzA,frz,AV.keys]
theorem Zh3 (ρ:Nat→Nat) (l:List Int):AObj.ren ρ (.row 1 (l.map ia)) = .row 1 (l.map ia):=by
 simp only[AObj.ren,List.map_map]
 congr 2
 funext p;simp[ia,AV.ren]
theorem Zh4 (o:List (Nat×AObj)) (l:List Int):Yd o (.row 1 (l.map ia))=true:=by
 simp only[Yd,List.all_eq_true,List.mem_map];rintro x ⟨y,-,rfl⟩ v hv;simp only[ia,List.mem_singleton]at hv;subst hv;simp[Ya,AV.keys]
def Zh5 (S:ByteArray):RCode:=.seq (.reg 0 false [{ d:=some 2,op:=.mov (.c (.int .i64 0)) }]) (.seq (.seq (.reg 1 false [{ d:=some 3,op:=.mov (.t 0) },{ d:=some 4,op:=.bin .geq (.t 3) (.c (.int .u64 4294967296)) }]) (.cond (.t 4) (.seq (.reg 2 false [{ d:=some 5,op:=.mov (.t 0) },{ d:=some 6,op:=.vop (.sh false) [(.t 5),(.c (.int .u64 32))] },{ d:=some 0,op:=.mov (.t 6) }]) (.reg 3 false [{ d:=some 2,op:=.mov (.c (.int .i64 32)) }])) (.skip))) (.seq (.seq (.reg 4 false [{ d:=some 7,op:=.mov (.t 0) },{ d:=some 8,op:=.bin .geq (.t 7) (.c (.int .u64 65536)) }]) (.cond (.t 8) (.seq (.reg 5 false [{ d:=some 9,op:=.mov (.t 0) },{ d:=some 10,op:=.vop (.sh false) [(.t 9),(.c (.int .u64 16))] },{ d:=some 0,op:=.mov (.t 10) }]) (.reg 6 false [{ d:=some 11,op:=.mov (.t 2) },{ d:=some 12,op:=.bin .add (.t 11) (.c (.int .i64 16)) },{ d:=some 2,op:=.mov (.t 12) }])) (.skip))) (.seq (.seq (.reg 7 false [{ d:=some 13,op:=.mov (.t 0) },{ d:=some 14,op:=.bin .geq (.t 13) (.c (.int .u64 256)) }]) (.cond (.t 14) (.seq (.reg 8 false [{ d:=some 15,op:=.mov (.t 0) },{ d:=some 16,op:=.vop (.sh false) [(.t 15),(.c (.int .u64 8))] },{ d:=some 0,op:=.mov (.t 16) }]) (.reg 9 false [{ d:=some 17,op:=.mov (.t 2) },{ d:=some 18,op:=.bin .add (.t 17) (.c (.int .i64 8)) },{ d:=some 2,op:=.mov (.t 18) }])) (.skip))) (.seq (.reg 10 false [{ d:=some 19,op:=.mov (.t 2) },{ d:=some 20,op:=.mov (.t 0) },{ d:=some 21,op:=.conv .u8 (.t 20) },{ d:=some 22,op:=.vop .sidx [(.c (.str S)),(.t 21)] },{ d:=some 23,op:=.conv .i64 (.t 22) },{ d:=some 24,op:=.bin .add (.t 19) (.t 23) },{ d:=some 2,op:=.mov (.t 24) }]) (.ret))))) 
section
variable {G:Nat→Option (List AV)}
set_option maxHeartbeats 1000000 in
theorem Zh6 (l:List Int) (a b:Nat) (h1:a≤b) (h2:b≤l.length) (h3:l.length≤1000) :
  PB Tryz.prog G 122 [(1000,.row 1 (l.map ia))] [.osl 1000 l.length,.int .i64 a,.int .i64 b] (.tup []) [(1000,.row 1 ((srtI l a b).map ia))]:=by
 (refine Zgz (Nat.le_of_ble_eq_true rfl) fun R hG hrd=>Yc Yb 1000 ?_;subst hG)
 have w1:IntKind.i64.wrap ((a:Int)+1)=a+1:=Yg (by omega) (by omega);simp -implicitDefEqProofs[Zgw,Zgx,w1];refine ZaV (fun i=>⟨[(6,.int .i64 ((a:Int)+1+i)),(0,.osl 1000 l.length),(1,.int .i64 a),(2,.int .i64 b)],[(1000,.row 1 ((srtI l a (a+1+i)).map ia))]⟩) (fun i=>True) (b-(a+1)) ?_ trivial ?_ ?_
 · rw[Ze0 (by omega) (by omega)]
   (refine Yn.sub (by simp[lk,Ya,AV.keys]) ?_;simp only[Wkl,Zh4,and_true];(try simp[lk,Yd,Ya,AV.keys]))
 · intro i hi _;refine Yc Yb 1000 ?_;have k1:(a:Int)+1+i<b:=(by omega);simp -implicitDefEqProofs[k1];have hI:a+1+i<l.length:=(by omega);have z:=Ze2 (l:=l) (a:=a) (i:=a+1+i) (by omega) hI;have z0:a+1+i-a=i+1:=(by omega);rw[z0]at z;rw[z];have hat:=fun p (hp:p+1≤a+1+i-a)=>Ze5 (l:=l) (a:=a) (i:=a+1+i) (p:=p) (by omega) hI hp
   have hend:=fun p=>Ze6 (l:=l) (a:=a) (i:=a+1+i) (p:=p) (by omega) hI
   have hln:=fun p (hp:p≤a+1+i-a)=>Ze3 (l:=l) (a:=a) (i:=a+1+i) (p:=p) (by omega) hI hp
   have hsl:=Ze1 (l:=l) (a:=a) (i:=a+1+i) (by omega);generalize hsg:sortI ((l.take (a+1+i)).drop a)=s at *;generalize hxx:l[a+1+i]=x at *
   refine Z1Q (fun p:Nat=>⟨[(7,.int .i64 ((a:Int)+p)),(6,.int .i64 ((a:Int)+1+i)),(0,.osl 1000 l.length),(1,.int .i64 a),(2,.int .i64 b)],[(1000,.row 1 ((mvI l a (a+1+i) p).map ia))]⟩)
    (fun p=>p≤i+1∧∀ y∈s.drop p,x<y) (fun p=>p) (i+1) ?_ ⟨Nat.le_refl _,fun y hy=>by rw[List.drop_of_length_le (by omega)]at hy;cases hy⟩ ?_
   · have e9:(a:Int)+1+i=(a:Int)+(i+1:Nat):=(by omega);rw[e9]
     (refine Yn.sub (by simp[lk,Ya,AV.keys]) ?_;simp only[Wkl,Zh4,and_true];(try simp[lk,Yd,Ya,AV.keys]))
   · rintro p ⟨hp,hd⟩;refine Yc Yb 1000 ?_
     cases p with
     | zero =>
       have k2:¬(a:Int)<a:=(by omega);simp -implicitDefEqProofs[];refine ⟨rfl,?_⟩;refine Z2N Yb 1000 ?_;have w3:IntKind.i64.wrap ((a:Int)+1+i+1)=(a:Int)+1+(i+1):=(by rw[Yg (by omega) (by omega)];omega);have he:=hend 0 (Nat.zero_le _) hd (fun q hq=>by omega);have he2:a+1+i+1=a+1+(i+1):=(by omega);rw[he2]at he;rw[he];simp -implicitDefEqProofs[w3]
       (refine Yn.sub (by simp[lk,Ya,AV.keys]) ?_;simp only[Wkl,Zh4,and_true];(try simp[lk,Yd,Ya,AV.keys]))
     | succ p =>
       obtain ⟨y,hy0,hy1,hy2,hy3,hy4⟩:=hat p (by omega);have hl2:=hln (p+1) (by omega);have k2:(a:Int)<(a:Int)+(p+1):=(by omega);have k3:((a:Int)+(p+1)).toNat=a+p+1:=(by omega);have w2:IntKind.i64.wrap ((a:Int)+(p+1)-1)=(a:Int)+p:=(by rw[Yg (by omega) (by omega)];omega);have k4:((a:Int)+p).toNat=a+p:=(by omega);have k5:a+p+1<l.length:=(by omega);have k6:a+p<l.length:=(by omega);have k7:(0:Int)≤(a:Int)+(p+1):=(by omega);have k8:(0:Int)≤(a:Int)+p:=(by omega);have he:=hend (p+1) (by omega) hd;generalize mvI l a (a+1+i) (p+1)=Q at *;obtain ⟨q1,g1⟩:=List.getElem?_eq_some_iff.1 hy1;obtain ⟨q2,g2⟩:=List.getElem?_eq_some_iff.1 hy2;have hls:=Zcd (G:=R.G) x y;simp -implicitDefEqProofs[k2,k3,w2,k4,k5,k6,k7,k8,g1,g2,hl2,ia]
       (first|refine Ye.of (hls) (by simp) ?_|refine Yf.of (hls) (by simp) ?_)
       by_cases hlt:x<y
       · simp -implicitDefEqProofs[hlt,k3,w2,k4,k5,k6,k7,k8,g1,g2,hl2,ia];refine ⟨rfl,rfl,p,?_,⟨by omega,fun u hu=>?_⟩,Nat.lt_succ_self _⟩
         · have e1:∀ z:Int,[AV.int .i64 z]=ia z:=fun _=>rfl
           rw[e1,e1,← List.map_set,← List.map_set,hy3]
           (refine Yn.sub (by simp[lk,Ya,AV.keys]) ?_;simp only[Wkl,Zh4,and_true];(try simp[lk,Yd,Ya,AV.keys]))
         · obtain ⟨hps,gs⟩:=List.getElem?_eq_some_iff.1 hy0;rw[List.drop_eq_getElem_cons hps,gs]at hu;rcases List.mem_cons.1 hu with rfl|hu
           · exact hlt
           · exact hd u hu
       · simp -implicitDefEqProofs[hlt];refine ⟨rfl,?_⟩;refine Z2N Yb 1000 ?_;have w3:IntKind.i64.wrap ((a:Int)+1+i+1)=(a:Int)+1+(i+1):=by rw[Yg (by omega) (by omega)];omega
         have he:=he (fun q hq u hu hk=>by
          have:q=p:=(by omega);subst this;rw[hy0]at hu
          cases hu
          exact hlt hk)
         have he2:a+1+i+1=a+1+(i+1):=(by omega);rw[he2]at he;rw[he];simp -implicitDefEqProofs[w3]
         (refine Yn.sub (by simp[lk,Ya,AV.keys]) ?_;simp only[Wkl,Zh4,and_true];(try simp[lk,Yd,Ya,AV.keys]))
 · intro _;refine Yc Yb 1000 ?_;have k1:¬(a:Int)+1+(b-(a+1):Nat)<b:=by omega
   have e:srtI l a (a+1+(b-(a+1)))=srtI l a b:=by
    rcases Nat.lt_or_ge a b with h|h
    · congr 1;omega
    · rw[Ze0 (by omega) (by omega),Ze0 (by omega) (by omega)]
   rw[e];simp -implicitDefEqProofs[k1];refine Z2N Yb 1000 ?_;simp -implicitDefEqProofs[];refine ⟨[],rfl,rfl,?_⟩;simp[Yj,newK,Zh2]
theorem Zh7 (l:List Int):srtI l 0 l.length=sortI l:=by simp[srtI]
theorem Zh8 (l:List Int) (m:Int) (h3:l.length≤12) :
  PB Tryz.prog G 91 [(1000,.row 1 (l.map ia))] [.osl 1000 l.length,.int .i64 0,.int .i64 l.length,.int .i64 m] (.tup []) [(1000,.row 1 ((sortI l).map ia))]:=by
 have hp:=Zh6 (G:=G) l 0 l.length (Nat.zero_le _) (Nat.le_refl _) (by omega);rw[Zh7]at hp
 (refine Zgv (Nat.le_of_ble_eq_true rfl) fun R hG hrd=>Yc Yb 1000 ?_;subst hG)
 have w1:IntKind.i64.wrap (l.length:Int)=(l.length:Int):=Yg (by omega) (by omega);have k1:(l.length:Int)≤12:=(by omega);simp -implicitDefEqProofs[Zgs,Zgt];refine Z1Q (fun _:Unit=>⟨[(0,.osl 1000 l.length),(1,.int .i64 0),(2,.int .i64 l.length)],[(1000,.row 1 (l.map ia))]⟩) (fun _=>True) (fun _=>0) () ?_ trivial ?_
 · (refine Yn.sub (by simp[lk,Ya,AV.keys]) ?_;simp only[Wkl,Zh4,and_true];(try simp[lk,Yd,Ya,AV.keys]))
 rintro ⟨⟩ -;refine Yc Yb 1000 ?_;simp -implicitDefEqProofs[w1,k1,h3];refine Ye.sem (Z1B.byref hp id (by simp) (by simp) (by simp[St.get,lk,Zh3]) (by simp[Zh4]) (by simp[Ya,AV.keys,lk]) rfl (by simp[AV.ren]) rfl rfl) ?_;simp -implicitDefEqProofs[Ym,Zh3];refine Z2N Yb 1000 ?_;simp -implicitDefEqProofs[];refine ⟨[],rfl,rfl,?_⟩;simp[Yj,newK,Zh2]
set_option maxRecDepth 100000 in
theorem Zh9 (n:Nat) (h:n≤12):∃ v:Int,PC Tryz.prog G 132 [.int .u64 n] (.int .i64 v):=by
 have k1:¬(4294967296:Int)≤n:=(by omega);have k2:¬(65536:Int)≤n:=(by omega);have k3:¬(256:Int)≤n:=(by omega);obtain ⟨S,hS,hz⟩ : ∃ S,ZgG=Zh5 S∧S.size=256:=⟨_,rfl,rfl⟩;have hn:n<S.size:=(by omega);obtain ⟨c,hc⟩ : ∃ c,S[n]? = some c:=⟨S[n],getElem?_pos S n hn⟩
 have w1:IntKind.u8.wrap (n:Int)=(n:Int):=by
  match n,h with
  |0,_=>rfl
  |1,_=>rfl
  |2,_=>rfl
  |3,_=>rfl
  |4,_=>rfl
  |5,_=>rfl
  |6,_=>rfl
  |7,_=>rfl
  |8,_=>rfl
  |9,_=>rfl
  |10,_=>rfl
  |11,_=>rfl
  |12,_=>rfl
 refine ⟨IntKind.i64.wrap (0+IntKind.i64.wrap (c.toNat:Int)),?_⟩;refine ZgI rfl fun R hG hrd=>?_
 rw[hS];refine Yc Yb 1000 ?_;simp -implicitDefEqProofs[Zh5,ZgH,k1,k2,k3,w1,hc]
theorem Zha (n:Nat) (h:n≤12):∃ v:Int,PC Tryz.prog G 92 [.int .u64 n] (.int .i64 v):=by
 obtain ⟨v,hv⟩:=Zh9 (G:=G) n h;refine ⟨v,?_⟩
 (refine ZgF rfl fun R hG hrd=>Yc Yb 1000 ?_;subst hG)
 simp -implicitDefEqProofs[ZgD,ZgE]
 (first|refine Ye.of (hv) (by simp) ?_|refine Yf.of (hv) (by simp) ?_)
 simp -implicitDefEqProofs[]
theorem Zhb (l:List Int) (h3:l.length≤12) :
  PB Tryz.prog G 54 [(1000,.row 1 (l.map ia))] [.osl 1000 l.length] (.tup []) [(1000,.row 1 ((sortI l).map ia))]:=by
 obtain ⟨v,hv⟩:=Zha (G:=G) l.length h3;have hp:=Zh8 (G:=G) l v h3
 (refine Zgr (Nat.le_of_ble_eq_true rfl) fun R hG hrd=>Yc Yb 1000 ?_;subst hG)
 have w1:IntKind.u64.wrap (l.length:Int)=(l.length:Int):=IntWalk.u64_in _ ⟨by omega,by omega⟩;simp -implicitDefEqProofs[Zgo,Zgp,w1]
 (first|refine Ye.of (hv) (by simp) ?_|refine Yf.of (hv) (by simp) ?_)
 simp -implicitDefEqProofs[];refine Ye.sem (Z1B.byref hp id (by simp) (by simp) (by simp[St.get,lk,Zh3]) (by simp[Zh4]) (by simp[Ya,AV.keys,lk]) rfl (by simp[AV.ren]) rfl rfl) ?_;simp -implicitDefEqProofs[Ym,Zh3];refine ⟨[],rfl,rfl,?_⟩;simp[Yj,newK,Zh2]
theorem Zhc:PC Tryz.prog G 122 [.nils,.int .i64 0,.int .i64 0] (.tup []):=by
 (refine Zgy rfl fun R hG hrd=>Yc Yb 1000 ?_;subst hG)
 have w1:IntKind.i64.wrap 1=1:=rfl;simp -implicitDefEqProofs[Zgw,Zgx,w1];refine Z1Q (fun _:Unit=>⟨[(6,.int .i64 1),(2,.int .i64 0)],[]⟩) (fun _=>True) (fun _=>0) () (by (first|exact Yn.tm (by simp[lk])|exact Yn.sub (by simp[lk,Ya,AV.keys]) (by simp[lk,Yd,Ya,AV.keys]))) trivial ?_;rintro ⟨⟩ -;refine Yc Yb 1000 ?_;simp -implicitDefEqProofs[];refine Z2N Yb 1000 ?_;simp -implicitDefEqProofs[]
theorem Zhd (m:Int):PC Tryz.prog G 91 [.nils,.int .i64 0,.int .i64 0,.int .i64 m] (.tup []):=by
 (refine Zgu rfl fun R hG hrd=>Yc Yb 1000 ?_;subst hG)
 have w1:IntKind.i64.wrap 0=0:=rfl;simp -implicitDefEqProofs[Zgs,Zgt];refine Z1Q (fun _:Unit=>⟨[(0,.nils),(1,.int .i64 0),(2,.int .i64 0)],[]⟩) (fun _=>True) (fun _=>0) () (by (first|exact Yn.tm (by simp[lk])|exact Yn.sub (by simp[lk,Ya,AV.keys]) (by simp[lk,Yd,Ya,AV.keys]))) trivial ?_;rintro ⟨⟩ -;refine Yc Yb 1000 ?_;simp -implicitDefEqProofs[w1]
 (first|refine Ye.of (Zhc) (by simp) ?_|refine Yf.of (Zhc) (by simp) ?_)
 simp -implicitDefEqProofs[];refine Z2N Yb 1000 ?_;simp -implicitDefEqProofs[]
theorem Zhe:PC Tryz.prog G 54 [.nils] (.tup []):=by
 obtain ⟨v,hv⟩:=Zha (G:=G) 0 (by omega);have w1:IntKind.u64.wrap 0=0:=rfl
 (refine Zgq rfl fun R hG hrd=>Yc Yb 1000 ?_;subst hG)
 simp -implicitDefEqProofs[Zgo,Zgp,w1]
 (first|refine Ye.of (hv) (by simp) ?_|refine Yf.of (hv) (by simp) ?_)
 simp -implicitDefEqProofs[]
 (first|refine Ye.of (Zhd v) (by simp) ?_|refine Yf.of (Zhd v) (by simp) ?_)
 simp -implicitDefEqProofs[]
end
def K8n:List AV:=[.func (.func 203) [] [],.func (.func 204) [] [],.func (.func 205) [] [],.func (.func 206) [] [],.func (.func 208) [] [],.func (.func 209) [] [],.func (.func 212) [] [],.func (.func 214) [] []]
def GN (G:Nat→Option (List AV)):Prop:=G 2=some K8n
def ckK (r:List Iss) (l:List Nte) (i:Nat):Nat→Bool
 |0=>cN1 (nAt l i)
 |1=>cN2 (nAt l i)
 |2=>cN3 (nAt l i)
 |3=>cN4 r (nAt l i)
 |4=>cN5 (nAt l i)
 |5=>cN6 l i (nAt l i)
 |6=>cN7 l i (nAt l i)
 |_=>cN8 l i (nAt l i)
theorem Zhf {r:List Iss} {l:List Nte} {i:Nat}:noteB r l i=true↔∀ j,j<8→ckK r l i j=true:=by
 simp only[noteB,Bool.and_eq_true]
 constructor
 · rintro ⟨⟨⟨⟨⟨⟨⟨h1,h2⟩,h3⟩,h4⟩,h5⟩,h6⟩,h7⟩,h8⟩ j hj
   match j,hj with
   |0,_=>exact h1
   |1,_=>exact h2
   |2,_=>exact h3
   |3,_=>exact h4
   |4,_=>exact h5
   |5,_=>exact h6
   |6,_=>exact h7
   |7,_=>exact h8
 · intro h;exact ⟨⟨⟨⟨⟨⟨⟨h 0 (by omega),h 1 (by omega)⟩,h 2 (by omega)⟩,h 3 (by omega)⟩,h 4 (by omega)⟩,h 5 (by omega)⟩,h 6 (by omega)⟩,h 7 (by omega)⟩
def opA (l:List Nte):AV:=if opU l=[] then .nils else .vsl ((sortI (opU l)).map ia)
def fileA (r:List Iss) (l:List Nte):AV:=.vptr [.vsl (r.map isa),.vsl (l.map na),.vsl ((nums r).map ia),opA l] 0
def opdA (r:List Iss) (l:List Nte):AV:=.tup [if chN r l=0 then fileA r l else .nilp,.int .i64 (chN r l)]
def onu (l:List Nte) (i:Nat):List Int:=(opN l i).map (·.nu)
theorem Zhg {l:List Nte} {i:Nat} (h:i<l.length):onu l (i+1)=if l[i].sg=1 then onu l i++[l[i].nu] else onu l i:=by
 unfold onu;rw[ZdK h];split
 · rw[List.map_append];rfl
 · rfl
theorem Zhh (l:List Nte) (i:Nat):(onu l i).length≤i:=by unfold onu;rw[List.length_map];exact ZdL l i
def opdT (l:List Nte):List (Nat×AV):=[(31,.int .i64 l.length),(30,.vsl (l.map na)),(6,.ptr 28 0),(7,.bool false),(1,.ptr 1 0)]
def opdO (r:List Iss) (l:List Nte) (i:Nat):List (Nat×AObj):=if onu l i=[] then [(1,.box [.vsl (r.map isa),.vsl (l.map na)]),(28,.box [.vsl (r.map isa),.vsl (l.map na),.vsl ((nums r).map ia),.nils])]
 else [(1,.box [.vsl (r.map isa),.vsl (l.map na)]),(28,.box [.vsl (r.map isa),.vsl (l.map na),.vsl ((nums r).map ia),.osl 59 (onu l i).length]),(59,.row 1 ((onu l i).map ia))]
def opdS (r:List Iss) (l:List Nte) (i:Nat):St:=⟨(32,.int .i64 i)::opdT l,opdO r l i⟩
def opdI (r:List Iss) (l:List Nte) (i:Nat) (x:Nte) (j:Nat):St:=⟨(38,.int .i64 j)::(37,.agg K8n)::(8,.int .i64 i)::(9,.ptr 9 0)::(32,.int .i64 i)::opdT l,(9,.box (na x))::opdO r l i⟩
section
variable {G:Nat→Option (List AV)}
theorem kNall (hG:GC G) {r:List Iss} {l:List Nte} {i:Nat} (hi:i<l.length) (hw:WfN l) (hr:Wf r) (ho:openV r=0) (j:Nat) (hj:j<8) :
  ∃ f,(K8n.drop j).take 1=[.func (.func f) [] []]∧PC Tryz.prog G f [.agg [.vsl (r.map isa),.vsl (l.map na)],.int .i64 i] (.bool (ckK r l i j)):=by
 match j,hj with
 |0,_=>exact ⟨_,rfl,ZgT r l i hi hw hr⟩
 |1,_=>exact ⟨_,rfl,ZgU r l i hi hw hr⟩
 |2,_=>exact ⟨_,rfl,ZgV r l i hi hw hr⟩
 |3,_=>exact ⟨_,rfl,ZgW hG r l i hi hw hr ho⟩
 |4,_=>exact ⟨_,rfl,ZgX r l i hi hw hr⟩
 |5,_=>exact ⟨_,rfl,ZgY r l i hi hw hr⟩
 |6,_=>exact ⟨_,rfl,Zh1 r l i hi hw hr⟩
 |7,_=>exact ⟨_,rfl,ZgZ r l i hi hw hr⟩
set_option maxHeartbeats 4000000 in
theorem Zhi (hG:GC G) (hN:GN G) (r:List Iss) (l:List Nte) (hw:WfN l) (hr:Wf r):PC Tryz.prog G 107 [.agg [.vsl (r.map isa),.vsl (l.map na)]] (opdA r l):=by
 have hl:=hw.1;unfold Sml at hl;have hd:=Zdh hG r hr;rw[rega]at hd;unfold GN at hN
 (refine ZfU rfl fun R hG hrd=>Yc Yb 1000 ?_;subst hG)
 by_cases ho:openV r=0
 case neg =>
  have e:chN r l=openV r:=(by rw[chN,if_neg ho]);simp -implicitDefEqProofs[ZfS,ZfT]
  (first|refine Ye.of (hd) (by simp) ?_|refine Yf.of (hd) (by simp) ?_)
  simp -implicitDefEqProofs[ho,opdA,e]
 rw[if_pos ho,ho]at hd;by_cases h12:12<l.length
 · have h12':(12:Int)<l.length:=by omega
   have hB:ZdM r l=false:=by
    have:¬l.length≤12:=(by omega);simp[ZdM,this]
   have e:chN r l=30:=(by rw[chN,if_pos ho,hB];rfl);simp -implicitDefEqProofs[ZfS,ZfT]
   (first|refine Ye.of (hd) (by simp) ?_|refine Yf.of (hd) (by simp) ?_)
   simp -implicitDefEqProofs[opdA,e,h12,h12']
 have h12':¬(12:Int)<l.length:=(by omega);simp -implicitDefEqProofs[ZfS,ZfT]
 (first|refine Ye.of (hd) (by simp) ?_|refine Yf.of (hd) (by simp) ?_)
 simp -implicitDefEqProofs[h12,h12'];refine ZaV (opdS r l) (fun i=>∀ j,j<i→noteB r l j=true) l.length ?_ (by simp) ?_ ?_
 · have e0:onu l 0=[]:=rfl;simp only[opdS,opdO,opdT,e0,if_true]
   (refine Yn.sub (by simp[lk,Ya,AV.keys]) ?_;simp only[Wkl,and_true];(try simp[lk,Yd,Ya,AV.keys]))
 · intro i hi he;refine Yc Yb 1000 ?_;obtain ⟨x,hxx⟩ : ∃ x,x=l[i]:=⟨_,rfl⟩;have hlx:l[i]=x:=hxx.symm;have hna:na x=[.int .i64 x.nu,.int .i64 x.dy,.int .u8 x.sg,.int .i64 x.dr,.int .i64 x.lt,.int .i64 x.fr,.int .i64 x.tu,.int .i64 x.ca,.bool x.up,.int .u8 x.wy]:=rfl;have hk:=kNall hG hi hw hr ho;have wi:IntKind.i64.wrap ((i:Int)+1)=(i:Int)+1:=Yg (by omega) (by omega);have sc:=Zhg hi;have ol:=Zhh l i;rw[hlx]at sc;have t8:K8n.take 8=K8n:=rfl;have l8:K8n.length=8:=rfl;by_cases c:onu l i=[]
   case' pos =>
    simp -implicitDefEqProofs[opdS,opdO,opdT,c,hi,hlx,hna,hN,t8,l8]
   case' neg =>
    simp -implicitDefEqProofs[opdS,opdO,opdT,c,hi,hlx,hna,hN,t8,l8]
   all_goals
    refine ZaV (opdI r l i x) (fun j=>∀ k,k<j→ckK r l i k=true) 8 ?_ (by simp) ?_ ?_
    · simp only[opdI,opdO,opdT,c,if_true,if_false]
      ((try simp only[hna,K8n]);refine Yn.sub (by simp[lk,Ya,AV.keys,hna,K8n]) ?_;simp only[hna,K8n,Wkl,Zh4,and_true];(try simp[lk,Yd,Ya,AV.keys,hna,K8n]))
    · intro j hj hJ;refine Yc Yb 1000 ?_;obtain ⟨f,hf1,hf2⟩:=hk j hj;have wj:IntKind.i64.wrap ((j:Int)+1)=(j:Int)+1:=Yg (by omega) (by omega);have j1:(j:Int)<8:=(by omega);have j2:j+1≤8:=(by omega);have j3:j≤7:=(by omega);simp -implicitDefEqProofs[opdI,opdO,opdT,c,j1,j2,j3,l8,hf1,hj]
      (first|refine Ye.of (hf2) (by simp) ?_|refine Yf.of (hf2) (by simp) ?_)
      cases hb:ckK r l i j
      · have hB:ZdM r l=false:=by
         cases q:ZdM r l
         · rfl
         · simp only[ZdM,Bool.and_eq_true]at q;have h1:=Zbf.1 q.1.2 i hi;have h2:=Zhf.1 h1 j hj;rw[hb]at h2;cases h2
        have e:chN r l=30:=(by rw[chN,if_pos ho,hB];rfl);simp -implicitDefEqProofs[];refine Z2N Yb 1000 ?_;simp -implicitDefEqProofs[];refine Z2N Yb 1000 ?_;simp -implicitDefEqProofs[opdA,e]
      · simp -implicitDefEqProofs[wj];refine ⟨?_,fun k hk=>?_⟩
        · simp only[opdI,opdO,opdT,c,if_true,if_false]
          ((try simp only[hna,K8n]);refine Yn.sub (by simp[lk,Ya,AV.keys,hna,K8n]) ?_;simp only[hna,K8n,Wkl,Zh4,and_true];(try simp[lk,Yd,Ya,AV.keys,hna,K8n]))
        · rcases Nat.lt_or_ge k j with h1|h1
          · exact hJ k h1
          · obtain rfl:k=j:=(by omega);exact hb
    · intro hJ;refine Yc Yb 1000 ?_;have hnb:noteB r l i=true:=Zhf.2 hJ
      have he2:∀ j,j<i+1→noteB r l j=true:=fun j hj=>by
       rcases Nat.lt_or_ge j i with h1|h1
       · exact he j h1
       · obtain rfl:j=i:=(by omega);exact hnb
      have bb:((onu l i).length+1)*8≤70368744177664:=(by omega);simp -implicitDefEqProofs[opdI,opdO,opdT,c];refine Z2N Yb 1000 ?_;by_cases q:x.sg=1
      · rw[if_pos q]at sc;have hne:onu l (i+1)≠[]:=(by rw[sc];simp);simp -implicitDefEqProofs[hna,q,bb,wi];refine ⟨rfl,?_,he2⟩;simp only[opdS,opdO,opdT,hne,if_false];have e1:(onu l (i+1)).map ia=(onu l i).map ia++[[AV.int .i64 x.nu]]:=(by rw[sc,List.map_append];rfl);have e2:(onu l (i+1)).length=(onu l i).length+1:=by rw[sc];simp
        first
         |(rw[c,List.nil_append]at sc;rw[sc];((try simp only[ia]);refine Yn.sub (by simp[lk,Ya,AV.keys,ia]) ?_;simp only[ia,Wkl,and_true];(try simp[lk,Yd,Ya,AV.keys,ia]));done)
         |(rw[← e1,e2];(refine Yn.sub (by simp[lk,Ya,AV.keys]) ?_;simp only[Wkl,Zh4,and_true];(try simp[lk,Yd,Ya,AV.keys]));done)
      · rw[if_neg q]at sc;simp -implicitDefEqProofs[hna,q,wi];refine ⟨?_,he2⟩;simp only[opdS,opdO,opdT,sc,c,if_true,if_false]
        (refine Yn.sub (by simp[lk,Ya,AV.keys]) ?_;simp only[Wkl,Zh4,and_true];(try simp[lk,Yd,Ya,AV.keys]))
 · intro he;refine Yc Yb 1000 ?_;have hall:(List.range l.length).all (noteB r l)=true:=Zbf.2 he;have hu:onu l l.length=opU l:=rfl;have hul:=Zhh l l.length;have hln:(onu l l.length).length=(opN l l.length).length:=by simp[onu]
   have hB:ZdM r l=decide ((opN l l.length).length≤5):=by
    have h2:l.length≤12:=(by omega);simp[ZdM,hall,h2]
   rw[← hln]at hB;by_cases c:onu l l.length=[]
   · have hB2:ZdM r l=true:=(by rw[hB,c];rfl);have e:chN r l=0:=(by rw[chN,if_pos ho,hB2];rfl);have ea:opA l = .nils:=(by rw[opA,← hu,if_pos c]);simp -implicitDefEqProofs[opdS,opdO,opdT,c];refine Z2N Yb 1000 ?_;simp -implicitDefEqProofs[]
     (first|refine Ye.of (Zhe) (by simp) ?_|refine Yf.of (Zhe) (by simp) ?_)
     simp -implicitDefEqProofs[opdA,e,fileA,ea]
   · by_cases h5:5<(onu l l.length).length
     · have h5':(5:Int)<(onu l l.length).length:=(by omega);have hB2:ZdM r l=false:=(by rw[hB];exact decide_eq_false (by omega));have e:chN r l=30:=(by rw[chN,if_pos ho,hB2];rfl);simp -implicitDefEqProofs[opdS,opdO,opdT,c];refine Z2N Yb 1000 ?_;simp -implicitDefEqProofs[h5,h5',opdA,e]
     · have h5':¬(5:Int)<(onu l l.length).length:=(by omega);have hB2:ZdM r l=true:=(by rw[hB];exact decide_eq_true (by omega));have e:chN r l=0:=(by rw[chN,if_pos ho,hB2];rfl);have ea:opA l = .vsl ((sortI (opU l)).map ia):=(by rw[opA,← hu,if_neg c]);have hsp:=Zhb (G:=R.G) (onu l l.length) (by omega);have pu:((sortI (opU l)).map ia).all (fun r=>r.all AV.pure)=true:=(by simp[ia,AV.pure]);have sl:(sortI (opU l)).length=(onu l l.length).length:=(by rw[ZdY,← hu]);simp -implicitDefEqProofs[opdS,opdO,opdT,c];refine Z2N Yb 1000 ?_;simp -implicitDefEqProofs[h5,h5'];refine Ye.sem (Z1B.byref hsp (fun _=>59) (by simp) (by simp) (by simp[St.get,lk,Zh3]) (by simp[Zh4]) (by simp[Ya,AV.keys,lk]) rfl (by simp[AV.ren]) rfl rfl) ?_;rw[hu];rw[hu]at sl;simp -implicitDefEqProofs[Ym,Zh3,opdA,e,fileA,ea,pu,sl]
end
def lfS (U s:List Int) (i:Nat):List Int:=U.filter fun n=>!decide (n∈s.take i)
theorem Zhj {U s:List Int} {i:Nat} (hi:i<s.length) (hU:U.Nodup):(lfS U s i).erase s[i]=lfS U s (i+1):=by
 have hn:(lfS U s i).Nodup:=hU.filter _;rw[hn.erase_eq_filter];unfold lfS;rw[List.filter_filter];refine List.filter_congr fun n _=>?_
 have hm:n∈s.take (i+1)↔(n∈s.take i∨n=s[i]):=(by rw[List.take_succ_eq_append_getElem hi,List.mem_append,List.mem_singleton]);by_cases e:n=s[i]
 · rw[decide_eq_true (hm.2 (.inr e)),bne_eq_false_iff_eq.2 e];rfl
 · by_cases e2:n∈s.take i
   · rw[decide_eq_true (hm.2 (.inl e2)),decide_eq_true e2];simp
   · rw[decide_eq_false (fun h=>(hm.1 h).elim e2 e),decide_eq_false e2];simp[e]
def truI (l:List Nte) (s:List Int) (i:Nat):Prop:=∀ j,j<i→s.getD j 0∈opU l∧(0<j→s.getD (j-1) 0<s.getD j 0)
theorem Zhk {l:List Nte} {s:List Int} {i:Nat} (h:truI l s i):∀ a b,a<b→b<i→s.getD a 0<s.getD b 0
 |a,0,h1,_=>by omega
 | a,b+1,h1,h2=>by
   have h3:=(h (b+1) h2).2 (by omega);rw[Nat.add_sub_cancel]at h3;rcases Nat.lt_or_ge a b with h4|h4
   · have:=Zhk h a b h4 (by omega);omega
   · obtain rfl:a=b:=(by omega);exact h3
theorem Zhl {l:List Nte} {U s:List Int} {i:Nat} (hU:∀ n,n∈U↔n∈opU l) (hi:i<s.length) (h:truI l s i):(s[i]∈lfS U s i∧(0<i→s.getD (i-1) 0≤s[i]))↔truI l s (i+1):=by
 have eg:∀ j,∀ hj:j<s.length,s.getD j 0=s[j]:=fun j hj=>by simp[List.getD_eq_getElem?_getD,hj]
 unfold lfS;rw[List.mem_filter,hU]
 constructor
 · rintro ⟨⟨h1,h2⟩,h3⟩ j hj;rcases Nat.lt_or_ge j i with h4|h4
   · exact h j h4
   · obtain rfl:j=i:=(by omega);rw[eg j hi];refine ⟨h1,fun h0=>?_⟩;have h5:=h3 h0;have hj1:j-1<s.length:=by omega
     have h6:s.getD (j-1) 0≠s[j]:=fun e=>by
      have:s[j]∈s.take j:=(by rw[← e,eg _ hj1];rw[List.mem_take_iff_getElem];exact ⟨j-1,by omega,rfl⟩);simp[this]at h2
     omega
 · intro h1;have h2:=h1 i (by omega);rw[eg i hi]at h2;refine ⟨⟨h2.1,?_⟩,fun h0=>Int.le_of_lt (h2.2 h0)⟩
   have:s[i] ∉ s.take i:=fun hm=>by
    obtain ⟨j,hj,e⟩:=List.mem_take_iff_getElem.1 hm;have:=Zhk h1 j i (by omega) (by omega);rw[eg i hi,eg j (by omega)]at this;omega
   simp[this]
theorem Zhm {l:List Nte} {s:List Int}:truB l s=true↔truI l s s.length:=by
 unfold truB truI;rw[Zbf];refine forall_congr' fun j=>forall_congr' fun hj=>?_
 rw[Bool.and_eq_true,decide_eq_true_eq];refine and_congr_right fun _=>?_
 cases j with
 |zero=>simp
 |succ j=>simp
section
variable {G:Nat→Option (List AV)}
theorem Zhn (l:List Int) (n:Int) (h:Sml l):PC Tryz.prog G 165 [.vsl (l.map ia),.int .i64 n] (.int .i64 (idx l n)):=by
 (refine Zgn rfl fun R hG hrd=>Yc Yb 1000 ?_;subst hG)
 unfold Sml at h;simp -implicitDefEqProofs[Zgl,Zgm];refine ZaV (fun i=>⟨[(8,.int .i64 i),(7,.int .i64 l.length),(0,.vsl (l.map ia)),(1,.int .i64 n)],[]⟩) (fun i=>n ∉ l.take i) l.length (by (first|exact Yn.tm (by simp[lk])|exact Yn.sub (by simp[lk,Ya,AV.keys]) (by simp[lk,Yd,Ya,AV.keys]))) (by simp) ?_ ?_
 · intro i hi he;refine Yc Yb 1000 ?_;have w1:IntKind.i64.wrap ((i:Int)+1)=(i:Int)+1:=Yg (by omega) (by omega);by_cases e:n=l[i]
   · have hm:n∈l:=e ▸ List.getElem_mem hi
     have hix:l.idxOf n=i:=by
      have hs:=List.take_append_drop i l;rw[List.drop_eq_getElem_cons hi]at hs;rw[← hs,List.idxOf_append,if_neg he,List.idxOf_cons];simp[e];omega
     have e2:idx l n=i:=(by rw[idx,if_pos hm,hix]);simp -implicitDefEqProofs[hi,ia,e];refine Z2N Yb 1000 ?_;rw[e]at e2;simp -implicitDefEqProofs[e2]
   · simp -implicitDefEqProofs[hi,ia,e,w1];refine ⟨by (first|exact Yn.tm (by simp[lk])|exact Yn.sub (by simp[lk,Ya,AV.keys]) (by simp[lk,Yd,Ya,AV.keys])),?_⟩;rw[List.take_succ_eq_append_getElem hi,List.mem_append,List.mem_singleton];exact fun h=>h.elim he e
 · intro he;rw[List.take_length]at he;refine Yc Yb 1000 ?_;have e2:idx l n = -1:=(by rw[idx,if_neg he]);simp -implicitDefEqProofs[];refine Z2N Yb 1000 ?_;simp -implicitDefEqProofs[e2]
theorem Zho (l:List Int) (n:Int) (h:Sml l):PC Tryz.prog G 148 [.vsl (l.map ia),.int .i64 n] (.bool (decide (n∈l))):=by
 have hc:=Zhn (G:=G) l n h
 have e:decide (0≤idx l n)=decide (n∈l):=by
  have:=Zbm (l:=l) (n:=n);by_cases h:n∈l
  · rw[decide_eq_true h,decide_eq_true];have:¬idx l n<0:=fun h2=>(this.1 h2) h
    omega
  · rw[decide_eq_false h,decide_eq_false];have:=this.2 h;omega
 (refine Zgk rfl fun R hG hrd=>Yc Yb 1000 ?_;subst hG)
 simp -implicitDefEqProofs[Zgi,Zgj]
 (first|refine Ye.of (hc) (by simp) ?_|refine Yf.of (hc) (by simp) ?_)
 simp -implicitDefEqProofs[e]
theorem Zhp (o:List (Nat×AObj)) (l:List Int):Yd o (.mp (lfA l))=true:=by
 simp only[Yd,List.all_eq_true,lfA,List.mem_map];rintro _ ⟨y,-,rfl⟩;simp[Ya,AV.keys]
set_option maxHeartbeats 1000000 in
theorem Zhq (r:List Iss) (l:List Nte) (s:List Int) (hs:Sml s) (hU:(opU l).Nodup) (hl:(opU l).length≤12):PC Tryz.prog G 135 [fileA r l,.vsl (s.map ia)] (.int .i64 (if truB l s=true then 0 else 31)):=by
 unfold Sml at hs;have hUs:(sortI (opU l)).Nodup:=(ZdU _).symm.nodup hU;have hsl:=ZdY (opU l);obtain ⟨S,hS⟩ : ∃ S,S=sortI (opU l):=⟨_,rfl⟩;have hSm:∀ n,n∈S↔n∈opU l:=fun n=>by rw[hS];exact ZdZ
 rw[← hS]at hUs hsl
 have hO:(S=[]∧opA l = .nils)∨(S≠[]∧opA l = .vsl (S.map ia)):=by
  by_cases c:opU l=[]
  · exact .inl ⟨List.length_eq_zero_iff.1 (by rw[hsl,c];rfl),by rw[opA,if_pos c]⟩
  · exact .inr ⟨fun e=>c (List.length_eq_zero_iff.1 (by rw[← hsl,e];rfl)),by rw[opA,if_neg c,hS]⟩
 have key : ∀ R:Run,R.G=G→R.Top→∀ (rc:RCode),rc=dropZ 3 ZfY→AR Tryz.prog R rc ⟨[(5,.mp 10),(1,.vsl (s.map ia))],[(10,.mp (lfA S))]⟩ (Fin ZfZ (.int .i64 (if truB l s=true then 0 else 31))):=fun R _ _ rc hrc=>by
  subst hrc;refine Yc Yb 1000 ?_;simp -implicitDefEqProofs[dropZ,ZfY];refine ZaV (fun i=>⟨[(25,.int .i64 i),(24,.int .i64 s.length),(23,.vsl (s.map ia)),(5,.mp 10),(1,.vsl (s.map ia))],[(10,.mp (lfA (lfS S s i)))]⟩) (fun i=>truI l s i) s.length ?_ (fun j hj=>by omega) ?_ ?_
  · have e0:lfS S s 0=S:=by unfold lfS;simp
    ((try simp only[e0]);refine Yn.sub (by simp[lk,Ya,AV.keys,e0]) ?_;simp only[e0,Wkl,Zhp,and_true];(try simp[lk,Yd,Ya,AV.keys,e0]))
  · intro i hi hI;refine Yc Yb 1000 ?_;have wi:IntKind.i64.wrap ((i:Int)+1)=(i:Int)+1:=Yg (by omega) (by omega);have gl:=ZcG s[i] (lfS S s i);have st:=Zhl hSm hi hI;have le:=Zhj (s:=s) hi hUs
    have no:¬truI l s (i+1)→truB l s=false:=fun h=>by
     cases q:truB l s
     · rfl
     · exact absurd (fun j hj=>Zhm.1 q j (by omega)) h
    by_cases hm:s[i]∈lfS S s i
    · rw [if_pos hm]at gl;have dl:=ZcJ hm;rw[le]at dl
      cases i with
      | zero =>
        have w1:IntKind.i64.wrap 1=1:=rfl;have h1:=st.1 ⟨hm,fun h=>by omega⟩;simp -implicitDefEqProofs[hi,ia,gl,dl,w1];refine ⟨?_,h1⟩
        (refine Yn.sub (by simp[lk,Ya,AV.keys]) ?_;simp only[Wkl,Zhp,and_true];(try simp[lk,Yd,Ya,AV.keys]))
      | succ k =>
        have hk:k<s.length:=(by omega);have k1:(k:Int)+1<s.length:=(by omega);have k2:((k:Int)+1).toNat=k+1:=(by omega);have k3:(0:Int)≤(k:Int)+1:=(by omega);have k4:(0:Int)<(k:Int)+1:=(by omega);have wk:IntKind.i64.wrap ((k:Int)+1-1)=(k:Int):=(by rw[Yg (by omega) (by omega)];omega);have wk2:IntKind.i64.wrap (k:Int)=(k:Int):=Yg (by omega) (by omega);have wk3:IntKind.i64.wrap ((k:Int)+1+1)=(k:Int)+1+1:=Yg (by omega) (by omega);have eg:s.getD (k+1-1) 0=s[k]:=(by simp[List.getD_eq_getElem?_getD,hk]);rw[eg]at st;by_cases hlt:s[k+1]<s[k]
        · have hB:=no fun h=>by have:=(st.2 h).2 (by omega);omega
          simp -implicitDefEqProofs[hi,hk,ia,gl,k1,k2,k3,k4,wk,wk2,hlt];refine Z2N Yb 1000 ?_;simp -implicitDefEqProofs[hB,ZfZ]
        · have h1:=st.1 ⟨hm,fun _=>by omega⟩;simp -implicitDefEqProofs[hi,hk,ia,gl,k1,k2,k3,k4,wk,wk2,wk3,hlt,dl];refine ⟨?_,h1⟩
          (refine Yn.sub (by simp[lk,Ya,AV.keys]) ?_;simp only[Wkl,Zhp,and_true];(try simp[lk,Yd,Ya,AV.keys]))
    · rw[if_neg hm]at gl;have hB:=no fun h=>hm (st.2 h).1
      simp -implicitDefEqProofs[hi,ia,gl];refine Z2N Yb 1000 ?_;simp -implicitDefEqProofs[hB,ZfZ]
  · intro hI;have hB:=Zhm.2 hI;refine Yc Yb 1000 ?_;simp -implicitDefEqProofs[];refine Z2N Yb 1000 ?_;simp -implicitDefEqProofs[hB,ZfZ]
 refine Zg0 rfl fun R hG hrd=>?_
 have key:=key R hG hrd _ rfl;rcases hO with ⟨h1,h2⟩ | ⟨h1,h2⟩
 · refine Yc Yb 1000 ?_;simp -implicitDefEqProofs[ZfY,fileA,h2];refine ZaV (fun i=>⟨[(16,.int .i64 i),(15,.int .i64 0),(5,.mp 10),(1,.vsl (s.map ia))],[(10,.mp (lfA S))]⟩) (fun _=>True) 0 ?_ trivial (fun i hi=>by omega) ?_
   · have e0:lfA []=[]:=rfl
     ((try simp only[h1,e0]);refine Yn.sub (by simp[lk,Ya,AV.keys,h1,e0]) ?_;simp only[h1,e0,Wkl,Zhp,and_true];(try simp[lk,Yd,Ya,AV.keys,h1,e0]))
   · intro _;refine Yc Yb 1000 ?_;simp -implicitDefEqProofs[];refine Z2N Yb 2 ?_;simp -implicitDefEqProofs[];refine GOz (Z2M ?_ key)
     (refine Yn.sub (by simp[lk,Ya,AV.keys]) ?_;simp only[Wkl,Zhp,and_true];(try simp[lk,Yd,Ya,AV.keys]))
 · refine Yc Yb 1000 ?_;simp -implicitDefEqProofs[ZfY,fileA,h2];refine ZaV (fun i=>⟨[(16,.int .i64 i),(15,.int .i64 S.length),(14,.vsl (S.map ia)),(5,.mp 10),(1,.vsl (s.map ia))],[(10,.mp (lfA (S.take i)))]⟩) (fun _=>True) S.length ?_ trivial ?_ ?_
   · have e0:lfA []=[]:=rfl
     ((try simp only[List.take_zero,e0]);refine Yn.sub (by simp[lk,Ya,AV.keys,List.take_zero,e0]) ?_;simp only[List.take_zero,e0,Wkl,Zhp,and_true];(try simp[lk,Yd,Ya,AV.keys,List.take_zero,e0]))
   · intro i hi _;refine Yc Yb 1000 ?_;have wi:IntKind.i64.wrap ((i:Int)+1)=(i:Int)+1:=Yg (by omega) (by omega)
     have hni:S[i] ∉ S.take i:=fun hm=>by
      obtain ⟨j,hj,e⟩:=List.mem_take_iff_getElem.1 hm;have:=(List.nodup_iff_pairwise_ne.1 hUs);have:=List.pairwise_iff_getElem.1 this j i (by omega) hi (by omega);exact this e
     have pl:=ZcH hni;have e1:S.take i++[S[i]]=S.take (i+1):=(List.take_succ_eq_append_getElem hi).symm;rw[e1]at pl;simp -implicitDefEqProofs[hi,ia,pl,wi]
     (refine Yn.sub (by simp[lk,Ya,AV.keys]) ?_;simp only[Wkl,Zhp,and_true];(try simp[lk,Yd,Ya,AV.keys]))
   · intro _;refine Yc Yb 1000 ?_;simp -implicitDefEqProofs[];refine Z2N Yb 2 ?_;simp -implicitDefEqProofs[];refine GOz (Z2M ?_ key)
     ((try simp only[List.take_length]);refine Yn.sub (by simp[lk,Ya,AV.keys,List.take_length]) ?_;simp only[List.take_length,Wkl,Zhp,and_true];(try simp[lk,Yd,Ya,AV.keys,List.take_length]))
end
section
variable {G:Nat→Option (List AV)}
end
section
variable {G:Nat→Option (List AV)}
end
theorem Zhr (o:List (Nat×AObj)) (l:List Int):Yd o (.mp (lfA l))=true:=by
 simp only[Yd,List.all_eq_true,lfA,List.mem_map];rintro x ⟨y,-,rfl⟩;simp[Ya,AV.keys]
section
variable {G:Nat→Option (List AV)}
end
def mpP {α:Type} (n:Int) (v:α):List (Int×α)→List (Int×α)
 |[]=>[(n,v)]
 |p::l=>if n=p.1 then (n,v)::l else p::mpP n v l
theorem Zhs {α:Type} (n:Int) (v:α):∀ (l:List (Int×α)) (m:Int),mlk m (mpP n v l)=if m=n then some v else mlk m l
 |[],m=>by simp[mpP,mlk]
 | p :: l,m=>by
   have ih:=Zhs n v l m;simp only[mpP];by_cases e:n=p.1
   · rw[if_pos e];simp only[mlk];by_cases e2:m=n
     · rw[if_pos e2,if_pos e2]
     · rw[if_neg e2,if_neg e2,if_neg (by rw[← e];exact e2)]
   · rw[if_neg e];simp only[mlk];by_cases e2:m=p.1
     · rw[if_pos e2,if_pos e2,if_neg (by rintro rfl;exact e e2)]
     · rw[if_neg e2,if_neg e2];exact ih
theorem Zht {α:Type} (f:α→AV) (n:Int) (v:α):∀ l:List (Int×α),∃ o:Option Nat,(KK.i .i64).find (.int .i64 n) (mpA f l)=some o∧match o with
  |some j=>mpP n v l=l.set j (n,v)
  |none=>mpP n v l=l++[(n,v)]
 |[]=>⟨none,rfl,rfl⟩
 | p :: r=>by
   obtain ⟨o,h1,h2⟩:=Zht f n v r;by_cases e:n=p.1
   · exact ⟨some 0,by simp[mpA,KK.find,KK.eq,e],by simp[mpP,e]⟩
   · refine ⟨o.map (· + 1),?_,?_⟩
     · simp only[mpA,List.map_cons,KK.find,KK.eq,and_self,if_true,e,decide_false];rw[show r.map (fun p=>(AV.int .i64 p.1,f p.2))=mpA f r from rfl,h1];rfl
     · cases o with
       |none=>simp only[Option.map_none,mpP,if_neg e,h2];rfl
       |some j=>simp only[Option.map_some,mpP,if_neg e,h2];rfl
theorem Zhu {α:Type} (f:α→AV) (n:Int) (v:α) (l:List (Int×α)):(KK.i .i64).put (.int .i64 n) (f v) (mpA f l)=some (mpA f (mpP n v l)):=by
 obtain ⟨o,h1,h2⟩:=Zht f n v l;have hi:(KK.i .i64).is (.int .i64 n)=true:=(by simp[KK.is]);unfold KK.put;rw[if_pos hi,h1]
 cases o with
 |none=>simp only[h2];simp[mpA]
 |some j=>rw[h2];simp[mpA,List.map_set]
section
variable {G:Nat→Option (List AV)}
end
def ifK (s w:List Int) (m:Int) (l:List Nte):Nat→Nat→List (Int×Bool)→List (Int×Bool)
 |0,_,K=>K
 |n+1,i,K=>if (mlk (i:Int) K).isSome=true then K else mpP (i:Int) (fB s w m l i) ((List.range (l.length-(i+1))).foldl (fun K j=>if (gwB (bsF s w m) (fun x y=>decide (y.ca=x.nu)) l (nAt l i) i (i+1+j)&&decide ((nAt l (i+1+j)).ca=(nAt l i).nu))=true then ifK s w m l n (i+1+j) K else K) K)
def stK (s w:List Int) (m:Int) (l:List Nte) (n i:Nat) (K:List (Int×Bool)) (j:Nat):List (Int×Bool):=if (gwB (bsF s w m) (fun x y=>decide (y.ca=x.nu)) l (nAt l i) i (i+1+j)&&decide ((nAt l (i+1+j)).ca=(nAt l i).nu))=true then ifK s w m l n (i+1+j) K else K
def lpK (s w:List Int) (m:Int) (l:List Nte) (n i:Nat) (K:List (Int×Bool)) (j:Nat):List (Int×Bool):=(List.range j).foldl (stK s w m l n i) K
theorem Zhv {s w:List Int} {m:Int} {l:List Nte} {n i:Nat} {K:List (Int×Bool)}:ifK s w m l (n+1) i K=if (mlk (i:Int) K).isSome=true then K else mpP (i:Int) (fB s w m l i) (lpK s w m l n i K (l.length-(i+1))):=rfl
theorem Zhw {s w:List Int} {m:Int} {l:List Nte} {n i j:Nat} {K:List (Int×Bool)}:lpK s w m l n i K (j+1)=stK s w m l n i (lpK s w m l n i K j) j:=by rw[lpK,List.range_succ,List.foldl_append];rfl
def OkK (s w:List Int) (m:Int) (l:List Nte) (K:List (Int×Bool)):Prop:=∀ (i:Nat) (b:Bool),mlk (i:Int) K=some b→b=fB s w m l i
theorem Zhx {s w:List Int} {m:Int} {l:List Nte}:∀ (n i:Nat) {K:List (Int×Bool)},OkK s w m l K→OkK s w m l (ifK s w m l n i K)
 |0,_,_,h=>h
 | n + 1,i,K,h=>by
   rw[Zhv]
   split
   · exact h
   · have key:∀ j,OkK s w m l (lpK s w m l n i K j):=by
      intro j
      induction j with
      |zero=>exact h
      | succ j ih =>
        rw[Zhw,stK]
        split
        · exact Zhx n _ ih
        · exact ih
     intro k b hb;rw[Zhs]at hb
     split at hb
     · rename_i e;have e:k=i:=(by omega);subst e;exact (Option.some.inj hb).symm
     · exact key _ k b hb
theorem Zhy {s w:List Int} {m:Int} {l:List Nte} {n i:Nat} {K:List (Int×Bool)} (h:OkK s w m l K):∀ j,OkK s w m l (lpK s w m l n i K j)
 |0=>h
 | j+1=>by
   rw[Zhw,stK]
   split
   · exact Zhx n _ (Zhy h j)
   · exact Zhy h j
theorem Zhz {α:Type} {p:α→Bool} {h:α→α→Bool} {l:List α} {x:α} {i:Nat}:∀ {k j:Nat},i<k→k≤j→j≤l.length→gwB p h l x i k=false→gwB p h l x i j=false
 |k,0,h1,h2,_,_=>by omega
 | k,j+1,h1,h2,h3,h4=>by
   rcases Nat.lt_or_ge k (j+1) with h5|h5
   · rw[ZdR (by omega) (by omega),Zhz h1 (by omega:k≤j) (by omega) h4];rfl
   · obtain rfl:k=j+1:=(by omega);exact h4
theorem ZhA {s w:List Int} {m:Int} {l:List Nte} {n i:Nat} {K:List (Int×Bool)} {j:Nat} (hj:gwB (bsF s w m) (fun x y=>decide (y.ca=x.nu)) l (nAt l i) i (i+1+j)=false):∀ j',j≤j'→i+1+j'≤l.length→lpK s w m l n i K j'=lpK s w m l n i K j
 | 0, h, _ => by obtain rfl:j=0:=by omega
                 rfl
 | j'+1,h,h2=>by
   rcases Nat.lt_or_ge j (j'+1) with h5|h5
   · rw[Zhw,stK,Zhz (by omega) (by omega:i+1+j≤i+1+j') (by omega) hj];exact ZhA hj j' (by omega) (by omega)
   · obtain rfl:j=j'+1:=(by omega);rfl
theorem ZhB (o:List (Nat×AObj)) (l:List (Int×Bool)):Yd o (.mp (mpA AV.bool l))=true:=by
 simp only[Yd,List.all_eq_true,mpA,List.mem_map];rintro _ ⟨y,-,rfl⟩;simp[Ya,AV.keys]
theorem ZhC (ρ:Nat→Nat) (l:List (Int×Bool)):(mpA AV.bool l).map (fun p=>(p.1.ren ρ,p.2.ren ρ))=mpA AV.bool l:=by
 simp[mpA,Function.comp_def,AV.ren]
theorem ZhD (ok:Nat→Bool) (st:St) (l:List (Int×Bool)):frzO ok st (.mp (mpA AV.bool l)) = .mp (mpA AV.bool l):=by
 simp only[frzO,mpA,List.map_map]
 congr 1
 refine List.map_congr_left fun p _=>?_
 simp[frzA,frz,AV.keys]
def fcO (F sV wV:AV) (m:Int) (K:List (Int×Bool)):List (Nat×AObj) :=
 [(1009,.box [.mp 1011]),(1004,.box [F]),(1005,.box [sV]),(1006,.box [wV]),(1007,.box [.int .i64 m]),(1010,.box [.func (.func 147) [] [.ptr 1009 0,.ptr 1004 0,.ptr 1005 0,.ptr 1006 0,.ptr 1007 0,.ptr 1010 0]]),(1011,.mp (mpA AV.bool K))]
def fcC:List AV:=[.ptr 1009 0,.ptr 1004 0,.ptr 1005 0,.ptr 1006 0,.ptr 1007 0,.ptr 1010 0]
section
variable {G:Nat→Option (List AV)}
def liA (nl:Bool) (s:List Int):AV:=if nl=true∧s=[] then .nils else .vsl (s.map ia)
theorem ZhE (nl:Bool) (s:List Int):(liA nl s).pure=true:=by unfold liA;split <;> simp[AV.pure,ia]
theorem ZhF (nl:Bool) (s:List Int):(liA nl s).keys=[]:=by unfold liA;split <;> simp[AV.keys]
theorem ZhG (ok:Nat→Bool) (st:St) (nl:Bool) (s:List Int):frz ok st 6 (liA nl s)=some (liA nl s):=by unfold liA;split <;> simp[frz,AV.keys]
theorem ZhH (ρ:Nat→Nat) (nl:Bool) (s:List Int):(liA nl s).ren ρ=liA nl s:=by unfold liA;split <;> simp[AV.ren]
theorem ZhI (ok:Nat→Bool) (st:St) (xs:List AV):frzO ok st (.box xs) = .box (xs.map (frzA ok st)):=rfl
theorem ZhJ (n:Int):PC Tryz.prog G 148 [.nils,.int .i64 n] (.bool false):=by
 have hi:PC Tryz.prog G 165 [.nils,.int .i64 n] (.int .i64 (-1)):=by
  (refine Zgn rfl fun R hG hrd=>Yc Yb 1000 ?_;subst hG)
  simp -implicitDefEqProofs[Zgl,Zgm];refine ZaV (fun i=>⟨[(8,.int .i64 i),(7,.int .i64 0)],[]⟩) (fun i=>True) 0 (by (first|exact Yn.tm (by simp[lk])|exact Yn.sub (by simp[lk,Ya,AV.keys]) (by simp[lk,Yd,Ya,AV.keys]))) trivial (fun i hi=>by omega) ?_;intro _;refine Yc Yb 1000 ?_;simp -implicitDefEqProofs[];refine Z2N Yb 1000 ?_;simp -implicitDefEqProofs[]
 (refine Zgk rfl fun R hG hrd=>Yc Yb 1000 ?_;subst hG)
 simp -implicitDefEqProofs[Zgi,Zgj]
 (first|refine Ye.of (hi) (by simp) ?_|refine Yf.of (hi) (by simp) ?_)
 simp -implicitDefEqProofs[]
theorem ZhK (nl:Bool) (s:List Int) (n:Int) (h:Sml s):PC Tryz.prog G 148 [liA nl s,.int .i64 n] (.bool (decide (n∈s))):=by
 unfold liA
 split
 · rename_i e;rw[e.2];exact ZhJ n
 · exact Zho s n h
set_option maxHeartbeats 4000000 in
theorem is_pb (r:List Iss) (l:List Nte) (ns nw:Bool) (s w:List Int) (m:Int) (hl:l.length≤12) (hs:Sml s) (hw:Sml w):∀ (n i:Nat) (K:List (Int×Bool)),i<l.length→l.length-i≤n→OkK s w m l K →
  PB Tryz.prog G 147 (fcO (fileA r l) (liA ns s) (liA nw w) m K) (.int .i64 i::fcC) (.bool (fB s w m l i)) (fcO (fileA r l) (liA ns s) (liA nw w) m (ifK s w m l n i K))
 |0,i,K,hi,hn,_=>by omega
 | n + 1, i, K,hi,hn,hK=>by
   have hrec:=fun k K h1 h2 h3=>is_pb r l ns nw s w m hl hs hw n k K h1 h2 h3
   have gK:=Zfa AV.bool (i:Int) K;have hx:=ZdJ hi;have c1:=ZhK (G:=G) ns s (nAt l i).nu hs;have c2:=ZhK (G:=G) nw w (nAt l i).nu hw;have c3:=ZgN (G:=G) (nAt l i).fr (nAt l i).tu m;have fe:=ZdP (p:=bsF s w m) (h:=fun x y:Nte=>decide (y.ca=x.nu)) hi;have k1:=ZhF ns s;have k2:=ZhF nw w;have p1:=ZhE ns s;have p2:=ZhE nw w;have r1:=fun ρ=>ZhH ρ ns s
   have r2:=fun ρ=>ZhH ρ nw w
   have f1:=fun ok st=>ZhG ok st ns s
   have f2:=fun ok st=>ZhG ok st nw w
   rw[Zhv];generalize liA ns s=sV at *;generalize liA nw w=wV at *;have hF:fileA r l = .vptr [.vsl (r.map isa),.vsl (l.map na),.vsl ((nums r).map ia),opA l] 0:=rfl;have fF:∀ ok st,frz ok st 6 (fileA r l)=some (fileA r l):=fun ok st=>by rw[hF];simp[frz,AV.keys]
   have kF:(fileA r l).keys=[]:=(by rw[hF];simp[AV.keys]);refine Zg8 (Nat.le_of_ble_eq_true rfl) fun R hG hrd=>?_
   subst hG
   cases q:mlk (i:Int) K with
   | some b =>
     have eb:=hK i b q;rw[q]at gK;refine Yc Yb 1000 ?_;simp -implicitDefEqProofs[Zg6,Zg7,fcO,fcC,gK,eb];simp -implicitDefEqProofs[FinB,Yj,newK,ZhD,ZhI,frzA,frz,fF,f1,f2,tupV,Z29,Zg7]
   | none =>
     rw[q]at gK;have hna:na (nAt l i)=[.int .i64 (nAt l i).nu,.int .i64 (nAt l i).dy,.int .u8 (nAt l i).sg,.int .i64 (nAt l i).dr,.int .i64 (nAt l i).lt,.int .i64 (nAt l i).fr,.int .i64 (nAt l i).tu,.int .i64 (nAt l i).ca,.bool (nAt l i).up,.int .u8 (nAt l i).wy]:=rfl;rw[← hx]at fe;have lok:=fun j=>Zhy (n:=n) (i:=i) hK j
     have lsu:=fun j=>Zhw (s:=s) (w:=w) (m:=m) (l:=l) (n:=n) (i:=i) (j:=j) (K:=K)
     have lst:=fun j=>ZhA (s:=s) (w:=w) (m:=m) (l:=l) (n:=n) (i:=i) (K:=K) (j:=j)
     unfold stK at lsu;have gb:=ZdQ (p:=bsF s w m) (h:=fun x y:Nte=>decide (y.ca=x.nu)) (l:=l) (x:=nAt l i) (i:=i);have gs:=fun k=>ZdR (p:=bsF s w m) (h:=fun x y:Nte=>decide (y.ca=x.nu)) (l:=l) (x:=nAt l i) (i:=i) (k:=k)
     have gst:=fun k j (h1:i<k) (h2:k≤j) (h3:j≤l.length)=>Zhz (p:=bsF s w m) (h:=fun x y:Nte=>decide (y.ca=x.nu)) (l:=l) (x:=nAt l i) h1 h2 h3
     have fbs:fB s w m l i=gwB (bsF s w m) (fun x y=>decide (y.ca=x.nu)) l (nAt l i) i l.length:=fe;rw[fbs];have pm:=fun b K=>Zhu AV.bool (i:Int) b K
     generalize hxx:nAt l i=x at *;have hlx:l[i]=x:=hx.symm;unfold Zg6;refine ZeP (S:=⟨[(0,.int .i64 i),(1,.ptr 1009 0),(2,.ptr 1004 0),(3,.ptr 1005 0),(4,.ptr 1006 0),(5,.ptr 1007 0),(6,.ptr 1010 0)],fcO (.vptr [.vsl (r.map isa),.vsl (l.map na),.vsl ((nums r).map ia),opA l] 0) sV wV m K⟩) (Yc Yb 1000 ?_) ?_
     · simp -implicitDefEqProofs[fcO,fcC,hF]
       ((try simp only[ZhB,k1,k2]);refine Yn.sub (by simp[lk,Ya,AV.keys,ZhB,k1,k2]) ?_;simp only[ZhB,k1,k2,Wkl,and_true];(try simp[lk,Yd,Ya,AV.keys,ZhB,k1,k2]))
     refine ZeP (S:=⟨[(0,.int .i64 i),(1,.ptr 1009 0),(2,.ptr 1004 0),(3,.ptr 1005 0),(4,.ptr 1006 0),(5,.ptr 1007 0),(6,.ptr 1010 0)],fcO (.vptr [.vsl (r.map isa),.vsl (l.map na),.vsl ((nums r).map ia),opA l] 0) sV wV m K⟩) (Yc Yb 1000 ?_) ?_
     · simp -implicitDefEqProofs[fcO,gK]
       ((try simp only[ZhB,k1,k2]);refine Yn.sub (by simp[lk,Ya,AV.keys,ZhB,k1,k2]) ?_;simp only[ZhB,k1,k2,Wkl,and_true];(try simp[lk,Yd,Ya,AV.keys,ZhB,k1,k2]))
     refine ZeP (S:=⟨[(0,.int .i64 i),(1,.ptr 1009 0),(2,.ptr 1004 0),(3,.ptr 1005 0),(4,.ptr 1006 0),(5,.ptr 1007 0),(6,.ptr 1010 0),(11,.ptr 11 0)],(11,.box (na x))::fcO (.vptr [.vsl (r.map isa),.vsl (l.map na),.vsl ((nums r).map ia),opA l] 0) sV wV m K⟩) (Yc Yb 1000 ?_) ?_
     · simp -implicitDefEqProofs[fcO,hi,hlx,hna]
       ((try simp only[ZhB,k1,k2,hna]);refine Yn.sub (by simp[lk,Ya,AV.keys,ZhB,k1,k2,hna]) ?_;simp only[ZhB,k1,k2,hna,Wkl,and_true];(try simp[lk,Yd,Ya,AV.keys,ZhB,k1,k2,hna]))
     refine ZeP (S:=⟨[(0,.int .i64 i),(1,.ptr 1009 0),(2,.ptr 1004 0),(3,.ptr 1005 0),(4,.ptr 1006 0),(5,.ptr 1007 0),(6,.ptr 1010 0),(11,.ptr 11 0),(12,.bool (bsF s w m x))],(11,.box (na x))::fcO (.vptr [.vsl (r.map isa),.vsl (l.map na),.vsl ((nums r).map ia),opA l] 0) sV wV m K⟩) (Yc Yb 1000 ?_) ?_
     · unfold bsF;have go3:∀ b:Bool,(decide (x.sg=2)||decide (x.nu∈s))=b→True:=fun _ _=>trivial
       by_cases e1:x.sg=2
       · simp -implicitDefEqProofs[fcO,hna,e1,p1,p2];refine Ye.of c2 (by simp[p2,AV.pure]) ?_;by_cases e2:x.nu∈w
         · simp -implicitDefEqProofs[e2,p1,p2]
           ((try simp only[ZhB,k1,k2,fcO]);refine Yn.sub (by simp[lk,Ya,AV.keys,ZhB,k1,k2,fcO]) ?_;simp only[ZhB,k1,k2,fcO,Wkl,and_true];(try simp[lk,Yd,Ya,AV.keys,ZhB,k1,k2,fcO]))
         · simp -implicitDefEqProofs[e2,p1,p2]
           (first|refine Ye.of (c3) (by simp) ?_|refine Yf.of (c3) (by simp) ?_)
           simp -implicitDefEqProofs[]
           ((try simp only[ZhB,k1,k2,fcO]);refine Yn.sub (by simp[lk,Ya,AV.keys,ZhB,k1,k2,fcO]) ?_;simp only[ZhB,k1,k2,fcO,Wkl,and_true];(try simp[lk,Yd,Ya,AV.keys,ZhB,k1,k2,fcO]))
       · simp -implicitDefEqProofs[fcO,hna,e1,p1,p2];refine Ye.of c1 (by simp[p1,AV.pure]) ?_;by_cases e3:x.nu∈s
         · simp -implicitDefEqProofs[e3,p1,p2];refine Ye.of c2 (by simp[p2,AV.pure]) ?_;by_cases e2:x.nu∈w
           · simp -implicitDefEqProofs[e2,p1,p2]
             ((try simp only[ZhB,k1,k2,fcO]);refine Yn.sub (by simp[lk,Ya,AV.keys,ZhB,k1,k2,fcO]) ?_;simp only[ZhB,k1,k2,fcO,Wkl,and_true];(try simp[lk,Yd,Ya,AV.keys,ZhB,k1,k2,fcO]))
           · simp -implicitDefEqProofs[e2,p1,p2]
             (first|refine Ye.of (c3) (by simp) ?_|refine Yf.of (c3) (by simp) ?_)
             simp -implicitDefEqProofs[]
             ((try simp only[ZhB,k1,k2,fcO]);refine Yn.sub (by simp[lk,Ya,AV.keys,ZhB,k1,k2,fcO]) ?_;simp only[ZhB,k1,k2,fcO,Wkl,and_true];(try simp[lk,Yd,Ya,AV.keys,ZhB,k1,k2,fcO]))
         · simp -implicitDefEqProofs[e3,p1,p2]
           ((try simp only[ZhB,k1,k2,fcO]);refine Yn.sub (by simp[lk,Ya,AV.keys,ZhB,k1,k2,fcO]) ?_;simp only[ZhB,k1,k2,fcO,Wkl,and_true];(try simp[lk,Yd,Ya,AV.keys,ZhB,k1,k2,fcO]))
     rw[← gb];have w1:IntKind.i64.wrap ((i:Int)+1)=((i+1:Nat):Int):=Yg (by omega) (by omega);refine ZeP (S:=⟨[(0,.int .i64 i),(1,.ptr 1009 0),(12,.bool (gwB (bsF s w m) (fun x y=>decide (y.ca=x.nu)) l x i l.length))],fcO (.vptr [.vsl (r.map isa),.vsl (l.map na),.vsl ((nums r).map ia),opA l] 0) sV wV m (lpK s w m l n i K (l.length-(i+1)))⟩) (Yc Yb 1000 ?_) ?_
     · simp -implicitDefEqProofs[w1];refine Z1Q (fun k=>⟨[(0,.int .i64 i),(1,.ptr 1009 0),(2,.ptr 1004 0),(3,.ptr 1005 0),(4,.ptr 1006 0),(5,.ptr 1007 0),(6,.ptr 1010 0),(11,.ptr 11 0),(12,.bool (gwB (bsF s w m) (fun x y=>decide (y.ca=x.nu)) l x i k)),(13,.int .i64 (k:Int))],(11,.box (na x))::fcO (.vptr [.vsl (r.map isa),.vsl (l.map na),.vsl ((nums r).map ia),opA l] 0) sV wV m (lpK s w m l n i K (k-(i+1)))⟩) (fun k=>i+1≤k∧k≤l.length) (fun k=>l.length-k) (i+1) (by ((try simp only[ZhB,k1,k2,fcO,lpK,List.range_zero,List.foldl_nil,hna,Nat.sub_self]);refine Yn.sub (by simp[lk,Ya,AV.keys,ZhB,k1,k2,fcO,lpK,List.range_zero,List.foldl_nil,hna,Nat.sub_self]) ?_;simp only[ZhB,k1,k2,fcO,lpK,List.range_zero,List.foldl_nil,hna,Nat.sub_self,Wkl,and_true];(try simp[lk,Yd,Ya,AV.keys,ZhB,k1,k2,fcO,lpK,List.range_zero,List.foldl_nil,hna,Nat.sub_self]))) ⟨by omega,by omega⟩ ?_;rintro k ⟨hk1,hk2⟩;have gst':=gst k l.length hk1 hk2 (Nat.le_refl _);have lst':=lst (k-(i+1)) ;rw[show i+1+(k-(i+1))=k by omega]at lst';by_cases hb:gwB (bsF s w m) (fun x y=>decide (y.ca=x.nu)) l x i k=true
       · rcases Nat.lt_or_ge k l.length with h5|h5
         · have w2:IntKind.i64.wrap ((k:Int)+1)=(((k+1:Nat)):Int):=(by rw[Yg (by omega) (by omega)];omega);have hnj:na (nAt l k)=[.int .i64 (nAt l k).nu,.int .i64 (nAt l k).dy,.int .u8 (nAt l k).sg,.int .i64 (nAt l k).dr,.int .i64 (nAt l k).lt,.int .i64 (nAt l k).fr,.int .i64 (nAt l k).tu,.int .i64 (nAt l k).ca,.bool (nAt l k).up,.int .u8 (nAt l k).wy]:=rfl;have hy:=ZdJ h5;have hg:=gs k (by omega) h5;have hr:=hrec k (lpK s w m l n i K (k-(i+1))) h5 (by omega) (lok _);have hls:=lsu (k-(i+1));rw[show i+1+(k-(i+1))=k by omega,show k-(i+1)+1=k+1-(i+1) by omega]at hls;rw[hb,Bool.true_and]at hg hls;rw[← hy]at hg;change _ = !(fB s w m l k&&_) at hg;generalize hyy:nAt l k=y at *;have hly:l[k]=y:=hy.symm;by_cases h6:y.ca=x.nu
           · simp only[h6,decide_true,Bool.and_true,if_true]at hg hls;rw[fcO,hF]at hr;refine Yc Yb 9 ?_;simp -implicitDefEqProofs[hb,h5,hna,h6,fcO,hly,hnj];refine GO0 (Z5j Yb 15 (by decide) ?_);simp -implicitDefEqProofs[hb,h5,hna,h6,fcO,hly,hnj];refine ⟨rfl,Ye.sem (Z1B.byref hr id (by simp) (by simp) (by simp[St.get,lk,AV.ren,AObj.ren,ZhC,r1,r2]) (by simp only[List.mem_cons,List.not_mem_nil,or_false,forall_eq_or_imp,forall_eq,ZhB,and_true];simp[lk,Yd,Ya,AV.keys,k1,k2]) (by simp[Ya,AV.keys,lk,rega,fcC]) rfl (by simp[AV.ren,rega,fcC]) rfl rfl) ?_⟩;simp -implicitDefEqProofs[Ym,fcO,AV.ren,AObj.ren,ZhC,r1,r2];refine Z2N Yb 1000 ?_;simp -implicitDefEqProofs[w2];refine ⟨k+1,?_,⟨by omega,by omega⟩,(by show l.length-(k+1)<l.length-k;omega)⟩;simp only[hg,hls]
             ((try simp only[ZhB,k1,k2,hna]);refine Yn.sub (by simp[lk,Ya,AV.keys,ZhB,k1,k2,hna]) ?_;simp only[ZhB,k1,k2,hna,Wkl,and_true];(try simp[lk,Yd,Ya,AV.keys,ZhB,k1,k2,hna]))
           · simp only[h6,decide_false,Bool.and_false,Bool.not_false,Bool.false_eq_true,if_false]at hg hls;refine Yc Yb 1000 ?_;simp -implicitDefEqProofs[hb,h5,hna,h6,fcO,hly,hnj,w2];refine ⟨rfl,k+1,?_,⟨by omega,by omega⟩,(by show l.length-(k+1)<l.length-k;omega)⟩;simp only[hg,hls]
             ((try simp only[ZhB,k1,k2,hna]);refine Yn.sub (by simp[lk,Ya,AV.keys,ZhB,k1,k2,hna]) ?_;simp only[ZhB,k1,k2,hna,Wkl,and_true];(try simp[lk,Yd,Ya,AV.keys,ZhB,k1,k2,hna]))
         · obtain rfl:k=l.length:=(by omega);refine Yc Yb 1000 ?_;simp -implicitDefEqProofs[hb,fcO];refine Z2N Yb 1000 ?_;simp -implicitDefEqProofs[]
           ((try simp only[ZhB,k1,k2,hna]);refine Yn.sub (by simp[lk,Ya,AV.keys,ZhB,k1,k2,hna]) ?_;simp only[ZhB,k1,k2,hna,Wkl,and_true];(try simp[lk,Yd,Ya,AV.keys,ZhB,k1,k2,hna]))
       · have hb:gwB (bsF s w m) (fun x y=>decide (y.ca=x.nu)) l x i k=false:=(by simpa using hb);have e1:=lst' hb (l.length-(i+1)) (by omega) (by omega);rw[e1,gst' hb];refine Yc Yb 1000 ?_;simp -implicitDefEqProofs[hb,fcO];refine Z2N Yb 1000 ?_;simp -implicitDefEqProofs[]
         ((try simp only[ZhB,k1,k2,hna]);refine Yn.sub (by simp[lk,Ya,AV.keys,ZhB,k1,k2,hna]) ?_;simp only[ZhB,k1,k2,hna,Wkl,and_true];(try simp[lk,Yd,Ya,AV.keys,ZhB,k1,k2,hna]))
     refine Yc Yb 1000 ?_;have pm':=pm (gwB (bsF s w m) (fun x y=>decide (y.ca=x.nu)) l x i l.length) (lpK s w m l n i K (l.length-(i+1)));simp -implicitDefEqProofs[fcO,pm'];simp -implicitDefEqProofs[FinB,Yj,newK,ZhD,ZhI,frzA,frz,hF,f1,f2,tupV,Z29,Zg7]
end
theorem ZhL {r:List Iss} {l:List Nte} (h:ZdM r l=true):(l.map (·.nu)).Nodup:=by
 simp only[ZdM,Bool.and_eq_true]at h;have h1:=Zbf.1 h.1.2;rw[List.nodup_iff_pairwise_ne,List.pairwise_map,List.pairwise_iff_getElem];intro i j hi hj hij e;have h2:=h1 j hj;simp only[noteB,Bool.and_eq_true]at h2;have h3:=h2.1.2;simp only[cN7,Bool.not_eq_true',List.any_eq_false]at h3;refine h3 l[i] (List.mem_take_iff_getElem.2 ⟨i,by omega,rfl⟩) ?_;rw[ZdJ hj];simpa using e
theorem ZhM {r:List Iss} {l:List Nte} (h:ZdM r l=true):(opU l).Nodup∧(opU l).length≤12:=by
 refine ⟨?_,?_⟩
 · exact List.Sublist.nodup (by unfold opU opN;rw[List.take_length];exact (List.filter_sublist).map _) (ZhL h)
 · simp only[ZdM,Bool.and_eq_true,decide_eq_true_eq]at h;have:=h.2;unfold opU;rw[List.length_map];omega
section
variable {G:Nat→Option (List AV)}
theorem ZhN (r:List Iss) (l:List Nte):(fileA r l).pure=true:=by unfold fileA opA;split <;> simp[AV.pure,isa,na]
theorem ZhO (ok:Nat→Bool) (st:St) (r:List Iss) (l:List Nte):Yi ok st 6 (fileA r l)=some (fileA r l):=by
 have h:=ZhN r l;unfold fileA at *;simp[Yi,h]
theorem ZhP (r:List Iss) (l:List Nte):(fileA r l).one=true:=by unfold fileA;simp[AV.one,AV.known]
theorem ZhQ (hG:GC G) (hN:GN G) (r:List Iss) (l:List Nte) (hw:WfN l) (hr:Wf r):PC Tryz.prog G 75 [.agg [.vsl (r.map isa),.vsl (l.map na)]] (.int .i64 (chN r l)):=by
 have ho:=Zhi hG hN r l hw hr;unfold opdA at ho
 (refine ZfX rfl fun R hG hrd=>Yc Yb 1000 ?_;subst hG)
 simp -implicitDefEqProofs[ZfV,ZfW]
 (first|refine Ye.of (ho) (by simp) ?_|refine Yf.of (ho) (by simp) ?_)
 simp -implicitDefEqProofs[]
def askA (r:List Iss) (l:List Nte) (s:List Int) (m:Int):AV:=.tup [if asN r l s m=0 then fileA r l else .nilp,.int .i64 (asN r l s m)]
theorem ZhR (hG:GC G) (hN:GN G) (r:List Iss) (l:List Nte) (s:List Int) (m:Int) (hw:WfN l) (hr:Wf r) (hs:Sml s):PC Tryz.prog G 101 [.agg [.vsl (r.map isa),.vsl (l.map na)],.vsl (s.map ia),.int .i64 m] (askA r l s m):=by
 have ho:=Zhi hG hN r l hw hr;have hi:=ZgN (G:=G) 1 999 m;unfold opdA at ho
 (refine Zg3 rfl fun R hG hrd=>Yc Yb 1000 ?_;subst hG)
 unfold askA asN;by_cases h0:chN r l=0
 · have hB:ZdM r l=true:=by
    unfold chN at h0
    split at h0
    · cases q:ZdM r l
      · rw[q]at h0;cases h0
      · rfl
    · rename_i e;exact absurd h0 e
   have hU:=ZhM hB;have ht:=Zhq (G:=R.G) r l s hs hU.1 hU.2;have hp:=ZhN r l;have sn:=fun ok st=>ZhO ok st r l
   have h1:=ZhP r l;rw[if_pos h0,h0]at ho;generalize fileA r l=F at *;simp -implicitDefEqProofs[Zg1,Zg2]
   (first|refine Ye.of (ho) (by simp) ?_|refine Yf.of (ho) (by simp) ?_)
   simp -implicitDefEqProofs[h0];refine Ye.of ht (by simp[hp,AV.pure]) ?_
   cases q:truB l s
   · simp -implicitDefEqProofs[q]
   · simp -implicitDefEqProofs[q]
     (first|refine Ye.of (hi) (by simp) ?_|refine Yf.of (hi) (by simp) ?_)
     cases q2:inR m 1 999
     · simp -implicitDefEqProofs[q2]
     · simp -implicitDefEqProofs[q2,hp,sn]
 · rw[if_neg h0]at ho;simp -implicitDefEqProofs[Zg1,Zg2]
   (first|refine Ye.of (ho) (by simp) ?_|refine Yf.of (ho) (by simp) ?_)
   simp -implicitDefEqProofs[h0]
def ffC:AV:=.func (.func 147) [] [.ptr 9 0,.ptr 4 0,.ptr 5 0,.ptr 6 0,.ptr 7 0,.ptr 10 0]
def ffO (F sV wV:AV) (m:Int):List (Nat×AObj):=[(4,.box [F]),(5,.box [sV]),(6,.box [wV]),(7,.box [.int .i64 m]),(11,.mp []),(9,.box [.mp 11]),(10,.box [ffC])]
def ffK (k:Nat):Bool:=decide (k<1000) && !(k == 4||k == 5||k == 6||k == 7||k == 9||k == 10||k == 11)
theorem ZhS (r:List Iss) (l:List Nte) (ns nw:Bool) (s w:List Int) (m:Int):PB Tryz.prog G 114 [] [fileA r l,liA ns s,liA nw w,.int .i64 m] ffC (ffO (fileA r l) (liA ns s) (liA nw w) m):=by
 have hF:fileA r l = .vptr [.vsl (r.map isa),.vsl (l.map na),.vsl ((nums r).map ia),opA l] 0:=rfl;have hc:∀ (b:Bool) (s:List Int),liA b s = .nils∨liA b s = .vsl (s.map ia):=fun b s=>by unfold liA;split;exact .inl rfl;exact .inr rfl
 refine Z5e ffK (by intro k hk;simp[ffK]at hk;omega) Tryz.func114 rfl (by kernel_rfl) (rc:=Zg4) (by kernel_rfl) (rs:=Zg5) (by kernel_rfl) (Nat.le_of_ble_eq_true rfl) fun R _ hG hrd=>Yc Yb 1000 ?_
 rw[hF];rcases hc ns s with h1|h1 <;> rcases hc nw w with h2|h2 <;> rw[h1,h2]
 · simp -implicitDefEqProofs[Zg4,Zg5];simp -implicitDefEqProofs[FinO,Yj,ffK,ZhI,frzO,frzA,frz,Yk,AV.keys,tupV,Z29,ffC,ffO]
 · simp -implicitDefEqProofs[Zg4,Zg5];simp -implicitDefEqProofs[FinO,Yj,ffK,ZhI,frzO,frzA,frz,Yk,AV.keys,tupV,Z29,ffC,ffO]
 · simp -implicitDefEqProofs[Zg4,Zg5];simp -implicitDefEqProofs[FinO,Yj,ffK,ZhI,frzO,frzA,frz,Yk,AV.keys,tupV,Z29,ffC,ffO]
 · simp -implicitDefEqProofs[Zg4,Zg5];simp -implicitDefEqProofs[FinO,Yj,ffK,ZhI,frzO,frzA,frz,Yk,AV.keys,tupV,Z29,ffC,ffO]
def frK (s w:List Int) (m:Int) (l:List Nte) (i:Nat):List (Int×Bool):=(List.range i).foldl (fun K j=>ifK s w m l l.length j K) []
theorem ZhT {s w:List Int} {m:Int} {l:List Nte} {i:Nat}:frK s w m l (i+1)=ifK s w m l l.length i (frK s w m l i):=by rw[frK,List.range_succ,List.foldl_append];rfl
theorem ZhU {s w:List Int} {m:Int} {l:List Nte}:∀ i,OkK s w m l (frK s w m l i)
 |0=>fun _ _ h=>by cases h
 |i+1=>by rw[ZhT];exact Zhx _ _ (ZhU i)
def fcQ (F sV wV:AV) (m:Int) (K:List (Int×Bool)):List (Nat×AObj) :=
 [(204,.box [F]),(205,.box [sV]),(206,.box [wV]),(207,.box [.int .i64 m]),(211,.mp (mpA AV.bool K)),(209,.box [.mp 211]),(210,.box [.func (.func 147) [] [.ptr 209 0,.ptr 204 0,.ptr 205 0,.ptr 206 0,.ptr 207 0,.ptr 210 0]])]
def fcS (r:List Iss) (l:List Nte) (s:List Int) (m:Int) (i:Nat):St :=
 if fcN s [] m l i=[] then ⟨[(30,.int .i64 i),(29,.int .i64 l.length),(3,.ptr 3 0),(10,.func (.func 147) [] [.ptr 209 0,.ptr 204 0,.ptr 205 0,.ptr 206 0,.ptr 207 0,.ptr 210 0]),(11,.nils)],(3,.box [.vsl (r.map isa),.vsl (l.map na)])::fcQ (fileA r l) (.vsl (s.map ia)) .nils m (frK s [] m l i)⟩
 else ⟨[(30,.int .i64 i),(29,.int .i64 l.length),(3,.ptr 3 0),(10,.func (.func 147) [] [.ptr 209 0,.ptr 204 0,.ptr 205 0,.ptr 206 0,.ptr 207 0,.ptr 210 0]),(11,.osl 44 (fcN s [] m l i).length)],(44,.row 1 ((fcN s [] m l i).map ia))::(3,.box [.vsl (r.map isa),.vsl (l.map na)])::fcQ (fileA r l) (.vsl (s.map ia)) .nils m (frK s [] m l i)⟩
def fcA (r:List Iss) (l:List Nte) (s:List Int) (m:Int):AV:=.tup [Yh ((fcE r l s m).1.map ia),.int .i64 (fcE r l s m).2]
set_option maxHeartbeats 1000000 in
theorem ZhV (hG:GC G) (hN:GN G) (r:List Iss) (l:List Nte) (s:List Int) (m:Int) (hw:WfN l) (hr:Wf r) (hs:Sml s):PC Tryz.prog G 79 [.agg [.vsl (r.map isa),.vsl (l.map na)],.vsl (s.map ia),.int .i64 m] (fcA r l s m):=by
 have ha:=ZhR hG hN r l s m hw hr hs;have hl:=hw.1;unfold Sml at hl;unfold askA at ha;refine Zgb rfl fun R hG hrd=>?_
 subst hG;refine Yc Yb 1000 ?_;unfold fcA fcE;by_cases h0:asN r l s m=0
 · have hB:ZdM r l=true:=by
    unfold asN at h0
    split at h0
    · rename_i h1;unfold chN at h1
      split at h1
      · cases q:ZdM r l
        · rw[q]at h1;cases h1
        · rfl
      · rename_i e;exact absurd h1 e
    · rename_i e;exact absurd h0 e
   have hl12:l.length≤12:=(by simp only[ZdM,Bool.and_eq_true,decide_eq_true_eq]at hB;exact hB.1.1);have hf:=ZhS (G:=R.G) r l false true s [] m;have hI:=fun i hi=>is_pb (G:=R.G) r l false true s [] m hl12 hs (by simp[Sml]) l.length i (frK s [] m l i) hi (by omega) (ZhU i)
   have e1:liA false s = .vsl (s.map ia):=(by simp[liA]);have e2:liA true [] = .nils:=(by simp[liA]);rw[e1,e2]at hf hI;rw[if_pos h0,h0]at ha;rw[if_pos h0];have hp:=ZhN r l;have kF:(fileA r l).keys=[]:=AV.pure_keys _ hp;have rF:=fun ρ=>AV.ren_pure (ρ:=ρ) (fileA r l) hp
   simp -implicitDefEqProofs[Zg9,Zga]
   (first|refine Ye.of (ha) (by simp) ?_|refine Yf.of (ha) (by simp) ?_)
   simp -implicitDefEqProofs[h0];refine Ye.sem (Z1B.objs hf (fun k=>k+200) (by simp[ffO]) (by simp[ffO,St.get,lk]) (by simp[hp,AV.pure]) rfl rfl) ?_;simp -implicitDefEqProofs[Ym,ffO,ffC,AV.ren,AObj.ren,rF];refine ZaV (fcS r l s m) (fun _=>True) l.length ?_ trivial ?_ ?_
   · have e0:fcN s [] m l 0=[]:=(by simp[fcN]);have e3:frK s [] m l 0=[]:=rfl;have e4:mpA AV.bool []=[]:=rfl;simp only[fcS,fcQ,e0,e3,e4,if_true]
     ((try simp only[kF]);refine Yn.sub (by simp[lk,Ya,AV.keys,kF]) ?_;simp only[kF,Wkl,and_true];(try simp[lk,Yd,Ya,AV.keys,kF]))
   · intro i hi _;have hI:=hI i hi;rw[← ZhT]at hI;unfold fcO at hI;have hx:=ZdJ hi;have hnx:na (nAt l i)=[.int .i64 (nAt l i).nu,.int .i64 (nAt l i).dy,.int .u8 (nAt l i).sg,.int .i64 (nAt l i).dr,.int .i64 (nAt l i).lt,.int .i64 (nAt l i).fr,.int .i64 (nAt l i).tu,.int .i64 (nAt l i).ca,.bool (nAt l i).up,.int .u8 (nAt l i).wy]:=rfl;have sc:=ZdS (s:=s) (w:=[]) (m:=m) hi;have bb:((fcN s [] m l i).length+1)*8≤70368744177664:=(by have:=ZdT s [] m l i;omega);have wi:IntKind.i64.wrap ((i:Int)+1)=(i:Int)+1:=Yg (by omega) (by omega);rw[← hx]at sc;generalize hxx:nAt l i=x at *;have hlx:l[i]=x:=hx.symm;have e5:=fun K=>ZhC (fun k=>k-800) K
     have fin:∀ (b:Bool),b=fB s [] m l i→(b=true→fcN s [] m l (i+1)=fcN s [] m l i++[x.nu])∧(b=false→fcN s [] m l (i+1)=fcN s [] m l i):=fun b hb=>by
      subst hb;exact ⟨fun h=>by rw[sc,if_pos h],fun h=>by rw[sc,h];rfl⟩
     refine Yc Yb 1000 ?_;by_cases c:fcN s [] m l i=[]
     case' pos=>simp -implicitDefEqProofs[fcS,fcQ,c,hi]
     case' neg=>simp -implicitDefEqProofs[fcS,fcQ,c,hi]
     all_goals
      refine Ye.sem (Z1B.byref hI (fun k=>k-800) (by simp) (by simp) (by simp[St.get,lk,AV.ren,AObj.ren,ZhC,rF,ia]) (by simp only[List.mem_cons,List.not_mem_nil,or_false,forall_eq_or_imp,forall_eq,ZhB,and_true];simp[lk,Yd,Ya,AV.keys,kF]) (by simp[Ya,AV.keys,lk,rega,fcC]) rfl (by simp[AV.ren,rega,fcC]) rfl rfl) ?_;simp -implicitDefEqProofs[Ym,AV.ren,AObj.ren,ZhC,rF]
      cases hb:fB s [] m l i
      · have e:=(fin false hb.symm).2 rfl;simp -implicitDefEqProofs[wi];simp only[fcS,fcQ,e,c,if_true,if_false]
        ((try simp only[kF]);refine Yn.sub (by simp[lk,Ya,AV.keys,kF]) ?_;simp only[kF,Wkl,ZhB,Zh4,and_true];(try simp[lk,Yd,Ya,AV.keys,kF]))
      · have e:=(fin true hb.symm).1 rfl;have hne:fcN s [] m l (i+1)≠[]:=(by rw[e];simp);simp -implicitDefEqProofs[hi,hlx,hnx,bb,wi];simp only[fcS,fcQ,hne,if_false];have e1:(fcN s [] m l (i+1)).map ia=(fcN s [] m l i).map ia++[[AV.int .i64 x.nu]]:=(by rw[e,List.map_append];rfl);have e2:(fcN s [] m l (i+1)).length=(fcN s [] m l i).length+1:=by rw[e];simp
        first
         |(rw[c,List.nil_append]at e;rw[e];((try simp only[ia,kF]);refine Yn.sub (by simp[lk,Ya,AV.keys,ia,kF]) ?_;simp only[ia,kF,Wkl,ZhB,and_true];(try simp[lk,Yd,Ya,AV.keys,ia,kF]));done)
         |(rw[← e1,e2];((try simp only[kF]);refine Yn.sub (by simp[lk,Ya,AV.keys,kF]) ?_;simp only[kF,Wkl,Zh4,ZhB,and_true];(try simp[lk,Yd,Ya,AV.keys,kF]));done)
   · intro _;refine Yc Yb 1000 ?_;by_cases c:fcN s [] m l l.length=[]
     · simp -implicitDefEqProofs[fcS,fcQ,c];refine Z2N Yb 1000 ?_;simp -implicitDefEqProofs[Yh]
     · simp -implicitDefEqProofs[fcS,fcQ,c];refine Z2N Yb 1000 ?_;simp -implicitDefEqProofs[Yh,c,ia]
 · rw[if_neg h0]at ha;rw[if_neg h0];simp -implicitDefEqProofs[Zg9,Zga]
   (first|refine Ye.of (ha) (by simp) ?_|refine Yf.of (ha) (by simp) ?_)
   simp -implicitDefEqProofs[h0,Yh]
end
def nuI (l:List Nte):List Int:=(opI l l.length).map fun j=>(nAt l j).nu
theorem ZhW {l:List Nte} {n:Int}:n∈nuI l↔n∈opU l:=ZeZ
theorem ZhX (l:List Nte):(nuI l).length=(opI l l.length).length:=List.length_map _
def tkN (l:List Nte) (j:Nat):List (List AV):=((nuI l).take j).map ia
theorem ZhY (o:List (Nat×AObj)) (l:List Nte) (j:Nat):Yd o (.row 1 (tkN l j))=true:=Zh4 o _
theorem ZhZ {l:List Nte} {j:Nat} (h:j≤(nuI l).length):(tkN l j).length=j:=by simp[tkN];omega
theorem Zi0 {l:List Nte}:tkN l (nuI l).length=(nuI l).map ia:=by rw[tkN,List.take_length]
section
variable {G:Nat→Option (List AV)}
theorem Zi1 (nl:Bool) (s:List Int) (n:Int) (h:Sml s):PC Tryz.prog G 115 [liA nl s,.int .i64 n] (.bool (decide (n∈s))):=by
 unfold liA
 split
 · rename_i e;rw[e.2]
   (refine Zeq rfl fun R hG hrd=>Yc Yb 1000 ?_;subst hG)
   simp -implicitDefEqProofs[Zeo,Zep];refine ZaV (fun i=>⟨[(5,.int .i64 i),(0,.nils),(1,.int .i64 n)],[]⟩) (fun i=>True) 0 (by (first|exact Yn.tm (by simp[lk])|exact Yn.sub (by simp[lk,Ya,AV.keys]) (by simp[lk,Yd,Ya,AV.keys]))) trivial (fun i hi=>by omega) ?_;intro _;refine Yc Yb 1000 ?_;simp -implicitDefEqProofs[];refine Z2N Yb 1000 ?_;simp -implicitDefEqProofs[]
 · exact ZeS s n h
def tuS (r:List Iss) (l:List Nte) (s:List Int) (j:Nat):St :=
 if j=0 then ⟨[(7,.int .i64 0),(6,.vsl ((opI l l.length).map ja)),(5,.nils),(2,.ptr 2 0),(1,.vsl (s.map ia))],[(2,.box [.vsl (r.map isa),.vsl (l.map na)])]⟩
 else ⟨[(7,.int .i64 j),(6,.vsl ((opI l l.length).map ja)),(5,.osl 28 j),(2,.ptr 2 0),(1,.vsl (s.map ia))],[(28,.row 1 (tkN l j)),(2,.box [.vsl (r.map isa),.vsl (l.map na)])]⟩
set_option maxHeartbeats 1000000 in
theorem Zi2 (r:List Iss) (l:List Nte) (s:List Int) (hl:l.length≤12) (hs:Sml s):PC Tryz.prog G 82 [.agg [.vsl (r.map isa),.vsl (l.map na)],.vsl (s.map ia)] (.bool (truB l s)):=by
 have ho:=Zfh (G:=G) r l hl;have hh:=fun n=>Zi1 (G:=G) true (nuI l) n (by unfold Sml;rw[ZhX];have:=ZeV l l.length;omega)
 have hln:=ZeV l l.length;have hlt:=ZeX l l.length;have hnl:=ZhX l;have hmem:=fun n=>ZhW (l:=l) (n:=n)
 have hnat:∀ j,(h:j<(opI l l.length).length)→(nuI l)[j]'(by rw[hnl];exact h)=(nAt l (opI l l.length)[j]).nu:=fun j h=>by simp[nuI]
 unfold Sml at hs
 have key : ∀ R:Run,R.G=G→R.Top→∀ (rc:RCode),rc=dropZ 4 Zer→AR Tryz.prog R rc ⟨[(5,liA true (nuI l)),(1,.vsl (s.map ia))],[]⟩ (Fin Zes (.bool (truB l s))):=fun R hG _ rc hrc=>by
  subst hrc;subst hG;refine Yc Yb 1000 ?_;have pN:=ZhE true (nuI l);have kN:=ZhF true (nuI l);simp -implicitDefEqProofs[dropZ,Zer];generalize liA true (nuI l)=nV at *;refine ZaV (fun i=>⟨[(8,.int .i64 i),(5,nV),(1,.vsl (s.map ia))],[]⟩) (fun i=>∀ j,j<i→s.getD j 0∈opU l∧(0<j→s.getD (j-1) 0<s.getD j 0)) s.length ?_ (fun j hj=>by omega) ?_ ?_
  · ((try simp only[kN]);refine Yn.sub (by simp[lk,Ya,AV.keys,kN]) ?_;simp only[kN,Wkl,and_true];(try simp[lk,Yd,Ya,AV.keys,kN]))
  · intro i hi hI;refine Yc Yb 1000 ?_;have wi:IntKind.i64.wrap ((i:Int)+1)=(i:Int)+1:=Yg (by omega) (by omega);have eg:∀ j,∀ hj:j<s.length,s.getD j 0=s[j]:=fun j hj=>by simp[List.getD_eq_getElem?_getD,hj]
    have no:¬(s[i]∈opU l∧(0<i→s.getD (i-1) 0<s[i]))→truB l s=false:=fun h=>by
     cases q:truB l s
     · rfl
     · have h2:=Zhm.1 q i hi;rw[eg i hi]at h2;exact absurd h2 h
    have yes:(s[i]∈opU l∧(0<i→s.getD (i-1) 0<s[i]))→∀ j,j<i+1→s.getD j 0∈opU l∧(0<j→s.getD (j-1) 0<s.getD j 0):=fun h j hj=>by
     rcases Nat.lt_or_ge j i with h4|h4
     · exact hI j h4
     · obtain rfl:j=i:=(by omega);rw[eg j hi];exact h
    have hh:=hh s[i];have hmm:=hmem s[i];by_cases hm:s[i]∈opU l
    · have d:decide (s[i]∈nuI l)=true:=(by simpa using hmm.2 hm);rw[d]at hh
      cases i with
      | zero =>
        have w1:IntKind.i64.wrap 1=1:=rfl;have h1:=yes ⟨hm,fun h=>by omega⟩;simp -implicitDefEqProofs[hi,ia];refine Yf.of hh (by simp[pN,AV.pure]) ?_;simp -implicitDefEqProofs[w1,kN];refine ⟨rfl,?_,?_⟩
        · ((try simp only[kN]);refine Yn.sub (by simp[lk,Ya,AV.keys,kN]) ?_;simp only[kN,Wkl,and_true];(try simp[lk,Yd,Ya,AV.keys,kN]))
        · simpa using h1
      | succ k =>
        have hk:k<s.length:=(by omega);have k1:(k:Int)+1<s.length:=(by omega);have k2:((k:Int)+1).toNat=k+1:=(by omega);have k3:(0:Int)≤(k:Int)+1:=(by omega);have k4:(0:Int)<(k:Int)+1:=(by omega);have wk2:IntKind.i64.wrap (k:Int)=(k:Int):=Yg (by omega) (by omega);have wk3:IntKind.i64.wrap ((k:Int)+1+1)=(k:Int)+1+1:=Yg (by omega) (by omega);have eg:s.getD (k+1-1) 0=s[k]:=(by simp[List.getD_eq_getElem?_getD,hk]);rw[eg]at no yes;simp -implicitDefEqProofs[hi,hk,ia,k1,k2,k3,k4];refine Yf.of hh (by simp[pN,AV.pure]) ?_;by_cases hlt:s[k+1]≤s[k]
        · have hB:=no fun h=>by have:=h.2 (by omega);omega
          simp -implicitDefEqProofs[hi,hk,ia,k1,k2,k3,k4,wk2,hlt,kN];refine ⟨rfl,?_⟩;refine Z2N Yb 1000 ?_;simp -implicitDefEqProofs[hB,Zes]
        · have h1:=yes ⟨hm,fun _=>by omega⟩;simp -implicitDefEqProofs[hi,hk,ia,k1,k2,k3,k4,wk2,wk3,hlt,kN];refine ⟨rfl,?_,h1⟩
          ((try simp only[kN]);refine Yn.sub (by simp[lk,Ya,AV.keys,kN]) ?_;simp only[kN,Wkl,and_true];(try simp[lk,Yd,Ya,AV.keys,kN]))
    · have d:decide (s[i]∈nuI l)=false:=by simpa using fun h=>hm (hmm.1 h)
      rw[d]at hh;have hB:=no fun h=>hm h.1
      simp -implicitDefEqProofs[hi,ia];refine Yf.of hh (by simp[pN,AV.pure]) ?_;simp -implicitDefEqProofs[kN];refine ⟨rfl,?_⟩;refine Z2N Yb 1000 ?_;simp -implicitDefEqProofs[hB,Zes]
  · intro hI;have hB:=Zhm.2 hI;refine Yc Yb 1000 ?_;simp -implicitDefEqProofs[];refine Z2N Yb 1000 ?_;simp -implicitDefEqProofs[hB,Zes]
 refine Zet rfl fun R hG hrd=>?_
 subst hG;refine Yc Yb 9 ?_;simp -implicitDefEqProofs[Zer]
 (first|refine Ye.of (ho) (by simp) ?_|refine Yf.of (ho) (by simp) ?_)
 simp -implicitDefEqProofs[];have key:=key R rfl hrd _ rfl;unfold Yh;by_cases c:opI l l.length=[]
 · have c':nuI l=[]:=(by rw[nuI,c];rfl);have e2:liA true (nuI l) = .nils:=(by rw[c'];simp[liA]);rw[e2]at key;refine Z2L Yb 1000 ?_;simp -implicitDefEqProofs[c];refine ZaV (fun i=>⟨[(7,.int .i64 i),(6,.nils),(5,.nils),(1,.vsl (s.map ia))],[]⟩) (fun _=>True) 0 ?_ trivial (fun i hi=>by omega) ?_
   · (refine Yn.sub (by simp[lk,Ya,AV.keys]) ?_;simp only[Wkl,and_true];(try simp[lk,Yd,Ya,AV.keys]))
   · intro _;refine Yc Yb 1000 ?_;simp -implicitDefEqProofs[];refine Z2N Yb 2 ?_;simp -implicitDefEqProofs[];refine GOz (Z2M ?_ key)
     (refine Yn.sub (by simp[lk,Ya,AV.keys]) ?_;simp only[Wkl,and_true];(try simp[lk,Yd,Ya,AV.keys]))
 · have c':nuI l≠[]:=fun h=>c (List.map_eq_nil_iff.1 h)
   have e2:liA true (nuI l) = .vsl ((nuI l).map ia):=(by simp[liA,c']);rw[e2]at key;refine Z2L Yb 1000 ?_;simp -implicitDefEqProofs[c];refine ZaV (tuS r l s) (fun _=>True) (nuI l).length ?_ trivial ?_ ?_
   · simp only[tuS,if_true]
     (refine Yn.sub (by simp[lk,Ya,AV.keys]) ?_;simp only[Wkl,and_true];(try simp[lk,Yd,Ya,AV.keys]))
   · intro j hj _;have hj':j<(opI l l.length).length:=(by omega);have wj:IntKind.i64.wrap ((j:Int)+1)=(j:Int)+1:=Yg (by omega) (by omega);have hna:=hnat j hj';have hkl:=(hlt _ (List.getElem_mem hj')).1;have tk:=List.take_succ_eq_append_getElem hj;have tl:=ZhZ (l:=l) (j:=j) (by omega);rw[hna]at tk;have tk:tkN l (j+1)=tkN l j++[[.int .i64 (nAt l (opI l l.length)[j]).nu]]:=(by unfold tkN;rw[tk,List.map_append];rfl);generalize hkk:(opI l l.length)[j]=k at *;have hlk:l[k]=nAt l k:=(ZdJ hkl).symm;have hnk:na (nAt l k)=[.int .i64 (nAt l k).nu,.int .i64 (nAt l k).dy,.int .u8 (nAt l k).sg,.int .i64 (nAt l k).dr,.int .i64 (nAt l k).lt,.int .i64 (nAt l k).fr,.int .i64 (nAt l k).tu,.int .i64 (nAt l k).ca,.bool (nAt l k).up,.int .u8 (nAt l k).wy]:=rfl;have bb:((j:Int)+1)*8≤70368744177664:=(by omega);have bb2:(j+1)*8≤70368744177664:=(by omega);refine Yc Yb 1000 ?_
     cases j with
     | zero =>
       have w1:IntKind.i64.wrap 1=1:=rfl;simp -implicitDefEqProofs[tuS,hj',hkk,ja,hkl,hlk,hnk,w1];refine ⟨rfl,?_⟩;have e0:tkN l 0=[]:=(by simp[tkN]);rw[e0,List.nil_append]at tk;rw[tk]
       ((try simp only[ja]);refine Yn.sub (by simp[lk,Ya,AV.keys,ja]) ?_;simp only[ja,Wkl,and_true];(try simp[lk,Yd,Ya,AV.keys,ja]))
     | succ i =>
       have k1:(i:Int)+1<(opI l l.length).length:=(by omega);have wk3:IntKind.i64.wrap ((i:Int)+1+1)=(i:Int)+1+1:=Yg (by omega) (by omega);have k2:((i:Int)+1).toNat=i+1:=(by omega);have k3:(0:Int)≤(i:Int)+1:=(by omega);simp -implicitDefEqProofs[tuS,hj',hkk,ja,hkl,hlk,hnk,tl,bb,bb2,k1,k2,k3,wk3];refine ⟨rfl,?_⟩;rw[← tk]
       ((try simp only[ja]);refine Yn.sub (by simp[lk,Ya,AV.keys,ja]) ?_;simp only[ja,Wkl,ZhY,and_true];(try simp[lk,Yd,Ya,AV.keys,ja]))
   · intro _;refine Yc Yb 1000 ?_;simp -implicitDefEqProofs[tuS,hnl,c];refine Z2N Yb 2 ?_;simp -implicitDefEqProofs[];refine GOz (Z2M (Yn.trans (Yn.frz (fun k=>k == 28) _) ?_) key);rw[← hnl,Zi0]
     ((try simp only[Yj,frzA,frzO,frz,Yi,Yk,St.get,ia]);refine Yn.sub (by simp[lk,Ya,AV.keys,Yj,frzA,frzO,frz,Yi,Yk,St.get,ia]) ?_;simp only[Yj,frzA,frzO,frz,Yi,Yk,St.get,ia,Wkl,and_true];(try simp[lk,Yd,Ya,AV.keys,Yj,frzA,frzO,frz,Yi,Yk,St.get,ia]))
def rbK (f:Nat→Bool) (n k:Nat):List Bool:=(List.range n).map fun j=>decide (k≤j)&&f j
theorem Zi3 {f:Nat→Bool} {n k:Nat}:(rbK f n k).length=n:=by simp[rbK]
theorem Zi4 {f:Nat→Bool} {n k j:Nat} (h:k≤j) (h2:j<n):(rbK f n k)[j]? = some (f j):=by
 rw[List.getElem?_eq_getElem (by rw[Zi3];exact h2)];simp[rbK,h]
theorem Zi5 {f:Nat→Bool} {n k:Nat}:(rbK f n (k+1)).set k (f k)=rbK f n k:=by
 refine List.ext_getElem (by simp[rbK]) fun j h1 h2=>?_
 rw[List.getElem_set]
 split
 · rename_i e;subst e;simp[rbK]
 · rename_i e;have:decide (k+1≤j)=decide (k≤j):=(by rw[decide_eq_decide];omega);simp only[rbK,List.getElem_map,List.getElem_range,this]
def ba (b:Bool):List AV:=[.bool b]
theorem Zi6 (o:List (Nat×AObj)) (l:List Bool):Yd o (.row 1 (l.map ba))=true:=by
 simp only[Yd,List.all_eq_true,List.mem_map];rintro x ⟨y,-,rfl⟩ v hv;simp only[ba,List.mem_singleton]at hv;subst hv;simp[Ya,AV.keys]
theorem Zi7 {f:Nat→Bool} {n:Nat}:(rbK f n n).map ba=List.replicate n [.bool false]:=by
 refine List.ext_getElem (by simp[rbK]) fun j h1 h2=>?_
 have:¬n≤j:=(by simp at h2;omega);simp[rbK,ba,this]
set_option maxHeartbeats 2000000 in
theorem Zi8 (r:List Iss) (l:List Nte) (ns nw:Bool) (s w:List Int) (m:Int) (hl:l.length≤12) (hs:Sml s) (hw:Sml w) :
  PC Tryz.prog G 116 [.agg [.vsl (r.map isa),.vsl (l.map na)],liA ns s,liA nw w,.int .i64 m] (.vsl ((rbK (fB s w m l) l.length 0).map ba)):=by
 have c1:=fun n=>Zi1 (G:=G) ns s n hs
 have c2:=fun n=>Zi1 (G:=G) nw w n hw
 have c3:=fun n lo hi=>ZeR (G:=G) n lo hi
 have k1:=ZhF ns s;have k2:=ZhF nw w;have p1:=ZhE ns s;have p2:=ZhE nw w;generalize liA ns s=sV at *;generalize liA nw w=wV at *;refine Zew rfl fun R hG hrd=>?_
 subst hG;refine Yc Yb 1000 ?_;have b1:(l.length:Int)≤16777216:=(by omega);have rep:=Zi7 (f:=fB s w m l) (n:=l.length);have rln:=fun k=>Zi3 (f:=fB s w m l) (n:=l.length) (k:=k)
 have w0:IntKind.i64.wrap ((l.length:Int)-1)=(l.length:Int)-1:=Yg (by omega) (by omega);simp -implicitDefEqProofs[Zeu,Zev,b1,← rep,w0];refine Z1Q (fun k:Nat=>⟨[(10,.int .i64 ((k:Int)-1)),(9,.osl 17 l.length),(4,.ptr 4 0),(1,sV),(2,wV),(3,.int .i64 m)],[(17,.row 1 ((rbK (fB s w m l) l.length k).map ba)),(4,.box [.vsl (r.map isa),.vsl (l.map na)])]⟩) (fun k=>k≤l.length) (fun k=>k) l.length ?_ (Nat.le_refl _) ?_
 · ((try simp only[k1,k2]);refine Yn.sub (by simp[lk,Ya,AV.keys,k1,k2]) ?_;simp only[k1,k2,Wkl,Zi6,and_true];(try simp[lk,Yd,Ya,AV.keys,k1,k2]))
 · intro k hk
   cases k with
   | zero =>
     have rl0:=rln 0;refine Yc Yb 1000 ?_;simp -implicitDefEqProofs[];refine Z2N Yb 1000 ?_;simp -implicitDefEqProofs[ba,rl0]
   | succ k =>
     have hi:k<l.length:=hk;have hx:=ZdJ hi;have hnx:na (nAt l k)=[.int .i64 (nAt l k).nu,.int .i64 (nAt l k).dy,.int .u8 (nAt l k).sg,.int .i64 (nAt l k).dr,.int .i64 (nAt l k).lt,.int .i64 (nAt l k).fr,.int .i64 (nAt l k).tu,.int .i64 (nAt l k).ca,.bool (nAt l k).up,.int .u8 (nAt l k).wy]:=rfl;have fe:=ZdP (p:=bsF s w m) (h:=fun x y:Nte=>decide (y.ca=x.nu)) hi;rw[← hx]at fe;have gb:=ZdQ (p:=bsF s w m) (h:=fun x y:Nte=>decide (y.ca=x.nu)) (l:=l) (x:=nAt l k) (i:=k);have gs:=fun j=>ZdR (p:=bsF s w m) (h:=fun x y:Nte=>decide (y.ca=x.nu)) (l:=l) (x:=nAt l k) (i:=k) (k:=j)
     have fbs:fB s w m l k=gwB (bsF s w m) (fun x y=>decide (y.ca=x.nu)) l (nAt l k) k l.length:=fe;have rat:=fun j (h:k+1≤j) (h2:j<l.length)=>Zi4 (f:=fB s w m l) h h2
     have rst:=Zi5 (f:=fB s w m l) (n:=l.length) (k:=k);have rln1:=rln (k+1);rw[fbs]at rst;have c1:=c1 (nAt l k).nu;have c2:=c2 (nAt l k).nu;have c3:=c3 m (nAt l k).fr (nAt l k).tu;have w1:IntKind.i64.wrap ((k:Int)+1)=((k+1:Nat):Int):=Yg (by omega) (by omega);generalize hxx:nAt l k=x at *;have hlx:l[k]=x:=hx.symm;generalize hQQ:rbK (fB s w m l) l.length (k+1)=Q at *;refine Yc Yb 13 ?_;simp -implicitDefEqProofs[hi,hlx,hnx];refine Zf5 (S:=⟨[(10,.int .i64 k),(11,.ptr 11 0),(12,.bool (bsF s w m x)),(9,.osl 17 l.length),(4,.ptr 4 0),(1,sV),(2,wV),(3,.int .i64 m)],[(11,.box (na x)),(17,.row 1 (Q.map ba)),(4,.box [.vsl (r.map isa),.vsl (l.map na)])]⟩) (Yc Yb 1000 ?_) ?_
     · unfold bsF;by_cases e1:x.sg=2
       · simp -implicitDefEqProofs[hnx,e1];refine Ye.of c2 (by simp[p2,AV.pure]) ?_;by_cases e2:x.nu∈w
         · simp -implicitDefEqProofs[e2]
           ((try simp only[k1,k2,hnx]);refine Yn.sub (by simp[lk,Ya,AV.keys,k1,k2,hnx]) ?_;simp only[k1,k2,hnx,Wkl,Zi6,and_true];(try simp[lk,Yd,Ya,AV.keys,k1,k2,hnx]))
         · simp -implicitDefEqProofs[e2]
           (first|refine Ye.of (c3) (by simp) ?_|refine Yf.of (c3) (by simp) ?_)
           simp -implicitDefEqProofs[]
           ((try simp only[k1,k2,hnx]);refine Yn.sub (by simp[lk,Ya,AV.keys,k1,k2,hnx]) ?_;simp only[k1,k2,hnx,Wkl,Zi6,and_true];(try simp[lk,Yd,Ya,AV.keys,k1,k2,hnx]))
       · simp -implicitDefEqProofs[hnx,e1];refine Ye.of c1 (by simp[p1,AV.pure]) ?_;by_cases e3:x.nu∈s
         · simp -implicitDefEqProofs[e3];refine Ye.of c2 (by simp[p2,AV.pure]) ?_;by_cases e2:x.nu∈w
           · simp -implicitDefEqProofs[e2]
             ((try simp only[k1,k2,hnx]);refine Yn.sub (by simp[lk,Ya,AV.keys,k1,k2,hnx]) ?_;simp only[k1,k2,hnx,Wkl,Zi6,and_true];(try simp[lk,Yd,Ya,AV.keys,k1,k2,hnx]))
           · simp -implicitDefEqProofs[e2]
             (first|refine Ye.of (c3) (by simp) ?_|refine Yf.of (c3) (by simp) ?_)
             simp -implicitDefEqProofs[]
             ((try simp only[k1,k2,hnx]);refine Yn.sub (by simp[lk,Ya,AV.keys,k1,k2,hnx]) ?_;simp only[k1,k2,hnx,Wkl,Zi6,and_true];(try simp[lk,Yd,Ya,AV.keys,k1,k2,hnx]))
         · simp -implicitDefEqProofs[e3]
           ((try simp only[k1,k2,hnx]);refine Yn.sub (by simp[lk,Ya,AV.keys,k1,k2,hnx]) ?_;simp only[k1,k2,hnx,Wkl,Zi6,and_true];(try simp[lk,Yd,Ya,AV.keys,k1,k2,hnx]))
     rw[← gb];refine Yc Yb 1000 ?_;simp -implicitDefEqProofs[w1];refine Z1Q (fun p:Nat=>⟨[(13,.int .i64 (p:Int)),(10,.int .i64 k),(11,.ptr 11 0),(12,.bool (gwB (bsF s w m) (fun x y=>decide (y.ca=x.nu)) l x k p)),(9,.osl 17 l.length),(4,.ptr 4 0),(1,sV),(2,wV),(3,.int .i64 m)],[(11,.box (na x)),(17,.row 1 (Q.map ba)),(4,.box [.vsl (r.map isa),.vsl (l.map na)])]⟩) (fun p=>k+1≤p∧p≤l.length) (fun p=>l.length-p) (k+1) ?_ ⟨Nat.le_refl _,hi⟩ ?_
     · ((try simp only[k1,k2,hnx]);refine Yn.sub (by simp[lk,Ya,AV.keys,k1,k2,hnx]) ?_;simp only[k1,k2,hnx,Wkl,Zi6,and_true];(try simp[lk,Yd,Ya,AV.keys,k1,k2,hnx]))
     · rintro p ⟨hp1,hp2⟩;refine Yc Yb 1000 ?_;rcases Nat.lt_or_ge p l.length with h5|h5
       · have hrat:=rat p hp1 h5;obtain ⟨q1,g1⟩:=List.getElem?_eq_some_iff.1 hrat;have hg:=gs p (by omega) h5;have hy:=ZdJ h5;have hny:na (nAt l p)=[.int .i64 (nAt l p).nu,.int .i64 (nAt l p).dy,.int .u8 (nAt l p).sg,.int .i64 (nAt l p).dr,.int .i64 (nAt l p).lt,.int .i64 (nAt l p).fr,.int .i64 (nAt l p).tu,.int .i64 (nAt l p).ca,.bool (nAt l p).up,.int .u8 (nAt l p).wy]:=rfl;have w2:IntKind.i64.wrap ((p:Int)+1)=(p:Int)+1:=Yg (by omega) (by omega);rw[← hy]at hg;replace hg:_=(_ && !(fB s w m l p&&_)):=hg;generalize hyy:nAt l p=y at *;have hly:l[p]=y:=hy.symm;generalize fB s w m l p=fb at *
         cases hb:gwB (bsF s w m) (fun x y=>decide (y.ca=x.nu)) l x k p
         · rw[hb,Bool.false_and]at hg;simp -implicitDefEqProofs[hb,h5,hnx,w2];refine ⟨rfl,p+1,?_,⟨by omega,h5⟩,(by show l.length-(p+1)<l.length-p;omega)⟩;simp only[hg]
           ((try simp only[k1,k2,hnx]);refine Yn.sub (by simp[lk,Ya,AV.keys,k1,k2,hnx]) ?_;simp only[k1,k2,hnx,Wkl,Zi6,and_true];(try simp[lk,Yd,Ya,AV.keys,k1,k2,hnx]))
         · rw[hb,Bool.true_and]at hg
           cases fb
           · rw[Bool.false_and,Bool.not_false]at hg;simp -implicitDefEqProofs[hb,h5,hnx,w2,rln1,g1,ba];refine ⟨rfl,p+1,?_,⟨by omega,h5⟩,(by show l.length-(p+1)<l.length-p;omega)⟩;simp only[hg]
             ((try simp only[k1,k2,hnx]);refine Yn.sub (by simp[lk,Ya,AV.keys,k1,k2,hnx]) ?_;simp only[k1,k2,hnx,Wkl,Zi6,and_true];(try simp[lk,Yd,Ya,AV.keys,k1,k2,hnx]))
           · rw[Bool.true_and]at hg;simp -implicitDefEqProofs[hb,h5,hnx,w2,rln1,g1,ba,hly,hny];refine ⟨rfl,p+1,?_,⟨by omega,h5⟩,(by show l.length-(p+1)<l.length-p;omega)⟩;simp only[hg]
             ((try simp only[k1,k2,hnx]);refine Yn.sub (by simp[lk,Ya,AV.keys,k1,k2,hnx]) ?_;simp only[k1,k2,hnx,Wkl,Zi6,and_true];(try simp[lk,Yd,Ya,AV.keys,k1,k2,hnx]))
       · obtain rfl:p=l.length:=(by omega);simp -implicitDefEqProofs[];refine Z2N Yb 1000 ?_;have e1:∀ b:Bool,[AV.bool b]=ba b:=fun _=>rfl
         have wk:IntKind.i64.wrap ((k:Int)-1)=(k:Int)-1:=Yg (by omega) (by omega);simp -implicitDefEqProofs[hi,rln1,ba,wk];refine Z2N Yb 1000 ?_;simp -implicitDefEqProofs[wk];refine ⟨k,?_,by omega,Nat.lt_succ_self _⟩;simp only[e1];rw[← List.map_set,rst]
         ((try simp only[k1,k2,hnx]);refine Yn.sub (by simp[lk,Ya,AV.keys,k1,k2,hnx]) ?_;simp only[k1,k2,hnx,Wkl,Zi6,and_true];(try simp[lk,Yd,Ya,AV.keys,k1,k2,hnx]))
end
theorem Zi9 {r:List Iss} {l:List Nte} (h:chN r l=0):ZdM r l=true:=by
 unfold chN at h
 split at h
 · cases q:ZdM r l
   · rw[q]at h;cases h
   · rfl
 · rename_i e;exact absurd h e
theorem Zia {r:List Iss} {l:List Nte} {s:List Int} {m:Int} (h:asN r l s m=0):chN r l=0∧truB l s=true∧inR m 1 999=true:=by
 unfold asN at h
 split at h
 · rename_i h1
   split at h
   · rename_i h2
     split at h
     · rename_i h3;exact ⟨h1,h2,h3⟩
     · cases h
   · cases h
 · rename_i e;exact absurd h e
theorem Zib {r:List Iss} {l:List Nte} (h:ZdM r l=true):l.length≤12:=by simp only[ZdM,Bool.and_eq_true,decide_eq_true_eq]at h;exact h.1.1
section
variable {G:Nat→Option (List AV)}
theorem Zic (r:List Iss) (l:List Nte) (s:List Int) (m:Int) (hw:WfN l) (hr:Wf r) (hs:Sml s):PC Tryz.prog G 104 [.agg [.vsl (r.map isa),.vsl (l.map na)],.vsl (s.map ia),.int .i64 m] (.int .i64 (asN r l s m)):=by
 have hc:=Zf4 (G:=G) r l hw hr;have hi:=ZeR (G:=G) m 1 999
 (refine Zez rfl fun R hG hrd=>Yc Yb 1000 ?_;subst hG)
 unfold asN;by_cases h0:chN r l=0
 · have ht:=Zi2 (G:=R.G) r l s (Zib (Zi9 h0)) hs;simp -implicitDefEqProofs[Zex,Zey]
   (first|refine Ye.of (hc) (by simp) ?_|refine Yf.of (hc) (by simp) ?_)
   simp -implicitDefEqProofs[h0]
   (first|refine Ye.of (ht) (by simp) ?_|refine Yf.of (ht) (by simp) ?_)
   cases q:truB l s
   · simp -implicitDefEqProofs[]
   · simp -implicitDefEqProofs[]
     (first|refine Ye.of (hi) (by simp) ?_|refine Yf.of (hi) (by simp) ?_)
     cases q2:inR m 1 999
     · simp -implicitDefEqProofs[]
     · simp -implicitDefEqProofs[]
 · simp -implicitDefEqProofs[Zex,Zey]
   (first|refine Ye.of (hc) (by simp) ?_|refine Yf.of (hc) (by simp) ?_)
   simp -implicitDefEqProofs[h0]
def foS3 (r:List Iss) (l:List Nte) (s:List Int) (m:Int) (i:Nat):St :=
 if fcN s [] m l i=[] then ⟨[(11,.int .i64 i),(10,.vsl ((rbK (fB s [] m l) l.length 0).map ba)),(9,.nils),(3,.ptr 3 0)],[(3,.box [.vsl (r.map isa),.vsl (l.map na)])]⟩
 else ⟨[(11,.int .i64 i),(10,.vsl ((rbK (fB s [] m l) l.length 0).map ba)),(9,.osl 41 (fcN s [] m l i).length),(3,.ptr 3 0)],[(41,.row 1 ((fcN s [] m l i).map ia)),(3,.box [.vsl (r.map isa),.vsl (l.map na)])]⟩
set_option maxHeartbeats 1000000 in
theorem Zid (r:List Iss) (l:List Nte) (s:List Int) (m:Int) (hw:WfN l) (hr:Wf r) (hs:Sml s):PC Tryz.prog G 84 [.agg [.vsl (r.map isa),.vsl (l.map na)],.vsl (s.map ia),.int .i64 m] (fcA r l s m):=by
 have ha:=Zic (G:=G) r l s m hw hr hs;refine ZeC rfl fun R hG hrd=>?_
 subst hG;refine Yc Yb 1000 ?_;unfold fcA fcE;by_cases h0:asN r l s m=0
 · have hl12:=Zib (Zi9 (Zia h0).1);have hf:=Zi8 (G:=R.G) r l false true s [] m hl12 hs (by simp[Sml]);have e1:liA false s = .vsl (s.map ia):=(by simp[liA]);have e2:liA true [] = .nils:=(by simp[liA]);rw[e1,e2]at hf;rw[h0]at ha;rw[if_pos h0];simp -implicitDefEqProofs[ZeA,ZeB]
   (first|refine Ye.of (ha) (by simp) ?_|refine Yf.of (ha) (by simp) ?_)
   simp -implicitDefEqProofs[]
   (first|refine Ye.of (hf) (by simp) ?_|refine Yf.of (hf) (by simp) ?_)
   simp -implicitDefEqProofs[];refine ZaV (foS3 r l s m) (fun _=>True) l.length ?_ trivial ?_ ?_
   · have e0:fcN s [] m l 0=[]:=(by simp[fcN]);simp only[foS3,e0,if_true]
     ((try simp only[ba]);refine Yn.sub (by simp[lk,Ya,AV.keys,ba]) ?_;simp only[ba,Wkl,and_true];(try simp[lk,Yd,Ya,AV.keys,ba]))
   · intro i hi _;have hrat:=Zi4 (f:=fB s [] m l) (Nat.zero_le i) hi;have rl0:=Zi3 (f:=fB s [] m l) (n:=l.length) (k:=0);obtain ⟨q1,g1⟩:=List.getElem?_eq_some_iff.1 hrat;have hx:=ZdJ hi;have hnx:na (nAt l i)=[.int .i64 (nAt l i).nu,.int .i64 (nAt l i).dy,.int .u8 (nAt l i).sg,.int .i64 (nAt l i).dr,.int .i64 (nAt l i).lt,.int .i64 (nAt l i).fr,.int .i64 (nAt l i).tu,.int .i64 (nAt l i).ca,.bool (nAt l i).up,.int .u8 (nAt l i).wy]:=rfl;have sc:=ZdS (s:=s) (w:=[]) (m:=m) hi;have bb:((fcN s [] m l i).length+1)*8≤70368744177664:=(by have:=ZdT s [] m l i;omega);have wi:IntKind.i64.wrap ((i:Int)+1)=(i:Int)+1:=Yg (by omega) (by omega);rw[← hx]at sc;have hlx:l[i]=nAt l i:=hx.symm;have hff:∀ b,fB s [] m l i=b→True:=fun _ _=>trivial
     cases hb:fB s [] m l i
     · rw[hb]at sc g1;have e:fcN s [] m l (i+1)=fcN s [] m l i:=sc;by_cases c:fcN s [] m l i=[]
       all_goals
        refine Yc Yb 1000 ?_;simp only[foS3,c,if_true,if_false];simp -implicitDefEqProofs[hi,rl0,g1,ba,wi];simp only[foS3,e,c,if_true,if_false]
        (refine Yn.sub (by simp[lk,Ya,AV.keys]) ?_;simp only[Wkl,Zi6,Zh4,and_true];(try simp[lk,Yd,Ya,AV.keys]))
     · rw[hb]at sc g1;have e:fcN s [] m l (i+1)=fcN s [] m l i++[(nAt l i).nu]:=sc;have hne:fcN s [] m l (i+1)≠[]:=(by rw[e];simp);by_cases c:fcN s [] m l i=[]
       all_goals
        refine Yc Yb 1000 ?_;simp only[foS3,c,if_true,if_false];simp -implicitDefEqProofs[hi,rl0,g1,ba,wi,hlx,hnx,bb];simp only[foS3,hne,if_false];have e1:(fcN s [] m l (i+1)).map ia=(fcN s [] m l i).map ia++[[AV.int .i64 (nAt l i).nu]]:=(by rw[e,List.map_append];rfl);have e2:(fcN s [] m l (i+1)).length=(fcN s [] m l i).length+1:=by rw[e];simp
        first
         |(rw[c,List.nil_append]at e;rw[e];((try simp only[ia]);refine Yn.sub (by simp[lk,Ya,AV.keys,ia]) ?_;simp only[ia,Wkl,and_true];(try simp[lk,Yd,Ya,AV.keys,ia]));done)
         |(rw[← e1,e2];(refine Yn.sub (by simp[lk,Ya,AV.keys]) ?_;simp only[Wkl,Zh4,and_true];(try simp[lk,Yd,Ya,AV.keys]));done)
   · intro _;have rl0:=Zi3 (f:=fB s [] m l) (n:=l.length) (k:=0);refine Yc Yb 1000 ?_;by_cases c:fcN s [] m l l.length=[]
     · simp -implicitDefEqProofs[foS3,c,rl0];refine Z2N Yb 1000 ?_;simp -implicitDefEqProofs[Yh]
     · simp -implicitDefEqProofs[foS3,c,rl0];refine Z2N Yb 1000 ?_;simp -implicitDefEqProofs[Yh,c,ia]
 · rw[if_neg h0];simp -implicitDefEqProofs[ZeA,ZeB]
   (first|refine Ye.of (ha) (by simp) ?_|refine Yf.of (ha) (by simp) ?_)
   simp -implicitDefEqProofs[h0,Yh]
end
section
variable {G:Nat→Option (List AV)}
theorem Zie (n lo hi:Int):PC Tryz.prog G 43 [.int .i64 n,.int .i64 lo,.int .i64 hi] (.bool (inR n lo hi)):=by
 (refine Z7O rfl fun R hG hrd=>Yc Yb 1000 ?_;subst hG)
 by_cases h1:lo≤n <;> by_cases h2:n≤hi <;> simp -implicitDefEqProofs[Z7M,Z7N,inR,h1,h2]
theorem Zif (l:List Int) (n:Int) (h:Sml l):PC Tryz.prog G 85 [.vsl (l.map ia),.int .i64 n] (.bool (decide (n∈l))):=by
 (refine Z7R rfl fun R hG hrd=>Yc Yb 1000 ?_;subst hG)
 unfold Sml at h;simp -implicitDefEqProofs[Z7P,Z7Q];refine ZaV (fun i=>⟨[(5,.int .i64 i),(0,.vsl (l.map ia)),(1,.int .i64 n)],[]⟩) (fun i=>∀ j (h:j<l.length),j<i→¬l[j]=n) l.length (by (first|exact Yn.tm (by simp[lk])|exact Yn.sub (by simp[lk,Ya,AV.keys]) (by simp[lk,Yd,Ya,AV.keys]))) (by simp) ?_ ?_
 · intro i hi he;refine Yc Yb 1000 ?_;have w1:IntKind.i64.wrap ((i:Int)+1)=(i:Int)+1:=Yg (by omega) (by omega);by_cases e:l[i]=n
   · have hm:n∈l:=e ▸ List.getElem_mem hi;simp -implicitDefEqProofs[hi,ia,e];refine Z2N Yb 1000 ?_;simp -implicitDefEqProofs[hm]
   · simp -implicitDefEqProofs[hi,ia,e,w1];refine ⟨by (first|exact Yn.tm (by simp[lk])|exact Yn.sub (by simp[lk,Ya,AV.keys]) (by simp[lk,Yd,Ya,AV.keys])),fun j hj hji=>?_⟩;rcases Nat.lt_or_ge j i with h2|h2
     · exact he j hj h2
     · obtain rfl:j=i:=(by omega);exact e
 · intro he;refine Yc Yb 1000 ?_
   have hm:¬n∈l:=fun hm=>by
    obtain ⟨j,hj,e⟩:=List.getElem_of_mem hm;exact he j hj hj e
   simp -implicitDefEqProofs[];refine Z2N Yb 1000 ?_;simp -implicitDefEqProofs[hm]
theorem Zig (r:List Iss) (d l:Int) (hr:Sml r):PC Tryz.prog G 93 [.agg [.vsl (r.map isa)],.agg [.int .i64 d,.int .i64 l]] (.bool (knB r d l)):=by
 have hf:=Zbe (G:=G) r d l hr;rw[rega]at hf;unfold knB
 (refine Z7U rfl fun R hG hrd=>Yc Yb 1000 ?_;subst hG)
 cases q:findN d l r with
 | some y =>
   rw[q]at hf;simp -implicitDefEqProofs[Z7S,Z7T]
   (first|refine Ye.of (hf) (by simp) ?_|refine Yf.of (hf) (by simp) ?_)
   simp -implicitDefEqProofs[fndA,isa]
 | none =>
   rw[q]at hf;simp -implicitDefEqProofs[Z7S,Z7T]
   (first|refine Ye.of (hf) (by simp) ?_|refine Yf.of (hf) (by simp) ?_)
   simp -implicitDefEqProofs[fndA,noIs]
theorem Zih {x y:Nte} (h:x≠y):(!decide (x.nu=y.nu)||(!decide (x.dy=y.dy)||(!decide (x.sg=y.sg)||(!decide (x.dr=y.dr)||(!decide (x.lt=y.lt)||(!decide (x.fr=y.fr)||(!decide (x.tu=y.tu)||(!decide (x.ca=y.ca)||(!(x.up == y.up) || !decide (x.wy=y.wy))))))))))=true:=by
 cases q:(!decide (x.nu=y.nu)||(!decide (x.dy=y.dy)||(!decide (x.sg=y.sg)||(!decide (x.dr=y.dr)||(!decide (x.lt=y.lt)||(!decide (x.fr=y.fr)||(!decide (x.tu=y.tu)||(!decide (x.ca=y.ca)||(!(x.up == y.up) || !decide (x.wy=y.wy))))))))))
 · refine absurd ?_ h;simp at q
   cases x;cases y;simp_all
 · rfl
theorem Zii {x y:Rul} (h:x≠y):(!decide (x.nu=y.nu)||(!decide (x.dy=y.dy)||(!decide (x.fd=y.fd)||(!decide (x.fl=y.fl)||(!decide (x.td=y.td)||(!decide (x.tl=y.tl)||(!(x.bo == y.bo) || !decide (x.br=y.br))))))))=true:=by
 cases q:(!decide (x.nu=y.nu)||(!decide (x.dy=y.dy)||(!decide (x.fd=y.fd)||(!decide (x.fl=y.fl)||(!decide (x.td=y.td)||(!decide (x.tl=y.tl)||(!(x.bo == y.bo) || !decide (x.br=y.br))))))))
 · refine absurd ?_ h;simp at q
   cases x;cases y;simp_all
 · rfl
theorem Zij (a b:List Iss) (l k:List Nte) (ha:SmlR a) (hl:Sml l):PC Tryz.prog G 52 [.agg [.vsl (a.map isa),.vsl (l.map na)],.agg [.vsl (b.map isa),.vsl (k.map na)]] (.bool (decide (a=b∧l=k))):=by
 have hs:=Zb7 (G:=G) a b ha;rw[rega,rega]at hs;unfold Sml at hl
 (refine ZeF rfl fun R hG hrd=>Yc Yb 1000 ?_;subst hG)
 simp -implicitDefEqProofs[ZeD,ZeE]
 (first|refine Ye.of (hs) (by simp) ?_|refine Yf.of (hs) (by simp) ?_)
 by_cases h1:a=b
 · by_cases h2:l.length=k.length
   · have h2':(l.length:Int)=k.length:=(by omega);simp -implicitDefEqProofs[h1,h2'];refine ZaV (fun i=>⟨[(5,.int .i64 i),(2,.ptr 2 0),(3,.ptr 3 0)],[(2,.box [.vsl (b.map isa),.vsl (l.map na)]),(3,.box [.vsl (b.map isa),.vsl (k.map na)])]⟩) (fun i=>∀ j (h:j<l.length),j<i→l[j]=k[j]) l.length (by subst h1;(first|exact Yn.tm (by simp[lk])|exact Yn.sub (by simp[lk,Ya,AV.keys]) (by simp[lk,Yd,Ya,AV.keys]))) (by simp) ?_ ?_
     · intro i hi he;have hi2:i<k.length:=(by omega);have w1:IntKind.i64.wrap ((i:Int)+1)=(i:Int)+1:=Yg (by omega) (by omega);refine Yc Yb 1000 ?_;by_cases h2:l[i]=k[i]
       · simp -implicitDefEqProofs[hi,hi2,na,w1,h2];refine ⟨rfl,by (first|exact Yn.tm (by simp[lk])|exact Yn.sub (by simp[lk,Ya,AV.keys]) (by simp[lk,Yd,Ya,AV.keys])),fun j h1 h3=>?_⟩;by_cases e:j=i
         · subst e;exact h2
         · exact he j h1 (by omega)
       · have h3:¬l=k:=fun e=>h2 (by subst e;rfl)
         have ne:=Zih h2;simp -implicitDefEqProofs[hi,hi2,na,w1,ne];refine ⟨rfl,?_⟩;refine Z2N Yb 1000 ?_;simp -implicitDefEqProofs[h3]
     · intro he;have h3:l=k:=List.ext_getElem h2 fun j h1 h2=>he j h1 h1
       refine Yc Yb 1000 ?_;simp -implicitDefEqProofs[];refine Z2N Yb 1000 ?_;simp -implicitDefEqProofs[h3,h1]
   · have h2':¬(l.length:Int)=k.length:=(by omega);have h3:¬l=k:=fun e=>h2 (by rw[e])
     simp -implicitDefEqProofs[h1,h2',h3]
 · simp -implicitDefEqProofs[h1]
theorem Zik (r:List Iss) (l:List Nte) (h:Sml r):PC Tryz.prog G 38 [.agg [.vsl (r.map isa),.vsl (l.map na)]] (.bool (Zb9 r||decide (16<l.length))):=by
 have hg:=Zbd (G:=G) r h;rw[rega]at hg
 (refine ZeL rfl fun R hG hrd=>Yc Yb 1000 ?_;subst hG)
 simp -implicitDefEqProofs[ZeJ,ZeK]
 (first|refine Ye.of (hg) (by simp) ?_|refine Yf.of (hg) (by simp) ?_)
 cases q:Zb9 r
 · have e:decide ((16:Int)<l.length)=decide (16<l.length):=(by rw[decide_eq_decide];omega);simp -implicitDefEqProofs[e]
 · simp -implicitDefEqProofs[]
theorem Zil (r:List Iss) (l:List Nte) (q:List Rul) (h:Sml r):PC Tryz.prog G 7 [swa r l q] (.bool (Zb9 r||decide (16<l.length)||decide (20<q.length))):=by
 have hg:=Zik (G:=G) r l h
 (refine Z8o rfl fun R hG hrd=>Yc Yb 1000 ?_;subst hG)
 simp -implicitDefEqProofs[Z8m,Z8n,swa]
 (first|refine Ye.of (hg) (by simp) ?_|refine Yf.of (hg) (by simp) ?_)
 cases h1:(Zb9 r||decide (16<l.length))
 · have e:decide ((20:Int)<q.length)=decide (20<q.length):=(by rw[decide_eq_decide];omega);simp -implicitDefEqProofs[e]
 · simp -implicitDefEqProofs[]
theorem Zim (r:List Iss) (l:List Nte) (hr:SmlR r) (hl:Sml l):PC Tryz.prog G 39 [.agg [.vsl (r.map isa),.vsl (l.map na)]] (.agg [.vsl (r.map isa),.vsl (l.map na)]):=by
 have ht:=ZdI (G:=G) r hr;rw[rega]at ht;unfold Sml at hl
 (refine ZeI rfl fun R hG hrd=>Yc Yb 1000 ?_;subst hG)
 by_cases h0:l=[]
 · simp -implicitDefEqProofs[ZeG,ZeH,h0]
   (first|refine Ye.of (ht) (by simp) ?_|refine Yf.of (ht) (by simp) ?_)
   simp -implicitDefEqProofs[h0]
   try rfl
 · have b2:l.length*72≤70368744177664:=(by omega);simp -implicitDefEqProofs[ZeG,ZeH,h0]
   (first|refine Ye.of (ht) (by simp) ?_|refine Yf.of (ht) (by simp) ?_)
   simp -implicitDefEqProofs[h0,na,b2]
   try rfl
theorem Zin (r:List Iss) (l:List Nte) (q:List Rul) (hr:SmlR r) (hl:Sml l) (hq:Sml q):PC Tryz.prog G 8 [swa r l q] (swa r l q):=by
 have ht:=Zim (G:=G) r l hr hl;unfold Sml at hq
 (refine Z8l rfl fun R hG hrd=>Yc Yb 1000 ?_;subst hG)
 by_cases h0:q=[]
 · simp -implicitDefEqProofs[Z8j,Z8k,h0,swa]
   (first|refine Ye.of (ht) (by simp) ?_|refine Yf.of (ht) (by simp) ?_)
   simp -implicitDefEqProofs[h0]
   try rfl
 · have b2:q.length*64≤70368744177664:=(by omega);simp -implicitDefEqProofs[Z8j,Z8k,h0,swa]
   (first|refine Ye.of (ht) (by simp) ?_|refine Yf.of (ht) (by simp) ?_)
   simp -implicitDefEqProofs[h0,ra,b2]
   try rfl
theorem Zio (a b:List Iss) (l k:List Nte) (q p:List Rul) (ha:SmlR a) (hl:Sml l) (hq:Sml q):PC Tryz.prog G 17 [swa a l q,swa b k p] (.bool (decide ((a=b∧l=k)∧q=p))):=by
 have hs:=Zij (G:=G) a b l k ha hl;unfold Sml at hq
 (refine Z8i rfl fun R hG hrd=>Yc Yb 1000 ?_;subst hG)
 simp -implicitDefEqProofs[Z8g,Z8h,swa]
 (first|refine Ye.of (hs) (by simp) ?_|refine Yf.of (hs) (by simp) ?_)
 by_cases h1:a=b∧l=k
 · by_cases h2:q.length=p.length
   · have h2':(q.length:Int)=p.length:=(by omega);simp -implicitDefEqProofs[h1,h2'];refine ZaV (fun i=>⟨[(5,.int .i64 i),(2,.ptr 2 0),(3,.ptr 3 0)],[(2,.box [.vsl (b.map isa),.vsl (k.map na),.vsl (q.map ra)]),(3,.box [.vsl (b.map isa),.vsl (k.map na),.vsl (p.map ra)])]⟩) (fun i=>∀ j (h:j<q.length),j<i→q[j]=p[j]) q.length (by (first|exact Yn.tm (by simp[lk])|exact Yn.sub (by simp[lk,Ya,AV.keys]) (by simp[lk,Yd,Ya,AV.keys]))) (by simp) ?_ ?_
     · intro i hi he;have hi2:i<p.length:=(by omega);have w1:IntKind.i64.wrap ((i:Int)+1)=(i:Int)+1:=Yg (by omega) (by omega);refine Yc Yb 1000 ?_;by_cases h2:q[i]=p[i]
       · simp -implicitDefEqProofs[hi,hi2,ra,w1,h2];refine ⟨rfl,by (first|exact Yn.tm (by simp[lk])|exact Yn.sub (by simp[lk,Ya,AV.keys]) (by simp[lk,Yd,Ya,AV.keys])),fun j h1 h3=>?_⟩;by_cases e:j=i
         · subst e;exact h2
         · exact he j h1 (by omega)
       · have h3:¬q=p:=fun e=>h2 (by subst e;rfl)
         have ne:=Zii h2;simp -implicitDefEqProofs[hi,hi2,ra,w1,ne];refine ⟨rfl,?_⟩;refine Z2N Yb 1000 ?_;simp -implicitDefEqProofs[h3]
     · intro he;have h3:q=p:=List.ext_getElem h2 fun j h1 h2=>he j h1 h1
       refine Yc Yb 1000 ?_;simp -implicitDefEqProofs[];refine Z2N Yb 1000 ?_;simp -implicitDefEqProofs[h3,h1]
   · have h2':¬(q.length:Int)=p.length:=(by omega);have h3:¬q=p:=fun e=>h2 (by rw[e])
     simp -implicitDefEqProofs[h1,h2',h3]
 · have h1':decide (a=b∧l=k)=false:=decide_eq_false h1;have h1'':¬(a=b∧l=k∧q=p):=fun h=>h1 ⟨h.1,h.2.1⟩
   simp -implicitDefEqProofs[h1',h1'',h1]
end
section
variable {G:Nat→Option (List AV)}
set_option maxHeartbeats 2000000 in
theorem Zip (r:List Iss) (l:List Nte) (q:List Rul) (i:Nat) (hi:i<q.length) (hq:Sml q) (hr:Sml r):PC Tryz.prog G 88 [swa r l q,.int .i64 i] (.bool (ruleB r q i)):=by
 unfold Sml at hq;have hx:=Ze7 hi;obtain ⟨x,hxx⟩ : ∃ x,x=q[i]:=⟨_,rfl⟩;rw[← hxx]at hx;have hlx:q[i]=x:=hxx.symm;have hra:ra x=[.int .i64 x.nu,.int .i64 x.dy,.int .i64 x.fd,.int .i64 x.fl,.int .i64 x.td,.int .i64 x.tl,.bool x.bo,.int .i64 x.br]:=rfl;have hk1:=Zig (G:=G) r x.fd x.fl hr;have hk2:=Zig (G:=G) r x.td x.tl hr;refine Z7X rfl fun R hG hrd=>?_
 subst hG;unfold Z7V swa;refine ZeP (S:=⟨[(1,.int .i64 i),(2,.ptr 2 0)],[(2,.box [.vsl (r.map isa),.vsl (l.map na),.vsl (q.map ra)])]⟩) (Yc Yb 1000 ?_) ?_
 · simp -implicitDefEqProofs[]
   (refine Yn.sub (by simp[lk,Ya,AV.keys]) ?_;simp only[Wkl,and_true];(try simp[lk,Yd,Ya,AV.keys]))
 refine ZeP (S:=⟨[(1,.int .i64 i),(2,.ptr 2 0),(5,.ptr 5 0)],[(2,.box [.vsl (r.map isa),.vsl (l.map na),.vsl (q.map ra)]),(5,.box (ra x))]⟩) (Yc Yb 1000 ?_) ?_
 · simp -implicitDefEqProofs[hi,hlx,hra]
   ((try simp only[hra]);refine Yn.sub (by simp[lk,Ya,AV.keys,hra]) ?_;simp only[hra,Wkl,and_true];(try simp[lk,Yd,Ya,AV.keys,hra]))
 refine ZeQ (S:=⟨[(1,.int .i64 i),(2,.ptr 2 0),(5,.ptr 5 0)],[(2,.box [.vsl (r.map isa),.vsl (l.map na),.vsl (q.map ra)]),(5,.box (ra x))]⟩) (Q:=cR1 x=true) (Yc Yb 1000 ?_) ?_
 · simp -implicitDefEqProofs[hra]
   (first|refine Ye.of (Zie x.nu 1 9999) (by simp) ?_|refine Yf.of (Zie x.nu 1 9999) (by simp) ?_)
   cases h1:inR x.nu 1 9999
   · have e:ruleB r q i=false:=(by simp[ruleB,hx,cR1,h1]);simp -implicitDefEqProofs[e,Z7W]
   simp -implicitDefEqProofs[]
   (first|refine Ye.of (Zie x.dy 0 14610) (by simp) ?_|refine Yf.of (Zie x.dy 0 14610) (by simp) ?_)
   cases h2:inR x.dy 0 14610
   · have e:ruleB r q i=false:=(by simp[ruleB,hx,cR1,h2]);simp -implicitDefEqProofs[e,Z7W]
   simp -implicitDefEqProofs[];refine ⟨?_,by rw[cR1,h1,h2];rfl⟩
   ((try simp only[hra]);refine Yn.sub (by simp[lk,Ya,AV.keys,hra]) ?_;simp only[hra,Wkl,and_true];(try simp[lk,Yd,Ya,AV.keys,hra]))
 intro k1;refine ZeP (S:=⟨[(1,.int .i64 i),(2,.ptr 2 0),(5,.ptr 5 0),(6,.ptr 6 0)],[(2,.box [.vsl (r.map isa),.vsl (l.map na),.vsl (q.map ra)]),(5,.box (ra x)),(6,.box [.int .i64 0,.int .i64 0])]⟩) (Yc Yb 1000 ?_) ?_
 · simp -implicitDefEqProofs[]
   ((try simp only[hra]);refine Yn.sub (by simp[lk,Ya,AV.keys,hra]) ?_;simp only[hra,Wkl,and_true];(try simp[lk,Yd,Ya,AV.keys,hra]))
 refine ZeQ (S:=⟨[(1,.int .i64 i),(2,.ptr 2 0),(5,.ptr 5 0)],[(2,.box [.vsl (r.map isa),.vsl (l.map na),.vsl (q.map ra)]),(5,.box (ra x))]⟩) (Q:=cR2 r x=true) (Yc Yb 1000 ?_) ?_
 · by_cases hz:x.fd=0∧x.fl=0∧x.td=0∧x.tl=0
   · obtain ⟨z1,z2,z3,z4⟩:=hz;have e2:cR2 r x=(!x.bo && !decide (x.br=0)):=by rw[cR2,if_pos ⟨z1,z2,z3,z4⟩]
     cases hb:x.bo
     · by_cases hc:x.br=0
       · have e:ruleB r q i=false:=(by simp[ruleB,hx,e2,hc]);simp -implicitDefEqProofs[hra,z1,z2,z3,z4,hb,hc,e,Z7W]
       · simp -implicitDefEqProofs[hra,z1,z2,z3,z4,hb,hc];refine ⟨?_,by simp[e2,hb,hc]⟩
         ((try simp only[hra,z1,z2,z3,z4,hb]);refine Yn.sub (by simp[lk,Ya,AV.keys,hra,z1,z2,z3,z4,hb]) ?_;simp only[hra,z1,z2,z3,z4,hb,Wkl,and_true];(try simp[lk,Yd,Ya,AV.keys,hra,z1,z2,z3,z4,hb]))
     · have e:ruleB r q i=false:=(by simp[ruleB,hx,e2,hb]);simp -implicitDefEqProofs[hra,z1,z2,z3,z4,hb,e,Z7W]
   · have e2 : cR2 r x=(!decide (x.fd=x.td∧x.fl=x.tl)&&knB r x.fd x.fl&&knB r x.td x.tl):=(by rw[cR2,if_neg hz]);have e2f:cR2 r x=false→ruleB r q i=false:=fun h=>by simp[ruleB,hx,h]
     have nb:∀ (p1 p2:Prop) [Decidable p1] [Decidable p2],¬(p1∧p2)→(decide p1&&decide p2)=false∧(!decide p1 || !decide p2)=true:=fun p1 p2 _ _ h=>by
      by_cases a:p1
      · have b:¬p2:=fun b=>h ⟨a,b⟩
        simp[a,b]
      · simp[a]
     by_cases f1:x.fd=0∧x.fl=0
     · have f0:¬(x.td=0∧x.tl=0):=fun h=>hz ⟨f1.1,f1.2,h.1,h.2⟩
       have f2:=nb _ _ f0;have f3:=nb (0=x.td) (0=x.tl) fun h=>f0 ⟨h.1.symm,h.2.symm⟩
       have f5:decide (x.fd=x.td∧x.fl=x.tl)=false:=decide_eq_false fun h=>f0 ⟨h.1.symm.trans f1.1,h.2.symm.trans f1.2⟩
       rw[f5,Bool.not_false,Bool.true_and]at e2;rw[f1.1,f1.2]at hk1 e2;simp -implicitDefEqProofs[hra,f1.1,f1.2,f2.1,f2.2,f3.1,f3.2]
       (first|refine Ye.of (hk1) (by simp) ?_|refine Yf.of (hk1) (by simp) ?_)
       cases h1:knB r 0 0
       · have e:=e2f (by rw[e2,h1];rfl);simp -implicitDefEqProofs[e,Z7W]
       · simp -implicitDefEqProofs[hra,f1.1,f1.2]
         (first|refine Ye.of (hk2) (by simp) ?_|refine Yf.of (hk2) (by simp) ?_)
         cases h2:knB r x.td x.tl
         · have e:=e2f (by rw[e2,h2,Bool.and_false]);simp -implicitDefEqProofs[e,Z7W]
         · simp -implicitDefEqProofs[];refine ⟨?_,by rw[e2,h1,h2];rfl⟩
           ((try simp only[hra,f1.1,f1.2]);refine Yn.sub (by simp[lk,Ya,AV.keys,hra,f1.1,f1.2]) ?_;simp only[hra,f1.1,f1.2,Wkl,and_true];(try simp[lk,Yd,Ya,AV.keys,hra,f1.1,f1.2]))
     · have f2:=nb _ _ f1;by_cases f4:x.fd=x.td∧x.fl=x.tl
       · have e:=e2f (by rw[e2,decide_eq_true f4];rfl);simp -implicitDefEqProofs[hra,f2.1,f2.2];rw[← f4.1,← f4.2];simp -implicitDefEqProofs[e,Z7W]
       · have f5:=nb _ _ f4;rw[decide_eq_false f4,Bool.not_false,Bool.true_and]at e2;simp -implicitDefEqProofs[hra,f2.1,f2.2,f5.1,f5.2]
         (first|refine Ye.of (hk1) (by simp) ?_|refine Yf.of (hk1) (by simp) ?_)
         cases h1:knB r x.fd x.fl
         · have e:=e2f (by rw[e2,h1];rfl);simp -implicitDefEqProofs[e,Z7W]
         · simp -implicitDefEqProofs[hra]
           (first|refine Ye.of (hk2) (by simp) ?_|refine Yf.of (hk2) (by simp) ?_)
           cases h2:knB r x.td x.tl
           · have e:=e2f (by rw[e2,h2,Bool.and_false]);simp -implicitDefEqProofs[e,Z7W]
           · simp -implicitDefEqProofs[];refine ⟨?_,by rw[e2,h1,h2];rfl⟩
             ((try simp only[hra]);refine Yn.sub (by simp[lk,Ya,AV.keys,hra]) ?_;simp only[hra,Wkl,and_true];(try simp[lk,Yd,Ya,AV.keys,hra]))
 intro k2;have en:ruleB r q i=(cR3 q i x&&cR4 q i x&&cR5 q i x):=(by rw[ruleB,hx,k1,k2];rfl);rw[en];refine Yc Yb 1000 ?_;simp -implicitDefEqProofs[hra]
 refine ZaV (fun k=>⟨[(8,.int .i64 k),(7,.bool (decide (x.br=0)||(q.take k).any fun y=>decide (y.nu=x.br))),(1,.int .i64 i),(2,.ptr 2 0),(5,.ptr 5 0)],[(2,.box [.vsl (r.map isa),.vsl (l.map na),.vsl (q.map ra)]),(5,.box (ra x))]⟩)
  (fun k=>((q.take k).any fun y=>decide (y.nu=x.nu))=false) i ?_ (by simp) ?_ ?_
 · ((try simp only[hra,List.take_zero,List.any_nil,Bool.or_false]);refine Yn.sub (by simp[lk,Ya,AV.keys,hra,List.take_zero,List.any_nil,Bool.or_false]) ?_;simp only[hra,List.take_zero,List.any_nil,Bool.or_false,Wkl,and_true];(try simp[lk,Yd,Ya,AV.keys,hra,List.take_zero,List.any_nil,Bool.or_false]))
 · intro k hk hI;refine Yc Yb 1000 ?_;have hkl:k<q.length:=(by omega);have wk:IntKind.i64.wrap ((k:Int)+1)=(k:Int)+1:=Yg (by omega) (by omega);have a1:=ZeM hkl fun y=>decide (y.nu=x.nu)
   have a2:=ZeM hkl fun y=>decide (y.nu=x.br)
   have hnk:ra q[k]=[.int .i64 q[k].nu,.int .i64 q[k].dy,.int .i64 q[k].fd,.int .i64 q[k].fl,.int .i64 q[k].td,.int .i64 q[k].tl,.bool q[k].bo,.int .i64 q[k].br]:=rfl;by_cases e:q[k].nu=x.nu
   · have h7:cR3 q i x=false:=by
      have:((q.take i).any fun y=>decide (y.nu=x.nu))=true:=List.any_eq_true.2 ⟨q[k],by rw[List.mem_take_iff_getElem];exact ⟨k,by omega,rfl⟩,by simp[e]⟩;rw[cR3,this];rfl
     simp -implicitDefEqProofs[hk,hkl,hra,hnk,e];refine ⟨rfl,?_⟩;refine Z2N Yb 1000 ?_;simp -implicitDefEqProofs[h7,Z7W]
   · have hI2:((q.take (k+1)).any fun y=>decide (y.nu=x.nu))=false:=by rw[a1,hI];simp[e]
     cases hB:(decide (x.br=0)||(q.take k).any fun y=>decide (y.nu=x.br))
     · have hB2:(decide (x.br=0)||(q.take (k+1)).any fun y=>decide (y.nu=x.br))=decide (q[k].nu=x.br):=(by rw[a2,← Bool.or_assoc,hB];simp);simp -implicitDefEqProofs[hk,hkl,hra,hnk,e,hB,wk];refine ⟨rfl,rfl,?_,by simpa using hI2⟩
       ((try simp only[hra,hB2]);refine Yn.sub (by simp[lk,Ya,AV.keys,hra,hB2]) ?_;simp only[hra,hB2,Wkl,and_true];(try simp[lk,Yd,Ya,AV.keys,hra,hB2]))
     · have hB2:(decide (x.br=0)||(q.take (k+1)).any fun y=>decide (y.nu=x.br))=true:=(by rw[a2,← Bool.or_assoc,hB];rfl);simp -implicitDefEqProofs[hk,hkl,hra,hnk,e,hB,wk];refine ⟨rfl,rfl,?_,by simpa using hI2⟩
       ((try simp only[hra,hB2]);refine Yn.sub (by simp[lk,Ya,AV.keys,hra,hB2]) ?_;simp only[hra,hB2,Wkl,and_true];(try simp[lk,Yd,Ya,AV.keys,hra,hB2]))
 · intro hI;refine Yc Yb 1000 ?_;have h7:cR3 q i x=true:=(by rw[cR3,hI];rfl);have h6:(decide (x.br=0)||(q.take i).any fun y=>decide (y.nu=x.br))=cR4 q i x:=rfl;rw[h6]
   cases i with
   | zero =>
     simp -implicitDefEqProofs[hra];refine Z2N Yb 1000 ?_;simp -implicitDefEqProofs[h7,cR5,Z7W]
   | succ k =>
     have hkl:k<q.length:=(by omega);have w1:IntKind.i64.wrap ((k:Int)+1-1)=(k:Int):=(by rw[Yg (by omega) (by omega)];omega);have w2:IntKind.i64.wrap (k:Int)=(k:Int):=Yg (by omega) (by omega);have i0:¬(k:Int)+1=0:=(by omega);have ek:=Ze7 hkl;have hnk:ra q[k]=[.int .i64 q[k].nu,.int .i64 q[k].dy,.int .i64 q[k].fd,.int .i64 q[k].fl,.int .i64 q[k].td,.int .i64 q[k].tl,.bool q[k].bo,.int .i64 q[k].br]:=rfl;have e8:cR5 q (k+1) x=(decide (q[k].dy<x.dy)||(decide (q[k].dy=x.dy)&&decide (q[k].nu<x.nu))):=(by rw[cR5,ek]);rw[e8]
     cases h6:cR4 q (k+1) x
     · simp -implicitDefEqProofs[hra];refine Z2N Yb 1000 ?_;simp -implicitDefEqProofs[h7,i0,w1,w2,hkl,hnk,hra,h6,Z7W]
     by_cases q1:q[k].dy<x.dy
     · simp -implicitDefEqProofs[hra];refine Z2N Yb 1000 ?_;simp -implicitDefEqProofs[h7,i0,w1,w2,hkl,hnk,hra,q1,h6,Z7W]
     by_cases q2:q[k].dy=x.dy
     · have q1':¬x.dy<x.dy:=(by omega);simp -implicitDefEqProofs[hra];refine Z2N Yb 1000 ?_;simp -implicitDefEqProofs[h7,i0,w1,w2,hkl,hnk,hra,q2,h6,Z7W]
     · simp -implicitDefEqProofs[hra];refine Z2N Yb 1000 ?_;simp -implicitDefEqProofs[h7,i0,w1,w2,hkl,hnk,hra,q1,q2,h6,Z7W]
end
section
variable {G:Nat→Option (List AV)}
theorem Ziq (r:List Iss) (l:List Nte) (q:List Rul) (hq:Sml q) (hr:Sml r):PC Tryz.prog G 51 [swa r l q] (.bool (Ze8 r q)):=by
 (refine Z80 rfl fun R hG hrd=>Yc Yb 1000 ?_;subst hG)
 by_cases h0:16<q.length
 · have h0':(16:Int)<q.length:=by omega
   have e:Ze8 r q=false:=by
    have:¬q.length≤16:=(by omega);simp[Ze8,this]
   simp -implicitDefEqProofs[Z7Y,Z7Z,swa,h0',e]
 · have h0':¬(16:Int)<q.length:=(by omega);have h16:q.length≤16:=(by omega);simp -implicitDefEqProofs[Z7Y,Z7Z,swa,h0'];refine ZaV (fun i=>⟨[(3,.int .i64 i),(1,.ptr 1 0)],[(1,.box [.vsl (r.map isa),.vsl (l.map na),.vsl (q.map ra)])]⟩) (fun i=>∀ j,j<i→ruleB r q j=true) q.length (by (first|exact Yn.tm (by simp[lk])|exact Yn.sub (by simp[lk,Ya,AV.keys]) (by simp[lk,Yd,Ya,AV.keys]))) (fun j hj=>by omega) ?_ ?_
   · intro i hi he;have w1:IntKind.i64.wrap ((i:Int)+1)=(i:Int)+1:=Yg (by omega) (by omega);have hc:=Zip (G:=R.G) r l q i hi hq hr;unfold swa at hc;refine Yc Yb 1000 ?_;simp -implicitDefEqProofs[hi]
     (first|refine Ye.of (hc) (by simp) ?_|refine Yf.of (hc) (by simp) ?_)
     cases h:ruleB r q i
     · have e:Ze8 r q=false:=by
        cases h2:Ze8 r q
        · rfl
        · simp only[Ze8,Bool.and_eq_true]at h2;have:=Zbf.1 h2.2 i hi;rw[h]at this;cases this
       simp -implicitDefEqProofs[];refine Z2N Yb 1000 ?_;simp -implicitDefEqProofs[e]
     · simp -implicitDefEqProofs[w1];refine ⟨by (first|exact Yn.tm (by simp[lk])|exact Yn.sub (by simp[lk,Ya,AV.keys]) (by simp[lk,Yd,Ya,AV.keys])),fun j hj=>?_⟩;rcases Nat.lt_or_ge j i with h4|h4
       · exact he j h4
       · obtain rfl:j=i:=(by omega);exact h
   · intro he
     have e:Ze8 r q=true:=by
      simp only[Ze8,Bool.and_eq_true,decide_eq_true_eq];exact ⟨h16,Zbf.2 he⟩
     refine Yc Yb 1000 ?_;simp -implicitDefEqProofs[];refine Z2N Yb 1000 ?_;simp -implicitDefEqProofs[e]
theorem Zir (r:List Iss) (l:List Nte) (q:List Rul) (hw:WfN l) (hr:Wf r) (hq:Sml q):PC Tryz.prog G 14 [swa r l q] (.int .i64 (chS r l q)):=by
 have hc:=Zf4 (G:=G) r l hw hr;have hS:=Ziq (G:=G) r l q hq hr.1.1;unfold swa at hS
 (refine Z83 rfl fun R hG hrd=>Yc Yb 1000 ?_;subst hG)
 unfold chS;by_cases h0:chN r l=0
 · rw[h0]at hc;simp -implicitDefEqProofs[Z81,Z82,swa]
   (first|refine Ye.of (hc) (by simp) ?_|refine Yf.of (hc) (by simp) ?_)
   simp -implicitDefEqProofs[]
   (first|refine Ye.of (hS) (by simp) ?_|refine Yf.of (hS) (by simp) ?_)
   cases h1:Ze8 r q
   · simp -implicitDefEqProofs[h0]
   · simp -implicitDefEqProofs[h0]
 · simp -implicitDefEqProofs[Z81,Z82,swa]
   (first|refine Ye.of (hc) (by simp) ?_|refine Yf.of (hc) (by simp) ?_)
   simp -implicitDefEqProofs[h0]
set_option maxHeartbeats 2000000 in
theorem Zis (r:List Iss) (l:List Nte) (q:List Rul) (day:Int) (hl:q.length≤16) :
  PC Tryz.prog G 44 [swa r l q,.int .i64 day] (.vsl ((rbK (sB day q) q.length 0).map ba)):=by
 refine Z86 rfl fun R hG hrd=>?_
 subst hG;refine Yc Yb 1000 ?_;have b1:(q.length:Int)≤16777216:=(by omega);have rep:=Zi7 (f:=sB day q) (n:=q.length);have rln:=fun k=>Zi3 (f:=sB day q) (n:=q.length) (k:=k)
 have w0:IntKind.i64.wrap ((q.length:Int)-1)=(q.length:Int)-1:=Yg (by omega) (by omega);simp -implicitDefEqProofs[Z84,Z85,swa,b1,← rep,w0];refine Z1Q (fun k:Nat=>⟨[(6,.int .i64 ((k:Int)-1)),(5,.osl 12 q.length),(2,.ptr 2 0),(1,.int .i64 day)],[(12,.row 1 ((rbK (sB day q) q.length k).map ba)),(2,.box [.vsl (r.map isa),.vsl (l.map na),.vsl (q.map ra)])]⟩) (fun k=>k≤q.length) (fun k=>k) q.length ?_ (Nat.le_refl _) ?_
 · (refine Yn.sub (by simp[lk,Ya,AV.keys]) ?_;simp only[Wkl,Zi6,and_true];(try simp[lk,Yd,Ya,AV.keys]))
 · intro k hk
   cases k with
   | zero =>
     have rl0:=rln 0;refine Yc Yb 1000 ?_;simp -implicitDefEqProofs[];refine Z2N Yb 1000 ?_;simp -implicitDefEqProofs[ba,rl0]
   | succ k =>
     have hi:k<q.length:=hk;have hx:=Ze7 hi;have hnx:ra (rAt q k)=[.int .i64 (rAt q k).nu,.int .i64 (rAt q k).dy,.int .i64 (rAt q k).fd,.int .i64 (rAt q k).fl,.int .i64 (rAt q k).td,.int .i64 (rAt q k).tl,.bool (rAt q k).bo,.int .i64 (rAt q k).br]:=rfl;have fe:=ZdP (p:=fun x:Rul=>decide (x.dy≤day)) (h:=fun x y:Rul=>decide (y.br=x.nu)) hi;rw[← hx]at fe;have gb:=ZdQ (p:=fun x:Rul=>decide (x.dy≤day)) (h:=fun x y:Rul=>decide (y.br=x.nu)) (l:=q) (x:=rAt q k) (i:=k);have gs:=fun j=>ZdR (p:=fun x:Rul=>decide (x.dy≤day)) (h:=fun x y:Rul=>decide (y.br=x.nu)) (l:=q) (x:=rAt q k) (i:=k) (k:=j)
     have fbs:sB day q k=gwB (fun x:Rul=>decide (x.dy≤day)) (fun x y=>decide (y.br=x.nu)) q (rAt q k) k q.length:=fe;have rat:=fun j (h:k+1≤j) (h2:j<q.length)=>Zi4 (f:=sB day q) h h2
     have rst:=Zi5 (f:=sB day q) (n:=q.length) (k:=k);have rln1:=rln (k+1);rw[fbs]at rst;have w1:IntKind.i64.wrap ((k:Int)+1)=((k+1:Nat):Int):=Yg (by omega) (by omega);generalize hxx:rAt q k=x at *;have hlx:q[k]=x:=hx.symm;have gb:gwB (fun x:Rul=>decide (x.dy≤day)) (fun x y=>decide (y.br=x.nu)) q x k (k+1)=decide (x.dy≤day):=gb;generalize hQQ:rbK (sB day q) q.length (k+1)=Q at *;refine Yc Yb 1000 ?_;simp -implicitDefEqProofs[hi,hlx,hnx,w1,← gb];refine Z1Q (fun p:Nat=>⟨[(8,.int .i64 (p:Int)),(6,.int .i64 k),(7,.bool (gwB (fun x:Rul=>decide (x.dy≤day)) (fun x y=>decide (y.br=x.nu)) q x k p)),(5,.osl 12 q.length),(2,.ptr 2 0),(1,.int .i64 day)],[(12,.row 1 (Q.map ba)),(2,.box [.vsl (r.map isa),.vsl (l.map na),.vsl (q.map ra)])]⟩) (fun p=>k+1≤p∧p≤q.length) (fun p=>q.length-p) (k+1) ?_ ⟨Nat.le_refl _,hi⟩ ?_
     · (refine Yn.sub (by simp[lk,Ya,AV.keys]) ?_;simp only[Wkl,Zi6,and_true];(try simp[lk,Yd,Ya,AV.keys]))
     · rintro p ⟨hp1,hp2⟩;refine Yc Yb 1000 ?_;rcases Nat.lt_or_ge p q.length with h5|h5
       · have hrat:=rat p hp1 h5;obtain ⟨q1,g1⟩:=List.getElem?_eq_some_iff.1 hrat;have hg:=gs p (by omega) h5;have hy:=Ze7 h5;have hny:ra (rAt q p)=[.int .i64 (rAt q p).nu,.int .i64 (rAt q p).dy,.int .i64 (rAt q p).fd,.int .i64 (rAt q p).fl,.int .i64 (rAt q p).td,.int .i64 (rAt q p).tl,.bool (rAt q p).bo,.int .i64 (rAt q p).br]:=rfl;have w2:IntKind.i64.wrap ((p:Int)+1)=(p:Int)+1:=Yg (by omega) (by omega);rw[← hy]at hg;replace hg:_=(_ && !(sB day q p&&_)):=hg;generalize hyy:rAt q p=y at *;have hly:q[p]=y:=hy.symm;generalize sB day q p=fb at *
         cases hb:gwB (fun x:Rul=>decide (x.dy≤day)) (fun x y=>decide (y.br=x.nu)) q x k p
         · rw[hb,Bool.false_and]at hg;simp -implicitDefEqProofs[hb,h5,hnx,w2];refine ⟨rfl,p+1,?_,⟨by omega,h5⟩,(by show q.length-(p+1)<q.length-p;omega)⟩;simp only[hg]
           ((try simp only[hnx]);refine Yn.sub (by simp[lk,Ya,AV.keys,hnx]) ?_;simp only[hnx,Wkl,Zi6,and_true];(try simp[lk,Yd,Ya,AV.keys,hnx]))
         · rw[hb,Bool.true_and]at hg
           cases fb
           · rw[Bool.false_and,Bool.not_false]at hg;simp -implicitDefEqProofs[hb,h5,hnx,w2,rln1,g1,ba];refine ⟨rfl,p+1,?_,⟨by omega,h5⟩,(by show q.length-(p+1)<q.length-p;omega)⟩;simp only[hg]
             ((try simp only[hnx]);refine Yn.sub (by simp[lk,Ya,AV.keys,hnx]) ?_;simp only[hnx,Wkl,Zi6,and_true];(try simp[lk,Yd,Ya,AV.keys,hnx]))
           · rw[Bool.true_and]at hg;simp -implicitDefEqProofs[hb,h5,hi,hlx,hnx,w2,rln1,g1,ba,hly,hny];refine ⟨rfl,p+1,?_,⟨by omega,h5⟩,(by show q.length-(p+1)<q.length-p;omega)⟩;simp only[hg]
             ((try simp only[hnx]);refine Yn.sub (by simp[lk,Ya,AV.keys,hnx]) ?_;simp only[hnx,Wkl,Zi6,and_true];(try simp[lk,Yd,Ya,AV.keys,hnx]))
       · obtain rfl:p=q.length:=(by omega);simp -implicitDefEqProofs[];refine Z2N Yb 1000 ?_;have e1:∀ b:Bool,[AV.bool b]=ba b:=fun _=>rfl
         have wk:IntKind.i64.wrap ((k:Int)-1)=(k:Int)-1:=Yg (by omega) (by omega);simp -implicitDefEqProofs[hi,rln1,ba,wk];refine ⟨k,?_,by omega,Nat.lt_succ_self _⟩;simp only[e1];rw[← List.map_set,rst]
         ((try simp only[hnx]);refine Yn.sub (by simp[lk,Ya,AV.keys,hnx]) ?_;simp only[hnx,Wkl,Zi6,and_true];(try simp[lk,Yd,Ya,AV.keys,hnx]))
theorem Zit {r:List Iss} {l:List Nte} {q:List Rul} (h:chS r l q=0):chN r l=0∧Ze8 r q=true:=by
 unfold chS at h
 split at h
 · rename_i h1
   cases q2:Ze8 r q
   · rw[q2]at h;cases h
   · exact ⟨h1,rfl⟩
 · rename_i e;exact absurd h e
theorem Ziu {r:List Iss} {q:List Rul} (h:Ze8 r q=true):q.length≤16:=by simp only[Ze8,Bool.and_eq_true,decide_eq_true_eq]at h;exact h.1
end
theorem Ziv {day:Int} {l:List Nte} {i:Nat} (h:i<l.length):dyN day (l.take (i+1))=if l[i].dy≤day then dyN day (l.take i)++[l[i]] else dyN day (l.take i):=by
 unfold dyN;rw[List.take_succ_eq_append_getElem h,List.filter_append]
 split
 · rename_i e;rw[List.filter_cons_of_pos (by simpa using e)];rfl
 · rename_i e;rw[List.filter_cons_of_neg (by simpa using e)];simp
theorem Ziw (day:Int) (l:List Nte):(dyN day l).length≤l.length:=List.length_filter_le _ _
theorem Zix {D:List Nte} {s:List Int} {i:Nat} (h:i<s.length):dyT D (s.take (i+1))=if (D.any fun x=>decide (x.nu=s[i]))=true then dyT D (s.take i)++[s[i]] else dyT D (s.take i):=by
 unfold dyT;rw[List.take_succ_eq_append_getElem h,List.filter_append]
 split
 · rename_i e;simp only[List.filter_cons,e,List.filter_nil,if_true]
 · rename_i e;simp only[List.filter_cons,e,List.filter_nil,if_false,List.append_nil,Bool.false_eq_true]
theorem Ziy (D:List Nte) (s:List Int):(dyT D s).length≤s.length:=List.length_filter_le _ _
theorem Ziz (o:List (Nat×AObj)) (l:List Nte):Yd o (.row 10 (l.map na))=true:=by
 simp only[Yd,List.all_eq_true,List.mem_map];rintro x ⟨y,-,rfl⟩ v hv;simp only[na,List.mem_cons,List.not_mem_nil,or_false]at hv;rcases hv with rfl|rfl|rfl|rfl|rfl|rfl|rfl|rfl|rfl|rfl <;> simp[Ya,AV.keys]
def upB (r:List Iss) (D:List Nte):List (Nat×AObj):=if D=[] then [(8,.box [.vsl (r.map isa),.nils])] else [(8,.box [.vsl (r.map isa),.osl 40 D.length]),(40,.row 10 (D.map na))]
def uqS (r:List Iss) (l:List Nte) (s:List Int) (day:Int) (i:Nat):St :=
 ⟨[(10,.int .i64 i),(1,.vsl (s.map ia)),(2,.int .i64 day),(3,.ptr 3 0),(6,.ptr 6 0),(8,.ptr 8 0),(9,.osl 16 0)],upB r (dyN day (l.take i))++[(3,.box [.vsl (r.map isa),.vsl (l.map na)]),(6,.box [.nils,.nils]),(16,.row 1 [])]⟩
def upT (D:List Nte) (s:List Int) (i j:Nat):List Int:=dyT D (s.take i)++(if ((D.take j).any fun x=>decide (x.nu=s.getD i 0))=true then [s.getD i 0] else [])
theorem ZiA {D:List Nte} {s:List Int} {i:Nat}:upT D s i 0=dyT D (s.take i):=by simp[upT]
theorem ZiB {D:List Nte} {s:List Int} {i:Nat} (h:i<s.length):upT D s i D.length=dyT D (s.take (i+1)):=by
 have e:s.getD i 0=s[i]:=(by simp[List.getD_eq_getElem?_getD,h]);rw[Zix h,upT,List.take_length,e]
 split <;> simp
theorem ZiC (D:List Nte) (s:List Int) (i j:Nat):(upT D s i j).length≤s.length+1:=by
 have h1:=Ziy D (s.take i);have h2:(s.take i).length≤s.length:=(by simp;omega);unfold upT
 split <;> simp <;> omega
theorem ZiD {D:List Nte} {s:List Int} {i j:Nat} (hi:i<s.length) (hj:j<D.length) (hn:(D.map (·.nu)).Nodup):upT D s i (j+1)=if D[j].nu=s[i] then upT D s i j++[s[i]] else upT D s i j:=by
 have e:s.getD i 0=s[i]:=(by simp[List.getD_eq_getElem?_getD,hi]);have a:=ZeM hj fun x=>decide (x.nu=s[i])
 unfold upT;rw[e,a];by_cases h:D[j].nu=s[i]
 · rw [if_pos h]
   have h0:((D.take j).any fun x=>decide (x.nu=s[i]))=false:=by
    cases q:(D.take j).any fun x=>decide (x.nu=s[i])
    · rfl
    · obtain ⟨y,hy,hy2⟩:=List.any_eq_true.1 q;obtain ⟨k,hk,rfl⟩:=List.mem_take_iff_getElem.1 hy;have h2:=List.pairwise_iff_getElem.1 (List.nodup_iff_pairwise_ne.1 hn) k j (by simp;omega) (by simpa using hj) (by omega);simp only[List.getElem_map]at h2;exact absurd ((of_decide_eq_true hy2).trans h.symm) h2
   rw[h0];simp[h]
 · rw[if_neg h,decide_eq_false h,Bool.or_false]
def upO (r:List Iss) (l:List Nte) (D:List Nte) (T:List Int):List (Nat×AObj):=upB r D++[(3,.box [.vsl (r.map isa),.vsl (l.map na)]),(6,.box [.nils,.nils]),(16,.row 1 (T.map ia))]
section
variable {G:Nat→Option (List AV)}
set_option maxHeartbeats 1000000 in
theorem ZiE (r:List Iss) (l:List Nte) (s:List Int) (day:Int) (hl:l.length≤16) (hs:Sml s) (hn:(l.map (·.nu)).Nodup) :
  PC Tryz.prog G 83 [.agg [.vsl (r.map isa),.vsl (l.map na)],.vsl (s.map ia),.int .i64 day] (.tup [.agg [.vsl (r.map isa),Yh ((dyN day l).map na)],.vsl ((dyT (dyN day l) s).map ia)]):=by
 unfold Sml at hs;have hDn:((dyN day l).map (·.nu)).Nodup:=List.Sublist.nodup ((List.filter_sublist).map _) hn;have hDl:=Ziw day l;refine Z89 rfl fun R hG hrd=>?_
 subst hG;refine Yc Yb 1000 ?_;simp -implicitDefEqProofs[Z87,Z88];refine ZaV (uqS r l s day) (fun _=>True) l.length ?_ trivial ?_ ?_
 · have e0:dyN day (l.take 0)=[]:=(by simp[dyN]);simp only[uqS,upB,e0,if_true]
   (refine Yn.sub (by simp[lk,Ya,AV.keys]) ?_;simp only[Wkl,and_true];(try simp[lk,Yd,Ya,AV.keys]))
 · intro i hi _;have sc:=Ziv (day:=day) hi;have hx:=ZdJ hi;have hlx:l[i]=nAt l i:=hx.symm;have hnx:na (nAt l i)=[.int .i64 (nAt l i).nu,.int .i64 (nAt l i).dy,.int .u8 (nAt l i).sg,.int .i64 (nAt l i).dr,.int .i64 (nAt l i).lt,.int .i64 (nAt l i).fr,.int .i64 (nAt l i).tu,.int .i64 (nAt l i).ca,.bool (nAt l i).up,.int .u8 (nAt l i).wy]:=rfl;have wi:IntKind.i64.wrap ((i:Int)+1)=(i:Int)+1:=Yg (by omega) (by omega);have bl:=Ziw day (l.take i);have bl2:(l.take i).length≤i:=(by simp;omega);have bb:((dyN day (l.take i)).length+1)*72≤70368744177664:=(by omega);rw[hlx]at sc;by_cases hd:(nAt l i).dy≤day
   · rw[if_pos hd]at sc;have hne:dyN day (l.take (i+1))≠[]:=(by rw[sc];simp);by_cases c:dyN day (l.take i)=[]
     all_goals
      refine Yc Yb 1000 ?_;simp only[uqS,upB,c,if_true,if_false,List.cons_append,List.nil_append];simp -implicitDefEqProofs[hi,hlx,hnx,hd,wi,bb];refine ⟨rfl,?_⟩;simp only[uqS,upB,hne,if_false,List.cons_append,List.nil_append];have e1:(dyN day (l.take (i+1))).map na=(dyN day (l.take i)).map na++[na (nAt l i)]:=(by rw[sc,List.map_append];rfl);have e2:(dyN day (l.take (i+1))).length=(dyN day (l.take i)).length+1:=by rw[sc];simp
      first
       |(rw[c,List.nil_append]at sc;rw[sc];((try simp only[hnx]);refine Yn.sub (by simp[lk,Ya,AV.keys,hnx]) ?_;simp only[hnx,Wkl,and_true];(try simp[lk,Yd,Ya,AV.keys,hnx]));done)
       |(rw[hnx]at e1;rw[← e1,e2];(refine Yn.sub (by simp[lk,Ya,AV.keys]) ?_;simp only[Wkl,Ziz,and_true];(try simp[lk,Yd,Ya,AV.keys]));done)
   · rw[if_neg hd]at sc;by_cases c:dyN day (l.take i)=[]
     all_goals
      refine Yc Yb 1000 ?_;simp only[uqS,upB,c,if_true,if_false,List.cons_append,List.nil_append];simp -implicitDefEqProofs[hi,hlx,hnx,hd,wi];simp only[uqS,upB,sc,c,if_true,if_false,List.cons_append,List.nil_append]
      (refine Yn.sub (by simp[lk,Ya,AV.keys]) ?_;simp only[Wkl,Ziz,and_true];(try simp[lk,Yd,Ya,AV.keys]))
 · intro _;refine Yc Yb 1000 ?_;simp only[uqS,List.take_length];generalize hDD:dyN day l=D at *;have hO:∀ T i,(upO r l D T).length=(upO r l D T).length+i-i:=fun T i=>by omega
   by_cases c:D=[]
   · have eT:dyT D s=[]:=(by rw[c];simp[dyT]);rw[eT];simp only[upB,c,if_true,List.cons_append,List.nil_append];simp -implicitDefEqProofs[];refine Z2N Yb 1000 ?_;simp -implicitDefEqProofs[];refine ZaV (fun i=>⟨[(11,.int .i64 i),(1,.vsl (s.map ia)),(8,.ptr 8 0),(9,.osl 16 0),(6,.ptr 6 0)],[(8,.box [.vsl (r.map isa),.nils]),(6,.box [.nils,.nils]),(16,.row 1 [])]⟩) (fun _=>True) s.length (by (first|exact Yn.tm (by simp[lk])|exact Yn.sub (by simp[lk,Ya,AV.keys]) (by simp[lk,Yd,Ya,AV.keys]))) trivial ?_ ?_
     · intro i hi _;have wi:IntKind.i64.wrap ((i:Int)+1)=(i:Int)+1:=Yg (by omega) (by omega);refine Yc Yb 1000 ?_;simp -implicitDefEqProofs[hi];refine ZaV (fun j=>⟨[(12,.int .i64 j),(11,.int .i64 i),(1,.vsl (s.map ia)),(8,.ptr 8 0),(9,.osl 16 0),(6,.ptr 6 0)],[(8,.box [.vsl (r.map isa),.nils]),(6,.box [.nils,.nils]),(16,.row 1 [])]⟩) (fun _=>True) 0 (by (first|exact Yn.tm (by simp[lk])|exact Yn.sub (by simp[lk,Ya,AV.keys]) (by simp[lk,Yd,Ya,AV.keys]))) trivial (fun i hi=>by omega) ?_;intro _;refine Yc Yb 1000 ?_;simp -implicitDefEqProofs[];refine Z2N Yb 1000 ?_;simp -implicitDefEqProofs[wi]
       (first|exact Yn.tm (by simp[lk])|exact Yn.sub (by simp[lk,Ya,AV.keys]) (by simp[lk,Yd,Ya,AV.keys]))
     · intro _;refine Yc Yb 1000 ?_;simp -implicitDefEqProofs[];refine Z2N Yb 1000 ?_;simp -implicitDefEqProofs[Yh]
   · simp only[upB,c,if_false,List.cons_append,List.nil_append];simp -implicitDefEqProofs[];refine Z2N Yb 1000 ?_;simp -implicitDefEqProofs[];refine ZaV (fun i=>⟨[(11,.int .i64 i),(1,.vsl (s.map ia)),(8,.ptr 8 0),(9,.osl 16 (dyT D (s.take i)).length),(6,.ptr 6 0)],[(8,.box [.vsl (r.map isa),.osl 40 D.length]),(40,.row 10 (D.map na)),(6,.box [.nils,.nils]),(16,.row 1 ((dyT D (s.take i)).map ia))]⟩) (fun _=>True) s.length ?_ trivial ?_ ?_
     · have e0:dyT D (s.take 0)=[]:=(by simp[dyT]);simp only[e0]
       ((try simp only[List.map_nil,List.length_nil]);refine Yn.sub (by simp[lk,Ya,AV.keys,List.map_nil,List.length_nil]) ?_;simp only[List.map_nil,List.length_nil,Wkl,Ziz,and_true];(try simp[lk,Yd,Ya,AV.keys,List.map_nil,List.length_nil]))
     · intro i hi _;have wi:IntKind.i64.wrap ((i:Int)+1)=(i:Int)+1:=Yg (by omega) (by omega);refine Yc Yb 1000 ?_;simp -implicitDefEqProofs[hi];refine ZaV (fun j=>⟨[(12,.int .i64 j),(11,.int .i64 i),(1,.vsl (s.map ia)),(8,.ptr 8 0),(9,.osl 16 (upT D s i j).length),(6,.ptr 6 0)],[(8,.box [.vsl (r.map isa),.osl 40 D.length]),(40,.row 10 (D.map na)),(6,.box [.nils,.nils]),(16,.row 1 ((upT D s i j).map ia))]⟩) (fun _=>True) D.length ?_ trivial ?_ ?_
       · simp only[ZiA]
         (refine Yn.sub (by simp[lk,Ya,AV.keys]) ?_;simp only[Wkl,Ziz,Zh4,and_true];(try simp[lk,Yd,Ya,AV.keys]))
       · intro j hj _;have wj:IntKind.i64.wrap ((j:Int)+1)=(j:Int)+1:=Yg (by omega) (by omega);have us:=ZiD hi hj hDn;have ul:=ZiC D s i j;have bb:((upT D s i j).length+1)*8≤70368744177664:=(by omega);have hnx:na D[j]=[.int .i64 D[j].nu,.int .i64 D[j].dy,.int .u8 D[j].sg,.int .i64 D[j].dr,.int .i64 D[j].lt,.int .i64 D[j].fr,.int .i64 D[j].tu,.int .i64 D[j].ca,.bool D[j].up,.int .u8 D[j].wy]:=rfl;refine Yc Yb 1000 ?_;by_cases h:D[j].nu=s[i]
         · rw[if_pos h]at us;simp -implicitDefEqProofs[hi,hj,hnx,ia,h,bb,wj];refine ⟨rfl,?_⟩;have e1:(upT D s i (j+1)).map ia=(upT D s i j).map ia++[[AV.int .i64 s[i]]]:=(by rw[us,List.map_append];rfl);have e2:(upT D s i (j+1)).length=(upT D s i j).length+1:=(by rw[us];simp);rw[← e1,e2]
           (refine Yn.sub (by simp[lk,Ya,AV.keys]) ?_;simp only[Wkl,Ziz,Zh4,and_true];(try simp[lk,Yd,Ya,AV.keys]))
         · rw[if_neg h]at us;simp -implicitDefEqProofs[hi,hj,hnx,ia,h,wj];refine ⟨rfl,?_⟩;rw[us]
           (refine Yn.sub (by simp[lk,Ya,AV.keys]) ?_;simp only[Wkl,Ziz,Zh4,and_true];(try simp[lk,Yd,Ya,AV.keys]))
       · intro _;refine Yc Yb 1000 ?_;rw[ZiB hi];simp -implicitDefEqProofs[];refine Z2N Yb 1000 ?_;simp -implicitDefEqProofs[wi]
         (refine Yn.sub (by simp[lk,Ya,AV.keys]) ?_;simp only[Wkl,Ziz,Zh4,and_true];(try simp[lk,Yd,Ya,AV.keys]))
     · intro _;refine Yc Yb 1000 ?_;rw[List.take_length];simp -implicitDefEqProofs[c];refine Z2N Yb 1000 ?_;simp -implicitDefEqProofs[Yh,c,ia,na]
end
def Nsub (x y:AV):Prop:=∀ (M:Nat→Prop) (W:World) (u:Value),PV M W x u→PV M W y u
theorem Nsub.rfl' {x:AV}:Nsub x x:=fun _ _ _ h=>h
theorem Nsub.nils:Nsub .nils (.vsl []):=fun _ _ _ h=>by
 cases h
 exact .vsl [] none 0 1 0 0 (fun _ _=>undef) (Nat.le_refl _) (Nat.zero_le _) (fun h=>absurd rfl h) (fun _=>⟨rfl,rfl⟩) (by simp) (by simp) (by simp)
theorem Nsub.orNil (l:List (List AV)):Nsub (Yh l) (.vsl l):=by
 unfold Go.Proofs.YtpkfmfkccbnnjaaGreatDoor.Yh
 split
 · rename_i e;rw[e];exact .nils
 · exact .rfl'
def NsubL:List AV→List AV→Prop
 |[],[]=>True
 |x::xs,y::ys=>Nsub x y∧NsubL xs ys
 |_,_=>False
theorem NsubL.len:∀ {xs ys:List AV},NsubL xs ys→xs.length=ys.length
 |[],[],_=>rfl
 |_::_,_::_,h=>by simp only[List.length_cons,NsubL.len h.2]
 |[],_::_,h=>h.elim
 |_::_,[],h=>h.elim
theorem NsubL.at:∀ {xs ys:List AV},NsubL xs ys→∀ (i:Nat) (y:AV),ys[i]? = some y→∃ x,xs[i]? = some x∧Nsub x y
 |[],[],_,i,y,h=>by simp at h
 | x::xs,y::ys,h,0,z,e=>by
   simp only[List.getElem?_cons_zero,Option.some.injEq]at e;subst e;exact ⟨x,rfl,h.1⟩
 | x::xs,y::ys,h,i+1,z,e=>by
   simp only[List.getElem?_cons_succ]at e;obtain ⟨w,h1,h2⟩:=NsubL.at h.2 i z e;exact ⟨w,by simpa using h1,h2⟩
 |[],_::_,h,_,_,_=>h.elim
 |_::_,[],h,_,_,_=>h.elim
theorem Nsub.agg {xs ys:List AV} (h:NsubL xs ys):Nsub (.agg xs) (.agg ys):=fun M W u hu=>by
 cases hu with
 | agg _ us h1 hx =>
   refine .agg ys us (by rw[h1,h.len]) fun i y u hy hu=>?_
   obtain ⟨x,h2,h3⟩:=h.at i y hy;exact h3 _ _ _ (hx i x u h2 hu)
theorem PC.sub {P:Program} {G:Nat→Option (List AV)} {f:FuncId} {xs ys:List AV} {v:AV} (h:PC P G f ys v) (hs:NsubL xs ys):PC P G f xs v :=
 ⟨h.1,fun M W vs hM hG hz hv=>h.2 M W vs hM hG (hz.trans hs.len) fun i y u hi hu=>by
  obtain ⟨x,h2,h3⟩:=hs.at i y hi;exact h3 _ _ _ (hv i x u h2 hu)⟩
def aqN (r:List Iss) (l:List Nte) (q:List Rul) (s:List Int) (m d e:Int):Int:=if chS r l q=0 then if truB l s=true then if (inR m 1 999&&inR d 0 14610&&inR e 0 14610)=true then 0 else 2 else 31 else chS r l q
def ntR (F:List Int) (x:Nte):List Stq:=if x.nu∈F∧¬x.dr=0∧¬x.lt<2 then
    (if x.wy % 2=1 then [⟨x.dr,IntKind.i64.wrap (x.lt-1),x.dr,x.lt,x.nu,true⟩] else [])++(if 2≤x.wy % 4 then [⟨x.dr,x.lt,x.dr,IntKind.i64.wrap (x.lt-1),x.nu,true⟩] else [])
 else []
def rlR (b:Bool) (x:Rul):List Stq:=if b=true∧¬(x.fd=0∧x.fl=0) then
    [⟨x.fd,x.fl,x.td,x.tl,x.nu,false⟩]++(if x.bo=true then [⟨x.td,x.tl,x.fd,x.fl,x.nu,false⟩] else [])
 else []
def stF (r:List Iss) (l:List Nte) (s:List Int) (m day:Int):List Int:=(fcE r (dyN day l) (dyT (dyN day l) s) m).1
def nsR (F:List Int) (D:List Nte) (i:Nat):List Stq:=(D.take i).flatMap (ntR F)
def rsR (day:Int) (q:List Rul) (i:Nat):List Stq:=((List.range q.length).take i).flatMap fun j=>rlR (sB day q j) (rAt q j)
def st5 (r:List Iss) (l:List Nte) (q:List Rul) (s:List Int) (m day:Int):List Stq:=nsR (stF r l s m day) (dyN day l) (dyN day l).length++rsR day q q.length
theorem ZiF {F:List Int} {D:List Nte} {i:Nat} (h:i<D.length):nsR F D (i+1)=nsR F D i++ntR F D[i]:=by
 unfold nsR;rw[List.take_succ_eq_append_getElem h,List.flatMap_append];simp
theorem ZiG {day:Int} {q:List Rul} {i:Nat} (h:i<q.length):rsR day q (i+1)=rsR day q i++rlR (sB day q i) q[i]:=by
 have h1:i<(List.range q.length).length:=(by simpa using h);unfold rsR;rw[List.take_succ_eq_append_getElem h1,List.flatMap_append,List.getElem_range];simp[Ze7 h]
theorem ZiH (F:List Int) (x:Nte):(ntR F x).length≤2:=by unfold ntR;split <;> (try split) <;> (try split) <;> simp
theorem ZiI (b:Bool) (x:Rul):(rlR b x).length≤2:=by unfold rlR;split <;> (try split) <;> simp
theorem ZiJ (F:List Int) (D:List Nte):∀ i,i≤D.length→(nsR F D i).length≤2*i
 |0,_=>by simp[nsR]
 |i+1,h=>by rw[ZiF h,List.length_append];have:=ZiJ F D i (by omega);have:=ZiH F D[i];omega
theorem ZiK (day:Int) (q:List Rul):∀ i,i≤q.length→(rsR day q i).length≤2*i
 |0,_=>by simp[rsR]
 |i+1,h=>by rw[ZiG h,List.length_append];have:=ZiK day q i (by omega);have:=ZiI (sB day q i) q[i];omega
theorem ZiL (o:List (Nat×AObj)) (l:List Stq):Yd o (.row 6 (l.map sa))=true:=by
 simp only[Yd,List.all_eq_true,List.mem_map];rintro x ⟨y,-,rfl⟩ v hv;simp only[sa,List.mem_cons,List.not_mem_nil,or_false]at hv;rcases hv with rfl|rfl|rfl|rfl|rfl|rfl <;> simp[Ya,AV.keys]
def sqT (κ:Nat) (L:List Stq):AV:=if κ=0 then .nils else .osl κ L.length
def sqO (κ:Nat) (L:List Stq):List (Nat×AObj):=if κ=0 then [] else [(κ,.row 6 (L.map sa))]
section
variable {G:Nat→Option (List AV)}
theorem ZiM (r:List Iss) (l:List Nte) (q:List Rul) (s:List Int) (m d e:Int) (hw:WfN l) (hr:Wf r) (hq:Sml q) (hs:Sml s):PC Tryz.prog G 48 [swa r l q,.vsl (s.map ia),.int .i64 m,.int .i64 d,.int .i64 e] (.int .i64 (aqN r l q s m d e)):=by
 have hc:=Zir (G:=G) r l q hw hr hq;unfold swa at hc
 (refine Z8f rfl fun R hG hrd=>Yc Yb 1000 ?_;subst hG)
 unfold aqN;by_cases h0:chS r l q=0
 · have ht:=Zi2 (G:=R.G) r l s (Zib (Zi9 (Zit h0).1)) hs;rw[h0]at hc;simp -implicitDefEqProofs[Z8d,Z8e,swa]
   (first|refine Ye.of (hc) (by simp) ?_|refine Yf.of (hc) (by simp) ?_)
   simp -implicitDefEqProofs[h0]
   (first|refine Ye.of (ht) (by simp) ?_|refine Yf.of (ht) (by simp) ?_)
   cases h1:truB l s
   · simp -implicitDefEqProofs[]
   simp -implicitDefEqProofs[]
   (first|refine Ye.of (Zie m 1 999) (by simp) ?_|refine Yf.of (Zie m 1 999) (by simp) ?_)
   cases h2:inR m 1 999
   · simp -implicitDefEqProofs[]
   simp -implicitDefEqProofs[]
   (first|refine Ye.of (Zie d 0 14610) (by simp) ?_|refine Yf.of (Zie d 0 14610) (by simp) ?_)
   cases h3:inR d 0 14610
   · simp -implicitDefEqProofs[]
   simp -implicitDefEqProofs[]
   (first|refine Ye.of (Zie e 0 14610) (by simp) ?_|refine Yf.of (Zie e 0 14610) (by simp) ?_)
   cases h4:inR e 0 14610
   · simp -implicitDefEqProofs[]
   · simp -implicitDefEqProofs[]
 · simp -implicitDefEqProofs[Z8d,Z8e,swa]
   (first|refine Ye.of (hc) (by simp) ?_|refine Yf.of (hc) (by simp) ?_)
   simp -implicitDefEqProofs[h0]
theorem sixB (n:Nat) (h:n≤200):(n+1)*48≤70368744177664:=by omega
theorem sixC (n:Nat) (h:n≤200):(n+1+1)*48≤70368744177664:=by omega
def acL (N:List Stq) (day:Int) (q:List Rul) (i:Nat):List Stq:=N++rsR day q i
def KeyOk (ks:List Nat) (κ:Nat) (L:List Stq):Prop:=(κ=0∧L=[])∨(κ∈ks∧L≠[])
def s5R (r:List Iss) (l:List Nte) (q:List Rul) (N:List Stq) (day:Int) (x:Nat×Nat):St :=
 ⟨[(19,.int .i64 x.1),(18,.vsl ((rbK (sB day q) q.length 0).map ba)),(9,sqT x.2 (acL N day q x.1)),(4,.ptr 4 0)],sqO x.2 (acL N day q x.1)++[(4,.box [.vsl (r.map isa),.vsl (l.map na),.vsl (q.map ra)])]⟩
set_option maxHeartbeats 4000000 in
theorem ZiN (r:List Iss) (l:List Nte) (q:List Rul) (N:List Stq) (day:Int) (hq:q.length≤16) (hN:N.length≤100) (R:Run) (hrd:R.Top) (κ:Nat) (hκ:KeyOk [85,97] κ N) :
  AR Tryz.prog R (dropZ 5 Z8a) ⟨[(9,sqT κ N),(4,.ptr 4 0),(3,.int .i64 day)],sqO κ N++[(4,.box [.vsl (r.map isa),.vsl (l.map na),.vsl (q.map ra)])]⟩ (Fin Z8b (Yh ((acL N day q q.length).map sa))):=by
 have hst:=Zis (G:=R.G) r l q day hq;unfold swa at hst;have rl0:=Zi3 (f:=sB day q) (n:=q.length) (k:=0);refine ZeP (S:=⟨[(18,.vsl ((rbK (sB day q) q.length 0).map ba)),(9,sqT κ N),(4,.ptr 4 0)],sqO κ N++[(4,.box [.vsl (r.map isa),.vsl (l.map na),.vsl (q.map ra)])]⟩) (Yc Yb 1000 ?_) ?_
 · rcases hκ with ⟨rfl,e⟩ | ⟨hk,ne⟩
   · simp only[sqT,sqO,if_true,List.nil_append];simp -implicitDefEqProofs[]
     (first|refine Ye.of (hst) (by simp) ?_|refine Yf.of (hst) (by simp) ?_)
     simp -implicitDefEqProofs[]
     ((try simp only[ba]);refine Yn.sub (by simp[lk,Ya,AV.keys,ba]) ?_;simp only[ba,Wkl,and_true];(try simp[lk,Yd,Ya,AV.keys,ba]))
   · have:κ=85∨κ=97:=(by simpa using hk);rcases this with rfl|rfl
     all_goals
      simp only[sqT,sqO,if_false,List.cons_append,List.nil_append,Nat.reduceEqDiff];simp -implicitDefEqProofs[]
      (first|refine Ye.of (hst) (by simp) ?_|refine Yf.of (hst) (by simp) ?_)
      simp -implicitDefEqProofs[]
      ((try simp only[ba]);refine Yn.sub (by simp[lk,Ya,AV.keys,ba]) ?_;simp only[ba,Wkl,ZiL,and_true];(try simp[lk,Yd,Ya,AV.keys,ba]))
 refine Yc Yb 1000 ?_;simp -implicitDefEqProofs[];have n0:acL N day q 0=N:=by simp[acL,rsR]
 have kN:KeyOk [85,97,132,144] κ N:=by
  rcases hκ with h | ⟨h,h2⟩
  · exact .inl h
  · refine .inr ⟨?_,h2⟩;simp only[List.mem_cons,List.not_mem_nil,or_false]at h ⊢;omega
 refine Z1Q (s5R r l q N day) (fun x=>x.1≤q.length∧KeyOk [85,97,132,144] x.2 (acL N day q x.1)) (fun x=>q.length-x.1) (0,κ) ?_ ⟨Nat.zero_le _,by rw[n0];exact kN⟩ ?_
 · unfold s5R;simp only[n0];rcases hκ with ⟨rfl,e⟩ | ⟨hk,ne⟩
   · simp only[sqT,sqO,if_true,List.nil_append]
     ((try simp only[ba]);refine Yn.sub (by simp[lk,Ya,AV.keys,ba]) ?_;simp only[ba,Wkl,and_true];(try simp[lk,Yd,Ya,AV.keys,ba]))
   · have:κ=85∨κ=97:=(by simpa using hk);rcases this with rfl|rfl
     all_goals
      simp only[sqT,sqO,if_false,List.cons_append,List.nil_append,Nat.reduceEqDiff]
      ((try simp only[ba]);refine Yn.sub (by simp[lk,Ya,AV.keys,ba]) ?_;simp only[ba,Wkl,ZiL,and_true];(try simp[lk,Yd,Ya,AV.keys,ba]))
 · rintro ⟨i, κ⟩ ⟨hi0,hK⟩;unfold s5R;simp only at hi0 hK ⊢;have bl:=ZiK day q i hi0;rcases Nat.lt_or_ge i q.length with hi|hi
   · have sc := ZiG (day:=day) hi;have wi:IntKind.i64.wrap ((i:Int)+1)=((i+1:Nat):Int):=(by rw[Yg (by omega) (by omega)];omega);have hrat:=Zi4 (f:=sB day q) (Nat.zero_le i) hi;obtain ⟨q1,g1⟩:=List.getElem?_eq_some_iff.1 hrat;obtain ⟨x,hxx⟩ : ∃ x,x=q[i]:=⟨_,rfl⟩;have hlx:q[i]=x:=hxx.symm;rw[hlx]at sc;have hra:ra x=[.int .i64 x.nu,.int .i64 x.dy,.int .i64 x.fd,.int .i64 x.fl,.int .i64 x.td,.int .i64 x.tl,.bool x.bo,.int .i64 x.br]:=rfl;have ln:(acL N day q i).length=N.length+(rsR day q i).length:=List.length_append;have b1:=sixB (acL N day q i).length (by omega);have b2:=sixC (acL N day q i).length (by omega);have hL:acL N day q (i+1)=acL N day q i++rlR (sB day q i) x:=(by unfold acL;rw[sc,List.append_assoc]);have nxt:∀ κ2,KeyOk [85,97,132,144] κ2 (acL N day q (i+1))→∀ st,Yn st (s5R r l q N day (i+1,κ2))→∃ x:Nat×Nat,Yn st (s5R r l q N day x)∧(x.1≤q.length∧KeyOk [85,97,132,144] x.2 (acL N day q x.1))∧q.length-x.1<q.length-i:=fun κ2 h st hw=>⟨(i+1,κ2),hw,⟨hi,h⟩,by show q.length-(i+1)<q.length-i;omega⟩
     have same:∀ κ2,rlR (sB day q i) x=[]→KeyOk [85,97,132,144] κ2 (acL N day q i)→KeyOk [85,97,132,144] κ2 (acL N day q (i+1))∧acL N day q (i+1)=acL N day q i:=fun κ2 h hk=>by rw[hL,h,List.append_nil];exact ⟨hk,rfl⟩
     have more:∀ κ2,rlR (sB day q i) x≠[]→κ2∈[85,97,132,144]→KeyOk [85,97,132,144] κ2 (acL N day q (i+1)):=fun κ2 h hk=>.inr ⟨hk,by rw[hL];intro e;exact h (List.append_eq_nil_iff.1 e).2⟩
     have pre:∀ y:Stq,sa y=[.int .i64 y.fd,.int .i64 y.fl,.int .i64 y.td,.int .i64 y.tl,.int .i64 y.nu,.bool y.nt]:=fun _=>rfl
     generalize hLL:acL N day q i=L at *;generalize hMM:acL N day q (i+1)=M at *
     cases hb:sB day q i
     · rw [hb]at g1 hL same;have e:rlR false x=[]:=(by simp[rlR]);rcases hK with hz | ⟨hk,ne⟩
       · obtain ⟨s1,s2⟩:=same κ e (.inl hz);obtain ⟨rfl,e0⟩:=hz;refine Yc Yb 1000 ?_;simp only[sqT,sqO,if_true,List.nil_append];simp -implicitDefEqProofs[hi,hlx,hra,rl0,g1,ba,wi];refine nxt 0 s1 _ ?_;simp only[s5R,hMM,sqT,sqO,if_true,List.nil_append]
         ((try simp only[ba]);refine Yn.sub (by simp[lk,Ya,AV.keys,ba]) ?_;simp only[ba,Wkl,and_true];(try simp[lk,Yd,Ya,AV.keys,ba]))
       · obtain ⟨s1,s2⟩:=same κ e (.inr ⟨hk,ne⟩);have:κ=85∨κ=97∨κ=132∨κ=144:=(by simpa using hk);rcases this with rfl|rfl|rfl|rfl
         all_goals
          refine Yc Yb 1000 ?_;simp only[sqT,sqO,if_false,List.cons_append,List.nil_append,Nat.reduceEqDiff];simp -implicitDefEqProofs[hi,hlx,hra,rl0,g1,ba,wi];refine nxt _ s1 _ ?_;simp only[s5R,hMM,s2,sqT,sqO,if_false,List.cons_append,List.nil_append,Nat.reduceEqDiff]
          ((try simp only[ba]);refine Yn.sub (by simp[lk,Ya,AV.keys,ba]) ?_;simp only[ba,Wkl,ZiL,and_true];(try simp[lk,Yd,Ya,AV.keys,ba]))
     · rw [hb]at g1 hL same more;by_cases z:x.fd=0∧x.fl=0
       · have e:rlR true x=[]:=(by simp[rlR,z]);rcases hK with hz | ⟨hk,ne⟩
         · obtain ⟨s1,s2⟩:=same κ e (.inl hz);obtain ⟨rfl,e0⟩:=hz;refine Yc Yb 1000 ?_;simp only[sqT,sqO,if_true,List.nil_append];simp -implicitDefEqProofs[hi,hlx,hra,rl0,g1,ba,wi,z.1,z.2];refine nxt 0 s1 _ ?_;simp only[s5R,hMM,sqT,sqO,if_true,List.nil_append]
           ((try simp only[ba]);refine Yn.sub (by simp[lk,Ya,AV.keys,ba]) ?_;simp only[ba,Wkl,and_true];(try simp[lk,Yd,Ya,AV.keys,ba]))
         · obtain ⟨s1,s2⟩:=same κ e (.inr ⟨hk,ne⟩);have:κ=85∨κ=97∨κ=132∨κ=144:=(by simpa using hk);rcases this with rfl|rfl|rfl|rfl
           all_goals
            refine Yc Yb 1000 ?_;simp only[sqT,sqO,if_false,List.cons_append,List.nil_append,Nat.reduceEqDiff];simp -implicitDefEqProofs[hi,hlx,hra,rl0,g1,ba,wi,z.1,z.2];refine nxt _ s1 _ ?_;simp only[s5R,hMM,s2,sqT,sqO,if_false,List.cons_append,List.nil_append,Nat.reduceEqDiff]
            ((try simp only[ba]);refine Yn.sub (by simp[lk,Ya,AV.keys,ba]) ?_;simp only[ba,Wkl,ZiL,and_true];(try simp[lk,Yd,Ya,AV.keys,ba]))
       · have f2:(decide (x.fd=0)&&decide (x.fl=0))=false:=by
          cases h:(decide (x.fd=0)&&decide (x.fl=0))
          · rfl
          · simp at h;exact absurd h z
         cases hbo:x.bo
         · have e:rlR true x=[⟨x.fd,x.fl,x.td,x.tl,x.nu,false⟩]:=(by simp[rlR,z,hbo]);have hne:rlR true x≠[]:=(by rw[e];simp);rw[e]at hL;have e1:M.map sa=L.map sa++[[.int .i64 x.fd,.int .i64 x.fl,.int .i64 x.td,.int .i64 x.tl,.int .i64 x.nu,.bool false]]:=(by rw[hL,List.map_append];rfl);have e2:M.length=L.length+1:=(by rw[hL];simp);rcases hK with ⟨rfl,e0⟩ | ⟨hk,ne⟩
           · have s1:=more 132 hne (by simp);refine Yc Yb 1000 ?_;simp only[sqT,sqO,if_true,List.nil_append];simp -implicitDefEqProofs[hi,hlx,hra,rl0,g1,ba,wi,f2,hbo];refine nxt 132 s1 _ ?_;rw[e0,List.map_nil,List.nil_append]at e1;rw[e0,List.length_nil]at e2;simp only[s5R,hMM,e1,e2,sqT,sqO,if_false,List.cons_append,List.nil_append,Nat.reduceEqDiff]
             ((try simp only[ba]);refine Yn.sub (by simp[lk,Ya,AV.keys,ba]) ?_;simp only[ba,Wkl,and_true];(try simp[lk,Yd,Ya,AV.keys,ba]))
           · have s1:=more κ hne hk;have:κ=85∨κ=97∨κ=132∨κ=144:=(by simpa using hk);rcases this with rfl|rfl|rfl|rfl
             all_goals
              refine Yc Yb 1000 ?_;simp only[sqT,sqO,if_false,List.cons_append,List.nil_append,Nat.reduceEqDiff];simp -implicitDefEqProofs[hi,hlx,hra,rl0,g1,ba,wi,b1,b2,f2,hbo];refine nxt _ s1 _ ?_;simp only[s5R,hMM,e2,sqT,sqO,if_false,List.cons_append,List.nil_append,Nat.reduceEqDiff]
              try simp only[List.append_assoc,List.cons_append,List.nil_append]
              rw[← e1]
              ((try simp only[ba]);refine Yn.sub (by simp[lk,Ya,AV.keys,ba]) ?_;simp only[ba,Wkl,ZiL,and_true];(try simp[lk,Yd,Ya,AV.keys,ba]))
         · have e:rlR true x=[⟨x.fd,x.fl,x.td,x.tl,x.nu,false⟩,⟨x.td,x.tl,x.fd,x.fl,x.nu,false⟩]:=(by simp[rlR,z,hbo]);have hne:rlR true x≠[]:=(by rw[e];simp);rw[e]at hL;have e1:M.map sa=L.map sa++[[.int .i64 x.fd,.int .i64 x.fl,.int .i64 x.td,.int .i64 x.tl,.int .i64 x.nu,.bool false],[.int .i64 x.td,.int .i64 x.tl,.int .i64 x.fd,.int .i64 x.fl,.int .i64 x.nu,.bool false]]:=(by rw[hL,List.map_append];rfl);have e2:M.length=L.length+2:=(by rw[hL];simp);rcases hK with ⟨rfl,e0⟩ | ⟨hk,ne⟩
           · have s1:=more 132 hne (by simp);refine Yc Yb 1000 ?_;simp only[sqT,sqO,if_true,List.nil_append];simp -implicitDefEqProofs[hi,hlx,hra,rl0,g1,ba,wi,f2,hbo];refine nxt 132 s1 _ ?_;rw[e0,List.map_nil,List.nil_append]at e1;rw[e0,List.length_nil]at e2;simp only[s5R,hMM,e1,e2,sqT,sqO,if_false,List.cons_append,List.nil_append,Nat.reduceEqDiff]
             ((try simp only[ba]);refine Yn.sub (by simp[lk,Ya,AV.keys,ba]) ?_;simp only[ba,Wkl,and_true];(try simp[lk,Yd,Ya,AV.keys,ba]))
           · have s1:=more κ hne hk;have:κ=85∨κ=97∨κ=132∨κ=144:=(by simpa using hk);rcases this with rfl|rfl|rfl|rfl
             all_goals
              refine Yc Yb 1000 ?_;simp only[sqT,sqO,if_false,List.cons_append,List.nil_append,Nat.reduceEqDiff];simp -implicitDefEqProofs[hi,hlx,hra,rl0,g1,ba,wi,b1,b2,f2,hbo];refine nxt _ s1 _ ?_;simp only[s5R,hMM,e2,sqT,sqO,if_false,List.cons_append,List.nil_append,Nat.reduceEqDiff]
              try simp only[List.append_assoc,List.cons_append,List.nil_append]
              rw[← e1]
              ((try simp only[ba]);refine Yn.sub (by simp[lk,Ya,AV.keys,ba]) ?_;simp only[ba,Wkl,ZiL,and_true];(try simp[lk,Yd,Ya,AV.keys,ba]))
   · obtain rfl:i=q.length:=(by omega);refine Yc Yb 1000 ?_;rcases hK with ⟨rfl,e0⟩ | ⟨hk,ne⟩
     · simp only[sqT,sqO,if_true,List.nil_append];simp -implicitDefEqProofs[rl0];refine Z2N Yb 1000 ?_;simp -implicitDefEqProofs[Yh,e0,Z8b]
     · have:κ=85∨κ=97∨κ=132∨κ=144:=(by simpa using hk);rcases this with rfl|rfl|rfl|rfl
       all_goals
        simp only[sqT,sqO,if_false,List.cons_append,List.nil_append,Nat.reduceEqDiff];simp -implicitDefEqProofs[rl0];refine Z2N Yb 1000 ?_;simp -implicitDefEqProofs[Yh,ne,Z8b,sa]
end
theorem bit1 {w:Int} (h0:0≤w) (h1:w≤255):IntKind.u8.wrap (((w % 2 ^ IntKind.u8.bits).toNat &&& 1 % 2 ^ IntKind.u8.bits:Nat):Int)=if w % 2=1 then 1 else 0:=by
 have h:∀ n:_root_.Fin 256,IntKind.u8.wrap ((((n.val:Int) % 2 ^ IntKind.u8.bits).toNat &&& 1 % 2 ^ IntKind.u8.bits:Nat):Int)=if (n.val:Int) % 2=1 then 1 else 0:=by decide +kernel
 have:=h ⟨w.toNat,by omega⟩
 rwa [show ((w.toNat:Nat):Int)=w by omega]at this
theorem bit2 {w:Int} (h0:0≤w) (h1:w≤255):IntKind.u8.wrap (((w % 2 ^ IntKind.u8.bits).toNat &&& 2 % 2 ^ IntKind.u8.bits:Nat):Int)=if 2≤w % 4 then 2 else 0:=by
 have h:∀ n:_root_.Fin 256,IntKind.u8.wrap ((((n.val:Int) % 2 ^ IntKind.u8.bits).toNat &&& 2 % 2 ^ IntKind.u8.bits:Nat):Int)=if 2≤(n.val:Int) % 4 then 2 else 0:=by decide +kernel
 have:=h ⟨w.toNat,by omega⟩
 rwa [show ((w.toNat:Nat):Int)=w by omega]at this
section
variable {G:Nat→Option (List AV)}
def s5N (r:List Iss) (l:List Nte) (q:List Rul) (F:List Int) (fV:AV) (D:List Nte) (day:Int) (x:Nat×Nat):St :=
 ⟨[(14,.int .i64 x.1),(12,fV),(10,.ptr 10 0),(9,sqT x.2 (nsR F D x.1)),(4,.ptr 4 0),(3,.int .i64 day)],sqO x.2 (nsR F D x.1)++[(10,.box [.vsl (r.map isa),Yh (D.map na)]),(4,.box [.vsl (r.map isa),.vsl (l.map na),.vsl (q.map ra)])]⟩
def headZ:RCode→RCode
 |.seq a _=>a
 |c=>c
set_option maxHeartbeats 4000000 in
theorem ZiO (r:List Iss) (l:List Nte) (q:List Rul) (F:List Int) (D:List Nte) (day:Int) (hq:q.length≤16) (hD:D.length≤16) (hw:WfN D) (hF:F.length≤16) (R:Run) (hrd:R.Top) :
  AR Tryz.prog R (headZ (dropZ 4 Z8a)) ⟨[(12,Yh (F.map ia)),(10,.ptr 10 0),(9,.nils),(4,.ptr 4 0),(3,.int .i64 day)],[(10,.box [.vsl (r.map isa),Yh (D.map na)]),(4,.box [.vsl (r.map isa),.vsl (l.map na),.vsl (q.map ra)])]⟩
   (RetP Tryz.prog R [KF.sq (dropZ 5 Z8a)] (Fin Z8b (Yh ((acL (nsR F D D.length) day q q.length).map sa)))):=by
 have hh:=fun n=>PC.sub (Zif (G:=R.G) F n (by unfold Sml;omega)) (xs:=[Yh (F.map ia),.int .i64 n]) ⟨.orNil _,.rfl',trivial⟩
 have pF:=Zfc (l:=F.map ia) (by simp[ia,AV.pure]);have kF:=Zfd (F.map ia);have kF2:True:=trivial;generalize Yh (F.map ia)=fV at *;have lo2:=fun κ h=>ZiN r l q (nsR F D D.length) day hq (by have:=ZiJ F D D.length (Nat.le_refl _);omega) R hrd κ h
 by_cases c:D=[]
 · have e:nsR F D D.length=[]:=(by rw[c];rfl);have lo2:=lo2 0 (.inl ⟨rfl,e⟩);rw[e]at lo2 ⊢;have ec:Yh (D.map na) = .nils:=(by rw[c];rfl);rw[ec];refine Yc Yb 1000 ?_;simp -implicitDefEqProofs[headZ,dropZ,Z8a];refine ZaV (fun i=>⟨[(14,.int .i64 i),(10,.ptr 10 0),(9,.nils),(4,.ptr 4 0),(3,.int .i64 day)],[(10,.box [.vsl (r.map isa),.nils]),(4,.box [.vsl (r.map isa),.vsl (l.map na),.vsl (q.map ra)])]⟩) (fun _=>True) 0 ?_ trivial (fun i hi=>by omega) ?_
   · ((try simp only[kF]);refine Yn.sub (by simp[lk,Ya,AV.keys,kF]) ?_;simp only[kF,Wkl,and_true];(try simp[lk,Yd,Ya,AV.keys,kF]))
   · intro _;refine Yc Yb 1000 ?_;simp -implicitDefEqProofs[];refine Z2N Yb 2 ?_;simp -implicitDefEqProofs[];refine GOz (Z2M ?_ lo2);simp only[sqT,sqO,if_true,List.nil_append]
     ((try simp only[kF]);refine Yn.sub (by simp[lk,Ya,AV.keys,kF]) ?_;simp only[kF,Wkl,and_true];(try simp[lk,Yd,Ya,AV.keys,kF]))
 have cm:¬D.map na=[]:=fun h=>c (List.map_eq_nil_iff.1 h)
 have ev:Yh (D.map na) = .vsl (D.map na):=(by simp[Yh,cm]);rw[ev];refine Yc Yb 1000 ?_;simp -implicitDefEqProofs[headZ,dropZ,Z8a];refine Z1Q (s5N r l q F fV D day) (fun x=>x.1≤D.length∧KeyOk [85,97] x.2 (nsR F D x.1)) (fun x=>D.length-x.1) (0,0) ?_ ⟨Nat.zero_le _,.inl ⟨rfl,rfl⟩⟩ ?_
 · simp only[s5N,ev,sqT,sqO,if_true,if_false,List.nil_append]
   ((try simp only[kF]);refine Yn.sub (by simp[lk,Ya,AV.keys,kF]) ?_;simp only[kF,Wkl,and_true];(try simp[lk,Yd,Ya,AV.keys,kF]))
 · rintro ⟨i, κ⟩ ⟨hi0,hK⟩;simp only[s5N,ev]at hi0 hK ⊢;have bl:=ZiJ F D i hi0;rcases Nat.lt_or_ge i D.length with hi|hi
   · have sc := ZiF (F:=F) hi;have wi:IntKind.i64.wrap ((i:Int)+1)=((i+1:Nat):Int):=(by rw[Yg (by omega) (by omega)];omega);have hwx:=hw.2 D[i] (List.getElem_mem hi);obtain ⟨x,hxx⟩ : ∃ x,x=D[i]:=⟨_,rfl⟩;have hlx:D[i]=x:=hxx.symm;rw[hlx]at sc hwx;have hh:=hh x.nu;have v1:=bit1 hwx.2.2.1 hwx.2.2.2;have v2:=bit2 hwx.2.2.1 hwx.2.2.2;have hnx:na x=[.int .i64 x.nu,.int .i64 x.dy,.int .u8 x.sg,.int .i64 x.dr,.int .i64 x.lt,.int .i64 x.fr,.int .i64 x.tu,.int .i64 x.ca,.bool x.up,.int .u8 x.wy]:=rfl;have b1:=sixB (nsR F D i).length (by omega);have b2:=sixC (nsR F D i).length (by omega);have hL:nsR F D (i+1)=nsR F D i++ntR F x:=sc;have nxt:∀ κ2,KeyOk [85,97] κ2 (nsR F D (i+1))→∀ st,Yn st (s5N r l q F fV D day (i+1,κ2))→∃ x:Nat×Nat,Yn st (s5N r l q F fV D day x)∧(x.1≤D.length∧KeyOk [85,97] x.2 (nsR F D x.1))∧D.length-x.1<D.length-i:=fun κ2 h st hw=>⟨(i+1,κ2),hw,⟨hi,h⟩,by show D.length-(i+1)<D.length-i;omega⟩
     have same:∀ κ2,ntR F x=[]→KeyOk [85,97] κ2 (nsR F D i)→KeyOk [85,97] κ2 (nsR F D (i+1))∧nsR F D (i+1)=nsR F D i:=fun κ2 h hk=>by rw[hL,h,List.append_nil];exact ⟨hk,rfl⟩
     have more:∀ κ2,ntR F x≠[]→κ2∈[85,97]→KeyOk [85,97] κ2 (nsR F D (i+1)):=fun κ2 h hk=>.inr ⟨hk,by rw[hL];intro e;exact h (List.append_eq_nil_iff.1 e).2⟩
     generalize hLL:nsR F D i=L at *;generalize hMM:nsR F D (i+1)=M at *;by_cases z1:x.nu∈F
     · by_cases z2:x.dr=0
       · have e:ntR F x=[]:=(by simp[ntR,z2]);rcases hK with hz | ⟨hk,ne⟩
         · obtain ⟨t1,t2⟩:=same κ e (.inl hz);obtain ⟨rfl,e0⟩:=hz;refine Yc Yb 1000 ?_;simp only[sqT,sqO,if_true,List.nil_append];simp -implicitDefEqProofs[hi,hlx,hnx,wi];refine Ye.of hh (by simp[pF,AV.pure]) ?_;simp -implicitDefEqProofs[wi,z1,z2];refine nxt 0 t1 _ ?_;simp only[s5N,ev,hMM,sqT,sqO,if_true,if_false,List.nil_append]
           ((try simp only[ba,kF,kF2]);refine Yn.sub (by simp[lk,Ya,AV.keys,ba,kF,kF2]) ?_;simp only[ba,kF,kF2,Wkl,and_true];(try simp[lk,Yd,Ya,AV.keys,ba,kF,kF2]))
         · obtain ⟨t1,t2⟩:=same κ e (.inr ⟨hk,ne⟩);have:κ=85∨κ=97:=(by simpa using hk);rcases this with rfl|rfl
           all_goals
            refine Yc Yb 1000 ?_;simp only[sqT,sqO,if_false,List.cons_append,List.nil_append,Nat.reduceEqDiff];simp -implicitDefEqProofs[hi,hlx,hnx,wi];refine Ye.of hh (by simp[pF,AV.pure]) ?_;simp -implicitDefEqProofs[wi,z1,z2];refine nxt _ t1 _ ?_;simp only[s5N,ev,hMM,t2,sqT,sqO,if_false,List.cons_append,List.nil_append,Nat.reduceEqDiff]
            ((try simp only[ba,kF,kF2]);refine Yn.sub (by simp[lk,Ya,AV.keys,ba,kF,kF2]) ?_;simp only[ba,kF,kF2,Wkl,ZiL,and_true];(try simp[lk,Yd,Ya,AV.keys,ba,kF,kF2]))
       · by_cases z3:x.lt<2
         · have e:ntR F x=[]:=(by simp[ntR,z3]);rcases hK with hz | ⟨hk,ne⟩
           · obtain ⟨t1,t2⟩:=same κ e (.inl hz);obtain ⟨rfl,e0⟩:=hz;refine Yc Yb 1000 ?_;simp only[sqT,sqO,if_true,List.nil_append];simp -implicitDefEqProofs[hi,hlx,hnx,wi];refine Ye.of hh (by simp[pF,AV.pure]) ?_;simp -implicitDefEqProofs[wi,z1,z2,z3];refine nxt 0 t1 _ ?_;simp only[s5N,ev,hMM,sqT,sqO,if_true,if_false,List.nil_append]
             ((try simp only[ba,kF,kF2]);refine Yn.sub (by simp[lk,Ya,AV.keys,ba,kF,kF2]) ?_;simp only[ba,kF,kF2,Wkl,and_true];(try simp[lk,Yd,Ya,AV.keys,ba,kF,kF2]))
           · obtain ⟨t1,t2⟩:=same κ e (.inr ⟨hk,ne⟩);have:κ=85∨κ=97:=(by simpa using hk);rcases this with rfl|rfl
             all_goals
              refine Yc Yb 1000 ?_;simp only[sqT,sqO,if_false,List.cons_append,List.nil_append,Nat.reduceEqDiff];simp -implicitDefEqProofs[hi,hlx,hnx,wi];refine Ye.of hh (by simp[pF,AV.pure]) ?_;simp -implicitDefEqProofs[wi,z1,z2,z3];refine nxt _ t1 _ ?_;simp only[s5N,ev,hMM,t2,sqT,sqO,if_false,List.cons_append,List.nil_append,Nat.reduceEqDiff]
              ((try simp only[ba,kF,kF2]);refine Yn.sub (by simp[lk,Ya,AV.keys,ba,kF,kF2]) ?_;simp only[ba,kF,kF2,Wkl,ZiL,and_true];(try simp[lk,Yd,Ya,AV.keys,ba,kF,kF2]))
         · by_cases p1:x.wy % 2=1 <;> by_cases p2:2≤x.wy % 4
           · rw [if_pos p1]at v1;rw[if_pos p2]at v2;have e:ntR F x=[⟨x.dr,IntKind.i64.wrap (x.lt-1),x.dr,x.lt,x.nu,true⟩,⟨x.dr,x.lt,x.dr,IntKind.i64.wrap (x.lt-1),x.nu,true⟩]:=(by simp[ntR,z1,z2,z3,p1,p2]);have hne:ntR F x≠[]:=(by rw[e];simp);have e1:M.map sa=L.map sa++[[.int .i64 x.dr,.int .i64 (IntKind.i64.wrap (x.lt-1)),.int .i64 x.dr,.int .i64 x.lt,.int .i64 x.nu,.bool true],[.int .i64 x.dr,.int .i64 x.lt,.int .i64 x.dr,.int .i64 (IntKind.i64.wrap (x.lt-1)),.int .i64 x.nu,.bool true]]:=(by rw[hL,e,List.map_append];rfl);have e2:M.length=L.length+2:=(by rw[hL,e];simp);rcases hK with ⟨rfl,e0⟩ | ⟨hk,ne⟩
             · have t1:=more 85 hne (by simp);refine Yc Yb 1000 ?_;simp only[sqT,sqO,if_true,List.nil_append];simp -implicitDefEqProofs[hi,hlx,hnx,wi];refine Ye.of hh (by simp[pF,AV.pure]) ?_;simp -implicitDefEqProofs[wi,z1,z2,z3,hnx,v1,v2];refine ⟨rfl,?_⟩;refine nxt 85 t1 _ ?_;rw[e0,List.map_nil,List.nil_append]at e1;rw[e0,List.length_nil]at e2;simp only[s5N,ev,hMM,e1,e2,sqT,sqO,if_false,List.cons_append,List.nil_append,Nat.reduceEqDiff]
               ((try simp only[ba,kF,kF2]);refine Yn.sub (by simp[lk,Ya,AV.keys,ba,kF,kF2]) ?_;simp only[ba,kF,kF2,Wkl,and_true];(try simp[lk,Yd,Ya,AV.keys,ba,kF,kF2]))
             · have t1:=more κ hne hk;have:κ=85∨κ=97:=(by simpa using hk);rcases this with rfl|rfl
               all_goals
                refine Yc Yb 1000 ?_;simp only[sqT,sqO,if_false,List.cons_append,List.nil_append,Nat.reduceEqDiff];simp -implicitDefEqProofs[hi,hlx,hnx,wi];refine Ye.of hh (by simp[pF,AV.pure]) ?_;simp -implicitDefEqProofs[wi,b1,b2,z1,z2,z3,hnx,v1,v2];refine ⟨rfl,?_⟩;refine nxt _ t1 _ ?_;simp only[s5N,ev,hMM,e2,sqT,sqO,if_false,List.cons_append,List.nil_append,Nat.reduceEqDiff]
                try simp only[List.append_assoc,List.cons_append,List.nil_append]
                rw[← e1]
                ((try simp only[ba,kF,kF2]);refine Yn.sub (by simp[lk,Ya,AV.keys,ba,kF,kF2]) ?_;simp only[ba,kF,kF2,Wkl,ZiL,and_true];(try simp[lk,Yd,Ya,AV.keys,ba,kF,kF2]))
           · rw [if_pos p1]at v1;rw[if_neg p2]at v2;have e:ntR F x=[⟨x.dr,IntKind.i64.wrap (x.lt-1),x.dr,x.lt,x.nu,true⟩]:=(by simp[ntR,z1,z2,z3,p1,p2]);have hne:ntR F x≠[]:=(by rw[e];simp);have e1:M.map sa=L.map sa++[[.int .i64 x.dr,.int .i64 (IntKind.i64.wrap (x.lt-1)),.int .i64 x.dr,.int .i64 x.lt,.int .i64 x.nu,.bool true]]:=(by rw[hL,e,List.map_append];rfl);have e2:M.length=L.length+1:=(by rw[hL,e];simp);rcases hK with ⟨rfl,e0⟩ | ⟨hk,ne⟩
             · have t1:=more 85 hne (by simp);refine Yc Yb 1000 ?_;simp only[sqT,sqO,if_true,List.nil_append];simp -implicitDefEqProofs[hi,hlx,hnx,wi];refine Ye.of hh (by simp[pF,AV.pure]) ?_;simp -implicitDefEqProofs[wi,z1,z2,z3,hnx,v1,v2];refine ⟨rfl,?_⟩;refine nxt 85 t1 _ ?_;rw[e0,List.map_nil,List.nil_append]at e1;rw[e0,List.length_nil]at e2;simp only[s5N,ev,hMM,e1,e2,sqT,sqO,if_false,List.cons_append,List.nil_append,Nat.reduceEqDiff]
               ((try simp only[ba,kF,kF2]);refine Yn.sub (by simp[lk,Ya,AV.keys,ba,kF,kF2]) ?_;simp only[ba,kF,kF2,Wkl,and_true];(try simp[lk,Yd,Ya,AV.keys,ba,kF,kF2]))
             · have t1:=more κ hne hk;have:κ=85∨κ=97:=(by simpa using hk);rcases this with rfl|rfl
               all_goals
                refine Yc Yb 1000 ?_;simp only[sqT,sqO,if_false,List.cons_append,List.nil_append,Nat.reduceEqDiff];simp -implicitDefEqProofs[hi,hlx,hnx,wi];refine Ye.of hh (by simp[pF,AV.pure]) ?_;simp -implicitDefEqProofs[wi,b1,b2,z1,z2,z3,hnx,v1,v2];refine ⟨rfl,?_⟩;refine nxt _ t1 _ ?_;simp only[s5N,ev,hMM,e2,sqT,sqO,if_false,List.cons_append,List.nil_append,Nat.reduceEqDiff]
                try simp only[List.append_assoc,List.cons_append,List.nil_append]
                rw[← e1]
                ((try simp only[ba,kF,kF2]);refine Yn.sub (by simp[lk,Ya,AV.keys,ba,kF,kF2]) ?_;simp only[ba,kF,kF2,Wkl,ZiL,and_true];(try simp[lk,Yd,Ya,AV.keys,ba,kF,kF2]))
           · rw [if_neg p1]at v1;rw[if_pos p2]at v2;have e:ntR F x=[⟨x.dr,x.lt,x.dr,IntKind.i64.wrap (x.lt-1),x.nu,true⟩]:=(by simp[ntR,z1,z2,z3,p1,p2]);have hne:ntR F x≠[]:=(by rw[e];simp);have e1:M.map sa=L.map sa++[[.int .i64 x.dr,.int .i64 x.lt,.int .i64 x.dr,.int .i64 (IntKind.i64.wrap (x.lt-1)),.int .i64 x.nu,.bool true]]:=(by rw[hL,e,List.map_append];rfl);have e2:M.length=L.length+1:=(by rw[hL,e];simp);rcases hK with ⟨rfl,e0⟩ | ⟨hk,ne⟩
             · have t1:=more 97 hne (by simp);refine Yc Yb 1000 ?_;simp only[sqT,sqO,if_true,List.nil_append];simp -implicitDefEqProofs[hi,hlx,hnx,wi];refine Ye.of hh (by simp[pF,AV.pure]) ?_;simp -implicitDefEqProofs[wi,z1,z2,z3,hnx,v1,v2];refine ⟨rfl,?_⟩;refine nxt 97 t1 _ ?_;rw[e0,List.map_nil,List.nil_append]at e1;rw[e0,List.length_nil]at e2;simp only[s5N,ev,hMM,e1,e2,sqT,sqO,if_false,List.cons_append,List.nil_append,Nat.reduceEqDiff]
               ((try simp only[ba,kF,kF2]);refine Yn.sub (by simp[lk,Ya,AV.keys,ba,kF,kF2]) ?_;simp only[ba,kF,kF2,Wkl,and_true];(try simp[lk,Yd,Ya,AV.keys,ba,kF,kF2]))
             · have t1:=more κ hne hk;have:κ=85∨κ=97:=(by simpa using hk);rcases this with rfl|rfl
               all_goals
                refine Yc Yb 1000 ?_;simp only[sqT,sqO,if_false,List.cons_append,List.nil_append,Nat.reduceEqDiff];simp -implicitDefEqProofs[hi,hlx,hnx,wi];refine Ye.of hh (by simp[pF,AV.pure]) ?_;simp -implicitDefEqProofs[wi,b1,b2,z1,z2,z3,hnx,v1,v2];refine ⟨rfl,?_⟩;refine nxt _ t1 _ ?_;simp only[s5N,ev,hMM,e2,sqT,sqO,if_false,List.cons_append,List.nil_append,Nat.reduceEqDiff]
                try simp only[List.append_assoc,List.cons_append,List.nil_append]
                rw[← e1]
                ((try simp only[ba,kF,kF2]);refine Yn.sub (by simp[lk,Ya,AV.keys,ba,kF,kF2]) ?_;simp only[ba,kF,kF2,Wkl,ZiL,and_true];(try simp[lk,Yd,Ya,AV.keys,ba,kF,kF2]))
           · rw [if_neg p1]at v1;rw[if_neg p2]at v2;have e:ntR F x=[]:=(by simp[ntR,z1,z2,z3,p1,p2]);rcases hK with hz | ⟨hk,ne⟩
             · obtain ⟨t1,t2⟩:=same κ e (.inl hz);obtain ⟨rfl,e0⟩:=hz;refine Yc Yb 1000 ?_;simp only[sqT,sqO,if_true,List.nil_append];simp -implicitDefEqProofs[hi,hlx,hnx,wi];refine Ye.of hh (by simp[pF,AV.pure]) ?_;simp -implicitDefEqProofs[wi,z1,z2,z3,hnx,v1,v2];refine ⟨rfl,?_⟩;refine nxt 0 t1 _ ?_;simp only[s5N,ev,hMM,sqT,sqO,if_true,if_false,List.nil_append]
               ((try simp only[ba,kF,kF2]);refine Yn.sub (by simp[lk,Ya,AV.keys,ba,kF,kF2]) ?_;simp only[ba,kF,kF2,Wkl,and_true];(try simp[lk,Yd,Ya,AV.keys,ba,kF,kF2]))
             · obtain ⟨t1,t2⟩:=same κ e (.inr ⟨hk,ne⟩);have:κ=85∨κ=97:=(by simpa using hk);rcases this with rfl|rfl
               all_goals
                refine Yc Yb 1000 ?_;simp only[sqT,sqO,if_false,List.cons_append,List.nil_append,Nat.reduceEqDiff];simp -implicitDefEqProofs[hi,hlx,hnx,wi];refine Ye.of hh (by simp[pF,AV.pure]) ?_;simp -implicitDefEqProofs[wi,z1,z2,z3,hnx,v1,v2];refine ⟨rfl,?_⟩;refine nxt _ t1 _ ?_;simp only[s5N,ev,hMM,t2,sqT,sqO,if_false,List.cons_append,List.nil_append,Nat.reduceEqDiff]
                ((try simp only[ba,kF,kF2]);refine Yn.sub (by simp[lk,Ya,AV.keys,ba,kF,kF2]) ?_;simp only[ba,kF,kF2,Wkl,ZiL,and_true];(try simp[lk,Yd,Ya,AV.keys,ba,kF,kF2]))
     · have e:ntR F x=[]:=(by simp[ntR,z1]);rcases hK with hz | ⟨hk,ne⟩
       · obtain ⟨t1,t2⟩:=same κ e (.inl hz);obtain ⟨rfl,e0⟩:=hz;refine Yc Yb 1000 ?_;simp only[sqT,sqO,if_true,List.nil_append];simp -implicitDefEqProofs[hi,hlx,hnx,wi];refine Ye.of hh (by simp[pF,AV.pure]) ?_;simp -implicitDefEqProofs[wi,z1];refine nxt 0 t1 _ ?_;simp only[s5N,ev,hMM,sqT,sqO,if_true,if_false,List.nil_append]
         ((try simp only[ba,kF,kF2]);refine Yn.sub (by simp[lk,Ya,AV.keys,ba,kF,kF2]) ?_;simp only[ba,kF,kF2,Wkl,and_true];(try simp[lk,Yd,Ya,AV.keys,ba,kF,kF2]))
       · obtain ⟨t1,t2⟩:=same κ e (.inr ⟨hk,ne⟩);have:κ=85∨κ=97:=(by simpa using hk);rcases this with rfl|rfl
         all_goals
          refine Yc Yb 1000 ?_;simp only[sqT,sqO,if_false,List.cons_append,List.nil_append,Nat.reduceEqDiff];simp -implicitDefEqProofs[hi,hlx,hnx,wi];refine Ye.of hh (by simp[pF,AV.pure]) ?_;simp -implicitDefEqProofs[wi,z1];refine nxt _ t1 _ ?_;simp only[s5N,ev,hMM,t2,sqT,sqO,if_false,List.cons_append,List.nil_append,Nat.reduceEqDiff]
          ((try simp only[ba,kF,kF2]);refine Yn.sub (by simp[lk,Ya,AV.keys,ba,kF,kF2]) ?_;simp only[ba,kF,kF2,Wkl,ZiL,and_true];(try simp[lk,Yd,Ya,AV.keys,ba,kF,kF2]))
   · obtain rfl:i=D.length:=(by omega);rcases hK with ⟨rfl,e0⟩ | ⟨hk,ne⟩
     · have lo2:=lo2 0 (.inl ⟨rfl,e0⟩);refine Yc Yb 1000 ?_;simp only[sqT,sqO,if_true,List.nil_append]at lo2 ⊢;simp -implicitDefEqProofs[];refine Z2N Yb 2 ?_;simp -implicitDefEqProofs[];refine GOz (Z2M ?_ lo2)
       ((try simp only[kF]);refine Yn.sub (by simp[lk,Ya,AV.keys,kF]) ?_;simp only[kF,Wkl,and_true];(try simp[lk,Yd,Ya,AV.keys,kF]))
     · have lo2:=lo2 κ (.inr ⟨hk,ne⟩);have:κ=85∨κ=97:=(by simpa using hk);rcases this with rfl|rfl
       all_goals
        refine Yc Yb 1000 ?_;simp only[sqT,sqO,if_false,List.cons_append,List.nil_append,Nat.reduceEqDiff]at lo2 ⊢;simp -implicitDefEqProofs[];refine Z2N Yb 2 ?_;simp -implicitDefEqProofs[];refine GOz (Z2M ?_ lo2)
        ((try simp only[kF]);refine Yn.sub (by simp[lk,Ya,AV.keys,kF]) ?_;simp only[kF,Wkl,ZiL,and_true];(try simp[lk,Yd,Ya,AV.keys,kF]))
set_option maxHeartbeats 2000000 in
theorem ZiP (r:List Iss) (l:List Nte) (q:List Rul) (s:List Int) (m day:Int) (hw:WfN l) (hr:Wf r) (hq:q.length≤16) (hs:Sml s) (hn:(l.map (·.nu)).Nodup) (hl:l.length≤16) :
  PC Tryz.prog G 49 [swa r l q,.vsl (s.map ia),.int .i64 m,.int .i64 day] (Yh ((st5 r l q s m day).map sa)):=by
 have hu:=ZiE (G:=G) r l s day hl hs hn;have hwD:WfN (dyN day l):=⟨by have:=Ziw day l;unfold Sml;omega,fun x hx=>hw.2 x (List.mem_filter.1 hx).1⟩;have hsT:Sml (dyT (dyN day l) s):=(by have:=Ziy (dyN day l) s;unfold Sml at *;omega);have hf:=PC.sub (Zid (G:=G) r (dyN day l) (dyT (dyN day l) s) m hwD hr hsT) (xs:=[.agg [.vsl (r.map isa),Yh ((dyN day l).map na)],.vsl ((dyT (dyN day l) s).map ia),.int .i64 m]) ⟨.agg ⟨.rfl',.orNil _,trivial⟩,.rfl',.rfl',trivial⟩;unfold fcA at hf;have hDl:=Ziw day l
 have hFl:(fcE r (dyN day l) (dyT (dyN day l) s) m).1.length≤16:=by
  unfold fcE
  split
  · have:=ZdT (dyT (dyN day l) s) [] m (dyN day l) (dyN day l).length;simp only;omega
  · simp
 have est:st5 r l q s m day=acL (nsR (stF r l s m day) (dyN day l) (dyN day l).length) day q q.length:=rfl;rw[est];unfold stF;generalize (fcE r (dyN day l) (dyT (dyN day l) s) m).1=F at *;generalize (fcE r (dyN day l) (dyT (dyN day l) s) m).2=er at *;generalize dyT (dyN day l) s=T at *;generalize dyN day l=D at *;refine Z8c rfl fun R hG hrd=>?_
 subst hG;have lo:=ZiO r l q F D day hq (by omega) hwD hFl R hrd;have pF:=Zfc (l:=F.map ia) (by simp[ia,AV.pure]);have kF:=Zfd (F.map ia);by_cases c:D=[]
 · have ev:Yh (D.map na) = .nils:=(by rw[c];rfl);rw[ev]at hu hf lo;refine Yc Yb 13 ?_;simp -implicitDefEqProofs[Z8a,swa]
   (first|refine Ye.of (hu) (by simp) ?_|refine Yf.of (hu) (by simp) ?_)
   simp -implicitDefEqProofs[]
   (first|refine Ye.of (hf) (by simp) ?_|refine Yf.of (hf) (by simp) ?_)
   simp -implicitDefEqProofs[];refine GOz (Z2M ?_ lo)
   ((try simp only[kF]);refine Yn.sub (by simp[lk,Ya,AV.keys,kF]) ?_;simp only[kF,Wkl,and_true];(try simp[lk,Yd,Ya,AV.keys,kF]))
 · have cm:¬D.map na=[]:=fun h=>c (List.map_eq_nil_iff.1 h)
   have ev:Yh (D.map na) = .vsl (D.map na):=(by simp[Yh,cm]);rw[ev]at hu hf lo;refine Yc Yb 13 ?_;simp -implicitDefEqProofs[Z8a,swa]
   (first|refine Ye.of (hu) (by simp) ?_|refine Yf.of (hu) (by simp) ?_)
   simp -implicitDefEqProofs[na]
   (first|refine Ye.of (hf) (by simp) ?_|refine Yf.of (hf) (by simp) ?_)
   simp -implicitDefEqProofs[];refine GOz (Z2M ?_ lo)
   ((try simp only[kF]);refine Yn.sub (by simp[lk,Ya,AV.keys,kF]) ?_;simp only[kF,Wkl,and_true];(try simp[lk,Yd,Ya,AV.keys,kF]))
theorem ZiQ {r:List Iss} {l:List Nte} {q:List Rul} {s:List Int} {m d e:Int} (h:aqN r l q s m d e=0):chS r l q=0∧truB l s=true∧inR m 1 999=true∧inR d 0 14610=true∧inR e 0 14610=true:=by
 unfold aqN at h
 split at h
 · rename_i h1
   split at h
   · rename_i h2
     split at h
     · rename_i h3;simp only[Bool.and_eq_true]at h3;exact ⟨h1,h2,h3.1.1,h3.1.2,h3.2⟩
     · cases h
   · cases h
 · rename_i e;exact absurd h e
end
def rfa (x:Iss):List AV:=[.int .i64 x.d,.int .i64 x.l]
def rfA (r:List Iss):AV:=if r=[] then .nils else .vsl (r.map rfa)
def Yl (r:List Iss) (l:List Nte) (q:List Rul):AV:=.vptr [.vsl (r.map isa),.vsl (l.map na),.vsl (q.map ra),rfA r] 0
section
variable {G:Nat→Option (List AV)}
theorem ZiR (n lo hi:Int):PC Tryz.prog G 78 [.int .i64 n,.vptr [.int .i64 lo] 0,.vptr [.int .i64 hi] 0] (.bool (!inR n lo hi)):=by
 (refine Z6Y rfl fun R hG hrd=>Yc Yb 1000 ?_;subst hG)
 by_cases h1:n<lo
 · have h2:¬lo≤n:=(by omega);simp -implicitDefEqProofs[Z6W,Z6X,h1,h2,inR]
 · have h2:lo≤n:=(by omega);by_cases h3:hi<n
   · have h4:¬n≤hi:=(by omega);simp -implicitDefEqProofs[Z6W,Z6X,h1,h2,h3,h4,inR]
   · have h4:n≤hi:=(by omega);simp -implicitDefEqProofs[Z6W,Z6X,h1,h2,h3,h4,inR]
theorem ZiS (lo hi:Int) (l:List Int) (hl:Sml l):PC Tryz.prog G 41 [.int .i64 lo,.int .i64 hi,.vsl (l.map ia)] (.bool (l.all fun n=>inR n lo hi)):=by
 (refine Z6V rfl fun R hG hrd=>Yc Yb 1000 ?_;subst hG)
 simp -implicitDefEqProofs[Z6T,Z6U]
 (first|refine Ye.flat (ZbP 78 [.vptr [.int .i64 lo] 0,.vptr [.int .i64 hi] 0] (fun n=>!inR n lo hi) l (by simp[AV.pure]) hl (fun n _=>ZiR n lo hi)) (by simp[AV.flat]) (by simp) ?_|refine Yf.flat (ZbP 78 [.vptr [.int .i64 lo] 0,.vptr [.int .i64 hi] 0] (fun n=>!inR n lo hi) l (by simp[AV.pure]) hl (fun n _=>ZiR n lo hi)) (by simp[AV.flat]) (by simp) ?_)
 have e:(!l.any fun n=>!inR n lo hi)=l.all fun n=>inR n lo hi:=by simp[List.all_eq_not_any_not]
 simp -implicitDefEqProofs[e]
theorem ZiT (lo hi n:Int):PC Tryz.prog G 41 [.int .i64 lo,.int .i64 hi,.vsl [[.int .i64 n]]] (.bool (inR n lo hi)):=by
 have h:=ZiS (G:=G) lo hi [n] (by simp[Sml]);simpa [ia] using h
theorem ZiU (lo hi n m:Int):PC Tryz.prog G 41 [.int .i64 lo,.int .i64 hi,.vsl [[.int .i64 n],[.int .i64 m]]] (.bool (inR n lo hi&&inR m lo hi)):=by
 have h:=ZiS (G:=G) lo hi [n,m] (by simp[Sml]);simpa [ia] using h
theorem ZiV (g:Nat) (caps:List AV) (p:Rul→Bool) (l:List Rul) (hc:caps.all AV.pure=true) (hl:Sml l)
  (hg:∀ x∈l,PC Tryz.prog G g (.agg (ra x)::caps) (.bool (p x))) :
  PC Tryz.prog G 145 [.vsl (l.map ra),.func (.func g) [] caps] (.int .i64 (fstOf p l)):=by
 (refine Z71 rfl fun R hG hrd=>Yc Yb 1000 ?_;subst hG)
 unfold Sml at hl;have hc2:∀ x∈caps,x.pure=true:=List.all_eq_true.1 hc;simp -implicitDefEqProofs[Z6Z,Z70];refine ZaV (fun i=>⟨[(8,.int .i64 i),(7,.int .i64 l.length),(0,.vsl (l.map ra)),(1,.func (.func g) [] caps)],[]⟩) (fun i=>∀ j (h:j<l.length),j<i→p l[j]=false) l.length (by (first|exact Yn.tm (by simp[lk])|exact Yn.sub (by simp[lk,Ya,AV.keys]) (by simp[lk,Yd,Ya,AV.keys]))) (by simp) ?_ ?_
 · intro i hi he;refine Yc Yb 1000 ?_;have w1:IntKind.i64.wrap ((i:Int)+1)=((i+1:Nat):Int):=Yg (by omega) (by omega);have hgi:=hg _ (List.getElem_mem hi);have hln:(ra l[i]).length=8:=rfl;have htk:(ra l[i]).take 8=ra l[i]:=rfl;simp -implicitDefEqProofs[hi,hln,htk];refine Ye.of hgi (by simpa [AV.pure,ra] using hc2) ?_
   cases h3:p l[i]
   · simp -implicitDefEqProofs[w1];refine ⟨(by (first|exact Yn.tm (by simp[lk])|exact Yn.sub (by simp[lk,Ya,AV.keys]) (by simp[lk,Yd,Ya,AV.keys]))),fun j q1 q2=>?_⟩;by_cases e:j=i
     · subst e;exact h3
     · exact he j q1 (by omega)
   · simp -implicitDefEqProofs;refine Z2N Yb 1000 ?_;simp -implicitDefEqProofs[ZbL hi h3 he]
 · intro he;refine Yc Yb 1000 ?_;simp -implicitDefEqProofs[];refine Z2N Yb 1000 ?_;simp -implicitDefEqProofs[ZbM (p:=p) (l:=l) (fun j hj=>he j hj hj)]
theorem ZiW (g:Nat) (caps:List AV) (p:Rul→Bool) (l:List Rul) (hc:caps.all AV.pure=true) (hl:Sml l)
  (hg:∀ x∈l,PC Tryz.prog G g (.agg (ra x)::caps) (.bool (p x))) :
  PC Tryz.prog G 108 [.vsl (l.map ra),.func (.func g) [] caps] (.int .i64 (fstOf p l)):=by
 (refine Z74 rfl fun R hG hrd=>Yc Yb 1000 ?_;subst hG)
 simp -implicitDefEqProofs[Z72,Z73];have hc2:∀ x∈caps,x.pure=true:=List.all_eq_true.1 hc;refine Ye.of (ZiV g caps p l hc hl hg) (by simpa [AV.pure] using hc2) ?_;simp -implicitDefEqProofs[]
theorem ZiX (x y:Rul):PC Tryz.prog G 109 [.agg (ra y),.vptr (ra x) 0] (.bool (decide (y.nu=x.nu))):=by
 (refine Z7a rfl fun R hG hrd=>Yc Yb 1000 ?_;subst hG)
 simp -implicitDefEqProofs[Z78,Z79,ra]
theorem ZiY (x y:Rul):PC Tryz.prog G 110 [.agg (ra y),.vptr (ra x) 0] (.bool (decide (y.nu=x.br))):=by
 (refine Z7d rfl fun R hG hrd=>Yc Yb 1000 ?_;subst hG)
 simp -implicitDefEqProofs[Z7b,Z7c,ra]
def rfp (d l:Int) (x:Iss):Bool:=decide (x.d=d∧x.l=l)
theorem ZiZ {r:List Iss} {d l:Int}:(findN d l r).isSome=r.any (rfp d l):=by
 induction r with
 |nil=>rfl
 | cons x r ih =>
   simp only[findN,List.any_cons]
   split
   · rename_i h;simp[rfp,h]
   · rename_i h;have:rfp d l x=false:=decide_eq_false h;rw[ih,this,Bool.false_or]
theorem Zj0 (r:List Iss) (d l:Int) (hr:Sml r):PC Tryz.prog G 153 [.vsl (r.map rfa),.agg [.int .i64 d,.int .i64 l]] (.int .i64 (fstOf (rfp d l) r)):=by
 (refine Z7C rfl fun R hG hrd=>Yc Yb 1000 ?_;subst hG)
 unfold Sml at hr;simp -implicitDefEqProofs[Z7A,Z7B];refine ZaV (fun i=>⟨[(8,.int .i64 i),(7,.int .i64 r.length),(6,.vsl (r.map rfa)),(0,.vsl (r.map rfa)),(3,.ptr 3 0)],[(3,.box [.int .i64 d,.int .i64 l])]⟩) (fun i=>∀ j (h:j<r.length),j<i→rfp d l r[j]=false) r.length (by (first|exact Yn.tm (by simp[lk])|exact Yn.sub (by simp[lk,Ya,AV.keys]) (by simp[lk,Yd,Ya,AV.keys]))) (by simp) ?_ ?_
 · intro i hi he;refine Yc Yb 1000 ?_;have w1:IntKind.i64.wrap ((i:Int)+1)=(i:Int)+1:=Yg (by omega) (by omega);by_cases h:r[i].d=d∧r[i].l=l
   · have hf:=ZbL (p:=rfp d l) hi (by simpa [rfp] using h) he;simp -implicitDefEqProofs[hi,rfa,h.1,h.2];refine ⟨rfl,?_⟩;refine Z2N Yb 1000 ?_;simp -implicitDefEqProofs[hf]
   · have h1:(decide (d=r[i].d)&&decide (l=r[i].l))=false:=by
      cases hh:(decide (d=r[i].d)&&decide (l=r[i].l))
      · rfl
      · simp at hh;exact absurd ⟨hh.1.symm,hh.2.symm⟩ h
     simp -implicitDefEqProofs[hi,rfa,h1,w1];refine ⟨rfl,by (first|exact Yn.tm (by simp[lk])|exact Yn.sub (by simp[lk,Ya,AV.keys]) (by simp[lk,Yd,Ya,AV.keys])),fun j q1 q2=>?_⟩;by_cases e:j=i
     · subst e;simpa [rfp] using h
     · exact he j q1 (by omega)
 · intro he;refine Yc Yb 1000 ?_;have hf:=ZbM (p:=rfp d l) (l:=r) (fun j hj=>he j hj hj);simp -implicitDefEqProofs[];refine Z2N Yb 1000 ?_;simp -implicitDefEqProofs[hf]
theorem Zj1 (r:List Iss) (d l:Int) (hr:Sml r):PC Tryz.prog G 121 [.vsl (r.map rfa),.agg [.int .i64 d,.int .i64 l]] (.bool (knB r d l)):=by
 have hi:=Zj0 (G:=G) r d l hr;have e:=ZbN (rfp d l) r;have e2:knB r d l=r.any (rfp d l):=ZiZ;rw[e2]
 (refine Z7z rfl fun R hG hrd=>Yc Yb 1000 ?_;subst hG)
 simp -implicitDefEqProofs[Z7x,Z7y]
 (first|refine Ye.of (hi) (by simp) ?_|refine Yf.of (hi) (by simp) ?_)
 simp -implicitDefEqProofs[e]
theorem Zj2 (r:List Iss):Nsub (rfA r) (.vsl (r.map rfa)):=by
 unfold rfA
 split
 · rename_i e;rw[e];exact .nils
 · exact .rfl'
theorem Zj3 (r:List Iss) (l:List Nte) (q:List Rul) (d e:Int) (hr:Sml r):PC Tryz.prog G 90 [Yl r l q,.agg [.int .i64 d,.int .i64 e]] (.bool (knB r d e)):=by
 have hc:=PC.sub (Zj1 (G:=G) r d e hr) (xs:=[rfA r,.agg [.int .i64 d,.int .i64 e]]) ⟨Zj2 r,.rfl',trivial⟩;have pf:(rfA r).pure=true:=(by unfold rfA;split <;> simp[AV.pure,rfa]);have kf:(rfA r).keys=[]:=by unfold rfA;split <;> simp[AV.keys]
 (refine Z7g rfl fun R hG hrd=>Yc Yb 1000 ?_;subst hG)
 simp -implicitDefEqProofs[Z7e,Z7f,Yl];refine Yf.of hc (by simp[pf,AV.pure]) ?_;simp -implicitDefEqProofs[kf];rfl
end
end Go.Proofs.YtpkfmfkccbnnjaaGreatDoor
