/-
  What clashes, by the abstract machine.
-/
import Derived.Test.YthlcppdbldkldaaDoorKEkToHg
set_option linter.all false
set_option maxHeartbeats 8000000
namespace Go.Proofs.YthlcppdbldkldaaDoor
open Go.Proofs.Tryd (prog)
open IntKind (i64)
open Go.RowKit
variable {G:Jg}
def clB (b:Jr) (x:Iss):Bool:=match findN x.d x.l b with
 |some y=>!decide (x=y)
 |none=>false
def clN (a b:Jr) (i:Nat):List (Int×Int):=((a.take i).filter (clB b)).map λx=>(x.d,x.l)
def Zgx {a b:Jr} {i:Nat} (h:i<a.length):clN a b (i+1)=if clB b a[i]=true then clN a b i++[(a[i].d,a[i].l)] else clN a b i:=by
 rw[clN,W08 h,W19,W0r]
 split
 . rename_i e;simp[clN,List.filter_cons,e]
 . rename_i e;simp[clN,List.filter_cons,e]
def Zgy (a b:Jr) (i:Nat):(clN a b i).length<=i:=by
 simp only[clN,W0N];exact W0O (W0D _ _) (by simp;omega)
def bothE (a b:Jr):Int:=if openV a=0 then openV b else openV a
def clE (a b:Jr):List (Int×Int):=if bothE a b=0 then clN a b a.length else []
def clS (a b:Jr) (i:Nat):St:=if clN a b i=[] then ⟨[(31,.int .i64 i),(30,.int .i64 a.length),(29,.vsl (a.map isa)),(8,bkA b (nums b)),(10,.nils)],[]⟩
 else ⟨[(31,.int .i64 i),(30,.int .i64 a.length),(29,.vsl (a.map isa)),(8,bkA b (nums b)),(10,.osl 53 (clN a b i).length)],[(53,.row 2 ((clN a b i).map ita))]⟩
def Zgz (hG:GC G) (a b:Jr) (ha:Wf a) (hb:Wf b):∃ bk,PC prog G 33 [rega a,rega b] (.tup [.vsl ((clE a b).map ita),bk,.int .i64 (bothE a b)]):=by
 by_cases k1:openV a=0
 case neg =>
  refine ⟨_,PC.nzR (v:=.tup [.nils,.nilp,.int .i64 (openV a)]) ?_ (by simp[nz,clE,bothE,k1];rfl)⟩
  (refine ZcL rfl λR hG hrd=>Qga ?_;subst hG)
  simp -implicitDefEqProofs[ZcJ,ZcK,rega];refine Qco (Zb4 hG a ha) ?_;simp -implicitDefEqProofs[k1]
 by_cases k2:openV b=0
 case neg =>
  refine ⟨_,PC.nzR (v:=.tup [.nils,.nilp,.int .i64 (openV b)]) ?_ (by simp[nz,clE,bothE,k1,k2];rfl)⟩
  (refine ZcL rfl λR hG hrd=>Qga ?_;subst hG)
  simp -implicitDefEqProofs[ZcJ,ZcK,rega];refine Qco (Zb4 hG a ha) ?_;simp -implicitDefEqProofs[k1];refine Qco (ZaB hG b hb) ?_;simp -implicitDefEqProofs[openA,k2]
 have hL:=ZaS k2;have hO:=Z8Q hL;have ev:clE a b=clN a b a.length:=(by simp[clE,bothE,k1,k2]);have eb:bothE a b=0:=(by simp[bothE,k1,k2]);rw[ev,eb];refine ⟨bkA b (nums b),PC.nzR (v:=.tup [Yg ((clN a b a.length).map ita),bkA b (nums b),.int .i64 0]) ?_ (by simp[nz,Zew,bkA])⟩
 (refine ZcL rfl λR hG hrd=>Qga ?_;subst hG)
 have hs:=ha.1.1;unfold Sml at hs;simp -implicitDefEqProofs[ZcJ,ZcK,rega];refine Qco (Zb4 hG a ha) ?_;simp -implicitDefEqProofs[k1];refine Qco (ZaB hG b hb) ?_;simp -implicitDefEqProofs[openA,k2];refine Z8m (clS a b) (λ_=>True) a.length ?_ trivial ?_ ?_
 . have e0:clN a b 0=[]:=rfl;simp only[clS,e0,if_true]
   (first|exact Ym.tm (by simp[lk,bkA,AV.keys])|exact Ym.sub (by simp[lk,Ya,AV.keys,bkA,AV.keys]) (by simp[lk,Yc,Ya,AV.keys,bkA,AV.keys]))
 . intro i hi _;refine Qga ?_;have w1:i64.wrap ((i:Int)+1)=((i+1:Nat):Int):=Yf;have hx:=ha.1.2 a[i] (W0e hi);have hs:=Zgx (b:=b) hi;have bl:=Zgy a b i;have bb:((clN a b i).length+1)*16<=70368744177664:=(by omega);have ex:isa a[i]=[.int .i64 a[i].d,.int .i64 a[i].l,.int .u8 a[i].k,.vsl (a[i].its.map ita),.vsl (a[i].dms.map dma)]:=rfl
   cases q:findN a[i].d a[i].l b with
   | none =>
     have qb:clB b a[i]=false:=(by simp[clB,q]);rw[if_neg (by simp[qb])]at hs;by_cases z:clN a b i=[]
     . rw[z]at hs;simp -implicitDefEqProofs[clS,z,hi,ex];refine Qco (Z9p a[i]) ?_;simp -implicitDefEqProofs[clS];refine Qco (Za2 b (nums b) a[i].d a[i].l (Zb0 hO) hb.1.1 (Zb2 hL)) ?_;simp -implicitDefEqProofs[clS,q,fndA,noIs,w1,hs]
       ((try simp only[ita,ZeU]);refine Ym.sub (by simp[lk,Ya,AV.keys,ita,ZeU]) ?_;simp only[ita,ZeU,Wkl,Zc1,and_true];(try simp[lk,Yc,Ya,AV.keys,ita,ZeU]))
     . simp -implicitDefEqProofs[clS,z,hi,ex];refine Qco (Z9p a[i]) ?_;simp -implicitDefEqProofs[clS];refine Qco (Za2 b (nums b) a[i].d a[i].l (Zb0 hO) hb.1.1 (Zb2 hL)) ?_;simp -implicitDefEqProofs[clS,q,fndA,noIs,w1,hs,z]
       ((try simp only[ita,ZeU]);refine Ym.sub (by simp[lk,Ya,AV.keys,ita,ZeU]) ?_;simp only[ita,ZeU,Wkl,Zc1,and_true];(try simp[lk,Yc,Ya,AV.keys,ita,ZeU]))
   | some y =>
     have ey:isa y=[.int .i64 y.d,.int .i64 y.l,.int .u8 y.k,.vsl (y.its.map ita),.vsl (y.dms.map dma)]:=rfl;have qb:clB b a[i] = !decide (a[i]=y):=(by simp[clB,q]);rw[qb]at hs
     cases q2:decide (a[i]=y)
     . simp only[q2,W1A,if_true]at hs;by_cases z:clN a b i=[]
       . rw[z]at hs;simp -implicitDefEqProofs[clS,z,hi,ex];refine Qco (Z9p a[i]) ?_;simp -implicitDefEqProofs[clS];refine Qco (Za2 b (nums b) a[i].d a[i].l (Zb0 hO) hb.1.1 (Zb2 hL)) ?_;simp -implicitDefEqProofs[clS,q,fndA,ey];refine Qco (Zgw a[i] y hx.1 hx.2) ?_;simp -implicitDefEqProofs[clS,q2];refine Qco (Z9p a[i]) ?_;simp -implicitDefEqProofs[clS,w1,hs]
         ((try simp only[ita,ZeU]);refine Ym.sub (by simp[lk,Ya,AV.keys,ita,ZeU]) ?_;simp only[ita,ZeU,Wkl,Zc1,and_true];(try simp[lk,Yc,Ya,AV.keys,ita,ZeU]))
       . simp -implicitDefEqProofs[clS,z,hi,ex];refine Qco (Z9p a[i]) ?_;simp -implicitDefEqProofs[clS];refine Qco (Za2 b (nums b) a[i].d a[i].l (Zb0 hO) hb.1.1 (Zb2 hL)) ?_;simp -implicitDefEqProofs[clS,q,fndA,ey];refine Qco (Zgw a[i] y hx.1 hx.2) ?_;simp -implicitDefEqProofs[clS,q2];refine Qco (Z9p a[i]) ?_;simp -implicitDefEqProofs[clS,w1,hs,z,bb]
         ((try simp only[ita,ZeU]);refine Ym.sub (by simp[lk,Ya,AV.keys,ita,ZeU]) ?_;simp only[ita,ZeU,Wkl,Zc1,and_true];(try simp[lk,Yc,Ya,AV.keys,ita,ZeU]))
     . simp only[q2,W17,W05,if_false]at hs;by_cases z:clN a b i=[]
       . rw[z]at hs;simp -implicitDefEqProofs[clS,z,hi,ex];refine Qco (Z9p a[i]) ?_;simp -implicitDefEqProofs[clS];refine Qco (Za2 b (nums b) a[i].d a[i].l (Zb0 hO) hb.1.1 (Zb2 hL)) ?_;simp -implicitDefEqProofs[clS,q,fndA,ey];refine Qco (Zgw a[i] y hx.1 hx.2) ?_;simp -implicitDefEqProofs[clS,q2,w1,hs]
         ((try simp only[ita,ZeU]);refine Ym.sub (by simp[lk,Ya,AV.keys,ita,ZeU]) ?_;simp only[ita,ZeU,Wkl,Zc1,and_true];(try simp[lk,Yc,Ya,AV.keys,ita,ZeU]))
       . simp -implicitDefEqProofs[clS,z,hi,ex];refine Qco (Z9p a[i]) ?_;simp -implicitDefEqProofs[clS];refine Qco (Za2 b (nums b) a[i].d a[i].l (Zb0 hO) hb.1.1 (Zb2 hL)) ?_;simp -implicitDefEqProofs[clS,q,fndA,ey];refine Qco (Zgw a[i] y hx.1 hx.2) ?_;simp -implicitDefEqProofs[clS,q2,w1,hs,z]
         ((try simp only[ita,ZeU]);refine Ym.sub (by simp[lk,Ya,AV.keys,ita,ZeU]) ?_;simp only[ita,ZeU,Wkl,Zc1,and_true];(try simp[lk,Yc,Ya,AV.keys,ita,ZeU]))
 . intro _;refine Qga ?_;by_cases z:clN a b a.length=[]
   . simp -implicitDefEqProofs[clS,z];refine Qgr ?_;simp -implicitDefEqProofs[z,Yg,bkA]
   . have pu:((clN a b a.length).map ita).all (λr=>r.all AV.pure)=true:=(by simp[ita,AV.pure]);simp -implicitDefEqProofs[clS,z];refine Qgr ?_;simp -implicitDefEqProofs[z,pu,Yg,bkA]
def mgL (a b:Jr):List Iss:=cmpct (sortN (a++b))
def mgE (a b:Jr):List Iss×Int:=if bothE a b=0 then if clN a b a.length=[] then if openV (mgL a b)=0 then (mgL a b,0) else ([],openV (mgL a b)) else ([],23) else ([],bothE a b)
def ZgA {x:Iss} (h:issB x=true):okN x:=by
 simp only[issB,headB,W01,inR,W0b]at h;obtain ⟨⟨⟨⟨⟨h1,h2⟩,-⟩,-⟩,-⟩,-⟩:=h;exact ⟨h1.1,h1.2,h2.1,h2.2⟩
def ZgB {r:Jr} (h:Z8I r=true):∀ x∈r,okN x:=λx hx=>by
 simp only[Z8I,W01]at h;exact ZgA (W03.1 h.1.1.1.2 x hx)
def ZgC {r:Jr} (h:Z8I r=true):InjN r:=λx hx y hy e=>by
 obtain ⟨e1,e2⟩:=(ZfY (ZgB h x hx) (ZgB h y hy)).1 e;have f1:=Zb2 h x hx;have f2:=Zb2 h y hy;rw[e1,e2,f2]at f1;exact (W1H f1).symm
def ZgD {a b:Jr} (ha:Z8I a=true) (hb:Z8I b=true) (hc:clN a b a.length=[]):InjN (a++b):=by
 have hcl:∀ x∈a,clB b x=false:=λx hx=>by
  have:(a.take a.length).filter (clB b)=[]:=(by simpa [clN] using hc);rw[W0v,W2b]at this;simpa using this x hx
 have hab:∀ x∈a,∀ y∈b,kyN x=kyN y->x=y:=λx hx y hy e=>by
  obtain ⟨e1,e2⟩:=(ZfY (ZgB ha x hx) (ZgB hb y hy)).1 e;have f2:=Zb2 hb y hy;have:=hcl x hx;rw[clB,e1,e2,f2]at this;simpa using this
 intro x hx y hy e;rcases W0h.1 hx with hx|hx <;> rcases W0h.1 hy with hy|hy
 . exact ZgC ha x hx y hy e
 . exact hab x hx y hy e
 . exact (hab y hy x hx e.symm).symm
 . exact ZgC hb x hx y hy e
def ZgE {l:Jr} {x:Iss}:∀ {p:Nat},p<=l.length->x∈kN l p->x∈l
 |0,_,h=>by cases h
 | p + 1,hp,h=>by
   rw[kN]at h
   split at h
   . exact ZgE (by omega) h
   . rcases W0h.1 h with h|h
     . exact ZgE (by omega) h
     . rw[W0B]at h;rw[h,Zgo (by omega:p<l.length)];exact W0e _
def ZgF {a b:Jr} {x:Iss} (h:x∈mgL a b):x∈a++b:=Zg4.1 (ZgE (W0f _) h)
def ZgG (a b:Jr):(mgL a b).length<=a.length+b.length:=by
 have:=Zgi (sortN (a++b)) (sortN (a++b)).length;rw[Zg3,W0s]at this;rw[mgL,cmpct,Zg3,W0s];exact this
def ZgH {a b:Jr} (ha:Wf a) (hb:Wf b) (h1:a.length<=400) (h2:b.length<=400):Wf (mgL a b):=by
 refine ⟨⟨?_,λx hx=>?_⟩,λx hx=>?_⟩
 . have:=ZgG a b;unfold Sml;omega
 . rcases W0h.1 (ZgF hx) with h|h
   . exact ha.1.2 x h
   . exact hb.1.2 x h
 . rcases W0h.1 (ZgF hx) with h|h
   . exact ha.2 x h
   . exact hb.2 x h
def ZgI (x:Iss) (h1:Sml x.its) (h2:Sml x.dms):PC prog G 37 [.agg (isa x)] (.agg (isa x)):=by
 have p1:(x.its.map ita).all (λr=>r.all AV.pure)=true:=(by simp[ita,AV.pure]);have p2:(x.dms.map dma).all (λr=>r.all AV.pure)=true:=by simp[dma,AV.pure]
 (refine Z7b rfl λR hG hrd=>Qga ?_;subst hG)
 by_cases e1:x.its=[] <;> by_cases e2:x.dms=[]
 . simp -implicitDefEqProofs[Z79,Z7a,isa,e1,e2];refine Z2S.of Zav (by simp) ?_;simp -implicitDefEqProofs;refine Z2S.of Zaw (by simp) ?_;simp -implicitDefEqProofs;exact rfl
 . simp -implicitDefEqProofs[Z79,Z7a,isa,e1];refine Z2S.of Zav (by simp) ?_;simp -implicitDefEqProofs;refine Z2S.new (Zau _ e2 h2) (by simp) (by simp[lk,St.get]) ?_;simp -implicitDefEqProofs[p2];exact rfl
 . simp -implicitDefEqProofs[Z79,Z7a,isa,e2];refine Z2S.new (Zat _ e1 h1) (by simp) (by simp[lk,St.get]) ?_;simp -implicitDefEqProofs;refine Z2S.of Zaw (by simp) ?_;simp -implicitDefEqProofs[p1];exact rfl
 . simp -implicitDefEqProofs[Z79,Z7a,isa];refine Z2S.new (Zat _ e1 h1) (by simp) (by simp[lk,St.get]) ?_;simp -implicitDefEqProofs;refine Z2S.new (Zau _ e2 h2) (by simp) (by simp[lk,St.get]) ?_;simp -implicitDefEqProofs[p1,p2];exact rfl
def fM (l:Jr) (i:Nat):St:=match i with
 |0=>⟨[(35,.int .i64 0),(34,.int .i64 l.length),(33,.vsl (l.map isa)),(9,.ptr 9 0),(4,.ptr 4 0)],[(9,.box [.nils]),(4,.box [.nils])]⟩
 |i+1=>⟨[(35,.int .i64 (i+1:Nat)),(34,.int .i64 l.length),(33,.vsl (l.map isa)),(9,.ptr 9 0),(4,.ptr 4 0)],[(9,.box [.osl 44 (i+1)]),(4,.box [.nils]),(44,.row 5 (twR l (i+1)))]⟩
def ZgJ (hG:GC G) (a b:Jr) (ha:Wf a) (hb:Wf b) (hs:bothE a b=0->a.length+b.length<20):PC prog G 10 [rega a,rega b] (.tup [rega (mgE a b).1,.int .i64 (mgE a b).2]):=by
 obtain ⟨bk,hcl⟩:=Zgz hG a b ha hb;by_cases k0:bothE a b=0
 case neg =>
  refine PC.nzR (v:=.tup [.agg [.nils],.int .i64 (bothE a b)]) ?_ (by simp[nz,mgE,k0,rega])
  (refine ZcI rfl λR hG hrd=>Qga ?_;subst hG)
  simp -implicitDefEqProofs[ZcG,ZcH,rega];rw[rega,rega]at hcl;refine Qco (hcl) ?_;simp -implicitDefEqProofs[k0]
 by_cases k1:clN a b a.length=[]
 case neg =>
  refine PC.nzR (v:=.tup [.agg [.nils],.int .i64 23]) ?_ (by simp[nz,mgE,k0,k1,rega]);have ev:clE a b=clN a b a.length:=(by simp[clE,k0]);have hl:0<(clN a b a.length).length:=List.length_pos_iff.2 k1
  (refine ZcI rfl λR hG hrd=>Qga ?_;subst hG)
  simp -implicitDefEqProofs[ZcG,ZcH,rega];rw[rega,rega,ev]at hcl;refine Qco (hcl) ?_;simp -implicitDefEqProofs[k0,hl]
 have ev:clE a b=[]:=by simp[clE,k0,k1]
 have oa:openV a=0:=by
  unfold bothE at k0;split at k0
  . assumption
  . exact k0
 have ob:openV b=0:=(by simpa [bothE,oa] using k0);have la:=ZaS oa;have lb:=ZaS ob;have sa:=ZaU la;have sb:=ZaU lb;have na:a≠[]:=(by rintro rfl;simp at sa);have nb:b≠[]:=(by rintro rfl;simp at sb);have hwf:=ZgH ha hb (by omega) (by omega);have hsm:=hs k0;have hin:=ZgD la lb k1
 have hok:∀ x∈a++b,okN x:=λx hx=>by
  rcases W0h.1 hx with h|h
  . exact ZgB la x h
  . exact ZgB lb x h
 have hcc:=ZfW (G:=G) a b na nb (by omega) (by omega)
 have hwx:∀ x∈a++b,Sml x.its/\Sml x.dms:=λx hx=>by
  rcases W0h.1 hx with h|h
  . exact ha.1.2 x h
  . exact hb.1.2 x h
 have hll:(a++b).length<20:=(by rw[W0s];exact hsm);have hl0:0<(a++b).length:=(by rw[W0s];omega);have hsp:=Zgh (G:=G) (a++b) hok hin hll;have hcp:=Zgr (G:=G) (sortN (a++b)) (by rw[Zg3];omega);have hck:=Zb4 hG (mgL a b) hwf;have hmv:mgE a b=if openV (mgL a b)=0 then (mgL a b,0) else ([],openV (mgL a b)):=by simp[mgE,k0,k1]
 have hcm:cmpct (sortN (a++b))=mgL a b:=rfl;have hmn:=ZgG a b;rw[hmv];rw[rega,rega,ev,k0]at hcl;refine PC.nzR (v:=.tup [.agg [if openV (mgL a b)=0 then .vsl ((mgL a b).map isa) else .nils],.int .i64 (openV (mgL a b))]) ?_ (by by_cases ko:openV (mgL a b)=0 <;> simp[nz,ko,rega])
 (refine ZcI rfl λR hG hrd=>Qga ?_;subst hG)
 simp -implicitDefEqProofs[ZcG,ZcH,rega];refine Qco (hcl) ?_;simp -implicitDefEqProofs;unfold ccA at hcc;generalize a++b=l at *;refine Qco (hcc) ?_;simp -implicitDefEqProofs;refine Z8m (fM l) (λ_=>True) l.length (by simp only[fM];(first|exact Wka|exact Wkb)) trivial ?_ ?_
 . intro i hi _;refine Qga ?_;have hx:=hwx l[i] (W0e hi);have tk:=Zbz hi;have ln:=Zby (Nat.le_of_lt hi);have cp:=ZgI (G:=R.G) l[i] hx.1 hx.2;have ex:isa l[i]=[.int .i64 l[i].d,.int .i64 l[i].l,.int .u8 l[i].k,.vsl (l[i].its.map ita),.vsl (l[i].dms.map dma)]:=rfl;rw[ex]at cp
   cases i with
   | zero =>
     have w1:i64.wrap 1=1:=rfl;have tk0:twR l 1=[[.int .i64 l[0].d,.int .i64 l[0].l,.int .u8 l[0].k,.vsl (l[0].its.map ita),.vsl (l[0].dms.map dma)]]:=(by rw[tk];simp[twR]);simp -implicitDefEqProofs[fM,hi,ex];refine Qco (cp) ?_;simp -implicitDefEqProofs[w1,fM];refine ⟨rfl,?_⟩;exact Ym.sub (by simp[lk,Ya,AV.keys]) (by simp[lk,Yc,Ya,AV.keys,tk0])
   | succ i =>
     have w1:i64.wrap ((i:Int)+1+1)=(i:Int)+1+1:=Yf;have k1:(i:Int)+1<l.length:=(by omega);have k2:((i:Int)+1).toNat=i+1:=(by omega);have k3:(0:Int)<=(i:Int)+1:=(by omega);have b2:(i+1+1)*72<=70368744177664:=(by omega);simp -implicitDefEqProofs[fM,hi,k1,k2,k3,ex];refine Qco (cp) ?_;simp -implicitDefEqProofs[w1,b2,ln];refine ⟨rfl,?_⟩;refine Ym.sub (by simp[lk,Ya,AV.keys]) ?_;simp only[W0g,W0Q,or_false,W1I,forall_eq,ZbA,and_true];simp[lk,Yc,Ya,AV.keys,tk]
 . intro _;refine Qga ?_;obtain ⟨n,hn⟩ : ∃ n,l.length=n+1:=⟨l.length-1,by omega⟩;have e1:twR l (n+1)=l.map isa:=(by rw[<- hn,ZbB]);have k1:¬(n:Int)+1<n+1:=(by omega);rw[hn];rw[hn]at hsp;simp -implicitDefEqProofs[fM,hn,k1,e1];refine Qgr ?_;simp -implicitDefEqProofs;refine Yd.sem (Z1B.byref hsp (λ_=>44) (by simp) (by simp) (by simp[St.get,lk,Zgf]) (by simp[ZfV]) (by simp[Ya,AV.keys,lk,fM1]) rfl (by simp[AV.ren,fM1]) rfl rfl) ?_;simp -implicitDefEqProofs[Yl,Zgf];have ls:(sortN l).length=n+1:=(by rw[Zg3,hn]);rw[ls]at hcp;refine Yd.sem (Z1B.byref hcp (λ_=>44) (by simp) (by simp) (by simp[St.get,lk,Zgf]) (by simp[ZfV]) (by simp[Ya,AV.keys,lk,fM2]) rfl (by simp[AV.ren,fM2]) rfl rfl) ?_;have hcv:cmpV 1000 (sortN l)=if (mgL a b).length=n+1 then .osl 1000 (n+1) else .oss 1000 (n+1) 0 (mgL a b).length:=by rw[cmpV,hcm,ls]
   have hco:cmpO (sortN l)=(mgL a b).map isa++List.replicate (n+1-(mgL a b).length) zrI:=(by rw[cmpO,hcm,ls]);rw[hcv,hco];generalize mgL a b=m at *;by_cases hm:m.length=n+1
   . have hr:List.replicate (n+1-m.length) zrI=[]:=(by rw[hm,Nat.sub_self];rfl);rw[if_pos hm,hr,W1C];have pu:=ZfU m;rw[rega]at hck;simp -implicitDefEqProofs[Yl,Zgf,AV.ren];refine Yd.flat hck (by simp[AV.flat]) (by simp[pu,hm]) ?_;by_cases ko:openV m=0
     . simp -implicitDefEqProofs[ko,pu,hm]
     . simp -implicitDefEqProofs[ko]
   . rw[if_neg hm]
     have hml:m.length<=n+1:=by
      have:=Zgi (sortN l) (sortN l).length;rw[<- hcm,<- ls];exact this
     have hRl:(m.map isa++List.replicate (n+1-m.length) zrI).length=n+1:=(by simp;omega);have hRt:(m.map isa++List.replicate (n+1-m.length) zrI).take m.length=m.map isa:=by rw[List.take_left'];simp
     have hRn:AObj.ren (λ_=>44) (.row 5 (m.map isa++List.replicate (n+1-m.length) zrI)) = .row 5 (m.map isa++List.replicate (n+1-m.length) zrI):=by
      have h:=Zgf (λ_=>44) m;simp only[AObj.ren,AObj.row.injEq,true_and]at h ⊢;rw[W0r,h];simp[zrI,AV.ren]
     generalize m.map isa++List.replicate (n+1-m.length) zrI=RR at *;have pu:=ZfU m;rw[rega]at hck;simp -implicitDefEqProofs[Yl,hRn,AV.ren];refine Yd.flat hck (by simp[AV.flat]) (by simp[pu,hRl,hRt,hml]) ?_;by_cases ko:openV m=0
     . simp -implicitDefEqProofs[ko,pu,hRl,hRt,hml]
     . simp -implicitDefEqProofs[ko]
def regL:List Iss:=[⟨10,1,1,[(20,2),(30,1)],[]⟩,⟨10,2,1,[(20,1),(30,2),(40,2)],[]⟩,⟨20,1,1,[(30,3),(50,1)],[]⟩,
 ⟨30,1,2,[],[⟨150,100,200⟩]⟩,⟨30,2,2,[],[⟨150,120,200⟩]⟩,⟨40,1,2,[],[]⟩,⟨50,1,3,[],[]⟩]
def ZgK:nums regL=[10,20,30,40,50]:=by decide
def ZgL:openV regL=0:=by decide +kernel
def ZgM:exV regL [1,1,1,1,1] 10=([(30,7),(50,2)],0):=by decide +kernel
def ZgN:useE regL 30=([(10,1),(10,2),(20,1)],0):=by decide +kernel
def ZgO:abE regL [2,1,1,1,1] 40=([10],0):=by decide +kernel
def ZgP:difE regL 10 1 2=([⟨20,2,1⟩,⟨30,1,2⟩,⟨40,0,2⟩],[],0):=by decide +kernel
def ZgQ:cntV regL 30=2:=by decide +kernel
def ZgR:dpG (dRun regL (nums regL).length).1 10=3:=by decide +kernel
def ZgS:Wf regL:=by
 refine ⟨⟨by unfold Sml;decide,?_⟩,by decide⟩;unfold Sml;decide
def ZgT:trE regL [1,1,2,1,1] 10=([⟨0,10,1,1⟩,⟨1,20,1,2⟩,⟨2,30,2,3⟩,⟨2,50,1,1⟩,⟨1,30,2,1⟩],0):=by decide +kernel
def regD:List Iss:=[⟨10,1,1,[(20,2),(30,1)],[]⟩,⟨10,1,1,[(20,2),(30,1)],[]⟩,⟨10,2,1,[(20,1),(30,2),(40,2)],[]⟩,⟨10,2,1,[(20,1),(30,2),(40,2)],[]⟩,⟨20,1,1,[(30,3),(50,1)],[]⟩,⟨20,1,1,[(30,3),(50,1)],[]⟩,
 ⟨30,1,2,[],[⟨150,100,200⟩]⟩,⟨30,1,2,[],[⟨150,100,200⟩]⟩,⟨30,2,2,[],[⟨150,120,200⟩]⟩,⟨30,2,2,[],[⟨150,120,200⟩]⟩,⟨40,1,2,[],[]⟩,⟨40,1,2,[],[]⟩,⟨50,1,3,[],[]⟩,⟨50,1,3,[],[]⟩]
def ZgU:clN regL regL regL.length=[]:=by decide +kernel
def ZgV:sortN (regL++regL)=regD:=by
 have hL:=ZaS ZgL;refine Zg2 (ZgD hL hL ZgU) (by decide +kernel) ?_;unfold SrtN
 decide +kernel
def ZgW:mgE regL regL=(regL,0):=by
 have e:mgL regL regL=regL:=by
  rw[mgL,ZgV]
  decide +kernel
 simp[mgE,bothE,ZgL,ZgU,e]
def ZgX:findN 30 2 regL=some ⟨30,2,2,[],[⟨150,120,200⟩]⟩:=by decide +kernel
def ZgY (d c:Int):PC prog G 26 [.int .i64 d,.int .i64 c] (.agg [.int .i64 d,.int .i64 c]):=by
 (refine Zdi rfl λR hG hrd=>Qga ?_;subst hG)
 simp -implicitDefEqProofs[Zdg,Zdh]
def ZgZ (d l:Int) (its:List (Int×Int)):PC prog G 56 [.int .i64 d,.int .i64 l,.vsl (its.map ita)] (.agg (isa ⟨d,l,1,its,[]⟩)):=by
 refine PC.nzR (v:=.agg [.int .i64 d,.int .i64 l,.int .u8 1,.vsl (its.map ita),.nils]) ?_ (by simp[nz,isa])
 (refine Zdc rfl λR hG hrd=>Qga ?_;subst hG)
 simp -implicitDefEqProofs[Zda,Zdb]
def Zh0 (d l k:Int) (dms:List Dm):PC prog G 57 [.int .i64 d,.int .i64 l,.int .u8 k,.vsl (dms.map dma)] (.agg (isa ⟨d,l,k,[],dms⟩)):=by
 refine PC.nzR (v:=.agg [.int .i64 d,.int .i64 l,.int .u8 k,.nils,.vsl (dms.map dma)]) ?_ (by simp[nz,isa])
 (refine Zdf rfl λR hG hrd=>Qga ?_;subst hG)
 simp -implicitDefEqProofs[Zdd,Zde]
def Zh1 (d l k:Int):PC prog G 57 [.int .i64 d,.int .i64 l,.int .u8 k,.nils] (.agg (isa ⟨d,l,k,[],[]⟩)):=by
 refine PC.nzR (v:=.agg [.int .i64 d,.int .i64 l,.int .u8 k,.nils,.nils]) ?_ (by simp[nz,isa])
 (refine Zdf rfl λR hG hrd=>Qga ?_;subst hG)
 simp -implicitDefEqProofs[Zdd,Zde]
def Zh2:PC prog G 23 [] (.vsl (([1,1,1,1,1]:List Int).map ia)):=by
 (refine Zd6 rfl λR hG hrd=>Qga ?_;subst hG)
 simp -implicitDefEqProofs[Zd4,Zd5,ia];rfl
def Zh3:PC prog G 20 [] (.vsl (([2,1,1,1,1]:List Int).map ia)):=by
 (refine Zd9 rfl λR hG hrd=>Qga ?_;subst hG)
 simp -implicitDefEqProofs[Zd7,Zd8,ia];rfl
def Zh4:PC prog G 19 [] (rega regL):=by
 (refine Zd3 rfl λR hG hrd=>Qga ?_;subst hG)
 simp -implicitDefEqProofs[Zd1,Zd2];refine Qco (ZgY 20 2) ?_;simp -implicitDefEqProofs;refine Qco (ZgY 30 1) ?_;simp -implicitDefEqProofs;refine Qco (ZgZ 10 1 [(20,2),(30,1)]) ?_;simp -implicitDefEqProofs[isa];refine Qco (ZgY 20 1) ?_;simp -implicitDefEqProofs;refine Qco (ZgY 30 2) ?_;simp -implicitDefEqProofs;refine Qco (ZgY 40 2) ?_;simp -implicitDefEqProofs;refine Qco (ZgZ 10 2 [(20,1),(30,2),(40,2)]) ?_;simp -implicitDefEqProofs[isa];refine Qco (ZgY 30 3) ?_;simp -implicitDefEqProofs;refine Qco (ZgY 50 1) ?_;simp -implicitDefEqProofs;refine Qco (ZgZ 20 1 [(30,3),(50,1)]) ?_;simp -implicitDefEqProofs[isa];refine Qco (Zh0 30 1 2 [⟨150,100,200⟩]) ?_;simp -implicitDefEqProofs[isa];refine Qco (Zh0 30 2 2 [⟨150,120,200⟩]) ?_;simp -implicitDefEqProofs[isa];refine Qco (Zh1 40 1 2) ?_;simp -implicitDefEqProofs[isa];refine Qco (Zh1 50 1 3) ?_;simp -implicitDefEqProofs[isa,rega,regL,ita,dma];rfl
def at_pc (hG:GC G) (r:Jr) (d l:Int) (h:Wf r):PC prog G 29 [rega r,.agg [.int .i64 d,.int .i64 l]] (.tup [.agg (isa (atP r d l).1),.int .i64 (atP r d l).2]):=by
 by_cases e:openV r=0
 case neg =>
  refine PC.nzR (v:=.tup [.agg [.int .i64 0,.int .i64 0,.int .u8 0,.nils,.nils],.int .i64 (openV r)]) ?_ (by simp[nz,atP,e,zI,isa])
  (refine Z7u rfl λR hG hrd=>Qga ?_;subst hG)
  simp -implicitDefEqProofs[Z7s,Z7t,rega];refine Qco (ZaB hG r h) ?_;simp -implicitDefEqProofs[openA,e]
 have hL:=ZaS e;have hO:=Z8Q hL
 cases hf:findN d l r with
 | none =>
   refine PC.nzR (v:=.tup [.agg [.int .i64 0,.int .i64 0,.int .u8 0,.nils,.nils],.int .i64 6]) ?_ (by simp[nz,atP,e,hf,zI,isa])
   (refine Z7u rfl λR hG hrd=>Qga ?_;subst hG)
   simp -implicitDefEqProofs[Z7s,Z7t,rega];refine Qco (ZaB hG r h) ?_;simp -implicitDefEqProofs[openA,e];refine Qco (Za2 r (nums r) d l (Zb0 hO) h.1.1 (Zb2 hL)) ?_;simp -implicitDefEqProofs[hf,fndA,noIs]
 | some x =>
   have ev:atP r d l=(x,0):=(by simp[atP,e,hf]);have hx:=h.1.2 x (Z98 hf).1;have ex:isa x=[.int .i64 x.d,.int .i64 x.l,.int .u8 x.k,.vsl (x.its.map ita),.vsl (x.dms.map dma)]:=rfl;have cp:=ZgI (G:=G) x hx.1 hx.2;rw[ev];rw[ex]at cp
   (refine Z7u rfl λR hG hrd=>Qga ?_;subst hG)
   simp -implicitDefEqProofs[Z7s,Z7t,rega];refine Qco (ZaB hG r h) ?_;simp -implicitDefEqProofs[openA,e];refine Qco (Za2 r (nums r) d l (Zb0 hO) h.1.1 (Zb2 hL)) ?_;simp -implicitDefEqProofs[hf,fndA,ex];refine Qco (cp) ?_;simp -implicitDefEqProofs[ex]
attribute [local simp] Z97
set_option maxRecDepth 100000 in
def Zh5 (hG:GC G):PC prog G 14 [] (.bool true):=by
 have hM:=ZgJ hG regL regL ZgS ZgS (λ_=>by decide);rw[ZgW]at hM;have hA:=at_pc hG regL 30 2 ZgS;have eA:atP regL 30 2=(⟨30,2,2,[],[⟨150,120,200⟩]⟩,0):=(by simp[atP,ZgL,ZgX]);rw[eA]at hA;have k10:knV regL 10=0:=(by decide +kernel);have k30:knV regL 30=0:=(by decide +kernel);have hD:=Zb5 hG regL ZgS;rw[ZgL,if_pos rfl,ZgK]at hD;have hE:=Zfi hG regL [1,1,1,1,1] 10 ZgS;rw[ZgM]at hE;have hT:=Zfs hG regL [1,1,2,1,1] 10 ZgS;rw[ZgT]at hT;have hU:=Zf5 hG regL 30 ZgS;rw[ZgN]at hU;have hB:=Zf6 hG regL [2,1,1,1,1] 40 ZgS;rw[ZgO]at hB;have hF:=Zfh hG regL 10 1 2 ZgS;rw[ZgP]at hF;have hP:=Zb7 hG regL 10 ZgS;rw[k10,if_pos rfl,ZgR]at hP;have hL:=Zb6 hG regL 30 ZgS;rw[k30,if_pos rfl,ZgQ]at hL;have r5:List.range 5=[0,1,2,3,4]:=rfl;have hR:=Zh4 (G:=G);have hR1:=Zh2 (G:=G);have hR2:=Zh3 (G:=G);simp only[W0F,W1c,ia,ita,bra,dma]at hD hE hT hU hB hF hR1 hR2
 (refine Zdl rfl λR hG hrd=>Qga ?_;subst hG)
 simp -implicitDefEqProofs[Zdj,Zdk];refine Qco (hR) ?_;simp -implicitDefEqProofs;refine Qco (hD) ?_;simp -implicitDefEqProofs;refine Qco (hR) ?_;simp -implicitDefEqProofs;refine Qco (hR1) ?_;simp -implicitDefEqProofs;refine Qco (hE) ?_;simp -implicitDefEqProofs;refine Qco (hR) ?_;simp -implicitDefEqProofs[r5];refine Qco (hT) ?_;simp -implicitDefEqProofs;refine Qco (hR) ?_;simp -implicitDefEqProofs;refine Qco (hU) ?_;simp -implicitDefEqProofs;refine Qco (hR) ?_;simp -implicitDefEqProofs;refine Qco (hR2) ?_;simp -implicitDefEqProofs;refine Qco (hB) ?_;simp -implicitDefEqProofs;refine Qco (hR) ?_;simp -implicitDefEqProofs;refine Qco (hF) ?_;simp -implicitDefEqProofs;refine Qco (hR) ?_;simp -implicitDefEqProofs;refine Qco (hP) ?_;simp -implicitDefEqProofs;refine Qco (hR) ?_;simp -implicitDefEqProofs;refine Qco (hL) ?_;simp -implicitDefEqProofs;refine Qco (hR) ?_;simp -implicitDefEqProofs;refine Qco (hA) ?_;simp -implicitDefEqProofs[isa,dma];refine Qco (hR) ?_;simp -implicitDefEqProofs;refine Qco (hR) ?_;simp -implicitDefEqProofs;simp only[rega]at hM;refine Qco (hM) ?_;have hI:=Z8t (G:=R.G) [10,20,30,40,50] [10,20,30,40,50] (by unfold Sml;decide);have hI1:=Z8t (G:=R.G) [10] [10] (by unfold Sml;decide);have hIt:=Z8x (G:=R.G) [(30,7),(50,2)] [(30,7),(50,2)] (by unfold Sml;decide);have hBr:=Zc3 (G:=R.G) [⟨0,10,1,1⟩,⟨1,20,1,2⟩,⟨2,30,2,3⟩,⟨2,50,1,1⟩,⟨1,30,2,1⟩] [⟨0,10,1,1⟩,⟨1,20,1,2⟩,⟨2,30,2,3⟩,⟨2,50,1,1⟩,⟨1,30,2,1⟩] (by unfold Sml;decide);have hRf:=Zep (G:=R.G) [(10,1),(10,2),(20,1)] [(10,1),(10,2),(20,1)] (by unfold Sml;decide);have hCh:=Zeq (G:=R.G) [⟨20,2,1⟩,⟨30,1,2⟩,⟨40,0,2⟩] [⟨20,2,1⟩,⟨30,1,2⟩,⟨40,0,2⟩] (by unfold Sml;decide);have hSi:=Z8y (G:=R.G) ⟨30,2,2,[],[⟨150,120,200⟩]⟩ ⟨30,2,2,[],[⟨150,120,200⟩]⟩ (by unfold Sml;decide) (by unfold Sml;decide);have hSm:=Z8z (G:=R.G) regL regL ZgS.1;rw[W0M rfl]at hI hI1 hIt hBr hRf hCh hSi hSm;simp only[W0F,W1c,ia,ita,bra,dma,isa]at hI hI1 hIt hBr hRf hCh hSi;simp -implicitDefEqProofs[r5];refine Qco (hI) ?_;simp -implicitDefEqProofs;refine Qco (ZgY 30 7) ?_;simp -implicitDefEqProofs;refine Qco (ZgY 50 2) ?_;simp -implicitDefEqProofs;refine Qco (hIt) ?_;simp -implicitDefEqProofs;refine Qco (hBr) ?_;simp -implicitDefEqProofs;refine Qco (hRf) ?_;simp -implicitDefEqProofs;refine Qco (hI1) ?_;simp -implicitDefEqProofs;refine Qco (hCh) ?_;simp -implicitDefEqProofs;refine Qco (hR) ?_;have e0:rega regL = .agg [.vsl (regL.map isa)]:=rfl;have gl:regL.length=7:=rfl;have g4:regL[4]? = some ⟨30,2,2,[],[⟨150,120,200⟩]⟩:=rfl;have g4':∀ h:4<regL.length,regL[4]'h=⟨30,2,2,[],[⟨150,120,200⟩]⟩:=λ_=>rfl
 simp -implicitDefEqProofs[e0,gl,g4,g4',isa,dma];refine Qco (hSi) ?_;simp -implicitDefEqProofs;refine Qco (hR) ?_;rw[e0]at hSm ⊢;simp -implicitDefEqProofs;refine Ye.of hSm (by simp[AV.pure,isa]) ?_;simp -implicitDefEqProofs;exact rfl
def Zh6 (r:Jr):Bool:=!Z8B r&&decide (chkV r=0)
def Zh7 {r:Jr} (h:Zh6 r=true) (hk:∀ x∈r,KOk x):Wf r/\openV r=0:=by
 simp only[Zh6,W01,W1z,W0b]at h;exact ⟨ZfP h.1 hk,by rw[Zbs];exact h.2⟩
def Zh8 (r:Jr) (hk:∀ x∈r,KOk x):PC prog G 15 [rega r] (.bool (Zh6 r)):=by
 have hg:=ZfO (G:=G) r;have hc:=λh=>Z9a (G:=G) r (ZfP h hk)
 rw[rega]at hg hc
 (refine Zch rfl λR hG hrd=>Qga ?_;subst hG)
 simp -implicitDefEqProofs[Zcf,Zcg,rega];refine Qco (hg) ?_
 cases g:Z8B r
 . simp -implicitDefEqProofs;refine Qco (hc g) ?_;simp -implicitDefEqProofs[Zh6,g]
 . simp -implicitDefEqProofs[Zh6,g]
def Zh9 {α β:Type} {f:α->Option β}:∀ {l:List α} {l':List β},l.length=l'.length->(∀ i (h:i<l.length) (h':i<l'.length),f l[i]=some l'[i])->Yj f l=some l'
 |[],[],_,_=>rfl
 | x::l,y::l',hl,h=>by
   have h0:=h 0 (by simp) (by simp);simp only[List.getElem_cons_zero]at h0
   have ih:=Zh9 (f:=f) (l:=l) (l':=l') (by simpa using hl) λi h1 h2=>by
    have:=h (i+1) (by simpa using h1) (by simpa using h2);simpa using this
   simp only[Yj,h0,ih]
 |[],_::_,hl,_=>by simp at hl
 |_::_,[],hl,_=>by simp at hl
def Zha (r:Jr) (j:Nat) (ρ:Nat->Nat) (h:ρ 907=907):AObj.ren ρ (.row 5 (twM r j)) = .row 5 (twM r j):=by
 simp only[AObj.ren]
 congr 1
 have:∀ x∈twM r j,x.map (AV.ren ρ)=x:=λx hx=>by
  unfold twM at hx;rcases List.mem_or_eq_of_mem_set hx with hx|rfl
  . obtain ⟨y,-,rfl⟩:=W0i.1 hx;simp[isa,AV.ren]
  . simp[isZ,AV.ren,h]
 exact (W0K this).trans (W1W _)
def isZ2 (x:Iss):List AV:=[.int .i64 x.d,.int .i64 x.l,.int .u8 x.k,.vsl (x.its.map ita),.osl 907 (x.dms.length+1)]
def Zhb {r:Jr} {j:Nat} (hj:j<r.length) (d:Dm) {st:St} (h1:st.get 921=some (.row 5 ((twM r j).set j (isZ2 r[j])))) (h2:st.get 907=some (.row 3 ((r[j].dms++[d]).map dma))) (n:Nat) :
  Yh okAll st (n+2) (.osl 921 r.length)=some (.vsl ((ZaN r j d).map isa)):=by
 have hl:((twM r j).set j (isZ2 r[j])).length=r.length:=(by rw[List.length_set,Zc6]);have hjm:j<(twM r j).length:=by rw[Zc6];exact hj
 have np:((twM r j).set j (isZ2 r[j])).all (λr=>r.all AV.pure)=false:=by
  rw[List.all_eq_false];exact ⟨isZ2 r[j],List.mem_set hjm _,by simp[isZ2,AV.pure]⟩
 have hs:Yj (Yj (Yh okAll st (n+1))) ((twM r j).set j (isZ2 r[j]))=some ((ZaN r j d).map isa):=by
  refine Zh9 (by rw[hl,W0N,ZaN,List.length_set]) λi g1 g2=>?_
  have hi:i<r.length:=(by rwa [hl]at g1);rw[List.getElem_set,W1u];simp only[ZaN,List.getElem_set];by_cases c:j=i
  . subst c;rw[if_pos rfl,if_pos rfl,at_eq hj];have pd:((r[j].dms++[d]).map dma).all (λr=>r.all AV.pure)=true:=by simp[dma,AV.pure]
    have e:Yh okAll st (n+1) (.osl 907 (r[j].dms.length+1))=some (.vsl ((r[j].dms++[d]).map dma)):=by
     simp only[Yh,h2];rw[if_pos ⟨rfl,by simp⟩,if_pos pd]
    simp only[isZ2,Yj,e];simp[Yh,AV.pure,isa,addD]
  . rw[if_neg c,if_neg c,Zc7 hi,if_neg (λe=>c e.symm)];simp[isa,Yj,Yh,AV.pure]
 simp only[Yh,h1];rw[if_pos ⟨rfl,hl⟩,if_neg (by rw[np];simp),hs];rfl
def Zhc {x:Iss} (h:issB x=true):x.dms.length<=4/\(x.k=1->x.dms=[])/\∀ y∈x.dms,vd y=true:=by
 unfold issB headB at h;simp only[W01]at h;obtain ⟨⟨⟨-,h1⟩,-⟩,h3⟩:=h;refine ⟨?_,λc=>?_,λy hy=>W03.1 h3 y hy⟩
 . by_cases c:x.k=1
   . rw[if_pos c]at h1;simp only[W01,W0b]at h1;omega
   . rw[if_neg c]at h1;simp only[W01,W0b]at h1;exact h1.1
 . rw[if_pos c]at h1;simp only[W01,W0b]at h1;exact W0l.1 h1.2
def Zhd {st:St} {n:Nat} {v:AV} (h:Yh okAll st 5 (.osl 921 n)=some v):Yj (snap st) [.agg [.osl 921 n]]=some [.agg [v]]:=by
 have e:∀ k a,Yh okAll st (k+1) (.agg [a])=(Yj (Yh okAll st k) [a]).map .agg:=λ_ _=>by simp only[Yh]
 simp only[Yj,snap,e,h];rfl
def szdC (w:Int):List (Nat×AV):=[(7,.bool true),(5,.ptr 5 0),(3,.ptr 3 0),(1,.int .u8 w)]
def szdB (r:Jr) (d:Dm):List (Nat×AObj):=[(3,.box [.vsl (r.map isa)]),(5,.box [.int .i64 d.n,.int .i64 d.l,.int .i64 d.u])]
def szI (r:Jr) (w:Int) (d:Dm) (i:Nat):St:=⟨(28,.int .i64 i)::(27,.int .i64 r.length)::(26,.vsl (r.map isa))::szdC w,szdB r d⟩
def szJ (r:Jr) (w:Int) (d:Dm) (i:Nat) (x:Iss) (k:Nat):St:=⟨(35,.int .i64 k)::(34,.int .i64 x.dms.length)::(33,.vsl (x.dms.map dma))::(9,.ptr 9 0)::(28,.int .i64 i)::(27,.int .i64 r.length)::(26,.vsl (r.map isa))::szdC w,
 (9,.box [.int .i64 x.d,.int .i64 x.l,.int .u8 x.k,.vsl (x.its.map ita),.vsl (x.dms.map dma)])::szdB r d⟩
set_option maxRecDepth 100000 in
def Zhe (hG:GC G) (r:Jr) (w:Int) (d:Dm) (hk:∀ x∈r,KOk x) (w0:0<=w/\w<=255) :
  PC prog G 4 [rega r,.int .u8 w,.agg (dma d)] (.bool true):=by
 have hA:=Zh5 hG;have hrd0:=Zh8 (G:=G) r hk
 cases hr:Zh6 r
 . rw[hr]at hrd0;rw[rega]at hrd0
   (refine Z5D rfl λR hG hrd=>Qga ?_;subst hG)
   simp -implicitDefEqProofs[Z5B,Z5C,rega];refine Qco (hA) ?_;simp -implicitDefEqProofs;refine Qco (hrd0) ?_;simp -implicitDefEqProofs
 obtain ⟨h,ho⟩:=Zh7 hr hk;have hL:=ZaS ho;have h60:=ZaU hL;have hn0:0<r.length:=h60.1;have hn:(0:Int)<r.length:=(by omega);have k0:¬(r.length:Int)=0:=by omega
 have hiss:∀ x∈r,issB x=true:=by
  have h1:=hL;unfold Z8I at h1;simp only[W01]at h1;exact λx hx=>W03.1 h1.1.1.1.2 x hx
 obtain ⟨j,hjw⟩ : ∃ j:Nat,w.tmod (r.length:Int)=(j:Int):=⟨(w.tmod r.length).toNat,(Int.toNat_of_nonneg (Int.tmod_nonneg _ w0.1)).symm⟩
 have hj:j<r.length:=by
  have:=Int.tmod_lt_of_pos w hn;omega
 have ww:i64.wrap w=w:=Yf;have hT:=Zce (G:=G) r j hj h.1;rw[at_eq hj]at hT;have cD:=Z9o (G:=G) d
 have hW':Wf (ZaN r j d):=by
  refine ⟨⟨by have:=h.1.1;unfold Sml ZaN at *;rwa [List.length_set],λx hx=>?_⟩,λx hx=>?_⟩
  all_goals
   unfold ZaN at hx;rw[at_eq hj]at hx;rcases List.mem_or_eq_of_mem_set hx with hx|rfl
  . exact h.1.2 x hx
  . have h1:=h.1.2 _ (W0e hj);have h2:=hiss _ (W0e hj);refine ⟨h1.1,?_⟩;have:=(Zhc h2).1;show Sml (r[j].dms++[d]);unfold Sml;rw[W0s,W2f];omega
  . exact h.2 x hx
  . have h4:=h.2 r[j] (W0e hj);exact ⟨h4.1,h4.2⟩
 have cK:=Zb4 hG (ZaN r j d) hW';rw[ZaR hj ho d,rega]at cK;have rM:=Zha r j;have hsn:=λst=>Zhb hj d (st:=st)
 obtain ⟨x,hx⟩:=Qex (r[j]);rw[<- hx]at hT cK;have hx4:=(Zhc (hiss _ (W0e hj))).1;rw[<- hx]at hx4
 have rX:∀ ρ,AObj.ren ρ (.row 3 (x.dms.map dma)) = .row 3 (x.dms.map dma):=λρ=>by
  simp only[AObj.ren,W10]
  congr 2
  funext p;simp[dma,AV.ren]
 have eD:dma d=[.int .i64 d.n,.int .i64 d.l,.int .i64 d.u]:=rfl;rw[hr,rega]at hrd0;rw[rega]at hT ⊢;rw[eD]
 (refine Z5D rfl λR hG hrd=>Qga ?_;subst hG)
 simp -implicitDefEqProofs[Z5B,Z5C];refine Qco (hA) ?_;simp -implicitDefEqProofs;refine Qco (hrd0) ?_;simp -implicitDefEqProofs;refine Z8m (szI r w d) (λ_=>True) r.length ?_ trivial ?_ ?_
 . simp only[szI,szdC,szdB]
   (refine Wkc ?_;simp only[Wkl,and_true];(try simp[lk,Yc,Ya,AV.keys]))
 . intro i hi _;have wi:i64.wrap ((i:Int)+1)=(i:Int)+1:=Yf;obtain ⟨x,hx3⟩:=Qex (r[i]);have hax:isa r[i]=[.int .i64 x.d,.int .i64 x.l,.int .u8 x.k,.vsl (x.its.map ita),.vsl (x.dms.map dma)]:=(by rw[<- hx3];rfl);obtain ⟨z0,z1,z2⟩:=Zhc (hiss _ (W0e hi));rw[<- hx3]at z0 z1 z2;refine Qga ?_;unfold szI;simp -implicitDefEqProofs[szdC,szdB,hi,hax];refine Z8m (szJ r w d i x) (λ_=>True) x.dms.length ?_ trivial ?_ ?_
   . simp only[szJ,szdC,szdB]
     (refine Wkc ?_;simp only[Wkl,and_true];(try simp[lk,Yc,Ya,AV.keys]))
   . intro k hk2 _;have wk:i64.wrap ((k:Int)+1)=(k:Int)+1:=Yf;obtain ⟨y,hy⟩:=Qex (x.dms[k]);have hay:dma x.dms[k]=[.int .i64 y.n,.int .i64 y.l,.int .i64 y.u]:=(by rw[<- hy];rfl);have ck:=Z9o (G:=R.G) y;rw[if_pos (z2 y (by rw[hy];exact W0e hk2))]at ck
     have kn:¬x.k=1:=λe=>by
      have:=z1 e;rw[this]at hk2;simp at hk2
     refine Qga ?_;unfold szJ;simp -implicitDefEqProofs[szdC,szdB,hk2,hay];refine Qco (ck) ?_;simp -implicitDefEqProofs[kn,wk]
     (refine Wkc ?_;simp only[Wkl,and_true];(try simp[lk,Yc,Ya,AV.keys]))
   . intro _;refine Qga ?_;unfold szJ;simp -implicitDefEqProofs[szdC,szdB];refine Qgr ?_;simp -implicitDefEqProofs[wi]
     (refine Wkc ?_;simp only[Wkl,and_true];(try simp[lk,Yc,Ya,AV.keys]))
 . intro _;refine Qga ?_;unfold szI;simp -implicitDefEqProofs[szdC,szdB];refine Z2Q mixed 9 ?_;simp -implicitDefEqProofs;refine Yd.sem (Z1B.objs hT (λk=>if k=907 then 907 else 921) (by simp) (by simp[St.get,lk]) (by simp[AV.pure]) rfl rfl) ?_;have hML:=Zc6 r j;have k0':¬r.length=0:=(by omega);have q1:=Int.tmod_nonneg r.length w0.1;have hMj:(twM r j)[j]'(by rw[hML];exact hj)=[.int .i64 x.d,.int .i64 x.l,.int .u8 x.k,.vsl (x.its.map ita),.osl 907 x.dms.length]:=(by rw[Zc7 hj,if_pos rfl,<- hx];rfl);have b3:(x.dms.length+1)*24<=70368744177664:=(by omega);simp -implicitDefEqProofs[Yl,rM,rX,AV.ren,hML,k0,k0',q1,hjw,hj,ww];refine ⟨rfl,GO0 (Z5s mixed ?_)⟩;generalize twM r j=M at *
   iterate 11 (rw[RE_op (by simp[wants]) (by simp[Z1y])];simp -implicitDefEqProofs[execE,hML,hj,hMj,b3])
   refine ⟨rfl,?_⟩;rw[<- hx]at hsn;simp only[isZ2,W0r,W0F,W1c,eD]at hsn;obtain ⟨z,hz⟩ : ∃ z:List AV,z=[.int .i64 x.d,.int .i64 x.l,.int .u8 x.k,.vsl (x.its.map ita),.osl 907 (x.dms.length+1)]:=⟨_,rfl⟩;have hgs:∀ h,(M.set j z)[j]'h=[.int .i64 x.d,.int .i64 x.l,.int .u8 x.k,.vsl (x.its.map ita),.osl 907 (x.dms.length+1)]:=λh=>by rw[List.getElem_set_self,hz]
   rw[<- hz]at hsn ⊢
   cases hv:vd d
   . rw[hv,if_neg (by simp)]at cD;rw[hv]at cK;simp only[W1G,W05,if_false]at cK;refine Z2Q mixed 2 ?_;refine GO0 (Z5x ?_);rw[RO_op (by simp[wants,St.tmp,St.putd,lk]) (by simp[Z1y])];simp -implicitDefEqProofs[execO,hML,hj,hgs,b3];rw[Z5A (by simp[wants])];simp -implicitDefEqProofs;refine CallO.of cD (by simp[AV.pure]) ?_;simp -implicitDefEqProofs
     iterate 2 (rw[RO_op (by simp[wants,St.tmp,St.putd,lk]) (by simp[Z1y])];simp -implicitDefEqProofs[execO,hML,hj,hgs,b3])
     iterate 5 (rw[Z5z (by simp[wants,St.tmp,St.putd,lk])];simp -implicitDefEqProofs)
     iterate 2 (rw[RO_op (by simp[wants,St.tmp,St.putd,lk]) (by simp[Z1y])];simp -implicitDefEqProofs[execO,hML,hj,hgs,b3])
     iterate 6 (rw[Z5z (by simp[wants,St.tmp,St.putd,lk])];simp -implicitDefEqProofs)
     iterate 2 (rw[RO_op (by simp[wants,St.tmp,St.putd,lk]) (by simp[Z1y])];simp -implicitDefEqProofs[execO,hML,hj,hgs,b3])
     refine Qgr ?_;simp -implicitDefEqProofs;refine Yd.flat cK (by simp[AV.flat]) (Zhd (hsn _ (by simp[St.get,lk]) (by simp[St.get,lk]) 3)) ?_;simp -implicitDefEqProofs
   . rw [hv,if_pos rfl]at cD;rw[hv]at cK;by_cases c1:x.k=1
     . simp only[c1,W1h,W17,W21,W1G,W05,if_false]at cK;refine Z2Q mixed 2 ?_;refine GO0 (Z5x ?_);rw[RO_op (by simp[wants,St.tmp,St.putd,lk]) (by simp[Z1y])];simp -implicitDefEqProofs[execO,hML,hj,hgs,c1];rw[Z5A (by simp[wants])];simp -implicitDefEqProofs;refine CallO.of cD (by simp[AV.pure]) ?_;simp -implicitDefEqProofs
       iterate 2 (rw[RO_op (by simp[wants,St.tmp,St.putd,lk]) (by simp[Z1y])];simp -implicitDefEqProofs[execO,hML,hj,hgs,c1])
       iterate 5 (rw[RO_op (by simp[wants,St.tmp,St.putd,lk]) (by simp[Z1y])];simp -implicitDefEqProofs[execO,hML,hj,hgs,c1])
       iterate 2 (rw[RO_op (by simp[wants,St.tmp,St.putd,lk]) (by simp[Z1y])];simp -implicitDefEqProofs[execO,hML,hj,hgs,c1])
       iterate 6 (rw[Z5z (by simp[wants,St.tmp,St.putd,lk])];simp -implicitDefEqProofs)
       iterate 2 (rw[RO_op (by simp[wants,St.tmp,St.putd,lk]) (by simp[Z1y])];simp -implicitDefEqProofs[execO,hML,hj,hgs,c1])
       refine Qgr ?_;simp -implicitDefEqProofs;refine Yd.flat cK (by simp[AV.flat]) (Zhd (hsn _ (by simp[St.get,lk]) (by simp[St.get,lk]) 3)) ?_;simp -implicitDefEqProofs
     . by_cases c2:x.dms.length+1<=4
       . simp only[c1,c2,W1h,W1v,W1A,Bool.and_self,if_true]at cK;have c3:(x.dms.length:Int)+1<=4:=(by omega);refine Z2Q mixed 2 ?_;refine GO0 (Z5x ?_);rw[RO_op (by simp[wants,St.tmp,St.putd,lk]) (by simp[Z1y])];simp -implicitDefEqProofs[execO,hML,hj,hgs,c1,c3];rw[Z5A (by simp[wants])];simp -implicitDefEqProofs;refine CallO.of cD (by simp[AV.pure]) ?_;simp -implicitDefEqProofs
         iterate 2 (rw[RO_op (by simp[wants,St.tmp,St.putd,lk]) (by simp[Z1y])];simp -implicitDefEqProofs[execO,hML,hj,hgs,c1,c3])
         iterate 5 (rw[RO_op (by simp[wants,St.tmp,St.putd,lk]) (by simp[Z1y])];simp -implicitDefEqProofs[execO,hML,hj,hgs,c1,c3])
         iterate 2 (rw[RO_op (by simp[wants,St.tmp,St.putd,lk]) (by simp[Z1y])];simp -implicitDefEqProofs[execO,hML,hj,hgs,c1,c3])
         iterate 6 (rw[RO_op (by simp[wants,St.tmp,St.putd,lk]) (by simp[Z1y])];simp -implicitDefEqProofs[execO,hML,hj,hgs,c1,c3])
         iterate 2 (rw[RO_op (by simp[wants,St.tmp,St.putd,lk]) (by simp[Z1y])];simp -implicitDefEqProofs[execO,hML,hj,hgs,c1,c3])
         refine Qgr ?_;simp -implicitDefEqProofs;refine Yd.flat cK (by simp[AV.flat]) (Zhd (hsn _ (by simp[St.get,lk]) (by simp[St.get,lk]) 3)) ?_;simp -implicitDefEqProofs
       . simp only[c1,c2,W1h,W1v,W1A,Bool.and_self,W21,W05,if_false]at cK;have c3:¬(x.dms.length:Int)+1<=4:=(by omega);refine Z2Q mixed 2 ?_;refine GO0 (Z5x ?_);rw[RO_op (by simp[wants,St.tmp,St.putd,lk]) (by simp[Z1y])];simp -implicitDefEqProofs[execO,hML,hj,hgs,c1,c3];rw[Z5A (by simp[wants])];simp -implicitDefEqProofs;refine CallO.of cD (by simp[AV.pure]) ?_;simp -implicitDefEqProofs
         iterate 2 (rw[RO_op (by simp[wants,St.tmp,St.putd,lk]) (by simp[Z1y])];simp -implicitDefEqProofs[execO,hML,hj,hgs,c1,c3])
         iterate 5 (rw[RO_op (by simp[wants,St.tmp,St.putd,lk]) (by simp[Z1y])];simp -implicitDefEqProofs[execO,hML,hj,hgs,c1,c3])
         iterate 2 (rw[RO_op (by simp[wants,St.tmp,St.putd,lk]) (by simp[Z1y])];simp -implicitDefEqProofs[execO,hML,hj,hgs,c1,c3])
         iterate 6 (rw[RO_op (by simp[wants,St.tmp,St.putd,lk]) (by simp[Z1y])];simp -implicitDefEqProofs[execO,hML,hj,hgs,c1,c3])
         iterate 2 (rw[RO_op (by simp[wants,St.tmp,St.putd,lk]) (by simp[Z1y])];simp -implicitDefEqProofs[execO,hML,hj,hgs,c1,c3])
         refine Qgr ?_;simp -implicitDefEqProofs;refine Yd.flat cK (by simp[AV.flat]) (Zhd (hsn _ (by simp[St.get,lk]) (by simp[St.get,lk]) 3)) ?_;simp -implicitDefEqProofs
end Go.Proofs.YthlcppdbldkldaaDoor
