/-
  What clashes, by the abstract machine.
-/
import Derived.Test.YthlcppdbldkldaaDoorMEdToHg
set_option linter.all false
set_option maxHeartbeats 8000000
namespace Go.Proofs.YthlcppdbldkldaaDoor
open Go.Proofs.Tryd (prog)
open IntKind (i64)
open Go.RowKit
variable {G:Jg}
def clB (b:Jr) (x:Iss):Bool:=match findN x.d x.l b with
 |some y=>!decide (x=y)
 |none=>false
def clN (a b:Jr) (i:Nat):List (Int×Int):=((a.take i).filter (clB b)).map λx=>(x.d,x.l)
def ZcU {a b:Jr} {i:Nat} (h:i<a.length):clN a b (i+1)=if clB b a[i]=true then clN a b i++[(a[i].d,a[i].l)] else clN a b i:=by
 rw[clN,W08 h,W19,W0r]
 split
 . rename_i e;simp[clN,List.filter_cons,e]
 . rename_i e;simp[clN,List.filter_cons,e]
def ZcV (a b:Jr) (i:Nat):(clN a b i).length<=i:=by
 simp only[clN,W0N];exact W0O (W0D _ _) (by simp;omega)
def bothE (a b:Jr):Int:=if openV a=0 then openV b else openV a
def clE (a b:Jr):List (Int×Int):=if bothE a b=0 then clN a b a.length else []
def clS (a b:Jr) (i:Nat):St:=if clN a b i=[] then ⟨[(31,.int .i64 i),(30,.int .i64 a.length),(29,.vsl (a.map isa)),(8,bkA b (nums b)),(10,.nils)],[]⟩
 else ⟨[(31,.int .i64 i),(30,.int .i64 a.length),(29,.vsl (a.map isa)),(8,bkA b (nums b)),(10,.osl 53 (clN a b i).length)],[(53,.row 2 ((clN a b i).map ita))]⟩
def ZcW (hG:GC G) (a b:Jr) (ha:Wf a) (hb:Wf b):∃ bk,PC prog G 33 [rega a,rega b] (.tup [.vsl ((clE a b).map ita),bk,.int .i64 (bothE a b)]):=by
 by_cases k1:openV a=0
 case neg =>
  refine ⟨_,PC.nzR (v:=.tup [.nils,.nilp,.int .i64 (openV a)]) ?_ (by simp[nz,clE,bothE,k1];rfl)⟩
  (refine Z6c rfl λR hG hrd=>Qga ?_;subst hG)
  simp -implicitDefEqProofs[Z6a,Z6b,rega];refine Qco (Zbo hG a ha) ?_;simp -implicitDefEqProofs[k1]
 by_cases k2:openV b=0
 case neg =>
  refine ⟨_,PC.nzR (v:=.tup [.nils,.nilp,.int .i64 (openV b)]) ?_ (by simp[nz,clE,bothE,k1,k2];rfl)⟩
  (refine Z6c rfl λR hG hrd=>Qga ?_;subst hG)
  simp -implicitDefEqProofs[Z6a,Z6b,rega];refine Qco (Zbo hG a ha) ?_;simp -implicitDefEqProofs[k1];refine Qco (Zbg hG b hb) ?_;simp -implicitDefEqProofs[openA,k2]
 have hL:=Zbh k2;have hO:=Z9w hL;have ev:clE a b=clN a b a.length:=(by simp[clE,bothE,k1,k2]);have eb:bothE a b=0:=(by simp[bothE,k1,k2]);rw[ev,eb];refine ⟨bkA b (nums b),PC.nzR (v:=.tup [Yg ((clN a b a.length).map ita),bkA b (nums b),.int .i64 0]) ?_ (by simp[nz,ZbR,bkA])⟩
 (refine Z6c rfl λR hG hrd=>Qga ?_;subst hG)
 have hs:=ha.1.1;unfold Sml at hs;simp -implicitDefEqProofs[Z6a,Z6b,rega];refine Qco (Zbo hG a ha) ?_;simp -implicitDefEqProofs[k1];refine Qco (Zbg hG b hb) ?_;simp -implicitDefEqProofs[openA,k2];refine Z91 (clS a b) (λ_=>True) a.length ?_ trivial ?_ ?_
 . have e0:clN a b 0=[]:=rfl;simp only[clS,e0,if_true]
   (first|exact Ym.tm (by simp[lk,bkA,AV.keys])|exact Ym.sub (by simp[lk,Ya,AV.keys,bkA,AV.keys]) (by simp[lk,Yc,Ya,AV.keys,bkA,AV.keys]))
 . intro i hi _;refine Qga ?_;have w1:i64.wrap ((i:Int)+1)=((i+1:Nat):Int):=Yf;have hx:=ha.1.2 a[i] (W0e hi);have hs:=ZcU (b:=b) hi;have bl:=ZcV a b i;have bb:((clN a b i).length+1)*16<=70368744177664:=(by omega);have ex:isa a[i]=[.int .i64 a[i].d,.int .i64 a[i].l,.int .u8 a[i].k,.vsl (a[i].its.map ita),.vsl (a[i].dms.map dma)]:=rfl
   cases q:findN a[i].d a[i].l b with
   | none =>
     have qb:clB b a[i]=false:=(by simp[clB,q]);rw[if_neg (by simp[qb])]at hs;by_cases z:clN a b i=[]
     . rw[z]at hs;simp -implicitDefEqProofs[clS,z,hi,ex];refine Qco (Za5 a[i]) ?_;simp -implicitDefEqProofs[clS];refine Qco (ZaH b (nums b) a[i].d a[i].l (Zbl hO) hb.1.1 (Zbn hL)) ?_;simp -implicitDefEqProofs[clS,q,fndA,noIs,w1,hs]
       ((try simp only[ita,ZbS]);refine Ym.sub (by simp[lk,Ya,AV.keys,ita,ZbS]) ?_;simp only[ita,ZbS,Wkl,ZbP,and_true];(try simp[lk,Yc,Ya,AV.keys,ita,ZbS]))
     . simp -implicitDefEqProofs[clS,z,hi,ex];refine Qco (Za5 a[i]) ?_;simp -implicitDefEqProofs[clS];refine Qco (ZaH b (nums b) a[i].d a[i].l (Zbl hO) hb.1.1 (Zbn hL)) ?_;simp -implicitDefEqProofs[clS,q,fndA,noIs,w1,hs,z]
       ((try simp only[ita,ZbS]);refine Ym.sub (by simp[lk,Ya,AV.keys,ita,ZbS]) ?_;simp only[ita,ZbS,Wkl,ZbP,and_true];(try simp[lk,Yc,Ya,AV.keys,ita,ZbS]))
   | some y =>
     have ey:isa y=[.int .i64 y.d,.int .i64 y.l,.int .u8 y.k,.vsl (y.its.map ita),.vsl (y.dms.map dma)]:=rfl;have qb:clB b a[i] = !decide (a[i]=y):=(by simp[clB,q]);rw[qb]at hs
     cases q2:decide (a[i]=y)
     . simp only[q2,W1z,if_true]at hs;by_cases z:clN a b i=[]
       . rw[z]at hs;simp -implicitDefEqProofs[clS,z,hi,ex];refine Qco (Za5 a[i]) ?_;simp -implicitDefEqProofs[clS];refine Qco (ZaH b (nums b) a[i].d a[i].l (Zbl hO) hb.1.1 (Zbn hL)) ?_;simp -implicitDefEqProofs[clS,q,fndA,ey];refine Qco (ZcT a[i] y hx.1 hx.2) ?_;simp -implicitDefEqProofs[clS,q2];refine Qco (Za5 a[i]) ?_;simp -implicitDefEqProofs[clS,w1,hs]
         ((try simp only[ita,ZbS]);refine Ym.sub (by simp[lk,Ya,AV.keys,ita,ZbS]) ?_;simp only[ita,ZbS,Wkl,ZbP,and_true];(try simp[lk,Yc,Ya,AV.keys,ita,ZbS]))
       . simp -implicitDefEqProofs[clS,z,hi,ex];refine Qco (Za5 a[i]) ?_;simp -implicitDefEqProofs[clS];refine Qco (ZaH b (nums b) a[i].d a[i].l (Zbl hO) hb.1.1 (Zbn hL)) ?_;simp -implicitDefEqProofs[clS,q,fndA,ey];refine Qco (ZcT a[i] y hx.1 hx.2) ?_;simp -implicitDefEqProofs[clS,q2];refine Qco (Za5 a[i]) ?_;simp -implicitDefEqProofs[clS,w1,hs,z,bb]
         ((try simp only[ita,ZbS]);refine Ym.sub (by simp[lk,Ya,AV.keys,ita,ZbS]) ?_;simp only[ita,ZbS,Wkl,ZbP,and_true];(try simp[lk,Yc,Ya,AV.keys,ita,ZbS]))
     . simp only[q2,W17,W05,if_false]at hs;by_cases z:clN a b i=[]
       . rw[z]at hs;simp -implicitDefEqProofs[clS,z,hi,ex];refine Qco (Za5 a[i]) ?_;simp -implicitDefEqProofs[clS];refine Qco (ZaH b (nums b) a[i].d a[i].l (Zbl hO) hb.1.1 (Zbn hL)) ?_;simp -implicitDefEqProofs[clS,q,fndA,ey];refine Qco (ZcT a[i] y hx.1 hx.2) ?_;simp -implicitDefEqProofs[clS,q2,w1,hs]
         ((try simp only[ita,ZbS]);refine Ym.sub (by simp[lk,Ya,AV.keys,ita,ZbS]) ?_;simp only[ita,ZbS,Wkl,ZbP,and_true];(try simp[lk,Yc,Ya,AV.keys,ita,ZbS]))
       . simp -implicitDefEqProofs[clS,z,hi,ex];refine Qco (Za5 a[i]) ?_;simp -implicitDefEqProofs[clS];refine Qco (ZaH b (nums b) a[i].d a[i].l (Zbl hO) hb.1.1 (Zbn hL)) ?_;simp -implicitDefEqProofs[clS,q,fndA,ey];refine Qco (ZcT a[i] y hx.1 hx.2) ?_;simp -implicitDefEqProofs[clS,q2,w1,hs,z]
         ((try simp only[ita,ZbS]);refine Ym.sub (by simp[lk,Ya,AV.keys,ita,ZbS]) ?_;simp only[ita,ZbS,Wkl,ZbP,and_true];(try simp[lk,Yc,Ya,AV.keys,ita,ZbS]))
 . intro _;refine Qga ?_;by_cases z:clN a b a.length=[]
   . simp -implicitDefEqProofs[clS,z];refine Qgr ?_;simp -implicitDefEqProofs[z,Yg,bkA]
   . have pu:((clN a b a.length).map ita).all (λr=>r.all AV.pure)=true:=(by simp[ita,AV.pure]);simp -implicitDefEqProofs[clS,z];refine Qgr ?_;simp -implicitDefEqProofs[z,pu,Yg,bkA]
def mgL (a b:Jr):List Iss:=cmpct (sortN (a++b))
def mgE (a b:Jr):List Iss×Int:=if bothE a b=0 then if clN a b a.length=[] then if openV (mgL a b)=0 then (mgL a b,0) else ([],openV (mgL a b)) else ([],23) else ([],bothE a b)
def ZcX {x:Iss} (h:issB x=true):okN x:=by
 simp only[issB,headB,W01,inR,W0b]at h;obtain ⟨⟨⟨⟨⟨h1,h2⟩,-⟩,-⟩,-⟩,-⟩:=h;exact ⟨h1.1,h1.2,h2.1,h2.2⟩
def ZcY {r:Jr} (h:Z9o r=true):∀ x∈r,okN x:=λx hx=>by
 simp only[Z9o,W01]at h;exact ZcX (W03.1 h.1.1.1.2 x hx)
def ZcZ {r:Jr} (h:Z9o r=true):InjN r:=λx hx y hy e=>by
 obtain ⟨e1,e2⟩:=(Zcn (ZcY h x hx) (ZcY h y hy)).1 e;have f1:=Zbn h x hx;have f2:=Zbn h y hy;rw[e1,e2,f2]at f1;exact (W1G f1).symm
def Zd0 {a b:Jr} (ha:Z9o a=true) (hb:Z9o b=true) (hc:clN a b a.length=[]):InjN (a++b):=by
 have hcl:∀ x∈a,clB b x=false:=λx hx=>by
  have:(a.take a.length).filter (clB b)=[]:=(by simpa [clN] using hc);rw[W0v,W27]at this;simpa using this x hx
 have hab:∀ x∈a,∀ y∈b,kyN x=kyN y->x=y:=λx hx y hy e=>by
  obtain ⟨e1,e2⟩:=(Zcn (ZcY ha x hx) (ZcY hb y hy)).1 e;have f2:=Zbn hb y hy;have:=hcl x hx;rw[clB,e1,e2,f2]at this;simpa using this
 intro x hx y hy e;rcases W0h.1 hx with hx|hx <;> rcases W0h.1 hy with hy|hy
 . exact ZcZ ha x hx y hy e
 . exact hab x hx y hy e
 . exact (hab y hy x hx e.symm).symm
 . exact ZcZ hb x hx y hy e
def Zd1 {l:Jr} {x:Iss}:∀ {p:Nat},p<=l.length->x∈kN l p->x∈l
 |0,_,h=>by cases h
 | p + 1,hp,h=>by
   rw[kN]at h
   split at h
   . exact Zd1 (by omega) h
   . rcases W0h.1 h with h|h
     . exact Zd1 (by omega) h
     . rw[W0B]at h;rw[h,ZcL (by omega:p<l.length)];exact W0e _
def Zd2 {a b:Jr} {x:Iss} (h:x∈mgL a b):x∈a++b:=Zct.1 (Zd1 (W0f _) h)
def Zd3 (a b:Jr):(mgL a b).length<=a.length+b.length:=by
 have:=ZcF (sortN (a++b)) (sortN (a++b)).length;rw[Zcs,W0s]at this;rw[mgL,cmpct,Zcs,W0s];exact this
def Zd4 {a b:Jr} (ha:Wf a) (hb:Wf b) (h1:a.length<=400) (h2:b.length<=400):Wf (mgL a b):=by
 refine ⟨⟨?_,λx hx=>?_⟩,λx hx=>?_⟩
 . have:=Zd3 a b;unfold Sml;omega
 . rcases W0h.1 (Zd2 hx) with h|h
   . exact ha.1.2 x h
   . exact hb.1.2 x h
 . rcases W0h.1 (Zd2 hx) with h|h
   . exact ha.2 x h
   . exact hb.2 x h
def Zd5 (x:Iss) (h1:Sml x.its) (h2:Sml x.dms):PC prog G 37 [.agg (isa x)] (.agg (isa x)):=by
 have p1:(x.its.map ita).all (λr=>r.all AV.pure)=true:=(by simp[ita,AV.pure]);have p2:(x.dms.map dma).all (λr=>r.all AV.pure)=true:=by simp[dma,AV.pure]
 (refine Z82 rfl λR hG hrd=>Qga ?_;subst hG)
 by_cases e1:x.its=[] <;> by_cases e2:x.dms=[]
 . simp -implicitDefEqProofs[Z80,Z81,isa,e1,e2];refine Z2T.of Zba (by simp) ?_;simp -implicitDefEqProofs;refine Z2T.of Zbb (by simp) ?_;simp -implicitDefEqProofs;exact rfl
 . simp -implicitDefEqProofs[Z80,Z81,isa,e1];refine Z2T.of Zba (by simp) ?_;simp -implicitDefEqProofs;refine Z2T.new (Zb9 _ e2 h2) (by simp) (by simp[lk,St.get]) ?_;simp -implicitDefEqProofs[p2];exact rfl
 . simp -implicitDefEqProofs[Z80,Z81,isa,e2];refine Z2T.new (Zb8 _ e1 h1) (by simp) (by simp[lk,St.get]) ?_;simp -implicitDefEqProofs;refine Z2T.of Zbb (by simp) ?_;simp -implicitDefEqProofs[p1];exact rfl
 . simp -implicitDefEqProofs[Z80,Z81,isa];refine Z2T.new (Zb8 _ e1 h1) (by simp) (by simp[lk,St.get]) ?_;simp -implicitDefEqProofs;refine Z2T.new (Zb9 _ e2 h2) (by simp) (by simp[lk,St.get]) ?_;simp -implicitDefEqProofs[p1,p2];exact rfl
def fM (l:Jr) (i:Nat):St:=match i with
 |0=>⟨[(35,.int .i64 0),(34,.int .i64 l.length),(33,.vsl (l.map isa)),(9,.ptr 9 0),(4,.ptr 4 0)],[(9,.box [.nils]),(4,.box [.nils])]⟩
 |i+1=>⟨[(35,.int .i64 (i+1:Nat)),(34,.int .i64 l.length),(33,.vsl (l.map isa)),(9,.ptr 9 0),(4,.ptr 4 0)],[(9,.box [.osl 44 (i+1)]),(4,.box [.nils]),(44,.row 5 (twR l (i+1)))]⟩
section
open Qq Go.Proofs.Tryd
def Zd6:RCode :=
 S [S [r 0 [m 25 2,m 26 1,o 27 .sub 25 26,k 28 .eql 27 I],.cond (.t 28) (S [r 1 [m 29 2,m 10 29],r 2 [m 30 3,m 11 30],.block 0 (.loop (S [S [r 3 [m 31 10,m 32 11,o 33 .lss 31 32],.cond (.t 33) .skip (.exit 0)],.block 1 (S [r 4 [m 34 10,m 35 11,o 36 .add 34 35,w 37 (.conv .u64 (.t 36)),w 38 (.vop (.sh false) [(.t 37),(.c (.int .u64 1))]),w 39 (.conv .i64 (.t 38)),m 12 39],R 5 [m 40 4,m 41 0,m 42 12,a [1,2] (i 43 5 41 42),a [3] (L 44 5 43),m 45 0,m 46 1,a [5,6] (i 47 5 45 46),a [7] (L 48 5 47),a [0,4,8] (w 49 (.callv (.t 40) [.t 44,.t 48])),a [9] (k 50 .lss 49 O)],.cond (.t 50) (r 6 [m 51 12,k 52 .add 51 I,m 10 52]) (r 7 [m 53 12,m 11 53])])])),S [r 8 [m 54 1,m 13 54],.block 2 (.loop (S [S [r 9 [m 55 13,m 56 10,k 57 .sub 56 I,o 58 .lss 55 57],.cond (.t 58) .skip (.exit 2)],.block 3 (R 11 [m 61 0,m 62 13,m 63 0,m 64 13,a [3] (k 65 .add 64 I),m 66 0,m 67 13,a [6] (k 68 .add 67 I),a [5,7] (i 69 5 66 68),a [8] (L 70 5 69),m 71 0,m 72 13,a [10,11] (i 73 5 71 72),a [12] (L 74 5 73),a [0,1,0,1,5,6,7,8,9,13] (i 75 5 61 62),a [14,9,0,1,5,6,7,8,9,13] (s 5 75 70),a [2,4,0,1,2,3,4,5,6,7,8,9,10,11,12,13,14,15] (i 76 5 63 65),a [16,13,15,0,1,2,3,4,5,6,7,8,9,10,11,12,13,14,15] (s 5 76 74)]),r 10 [m 59 13,k 60 .add 59 I,m 13 60]]))],.ret]) .skip],S [r 12 [m 77 3,m 78 2,o 79 .sub 77 78,k 80 .eql 79 I],.cond (.t 80) (S [r 13 [m 81 1,m 14 81],r 14 [m 82 2,m 15 82],.block 4 (.loop (S [S [r 15 [m 83 14,m 84 15,o 85 .lss 83 84],.cond (.t 85) .skip (.exit 4)],.block 5 (S [r 16 [m 86 14,m 87 15,o 88 .add 86 87,w 89 (.conv .u64 (.t 88)),w 90 (.vop (.sh false) [(.t 89),(.c (.int .u64 1))]),w 91 (.conv .i64 (.t 90)),m 16 91],R 17 [m 92 4,m 93 0,m 94 2,a [1,2] (i 95 5 93 94),a [3] (L 96 5 95),m 97 0,m 98 16,a [5,6] (i 99 5 97 98),a [7] (L 100 5 99),a [0,4,8] (w 101 (.callv (.t 92) [.t 96,.t 100])),a [9] (k 102 .lss 101 O),a [10] (t 103 102)],.cond (.t 103) (r 18 [m 104 16,k 105 .add 104 I,m 14 105]) (r 19 [m 106 16,m 15 106])])])),S [r 20 [m 107 2,m 17 107],.block 6 (.loop (S [S [r 21 [m 108 17,m 109 14,o 110 .gtr 108 109],.cond (.t 110) .skip (.exit 6)],.block 7 (R 23 [m 113 0,m 114 17,m 115 0,m 116 17,a [3] (k 117 .sub 116 I),m 118 0,m 119 17,a [6] (k 120 .sub 119 I),a [5,7] (i 121 5 118 120),a [8] (L 122 5 121),m 123 0,m 124 17,a [10,11] (i 125 5 123 124),a [12] (L 126 5 125),a [0,1,0,1,5,6,7,8,9,13] (i 127 5 113 114),a [14,9,0,1,5,6,7,8,9,13] (s 5 127 122),a [2,4,0,1,2,3,4,5,6,7,8,9,10,11,12,13,14,15] (i 128 5 115 117),a [16,13,15,0,1,2,3,4,5,6,7,8,9,10,11,12,13,14,15] (s 5 128 126)]),r 22 [m 111 17,k 112 .sub 111 I,m 17 112]]))],.ret]) .skip],r 24 [m 129 1,m 130 3,o 131 .add 129 130,w 132 (.conv .u64 (.t 131)),w 133 (.vop (.sh false) [(.t 132),(.c (.int .u64 1))]),w 134 (.conv .i64 (.t 133)),m 18 134],r 25 [m 135 18,m 136 2,o 137 .add 135 136,m 19 137],r 26 [n 20 O,n 21 O],S [r 27 [m 138 2,m 139 18,o 140 .gtr 138 139],.cond (.t 140) (S [r 28 [m 141 19,m 142 3,o 143 .sub 141 142,m 20 143],r 29 [m 144 18,m 21 144]]) (S [r 30 [m 145 1,m 20 145],r 31 [m 146 2,m 21 146]])],r 32 [m 147 19,k 148 .sub 147 I,m 22 148],.block 8 (.loop (S [S [r 33 [m 149 20,m 150 21,o 151 .lss 149 150],.cond (.t 151) .skip (.exit 8)],.block 9 (S [r 34 [m 152 20,m 153 21,o 154 .add 152 153,w 155 (.conv .u64 (.t 154)),w 156 (.vop (.sh false) [(.t 155),(.c (.int .u64 1))]),w 157 (.conv .i64 (.t 156)),m 23 157],R 35 [m 158 4,m 159 0,m 160 22,m 161 23,a [2,3] (o 162 .sub 160 161),a [1,4] (i 163 5 159 162),a [5] (L 164 5 163),m 165 0,m 166 23,a [7,8] (i 167 5 165 166),a [9] (L 168 5 167),a [0,6,10] (w 169 (.callv (.t 158) [.t 164,.t 168])),a [11] (k 170 .lss 169 O),a [12] (t 171 170)],.cond (.t 171) (r 36 [m 172 23,k 173 .add 172 I,m 20 173]) (r 37 [m 174 23,m 21 174])])])),r 38 [m 175 19,m 176 20,o 177 .sub 175 176,m 24 177],S [r 39 [m 178 20,m 179 2,o 180 .lss 178 179,m 181 180,g 181 true (m 182 2),g 181 true (m 183 24),g 181 true (o 184 .lss 182 183),v 185 181 184],.cond (.t 185) (r 40 [m 186 0,m 187 20,m 188 2,m 189 24,m 190 4,c 191 98 [186,187,188,189,190]]) .skip],S [r 41 [m 192 1,m 193 20,o 194 .lss 192 193,m 195 194,g 195 true (m 196 20),g 195 true (m 197 18),g 195 true (o 198 .lss 196 197),v 199 195 198],.cond (.t 199) (r 42 [m 200 0,m 201 1,m 202 20,m 203 18,m 204 4,c 205 84 [200,201,202,203,204]]) .skip],r 43 [m 206 18,m 207 24,o 208 .lss 206 207,m 209 208,g 209 true (m 210 24),g 209 true (m 211 3),g 209 true (o 212 .lss 210 211),v 213 209 212],.cond (.t 213) (r 44 [m 214 0,m 215 18,m 216 24,m 217 3,m 218 4,c 219 84 [214,215,216,217,218]]) .skip]
def Zd7:List RRes:=[]
def Zd8 {G:Jg} {objs objs':List (Nat×AObj)} {args:List AV} {v:AV} (hn:args.length<=f84.ntmps) (h:∀ R:Run,R.G=G->R.Top->AR prog R Zd6 ⟨iniT 0 args,objs⟩ (FinB Zd7 v objs')):PB prog G 84 objs args v objs' :=
 PB_of func84 rfl (by kernel_rfl) (rc:=Zd6) (by kernel_rfl) (rs:=Zd7) (by kernel_rfl) hn (λR _ hG hr=>h R hG hr)
def Zd9:RCode :=
 S [r 0 [m 12 2,m 13 1,o 14 .sub 12 13,m 10 14],r 1 [m 15 3,m 16 2,o 17 .sub 15 16,m 11 17],.block 0 (.loop (S [S [r 2 [m 18 10,m 19 11,o 20 .neq 18 19],.cond (.t 20) .skip (.exit 0)],.block 1 (S [r 3 [m 21 10,m 22 11,o 23 .gtr 21 22],.cond (.t 23) (S [r 4 [m 24 0,m 25 2,m 26 10,o 27 .sub 25 26,m 28 2,m 29 11,m 30 4,c 31 103 [24,27,28,29,30]],r 5 [m 32 10,m 33 11,o 34 .sub 32 33,m 10 34]]) (S [r 6 [m 35 0,m 36 2,m 37 10,o 38 .sub 36 37,m 39 2,m 40 11,o 41 .add 39 40,m 42 10,o 43 .sub 41 42,m 44 10,m 45 4,c 46 103 [35,38,43,44,45]],r 7 [m 47 11,m 48 10,o 49 .sub 47 48,m 11 49]])])])),r 8 [m 50 0,m 51 2,m 52 10,o 53 .sub 51 52,m 54 2,m 55 10,m 56 4,c 57 103 [50,53,54,55,56]]]
def Zda:List RRes:=[]
def Zdb {G:Jg} {objs objs':List (Nat×AObj)} {args:List AV} {v:AV} (hn:args.length<=f98.ntmps) (h:∀ R:Run,R.G=G->R.Top->AR prog R Zd9 ⟨iniT 0 args,objs⟩ (FinB Zda v objs')):PB prog G 98 objs args v objs' :=
 PB_of func98 rfl (by kernel_rfl) (rc:=Zd9) (by kernel_rfl) (rs:=Zda) (by kernel_rfl) hn (λR _ hG hr=>h R hG hr)
def Zdc:RCode :=
 S [r 0 [n 10 O],.block 0 (.loop (S [S [r 1 [m 11 10,m 12 3,o 13 .lss 11 12],.cond (.t 13) .skip (.exit 0)],.block 1 (R 3 [m 16 0,m 17 1,m 18 10,a [1,2] (o 19 .add 17 18),m 20 0,m 21 2,m 22 10,a [5,6] (o 23 .add 21 22),m 24 0,m 25 2,m 26 10,a [9,10] (o 27 .add 25 26),a [8,11] (i 28 5 24 27),a [12] (L 29 5 28),m 30 0,m 31 1,m 32 10,a [15,16] (o 33 .add 31 32),a [14,17] (i 34 5 30 33),a [18] (L 35 5 34),a [0,3,0,1,2,3,8,9,10,11,12,13,19] (i 36 5 16 19),a [20,13,0,1,2,3,8,9,10,11,12,13,19] (s 5 36 29),a [4,7,0,1,2,3,4,5,6,7,8,9,10,11,12,13,14,15,16,17,18,19,20,21] (i 37 5 20 23),a [22,19,21,0,1,2,3,4,5,6,7,8,9,10,11,12,13,14,15,16,17,18,19,20,21] (s 5 37 35)]),r 2 [m 14 10,k 15 .add 14 I,m 10 15]]))]
def Zdd:List RRes:=[]
def Zde {G:Jg} {objs objs':List (Nat×AObj)} {args:List AV} {v:AV} (hn:args.length<=f103.ntmps) (h:∀ R:Run,R.G=G->R.Top->AR prog R Zdc ⟨iniT 0 args,objs⟩ (FinB Zdd v objs')):PB prog G 103 objs args v objs' :=
 PB_of func103 rfl (by kernel_rfl) (rc:=Zdc) (by kernel_rfl) (rs:=Zdd) (by kernel_rfl) hn (λR _ hG hr=>h R hG hr)
end
def swR (l:Jr) (a b:Nat):Nat->List Iss
 |0=>l
 |i+1=>((swR l a b i).set (a+i) ((swR l a b i).getD (b+i) default)).set (b+i) ((swR l a b i).getD (a+i) default)
def Zdf (l:Jr) (a b:Nat):∀ i,(swR l a b i).length=l.length
 |0=>rfl
 |i+1=>by rw[swR,List.length_set,List.length_set,Zdf l a b i]
def swR_i (P A M B S:Jr) (hAB:A.length=B.length):∀ i,i<=A.length->swR (P++(A++(M++(B++S)))) P.length (P.length+A.length+M.length) i=P++((B.take i++A.drop i)++(M++((A.take i++B.drop i)++S)))
 |0,_=>by simp[swR]
 | i+1,hi=>by
   have hA:i<A.length:=(by omega);have hB:i<B.length:=(by omega);have ih:=swR_i P A M B S hAB i (by omega);have tB:(B.take i).length=i:=(by simp;omega);have tA:(A.take i).length=i:=(by simp;omega);have eA:A.drop i=A[i]::A.drop (i+1):=W0x hA;have eB:B.drop i=B[i]::B.drop (i+1):=W0x hB
   have e1:P++((B.take i++A.drop i)++(M++((A.take i++B.drop i)++S)))=(P++B.take i)++A[i]::((A.drop (i+1)++(M++A.take i))++B[i]::(B.drop (i+1)++S)):=by
    rw[eA,eB];simp only[W0U,W1d]
   have l1:(P++B.take i).length=P.length+i:=(by rw[W0s,tB]);have l2:(A.drop (i+1)++(M++A.take i)).length=A.length-1+M.length:=by simp;omega
   have g1:((P++B.take i)++A[i]::((A.drop (i+1)++(M++A.take i))++B[i]::(B.drop (i+1)++S))).getD (P.length+i) default=A[i]:=by
    rw[W0j,W0o (by omega),l1,W29];rfl
   have g2:((P++B.take i)++A[i]::((A.drop (i+1)++(M++A.take i))++B[i]::(B.drop (i+1)++S))).getD (P.length+A.length+M.length+i) default=B[i]:=by
    rw[W0j,W0o (by omega),l1];have:P.length+A.length+M.length+i-(P.length+i)=(A.length-1+M.length)+1:=(by omega);rw[this,List.getElem?_cons_succ,W0o (by omega),l2,W29];rfl
   rw[swR,ih,e1,g1,g2,W1W _ _ (by omega),l1,W29,List.set_cons_zero,W1W _ _ (by omega),l1];have:P.length+A.length+M.length+i-(P.length+i)=(A.length-1+M.length)+1:=(by omega);rw[this,List.set_cons_succ,W1W _ _ (by omega),l2,W29,List.set_cons_zero];rw[W08 hA,W08 hB];simp only[W0U,W1d,W18]
def Zdg (P A M B S:Jr) (hAB:A.length=B.length):swR (P++(A++(M++(B++S)))) P.length (P.length+A.length+M.length) A.length=P++(B++(M++(A++S))):=by
 have h:=swR_i P A M B S hAB A.length (W0f _);rw[h,W0v,List.drop_length,W0J (by omega:B.length<=A.length),W1h (by omega:B.length<=A.length),W1B,W1B]
def Zdh (l:Jr) (a b n:Nat) (hab:a+n<=b) (h2:b+n<=l.length) (h3:l.length<=1000) :
  PB prog G 103 [(1000,.row 5 (l.map isa))] [.osl 1000 l.length,.int .i64 a,.int .i64 b,.int .i64 n,fM1] (.tup []) [(1000,.row 5 ((swR l a b n).map isa))]:=by
 (refine Zde (W0C rfl) λR hG hrd=>Qga ?_;subst hG)
 simp -implicitDefEqProofs[Zdc,Zdd,fM1];refine Z91 (λi=>⟨[(10,.int .i64 i),(0,.osl 1000 l.length),(1,.int .i64 a),(2,.int .i64 b),(3,.int .i64 n)],[(1000,.row 5 ((swR l a b i).map isa))]⟩) (λ_=>True) n ?_ trivial ?_ ?_
 . ((try simp only[swR]);refine Ym.sub (by simp[lk,Ya,AV.keys,swR]) ?_;simp only[swR,Wkl,Zck,and_true];(try simp[lk,Yc,Ya,AV.keys,swR]))
 . intro i hi _;refine Qga ?_;have w1:i64.wrap ((i:Int)+1)=(i:Int)+1:=Yf;have wa:i64.wrap ((a:Int)+i)=(a:Int)+i:=Yf;have wb:i64.wrap ((b:Int)+i)=(b:Int)+i:=Yf;have ka:((a:Int)+i).toNat=a+i:=(by omega);have kb:((b:Int)+i).toNat=b+i:=(by omega);have ka0:(0:Int)<=(a:Int)+i:=(by omega);have kb0:(0:Int)<=(b:Int)+i:=(by omega);have ja:a+i<l.length:=(by omega);have jb:b+i<l.length:=(by omega);have sc:swR l a b (i+1)=((swR l a b i).set (a+i) ((swR l a b i).getD (b+i) default)).set (b+i) ((swR l a b i).getD (a+i) default):=rfl;have hQ:=Zdf l a b i;generalize hQ0:swR l a b i=Q at *;have qa:a+i<Q.length:=(by omega);have qb:b+i<Q.length:=(by omega);have ga:Q.getD (a+i) default=Q[a+i]:=(by simp[W0j,qa]);have gb:Q.getD (b+i) default=Q[b+i]:=(by simp[W0j,qb]);rw[ga,gb]at sc;generalize hx:Q[a+i]=x at *;generalize hy:Q[b+i]=y at *;have ex:isa x=[.int .i64 x.d,.int .i64 x.l,.int .u8 x.k,.vsl (x.its.map ita),.vsl (x.dms.map dma)]:=rfl;have ey:isa y=[.int .i64 y.d,.int .i64 y.l,.int .u8 y.k,.vsl (y.its.map ita),.vsl (y.dms.map dma)]:=rfl;have hne:¬a=b:=(by omega);have il:∀ z:Iss,(isa z).length=5:=λz=>rfl
   have id5:∀ z:Iss,(isa z).drop 5=[]:=λz=>rfl
   simp -implicitDefEqProofs[hi,wa,wb,ka,kb,ka0,kb0,ja,jb,hQ,hQ0,hx,hy,ex,ey,il,id5,w1,hne,List.getElem_set];refine ⟨rfl,?_⟩;rw[<- ex,<- ey,<- W2a,<- W2a,<- sc]
   (refine Wkc ?_;simp only[Zck,Wkl,and_true];(try simp[lk,Yc,Ya,AV.keys]))
 . intro _;refine Qga ?_;simp -implicitDefEqProofs;refine Qgr ?_;refine ⟨[],rfl,rfl,?_⟩;simp[Yi,newK,ZcC]
def roS (l:Jr) (a m b:Nat):List Iss:=l.take a++((l.take b).drop m++((l.take m).drop a++l.drop b))
structure RoI (l q:Jr) (a m b i j:Nat):Prop where
 len:q.length=l.length
 hi:i<=m-a
 hj:j<=b-m
 eq:roS q (m-i) m (m+j)=roS l a m b
def five (q:Jr) {a b c d:Nat} (h1:a<=b) (h2:b<=c) (h3:c<=d) (h4:d<=q.length):q=q.take a++((q.take b).drop a++((q.take c).drop b++((q.take d).drop c++q.drop d))):=by
 have e:∀ x y:Nat,x<=y->q.take y=q.take x++(q.take y).drop x:=λx y h=>by
  have:=(W11 x (q.take y)).symm
  rwa [List.take_take,Nat.min_eq_left h]at this
 have e4:=(W11 d q).symm;rw[e c d h3,e b c h2,e a b h1]at e4;simpa only [W0U] using e4
def Zdi (X Y Z W:Jr) {a m b:Nat} (ha:X.length=a) (hm:a+Y.length=m) (hb:m+Z.length=b):roS (X++(Y++(Z++W))) a m b=X++(Z++(Y++W)):=by
 have t1:(X++(Y++(Z++W))).take a=X:=List.take_left' ha;have t2:(X++(Y++(Z++W))).take m=X++Y:=(by rw[<- W0U];exact List.take_left' (by simp;omega));have t3:(X++(Y++(Z++W))).take b=(X++Y)++Z:=(by rw[<- W0U,<- W0U];exact List.take_left' (by simp;omega));have t4:(X++(Y++(Z++W))).drop b=W:=(by rw[<- W0U,<- W0U];exact List.drop_left' (by simp;omega));rw[roS,t1,t2,t3,t4,List.drop_left' ha,List.drop_left' (by simp;omega:(X++Y).length=m)]
def ro_gt {q:Jr} {m i j:Nat} (h:j<i) (hi:i<=m) (hj:m+j<=q.length):roS (swR q (m-i) m j) (m-(i-j)) m (m+j)=roS q (m-i) m (m+j):=by
 have e:=five q (a:=m-i) (b:=m-i+j) (c:=m) (d:=m+j) (by omega) (by omega) (by omega) hj;have lP:(q.take (m-i)).length=m-i:=(by simp;omega);have lA:((q.take (m-i+j)).drop (m-i)).length=j:=(by simp;omega);have lM:((q.take m).drop (m-i+j)).length=i-j:=(by simp;omega);have lB:((q.take (m+j)).drop m).length=j:=(by simp;omega);generalize q.take (m-i)=P at *;generalize (q.take (m-i+j)).drop (m-i)=A at *;generalize (q.take m).drop (m-i+j)=M at *;generalize (q.take (m+j)).drop m=B at *;generalize q.drop (m+j)=S at *;subst e;have s:=Zdg P A M B S (by omega);rw[lP,lA,lM]at s;have e1:m-i+j+(i-j)=m:=(by omega);rw[e1]at s;rw[s,<- W0U P B,Zdi (P++B) M A S (by simp;omega) (by omega) (by omega)];have r2:=Zdi P (A++M) B S (a:=m-i) (m:=m) (b:=m+j) lP (by simp;omega) (by omega);simp only[W0U]at r2 ⊢;rw[r2]
def ro_lt {q:Jr} {m i j:Nat} (h:i<j) (hi:i<=m) (hj:m+j<=q.length):roS (swR q (m-i) (m+j-i) i) (m-i) m (m+(j-i))=roS q (m-i) m (m+j):=by
 have e:=five q (a:=m-i) (b:=m) (c:=m+j-i) (d:=m+j) (by omega) (by omega) (by omega) hj;have lP:(q.take (m-i)).length=m-i:=(by simp;omega);have lA:((q.take m).drop (m-i)).length=i:=(by simp;omega);have lM:((q.take (m+j-i)).drop m).length=j-i:=(by simp;omega);have lB:((q.take (m+j)).drop (m+j-i)).length=i:=(by simp;omega);generalize q.take (m-i)=P at *;generalize (q.take m).drop (m-i)=A at *;generalize (q.take (m+j-i)).drop m=M at *;generalize (q.take (m+j)).drop (m+j-i)=B at *;generalize q.drop (m+j)=S at *;subst e;have s:=Zdg P A M B S (by omega);rw[lP,lA,lM]at s;have e1:m-i+i+(j-i)=m+j-i:=(by omega);rw[e1]at s;have r1:=Zdi P B M (A++S) (a:=m-i) (m:=m) (b:=m+(j-i)) lP (by omega) (by omega);have r2:=Zdi P A (M++B) S (a:=m-i) (m:=m) (b:=m+j) lP (by omega) (by simp;omega);simp only[W0U]at r1 r2;rw[s,r1,r2]
def ro_eq {q:Jr} {m i:Nat} (hi:i<=m) (hj:m+i<=q.length):swR q (m-i) m i=roS q (m-i) m (m+i):=by
 have e:=five q (a:=m-i) (b:=m) (c:=m) (d:=m+i) (by omega) (by omega) (by omega) hj;have lP:(q.take (m-i)).length=m-i:=(by simp;omega);have lA:((q.take m).drop (m-i)).length=i:=(by simp;omega);have lM:(q.take m).drop m=[]:=W1h (by simp;omega);have lB:((q.take (m+i)).drop m).length=i:=(by simp;omega);rw[lM]at e;generalize q.take (m-i)=P at *;generalize (q.take m).drop (m-i)=A at *;generalize (q.take (m+i)).drop m=B at *;generalize q.drop (m+i)=S at *;subst e;have s:=Zdg P A [] B S (by omega);rw[lP,lA]at s;have e1:m-i+i+([]:Jr).length=m:=(by simp;omega);rw[e1]at s;have r2:=Zdi P A B S (a:=m-i) (m:=m) (b:=m+i) lP (by omega) (by omega);simp only[W18]at s ⊢;rw[s,r2]
def Zdj (l:Jr) (a m b:Nat) (h1:a<m) (h2:m<b) (h4:b<=l.length) (h3:l.length<=1000) :
  PB prog G 98 [(1000,.row 5 (l.map isa))] [.osl 1000 l.length,.int .i64 a,.int .i64 m,.int .i64 b,fM1] (.tup []) [(1000,.row 5 ((roS l a m b).map isa))]:=by
 (refine Zdb (W0C rfl) λR hG hrd=>Qga ?_;subst hG)
 have w1:i64.wrap ((m:Int)-a)=((m-a:Nat):Int):=(by rw[Yf (by omega) (by omega)];omega);have w2:i64.wrap ((b:Int)-m)=((b-m:Nat):Int):=(by rw[Yf (by omega) (by omega)];omega);simp -implicitDefEqProofs[Zd9,Zda,fM1,w1,w2]
 have e0:roS l (m-(m-a)) m (m+(b-m))=roS l a m b:=by
  have q1:m-(m-a)=a:=(by omega);have q2:m+(b-m)=b:=(by omega);rw[q1,q2]
 refine Z1Q (λp:List Iss×Nat×Nat=>⟨[(10,.int .i64 p.2.1),(11,.int .i64 p.2.2),(0,.osl 1000 l.length),(2,.int .i64 m),(4,.func (.func 39) [] [])],[(1000,.row 5 (p.1.map isa))]⟩)
  (λp=>RoI l p.1 a m b p.2.1 p.2.2/\0<p.2.1/\0<p.2.2) (λp=>p.2.1+p.2.2) (l,m-a,b-m) ?_ ⟨⟨rfl,W0f _,W0f _,e0⟩,Nat.sub_pos_of_lt h1,Nat.sub_pos_of_lt h2⟩ ?_
 . (refine Wkc ?_;simp only[Zck,Wkl,and_true];(try simp[lk,Yc,Ya,AV.keys]))
 . rintro ⟨q,i,j⟩ ⟨hI,hi0,hj0⟩;refine Qga ?_;have hql:=hI.len;have hi:=hI.hi;have hj:=hI.hj;have heq:=hI.eq;simp only at hql hi hj heq hi0 hj0 ⊢;have wmi:i64.wrap ((m:Int)-i)=((m-i:Nat):Int):=(by rw[Yf (by omega) (by omega)];omega);rcases W0R i j with hlt|he|hgt
   . have k1:¬(i:Int)=j:=(by omega);have k2:¬(j:Int)<i:=(by omega);have k1':¬i=j:=(by omega);have k2':¬j<i:=(by omega);have wj:i64.wrap ((m:Int)+j)=(m:Int)+j:=Yf;have wk:i64.wrap ((m:Int)+j-i)=((m+j-i:Nat):Int):=(by rw[Yf (by omega) (by omega)];omega);have wd:i64.wrap ((j:Int)-i)=((j-i:Nat):Int):=(by rw[Yf (by omega) (by omega)];omega);have hp:=Zdh (G:=R.G) q (m-i) (m+j-i) i (by omega) (by omega) (by omega);have hro:=ro_lt (q:=q) (m:=m) hlt (by omega) (by omega);rw[hql]at hp;have hsl:=Zdf q (m-i) (m+j-i) i;generalize hN1:m-i=N1 at *;generalize hN2:m+j-i=N2 at *;simp -implicitDefEqProofs[k1,k2,k1',k2',wmi,wj,wk];refine Yd.sem (Z1B.byref hp id (by simp) (by simp) (by simp[St.get,lk,ZcE]) (by simp[Zck]) (by simp[Ya,AV.keys,lk,fM1]) rfl (by simp[AV.ren,fM1]) rfl rfl) ?_;simp -implicitDefEqProofs[Yl,ZcE,wd];refine ⟨(swR q N1 N2 i,i,j-i),?_,⟨⟨by simp only;omega,hi,by simp only;omega,by simp only;rw[hN1,hro,heq]⟩,hi0,by simp only;omega⟩,by simp only;omega⟩
     (refine Wkc ?_;simp only[Zck,Wkl,and_true];(try simp[lk,Yc,Ya,AV.keys]))
   . have k1:(i:Int)=j:=(by omega);have hp:=Zdh (G:=R.G) q (m-i) m i (by omega) (by omega) (by omega);have hro:=ro_eq (q:=q) (m:=m) (i:=i) (by omega) (by omega);rw[he]at hro;rw[he]at hp;rw[he]at heq wmi;rw[hro,heq,hql]at hp;generalize hN1:m-j=N1 at *;simp -implicitDefEqProofs[k1,he];refine Qgr ?_;simp -implicitDefEqProofs[wmi];refine Yd.sem (Z1B.byref hp id (by simp) (by simp) (by simp[St.get,lk,ZcE]) (by simp[Zck]) (by simp[Ya,AV.keys,lk,fM1]) rfl (by simp[AV.ren,fM1]) rfl rfl) ?_;simp -implicitDefEqProofs[Yl,ZcE];refine ⟨[],rfl,rfl,?_⟩;simp[Yi,newK,ZcC]
   . have k1:¬(i:Int)=j:=(by omega);have k2:(j:Int)<i:=(by omega);have k1':¬i=j:=(by omega);have wd:i64.wrap ((i:Int)-j)=((i-j:Nat):Int):=(by rw[Yf (by omega) (by omega)];omega);have hp:=Zdh (G:=R.G) q (m-i) m j (by omega) (by omega) (by omega);have hro:=ro_gt (q:=q) (m:=m) hgt (by omega) (by omega);rw[hql]at hp;have hsl:=Zdf q (m-i) m j;generalize hN1:m-i=N1 at *;simp -implicitDefEqProofs[k1,k2,k1',hgt,wmi];refine Yd.sem (Z1B.byref hp id (by simp) (by simp) (by simp[St.get,lk,ZcE]) (by simp[Zck]) (by simp[Ya,AV.keys,lk,fM1]) rfl (by simp[AV.ren,fM1]) rfl rfl) ?_;simp -implicitDefEqProofs[Yl,ZcE,wd];refine ⟨(swR q N1 m j,i-j,j),?_,⟨⟨by simp only;omega,by simp only;omega,hj,by simp only;rw[hro,heq]⟩,by simp only;omega,hj0⟩,by simp only;omega⟩
     (refine Wkc ?_;simp only[Zck,Wkl,and_true];(try simp[lk,Yc,Ya,AV.keys]))
def Zdk {l:Jr} (hi:InjN l) (h:SrtN l):sortN l=l:=Zcr hi (List.Perm.refl _) h
def Zdl {X Y:Jr} (hx:SrtN X) (hy:SrtN Y) (hc:∀ x∈X,∀ y∈Y,kyN x<=kyN y):SrtN (X++Y):=W1Y.2 ⟨hx,hy,hc⟩
def Zdm {A1 A2 B1 B2:Jr} (hi:InjN (A1++(A2++(B1++B2)))) (hc:∀ x∈A1++B1,∀ y∈A2++B2,kyN x<=kyN y) :
  sortN (A1++(A2++(B1++B2)))=sortN (A1++B1)++sortN (A2++B2):=by
 refine Zcr hi ?_ (Zdl (Zcp _) (Zcp _) λx hx y hy=>hc x (Zct.1 hx) y (Zct.1 hy));refine ((Zco _).append (Zco _)).trans ?_;rw[W0U];refine List.Perm.append_left A1 ?_;rw[<- W0U,<- W0U];exact (List.perm_append_comm).append_right B2
def Zdn (P M S:Jr) {a b:Nat} (ha:P.length=a) (hb:a+M.length=b):srtS (P++(M++S)) a b=P++(sortN M++S):=by
 have t1:(P++(M++S)).take a=P:=List.take_left' ha;have t2:(P++(M++S)).take b=P++M:=(by rw[<- W0U];exact List.take_left' (by simp;omega));have t3:(P++(M++S)).drop b=S:=(by rw[<- W0U];exact List.drop_left' (by simp;omega));rw[srtS,t1,t2,t3,List.drop_left' ha]
def Zdo (P A1 A2 B1 B2 S:Jr) {a b c m e:Nat} (h1:P.length=a) (h2:a+(A1.length+B1.length)=c) (h3:c+(A2.length+B2.length)=b) (h4:a+A1.length=m) (h5:m+A2.length+B1.length=e)
  (hi:InjN (A1++(A2++(B1++B2)))) (hc:∀ x∈A1++B1,∀ y∈A2++B2,kyN x<=kyN y) :
  srtS (srtS (roS (P++(A1++(A2++(B1++(B2++S))))) m (m+A2.length) e) a c) c b=srtS (P++(A1++(A2++(B1++(B2++S))))) a b:=by
 have r:=Zdi (P++A1) A2 B1 (B2++S) (a:=m) (m:=m+A2.length) (b:=e) (by simp;omega) rfl (by omega);simp only[W0U]at r;rw[r];have s1:=Zdn P (A1++B1) (A2++(B2++S)) (a:=a) (b:=c) h1 (by simp;omega);simp only[W0U]at s1;rw[s1];have s2:=Zdn (P++sortN (A1++B1)) (A2++B2) S (a:=c) (b:=b) (by simp[Zcs];omega) (by simp;omega);simp only[W0U]at s2;rw[s2];have s3:=Zdn P (A1++(A2++(B1++B2))) S (a:=a) (b:=b) h1 (by simp;omega);simp only[W0U]at s3;rw[s3,Zdm hi hc,W0U]
def Zdp {A1 A2 B1 B2:Jr} (hA:SrtN (A1++A2)) (hB:SrtN (B1++B2)) (h1:A1=[]∨B2=[]∨∃ x y,x∈A1.getLast? /\ y∈B2.head? /\ kyN x<=kyN y) (h2:B1=[]∨A2=[]∨∃ x y,x∈B1.getLast? /\ y∈A2.head? /\ kyN x<=kyN y) :
  ∀ x∈A1++B1,∀ y∈A2++B2,kyN x<=kyN y:=by
 obtain ⟨a1,a2,a3⟩:=W1Y.1 hA;obtain ⟨b1,b2,b3⟩:=W1Y.1 hB
 have last:∀ {X:Jr} {z:Iss},SrtN X->z∈X.getLast? -> ∀ x∈X,kyN x<=kyN z:=λ{X z} hX hz x hx=>by
  obtain ⟨Y,rfl⟩:=List.getLast?_eq_some_iff.1 hz;rcases W0h.1 hx with h|h
  . exact (W1Y.1 hX).2.2 x h z (List.mem_singleton_self _)
  . rw[W0B.1 h];exact W1R _
 have head:∀ {X:Jr} {z:Iss},SrtN X->z∈X.head? -> ∀ x∈X,kyN z<=kyN x:=λ{X z} hX hz x hx=>by
  match X,hz with
  | w::X,hz =>
    obtain rfl:w=z:=(by simpa using hz);rcases W0g.1 hx with rfl|h
    . exact W1R _
    . exact (W1j.1 hX).1 x h
 intro x hx y hy;rcases W0h.1 hx with hx|hx <;> rcases W0h.1 hy with hy|hy
 . exact a3 x hx y hy
 . rcases h1 with rfl|rfl | ⟨u,v,hu,hv,h⟩
   . cases hx
   . cases hy
   . exact Int.le_trans (last a1 hu x hx) (Int.le_trans h (head b2 hv y hy))
 . rcases h2 with rfl|rfl | ⟨u,v,hu,hv,h⟩
   . cases hx
   . cases hy
   . exact Int.le_trans (last b1 hu x hx) (Int.le_trans h (head a2 hv y hy))
 . exact b3 x hx y hy
def mrS (l:Jr) (a b p:Nat):List Iss:=l.take a++(((l.take b).drop (a+1)).take p++(l.getD a default::(((l.take b).drop (a+1)).drop p++l.drop b)))
def Zdq {l:Jr} {a b:Nat} (h:b<=l.length):((l.take b).drop (a+1)).length=b-(a+1):=by simp;omega
def Zdr {l:Jr} {a b:Nat} (h1:a<b) (h2:b<=l.length):mrS l a b 0=l:=by
 have e:=five l (a:=a) (b:=a+1) (c:=a+1) (d:=b) (by omega) (W0f _) (by omega) h2
 have e2:(l.take (a+1)).drop a=[l.getD a default]:=by
  have ha:a<l.length:=(by omega);rw[W08 ha,List.drop_left' (by simp;omega)];simp[W0j,ha]
 have e3:(l.take (a+1)).drop (a+1)=[]:=W1h (by simp;omega);rw[e2,e3]at e;rw[mrS,List.take_zero,W1J];exact e.symm
def Zds {l:Jr} {a b p:Nat} (h1:a<b) (h2:b<=l.length) (hp:p<=b-(a+1)):(mrS l a b p).length=l.length:=by
 have:=Zdq (a:=a) h2;simp only[mrS,W0s,W1n,W15,List.length_drop]at this ⊢;omega
def Zdt {l:Jr} {a b p:Nat} (h1:a<b) (h2:b<=l.length) (hp:p<b-(a+1)) :
  ∃ y,((l.take b).drop (a+1))[p]? = some y/\(mrS l a b p)[a+p]? = some (l.getD a default)/\(mrS l a b p)[a+p+1]? = some y/\((mrS l a b p).set (a+p) y).set (a+p+1) (l.getD a default)=mrS l a b (p+1):=by
 have hB:=Zdq (a:=a) h2;have lP:(l.take a).length=a:=(by simp;omega);unfold mrS;generalize (l.take b).drop (a+1)=B at *;generalize l.take a=P at *;generalize l.drop b=S at *;generalize l.getD a default=x at *;have hb:p<B.length:=(by omega);have tB:(B.take p).length=p:=(by simp;omega);have eB:B.drop p=B[p]::B.drop (p+1):=W0x hb;have lD:(P++B.take p).length=a+p:=(by rw[W0s,lP,tB]);refine ⟨B[p],by simp[hb],?_,?_,?_⟩
 . rw[<- W0U,W0o (by omega),lD,W29];rfl
 . rw[<- W0U,W0o (by omega),lD,eB];have:a+p+1-(a+p)=0+1:=(by omega);rw[this,List.getElem?_cons_succ];rfl
 . rw[<- W0U,eB,W1W _ _ (by omega),lD,W29,List.set_cons_zero,W1W _ _ (by omega),lD];have:a+p+1-(a+p)=0+1:=(by omega);rw[this,W1d,List.set_cons_succ,List.set_cons_zero,W08 hb];simp only[W0U,W1d,W18]
def Zdu {l:Jr} {a b p:Nat} (hi:InjN l) (h1:a<b) (h2:b<=l.length) (hs:SrtN ((l.take b).drop (a+1))) (hl:∀ y∈((l.take b).drop (a+1)).take p,kyN y<kyN (l.getD a default)) (hr:∀ y∈((l.take b).drop (a+1)).drop p,¬kyN y<kyN (l.getD a default)) :
  mrS l a b p=srtS l a b:=by
 have ha:a<l.length:=(by omega);have ex:l.getD a default=l[a]:=(by simp[W0j,ha])
 have e4:(l.take b).drop a=l.getD a default::(l.take b).drop (a+1):=by
  rw[W0x (by simp;omega:a<(l.take b).length),W1O,ex]
 have hm:∀ x∈(l.take b).drop a,x∈l:=λy hy=>W1p (W1L hy)
 rw[srtS,mrS];rw[Zcr (s:=((l.take b).drop (a+1)).take p++l.getD a default::((l.take b).drop (a+1)).drop p) (hi.sub hm)]
 . simp[W0U]
 . rw[e4];refine List.perm_middle.trans ?_;rw[W11]
 . generalize (l.take b).drop (a+1)=B at *;unfold SrtN at hs ⊢;rw[<- W11 p B,W1Y]at hs;obtain ⟨t1,t2,t3⟩:=hs;rw[W1Y];refine ⟨t1,W1j.2 ⟨λy hy=>by have:=hr y hy;omega,t2⟩,λu hu v hv=>?_⟩;rcases W0g.1 hv with rfl|hv
   . have:=hl u hu;omega
   . exact t3 u hu v hv
def Zdv {l:Jr} {s b k:Nat} (h1:s<=k) (h2:k<b) (h3:b<=l.length):((l.take b).drop s)[k-s]? = some (l[k]'(by omega)):=by
 rw[W13,show s+(k-s)=k by omega,List.getElem?_take_of_lt h2,W07 (by omega)]
def Zdw {B:Jr} {p:Nat} {v:Int} {z:Iss} (hs:SrtN B) (hz:B[p]? = some z) (h:kyN z<v):∀ y∈B.take (p+1),kyN y<v:=λy hy=>by
 obtain ⟨hp,rfl⟩:=W02.1 hz;obtain ⟨j,hj,rfl⟩:=W0k hy;rw[W1O];have hj2:j<=p:=(by simp at hj;omega);rcases W0q j p with h1|h1
 . have:=W0Y.1 hs j p (by omega) hp h1;omega
 . obtain rfl:j=p:=(by omega);exact h
def Zdx {B:Jr} {p:Nat} {v:Int} {z:Iss} (hs:SrtN B) (hz:B[p]? = some z) (h:¬kyN z<v):∀ y∈B.drop p,¬kyN y<v:=λy hy=>by
 obtain ⟨hp,rfl⟩:=W02.1 hz;obtain ⟨j,hj,rfl⟩:=W0k hy;rw[List.getElem_drop];simp only[List.length_drop]at hj;rcases W0q 0 j with h1|h1
 . have:=W0Y.1 hs p (p+j) hp (by omega) (by omega);omega
 . obtain rfl:j=0:=(by omega);exact h
def BsI (l:Jr) (a b:Nat) (p:Nat×Nat):Prop:=a+1<=p.1/\p.1<=p.2/\p.2<=b/\(∀ y∈((l.take b).drop (a+1)).take (p.1-(a+1)),kyN y<kyN (l.getD a default))/\(∀ y∈((l.take b).drop (a+1)).drop (p.2-(a+1)),¬kyN y<kyN (l.getD a default))
def Zdy (l:Jr) (a b:Nat) (hv:∀ x∈l,okN x) (hin:InjN l) (h1:a+1<=b) (h2:b<=l.length) (h3:l.length<=1000) (hs:SrtN ((l.take b).drop (a+1))) :
  PB prog G 84 [(1000,.row 5 (l.map isa))] [.osl 1000 l.length,.int .i64 a,.int .i64 (a+1:Nat),.int .i64 b,fM1] (.tup []) [(1000,.row 5 ((srtS l a b).map isa))]:=by
 (refine Zd8 (W0C rfl) λR hG hrd=>Qga ?_;subst hG)
 have ha:a<l.length:=(by omega);have ex0:l.getD a default=l[a]:=(by simp[W0j,ha]);have w1:i64.wrap ((a:Int)+1-a)=1:=(by rw[Yf (by omega) (by omega)];omega);have c1:i64.wrap 1=1:=rfl;have c2:(a:Int)+1-a=1:=(by omega);simp -implicitDefEqProofs[Zd6,Zd7,fM1,w1,c1,c2]
 refine Z1Q (λp:Nat×Nat=>⟨[(10,.int .i64 p.1),(11,.int .i64 p.2),(0,.osl 1000 l.length),(1,.int .i64 a),(4,.func (.func 39) [] [])],[(1000,.row 5 (l.map isa))]⟩)
  (BsI l a b) (λp=>p.2-p.1) (a+1,b) ?_ ⟨W0f _,h1,W0f _,λy hy=>by simp at hy,λy hy=>by rw[W1h (by simp;omega)]at hy;cases hy⟩ ?_
 . (refine Wkc ?_;simp only[Zck,Wkl,and_true];(try simp[lk,Yc,Ya,AV.keys]))
 . rintro ⟨i,j⟩ ⟨q1,q2,q3,q4,q5⟩;refine Qga ?_;simp only at q1 q2 q3 q4 q5;by_cases hij:i<j
   . obtain ⟨h,hh⟩:=Qex ((i+j) / 2);have hw:=Zag (i:=i) (j:=j) (by omega);rw[<- hh]at hw;have b1:h<l.length:=(by omega);have hg:=Zdv (l:=l) (s:=a+1) (b:=b) (k:=h) (by omega) (by omega) h2;have hvx:=hv _ (W0e ha);have hvy:=hv _ (W0e b1);have hcl:=Zcm hvy hvx;have w2:i64.wrap ((h:Int)+1)=((h+1:Nat):Int):=Yf;have hcall:=Zcf (G:=R.G) l[h] l[a] hvy hvx;have exh:isa l[h]=[.int .i64 l[h].d,.int .i64 l[h].l,.int .u8 l[h].k,.vsl (l[h].its.map ita),.vsl (l[h].dms.map dma)]:=rfl;have exa:isa l[a]=[.int .i64 l[a].d,.int .i64 l[a].l,.int .u8 l[a].k,.vsl (l[a].its.map ita),.vsl (l[a].dms.map dma)]:=rfl;rw[exh,exa]at hcall;simp -implicitDefEqProofs[hij,hw,b1,ha,exh,exa];refine Ye.of hcall (by simp[AV.pure]) ?_;by_cases hlt:cmpN l[h] l[a]<0
     . simp -implicitDefEqProofs[hlt,w2];have e1:h+1-(a+1)=h-(a+1)+1:=(by omega);refine ⟨rfl,(h+1,j),?_,⟨by simp only;omega,by simp only;omega,q3,?_,q5⟩,by simp only;omega⟩
       . (refine Wkc ?_;simp only[Zck,Wkl,and_true];(try simp[lk,Yc,Ya,AV.keys]))
       . simp only;rw[e1,ex0];exact Zdw hs hg (hcl.1 hlt)
     . simp -implicitDefEqProofs[hlt];refine ⟨rfl,(i,h),?_,⟨q1,by simp only;omega,by simp only;omega,q4,?_⟩,by simp only;omega⟩
       . (refine Wkc ?_;simp only[Zck,Wkl,and_true];(try simp[lk,Yc,Ya,AV.keys]))
       . simp only;rw[ex0];exact Zdx hs hg λh=>hlt (hcl.2 h)
   . obtain rfl:i=j:=(by omega);simp -implicitDefEqProofs;refine Qgr ?_;obtain ⟨t,ht⟩ : ∃ t,i=a+1+t:=⟨i-(a+1),by omega⟩;have e2:i-(a+1)=t:=(by omega);rw[e2]at q4 q5;have hend:=Zdu hin (by omega) h2 hs q4 q5;simp -implicitDefEqProofs;refine Z91 (λp=>⟨[(13,.int .i64 ((a:Int)+p)),(10,.int .i64 i),(0,.osl 1000 l.length)],[(1000,.row 5 ((mrS l a b p).map isa))]⟩) (λ_=>True) t ?_ trivial ?_ ?_
     . have z:=Zdr (l:=l) (a:=a) (b:=b) (by omega) h2;rw[z]
       (refine Wkc ?_;simp only[Zck,Wkl,and_true];(try simp[lk,Yc,Ya,AV.keys]))
     . intro p hp _;refine Qga ?_;obtain ⟨y,y0,y1,y2,y3⟩:=Zdt (l:=l) (a:=a) (b:=b) (p:=p) (by omega) h2 (by omega);have hQ:=Zds (l:=l) (a:=a) (b:=b) (p:=p) (by omega) h2 (by omega);have wi:i64.wrap ((i:Int)-1)=(a:Int)+t:=(by rw[Yf (by omega) (by omega)];omega);have k1:(a:Int)+p<(a:Int)+t:=(by omega);have k1':(p:Int)<t:=(by omega);have w3:i64.wrap ((a:Int)+p+1)=(a:Int)+p+1:=Yf;have k3:((a:Int)+p).toNat=a+p:=(by omega);have k4:((a:Int)+p+1).toNat=a+p+1:=(by omega);have k5:(0:Int)<=(a:Int)+p:=(by omega);have k6:(0:Int)<=(a:Int)+p+1:=(by omega);have k7:a+p<l.length:=(by omega);have k8:a+p+1<l.length:=(by omega);generalize hQ0:mrS l a b p=Q at *;obtain ⟨p1,g1⟩:=W02.1 y1;obtain ⟨p2,g2⟩:=W02.1 y2;generalize hx:l.getD a default=x at *;have exx:isa x=[.int .i64 x.d,.int .i64 x.l,.int .u8 x.k,.vsl (x.its.map ita),.vsl (x.dms.map dma)]:=rfl;have exy:isa y=[.int .i64 y.d,.int .i64 y.l,.int .u8 y.k,.vsl (y.its.map ita),.vsl (y.dms.map dma)]:=rfl;simp -implicitDefEqProofs[wi,k1,k1',w3,k3,k4,k5,k6,k7,k8,g1,g2,hQ,hQ0,exx,exy];refine ⟨rfl,?_⟩;have e9:(a:Int)+p+1=(a:Int)+(p+1:Nat):=(by omega);rw[<- exx,<- exy,<- W2a,<- W2a,y3,e9]
       (refine Wkc ?_;simp only[Zck,Wkl,and_true];(try simp[lk,Yc,Ya,AV.keys]))
     . intro _;refine Qga ?_;have wi:i64.wrap ((i:Int)-1)=(a:Int)+t:=(by rw[Yf (by omega) (by omega)];omega);rw[hend];simp -implicitDefEqProofs[wi];refine Qgr ?_;simp -implicitDefEqProofs;refine ⟨[],rfl,rfl,?_⟩;simp[Yi,newK,ZcC]
def Zdz {B:Jr} {p:Nat} {v:Int} {z:Iss} (hs:SrtN B) (hz:B[p]? = some z) (h:¬v<kyN z):∀ y∈B.take (p+1),¬v<kyN y:=λy hy=>by
 obtain ⟨hp,rfl⟩:=W02.1 hz;obtain ⟨j,hj,rfl⟩:=W0k hy;rw[W1O];have hj2:j<=p:=(by simp at hj;omega);rcases W0q j p with h1|h1
 . have:=W0Y.1 hs j p (by omega) hp h1;omega
 . obtain rfl:j=p:=(by omega);exact h
def ZdA {B:Jr} {p:Nat} {v:Int} {z:Iss} (hs:SrtN B) (hz:B[p]? = some z) (h:v<kyN z):∀ y∈B.drop p,v<kyN y:=λy hy=>by
 obtain ⟨hp,rfl⟩:=W02.1 hz;obtain ⟨j,hj,rfl⟩:=W0k hy;rw[List.getElem_drop];simp only[List.length_drop]at hj;rcases W0q 0 j with h1|h1
 . have:=W0Y.1 hs p (p+j) hp (by omega) (by omega);omega
 . obtain rfl:j=0:=(by omega);exact h
def BtI (l:Jr) (a m:Nat) (p:Nat×Nat):Prop:=a<=p.1/\p.1<=p.2/\p.2<=m/\(∀ y∈((l.take m).drop a).take (p.1-a),¬kyN (l.getD m default)<kyN y)/\(∀ y∈((l.take m).drop a).drop (p.2-a),kyN (l.getD m default)<kyN y)
def ZdB (l:Jr) (a m:Nat) (hv:∀ x∈l,okN x) (hin:InjN l) (h0:a+1<m) (h2:m+1<=l.length) (h3:l.length<=1000) (hs:SrtN ((l.take m).drop a)) :
  PB prog G 84 [(1000,.row 5 (l.map isa))] [.osl 1000 l.length,.int .i64 a,.int .i64 m,.int .i64 (m+1:Nat),fM1] (.tup []) [(1000,.row 5 ((srtS l a (m+1)).map isa))]:=by
 (refine Zd8 (W0C rfl) λR hG hrd=>Qga ?_;subst hG)
 have hm:m<l.length:=(by omega);have ex0:l.getD m default=l[m]:=(by simp[W0j,hm]);have w0:i64.wrap ((m:Int)-a)=(m:Int)-a:=Yf;have c0:¬(m:Int)-a=1:=(by omega);have w1:i64.wrap ((m:Int)+1-m)=1:=(by rw[Yf (by omega) (by omega)];omega);have c1:i64.wrap 1=1:=rfl;have c2:(m:Int)+1-m=1:=(by omega);have hid:sortN ((l.take m).drop a)=(l.take m).drop a:=Zdk (hin.sub λx hx=>W1p (W1L hx)) hs;simp -implicitDefEqProofs[Zd6,Zd7,fM1,w0,c0,w1,c1,c2]
 refine Z1Q (λp:Nat×Nat=>⟨[(14,.int .i64 p.1),(15,.int .i64 p.2),(0,.osl 1000 l.length),(2,.int .i64 m),(4,.func (.func 39) [] [])],[(1000,.row 5 (l.map isa))]⟩)
  (BtI l a m) (λp=>p.2-p.1) (a,m) ?_ ⟨W0f _,by simp only;omega,W0f _,λy hy=>by simp at hy,λy hy=>by rw[W1h (by simp;omega)]at hy;cases hy⟩ ?_
 . (refine Wkc ?_;simp only[Zck,Wkl,and_true];(try simp[lk,Yc,Ya,AV.keys]))
 . rintro ⟨i,j⟩ ⟨q1,q2,q3,q4,q5⟩;refine Qga ?_;simp only at q1 q2 q3 q4 q5;by_cases hij:i<j
   . obtain ⟨h,hh⟩:=Qex ((i+j) / 2);have hw:=Zag (i:=i) (j:=j) (by omega);rw[<- hh]at hw;have b1:h<l.length:=(by omega);have hg:=Zdv (l:=l) (s:=a) (b:=m) (k:=h) (by omega) (by omega) (by omega);have hvx:=hv _ (W0e hm);have hvy:=hv _ (W0e b1);have hcl:=Zcm hvx hvy;have w2:i64.wrap ((h:Int)+1)=((h+1:Nat):Int):=Yf;have hcall:=Zcf (G:=R.G) l[m] l[h] hvx hvy;have exh:isa l[h]=[.int .i64 l[h].d,.int .i64 l[h].l,.int .u8 l[h].k,.vsl (l[h].its.map ita),.vsl (l[h].dms.map dma)]:=rfl;have exa:isa l[m]=[.int .i64 l[m].d,.int .i64 l[m].l,.int .u8 l[m].k,.vsl (l[m].its.map ita),.vsl (l[m].dms.map dma)]:=rfl;rw[exh,exa]at hcall;simp -implicitDefEqProofs[hij,hw,b1,hm,exh,exa];refine Ye.of hcall (by simp[AV.pure]) ?_;by_cases hlt:cmpN l[m] l[h]<0
     . simp -implicitDefEqProofs[hlt];refine ⟨rfl,(i,h),?_,⟨q1,by simp only;omega,by simp only;omega,q4,?_⟩,by simp only;omega⟩
       . (refine Wkc ?_;simp only[Zck,Wkl,and_true];(try simp[lk,Yc,Ya,AV.keys]))
       . simp only;rw[ex0];exact ZdA hs hg (hcl.1 hlt)
     . simp -implicitDefEqProofs[hlt,w2];have e1:h+1-a=h-a+1:=(by omega);refine ⟨rfl,(h+1,j),?_,⟨by simp only;omega,by simp only;omega,q3,?_,q5⟩,by simp only;omega⟩
       . (refine Wkc ?_;simp only[Zck,Wkl,and_true];(try simp[lk,Yc,Ya,AV.keys]))
       . simp only;rw[e1,ex0];exact Zdz hs hg λh=>hlt (hcl.2 h)
   . obtain rfl:i=j:=(by omega);simp -implicitDefEqProofs;refine Qgr ?_;obtain ⟨t,ht⟩ : ∃ t,i=a+t:=⟨i-a,by omega⟩;have e2:i-a=t:=(by omega);rw[e2]at q4 q5;rw[ex0]at q4 q5
     have hend:=ZcB (l:=l) (a:=a) (i:=m) (p:=t) hin (by omega) hm (by omega) (by rw[hid];exact q5) (λq hq y hy=>by
      rw[hid]at hy;refine q4 y ?_;subst hq;obtain ⟨hp,rfl⟩:=W02.1 hy;exact W0d (i:=q) (by rw[List.getElem?_take_of_lt (by omega)];exact W07 hp))
     have z:=Zcx (l:=l) (a:=a) (i:=m) (by omega) hm
     have z1:srtS l a m=l:=by
      have e5:l.take a=(l.take m).take a:=(by rw[List.take_take,Nat.min_eq_left (by omega)]);rw[srtS,hid,<- W0U,e5,W11,W11]
     rw[z1]at z;simp -implicitDefEqProofs;refine Z1Q (λp:Nat=>⟨[(17,.int .i64 ((a:Int)+p)),(14,.int .i64 i),(0,.osl 1000 l.length)],[(1000,.row 5 ((mvS l a m p).map isa))]⟩) (λp=>t<=p/\p<=m-a) (λp=>p) (m-a) ?_ ⟨by omega,W0f _⟩ ?_
     . rw[<- z];have e9:(m:Int)=(a:Int)+(m-a:Nat):=(by omega);rw[e9]
       (refine Wkc ?_;simp only[Zck,Wkl,and_true];(try simp[lk,Yc,Ya,AV.keys]))
     . rintro p ⟨hp1,hp2⟩;refine Qga ?_;by_cases hpt:p=t
       . have k0:¬(a:Int)+t<(a:Int)+p:=(by omega);have k0':¬(t:Int)<p:=(by omega);have k0'':¬t<p:=(by omega);subst hpt;rw[hend];simp -implicitDefEqProofs[ht];refine Qgr ?_;simp -implicitDefEqProofs;refine ⟨[],rfl,rfl,?_⟩;simp[Yi,newK,ZcC]
       . obtain ⟨u,rfl⟩ : ∃ u,p=u+1:=⟨p-1,by omega⟩;obtain ⟨y,y0,y1,y2,y3,-⟩:=ZcA (l:=l) (a:=a) (i:=m) (p:=u) (by omega) hm (by omega);have hQ:=Zcy (l:=l) (a:=a) (i:=m) (p:=u+1) (by omega) hm (by omega);have k1:(a:Int)+t<(a:Int)+(u+1):=(by omega);have k1':(t:Int)<(u:Int)+1:=(by omega);have w3:i64.wrap ((a:Int)+(u+1)-1)=(a:Int)+u:=(by rw[Yf (by omega) (by omega)];omega);have k3:((a:Int)+(u+1)).toNat=a+u+1:=(by omega);have k4:((a:Int)+u).toNat=a+u:=(by omega);have k5:(0:Int)<=(a:Int)+(u+1):=(by omega);have k6:(0:Int)<=(a:Int)+u:=(by omega);have k7:a+u<l.length:=(by omega);have k8:a+u+1<l.length:=(by omega);generalize hQ0:mvS l a m (u+1)=Q at *;obtain ⟨p1,g1⟩:=W02.1 y1;obtain ⟨p2,g2⟩:=W02.1 y2;generalize hxx:l[m]=x at *;have exx:isa x=[.int .i64 x.d,.int .i64 x.l,.int .u8 x.k,.vsl (x.its.map ita),.vsl (x.dms.map dma)]:=rfl;have exy:isa y=[.int .i64 y.d,.int .i64 y.l,.int .u8 y.k,.vsl (y.its.map ita),.vsl (y.dms.map dma)]:=rfl;simp -implicitDefEqProofs[ht,k1,k1',w3,k3,k4,k5,k6,k7,k8,g1,g2,hQ,hQ0,exx,exy];refine ⟨rfl,u,?_,⟨by omega,by omega⟩,W2d _⟩;rw[<- exx,<- exy,<- W2a,<- W2a,y3]
         ((try simp only[ht]);refine Ym.sub (by simp[lk,Ya,AV.keys,ht]) ?_;simp only[ht,Wkl,Zck,and_true];(try simp[lk,Yc,Ya,AV.keys,ht]))
def ZdC {q:Jr} {a c:Nat} (hi:InjN q) (h:a<=c) (hs:SrtN ((q.take c).drop a)):srtS q a c=q:=by
 have hid:sortN ((q.take c).drop a)=(q.take c).drop a:=Zdk (hi.sub λx hx=>W1p (W1L hx)) hs;have e5:q.take a=(q.take c).take a:=(by rw[List.take_take,Nat.min_eq_left h]);rw[srtS,hid,<- W0U,e5,W11,W11]
def roS_l {l:Jr} {m e:Nat} (h:m<=e):roS l m m e=l:=by
 have e1:(l.take m).drop m=[]:=W1h (by simp;omega);have e5:l.take m=(l.take e).take m:=(by rw[List.take_take,Nat.min_eq_left h]);rw[roS,e1,W18,<- W0U,e5,W11,W11]
def roS_r {l:Jr} {s m:Nat} (h:s<=m):roS l s m m=l:=by
 have e1:(l.take m).drop m=[]:=W1h (by simp;omega);have e5:l.take s=(l.take m).take s:=(by rw[List.take_take,Nat.min_eq_left h]);rw[roS,e1,W18,<- W0U,e5,W11,W11]
def CtI (l:Jr) (n s0 r0:Nat) (p:Nat×Nat):Prop:=s0<=p.1/\p.1<=p.2/\p.2<=r0/\(s0<p.1->¬kyN (l.getD (n-p.1) default)<kyN (l.getD (p.1-1) default))/\(p.2<r0->kyN (l.getD (n-1-p.2) default)<kyN (l.getD p.2 default))
def ZdD {l:Jr} {a c:Nat} (h1:a<c) (h2:c<=l.length):l.getD (c-1) default∈((l.take c).drop a).getLast?:=by
 have hl:((l.take c).drop a).length=c-a:=(by simp;omega);rw[List.getLast?_eq_getElem?,hl];have:=Zdv (l:=l) (s:=a) (b:=c) (k:=c-1) (by omega) (by omega) h2;rw[show c-1-a=c-a-1 by omega]at this;rw[this];simp[W0j,show c-1<l.length by omega]
def ZdE {l:Jr} {a c:Nat} (h1:a<c) (h2:c<=l.length):l.getD a default∈((l.take c).drop a).head?:=by
 have:=Zdv (l:=l) (s:=a) (b:=c) (k:=a) (W0f _) h1 h2;rw[W29]at this;rw[List.head?_eq_getElem?,this];simp[W0j,show a<l.length by omega]
def ZdF {l:Jr} {a m b c s:Nat} (hi:InjN l) (h1:a<=c) (h2:c<=b) (hb:b<=l.length) (ham:a<=m) (hmb:m<=b) (hsA:SrtN ((l.take m).drop a)) (hsB:SrtN ((l.take b).drop m))
  (s1:a<=s) (s2:s<=m) (s3:s<=c) (s4:c+m-s<=b) {s0 r0:Nat} (hI:CtI l (c+m) s0 r0 (s,s)) (h0:s0=a∨c+m-s0=b) (h3:r0=m∨r0=c) :
  srtS (srtS (roS l s m (c+m-s)) a c) c b=srtS l a b:=by
 obtain ⟨q1,-,q3,q4,q5⟩:=hI;simp only at q1 q3 q4 q5;have e:=five l (a:=a) (b:=s) (c:=m) (d:=c+m-s) s1 s2 (by omega) (by omega)
 have eD:l.drop (c+m-s)=(l.take b).drop (c+m-s)++l.drop b:=by
  have h:=W11 b l
  conv=>lhs;rw[<- h]
  rw[List.drop_append_of_le_length (by simp;omega)]
 rw[eD]at e;have A1:((l.take s).drop a).length=s-a:=(by simp;omega);have A2:((l.take m).drop s).length=m-s:=(by simp;omega);have B1:((l.take (c+m-s)).drop m).length=c-s:=(by simp;omega);have B2:((l.take b).drop (c+m-s)).length=b-(c+m-s):=(by simp;omega);have lP:(l.take a).length=a:=by simp;omega
 have jA:(l.take m).drop a=(l.take s).drop a++(l.take m).drop s:=by
  have h:=W11 s (l.take m);rw[List.take_take,Nat.min_eq_left s2]at h
  conv=>lhs;rw[<- h]
  rw[List.drop_append_of_le_length (by simp;omega)]
 have jB:(l.take b).drop m=(l.take (c+m-s)).drop m++(l.take b).drop (c+m-s):=by
  have h:=W11 (c+m-s) (l.take b);rw[List.take_take,Nat.min_eq_left s4]at h
  conv=>lhs;rw[<- h]
  rw[List.drop_append_of_le_length (by simp;omega)]
 rw[jA]at hsA;rw[jB]at hsB
 have hcr:=Zdp hsA hsB
  (by
   by_cases z:s0<s
   . by_cases z2:a<s
     . by_cases z3:c+m-s<b
       . exact .inr (.inr ⟨_,_,ZdD z2 (by omega),ZdE z3 hb,Int.not_lt.1 (q4 z)⟩)
       . exact .inr (.inl (W0l.1 (by omega)))
     . exact .inl (W0l.1 (by omega))
   . have hs0:s0=s:=(by omega);rcases h0 with h|h
     . exact .inl (W0l.1 (by omega))
     . exact .inr (.inl (W0l.1 (by omega))))
  (by
   by_cases z:s<r0
   . by_cases z2:s<c
     . by_cases z3:s<m
       . have g:=ZdD (l:=l) (a:=m) (c:=c+m-s) (by omega) (by omega);rw[show c+m-s-1=c+m-1-s by omega]at g;exact .inr (.inr ⟨_,_,g,ZdE z3 (by omega),Int.le_of_lt (q5 z)⟩)
       . exact .inr (.inl (W0l.1 (by omega)))
     . exact .inl (W0l.1 (by omega))
   . have hs0:r0=s:=(by omega);rcases h3 with h|h
     . exact .inr (.inl (W0l.1 (by omega)))
     . exact .inl (W0l.1 (by omega)))
 have hall:=Zdo (l.take a) ((l.take s).drop a) ((l.take m).drop s) ((l.take (c+m-s)).drop m) ((l.take b).drop (c+m-s)) (l.drop b) (a:=a) (b:=b) (c:=c) (m:=s) (e:=c+m-s) lP (by omega) (by omega) (by omega) (by omega) (hi.sub λx hx=>by
  simp only[W0h]at hx;rcases hx with hx|hx|hx|hx <;> exact W1p (W1L hx)) hcr
 rw[<- e,A2,show s+(m-s)=m by omega]at hall;exact hall
def ZdG {l:Jr} {a b:Nat} (h:a<=b):(srtS l a b).Perm l:=by
 have e5:l.take a=(l.take b).take a:=(by rw[List.take_take,Nat.min_eq_left h]);have h1:(srtS l a b).Perm (l.take a++((l.take b).drop a++l.drop b)):=List.Perm.append_left _ ((Zco _).append_right _);have h2:l.take a++((l.take b).drop a++l.drop b)=l:=by rw[<- W0U,e5,W11,W11]
 rwa [h2]at h1
def ZdH {l:Jr} {a m b:Nat} (h1:a<=m) (h2:m<=b) (h3:b<=l.length):(roS l a m b).Perm l:=by
 have e:=five l (a:=a) (b:=m) (c:=b) (d:=b) h1 h2 (W0f _) h3;have e1:(l.take b).drop b=[]:=W1h (by simp;omega);rw[e1,W18]at e
 have hp:(roS l a m b).Perm (l.take a++((l.take m).drop a++((l.take b).drop m++l.drop b))):=by
  refine List.Perm.append_left _ ?_;rw[<- W0U,<- W0U];exact List.perm_append_comm.append_right _
 rwa [<- e]at hp
def ZdI {l q:Jr} (p:q.Perm l) (h:∀ x∈l,okN x):∀ x∈q,okN x:=λx hx=>h x (p.mem_iff.1 hx)
def ZdJ {l:Jr} {a s m e c:Nat} (h1:a<=s) (h2:s<=m) (h3:m<=e) (h4:e<=l.length) (hc:c=s+(e-m)):((roS l s m e).take s).drop a=(l.take s).drop a/\((roS l s m e).take c).drop s=(l.take e).drop m:=by
 have lP:(l.take s).length=s:=(by simp;omega);have lB:((l.take e).drop m).length=e-m:=(by simp;omega);have t1:(roS l s m e).take s=l.take s:=List.take_left' lP
 have t2:(roS l s m e).take c=l.take s++(l.take e).drop m:=by
  rw[roS,<- W0U];exact List.take_left' (by rw[W0s,lP,lB,hc])
 exact ⟨by rw[t1],by rw[t2,List.drop_left' lP]⟩
def ZdK {q:Jr} {a c e b:Nat} (h1:a<=c) (h2:c<=e) (hl:c<=q.length):((srtS q a c).take e).drop c=(q.take e).drop c/\((srtS q a c).take b).drop e=(q.take b).drop e:=by
 have lX:(q.take a++sortN ((q.take c).drop a)).length=c:=by
  rw[W0s,Zcs];simp;omega
 have e1:srtS q a c=(q.take a++sortN ((q.take c).drop a))++q.drop c:=(by rw[srtS,W0U]);generalize q.take a++sortN ((q.take c).drop a)=X at *
 have key:∀ k,(srtS q a c).drop (c+k)=q.drop (c+k):=λk=>by
  rw[e1,<- List.drop_drop,List.drop_left' lX,List.drop_drop]
 have kt:∀ x y:Nat,c<=y->((srtS q a c).take x).drop y=(q.take x).drop y:=λx y hy=>by
  obtain ⟨k,rfl⟩ : ∃ k,y=c+k:=⟨y-c,by omega⟩;rw[List.drop_take,List.drop_take,key]
 exact ⟨kt _ _ (W0f _),kt _ _ h2⟩
def ZdL {l:Jr} {a s m:Nat} (h:SrtN ((l.take m).drop a)) (h2:s<=m):SrtN ((l.take s).drop a):=by
 have e:(l.take s).drop a=((l.take m).drop a).take (s-a):=by
  rw[<- List.drop_take,List.take_take,Nat.min_eq_left h2]
 rw[e];exact List.Pairwise.sublist (List.take_sublist _ _) h
def ZdM {l:Jr} {a s m:Nat} (h:SrtN ((l.take m).drop a)) (h2:a<=s):SrtN ((l.take m).drop s):=by
 have e:(l.take m).drop s=((l.take m).drop a).drop (s-a):=(by rw[List.drop_drop];congr 1;omega);rw[e];exact List.Pairwise.sublist (List.drop_sublist _ _) h
def ZdN {l:Jr} {s m e c b:Nat} (h2:s<=m) (h3:m<=e) (h4:e<=l.length) (hc:c=s+(e-m)):((roS l s m e).take e).drop c=(l.take m).drop s/\((roS l s m e).take b).drop e=(l.take b).drop e:=by
 have lX:(l.take s++(l.take e).drop m).length=c:=(by rw[W0s];simp;omega);have lA:((l.take m).drop s).length=m-s:=(by simp;omega);have e1:roS l s m e=(l.take s++(l.take e).drop m)++((l.take m).drop s++l.drop e):=(by rw[roS,W0U]);have e2:roS l s m e=((l.take s++(l.take e).drop m)++(l.take m).drop s)++l.drop e:=(by rw[e1];simp only[W0U]);have lY:((l.take s++(l.take e).drop m)++(l.take m).drop s).length=e:=by rw[W0s,lX,lA];omega
 constructor
 . rw[e2,List.take_left' lY,List.drop_left' lX]
 . rw[List.drop_take,List.drop_take,e2,List.drop_left' lY]
def ZdO {P:Program} {R:Run} {a b:RCode} {st S:St} {Φ:Exit->St->Prop} (h:AR P R a st λe s=>e = .normal/\Ym s S) (hb:AR P R b S Φ):AR P R (.seq a b) st Φ :=
 Z1M (Z2I h λe s hs=>by obtain ⟨rfl,hw⟩:=hs;exact Z2Q hw hb)
set_option maxRecDepth 100000 in
def ZdP:∀ (N:Nat) (l:Jr) (a m b:Nat),b-a<=N->(∀ x∈l,okN x)->InjN l->a<m->m<b->b<=l.length->l.length<=1000->SrtN ((l.take m).drop a)->SrtN ((l.take b).drop m) ->
  PB prog G 84 [(1000,.row 5 (l.map isa))] [.osl 1000 l.length,.int .i64 a,.int .i64 m,.int .i64 b,fM1] (.tup []) [(1000,.row 5 ((srtS l a b).map isa))]
 |0,_,_,_,_,hN,_,_,h1,h2,_,_,_,_=>by omega
 | N + 1, l,a,m,b,hN,hv,hin,h1,h2,h3,h4,hsA,hsB=>by
   by_cases e1:m=a+1
   . subst e1;exact Zdy l a b hv hin (by omega) h3 h4 hsB
   by_cases e2:b=m+1
   . subst e2;exact ZdB l a m hv hin (by omega) h3 h4 hsA
   have ih:=λl a m b=>ZdP N l a m b
   (refine Zd8 (W0C rfl) λR hG hrd=>Qga ?_;subst hG)
   have w0:i64.wrap ((m:Int)-a)=(m:Int)-a:=Yf;have c0:¬(m:Int)-a=1:=(by omega);have w1:i64.wrap ((b:Int)-m)=(b:Int)-m:=Yf;have c1:¬(b:Int)-m=1:=(by omega);obtain ⟨c,hc⟩:=Qex ((a+b) / 2);have hw:=Zag (i:=a) (j:=b) (by omega);rw[<- hc]at hw;have w2:i64.wrap ((c:Int)+m)=((c+m:Nat):Int):=Yf;simp -implicitDefEqProofs[Zd6,Zd7,fM1,w0,c0,w1,c1,hw,w2]
   have hbr:∃ s0 r0:Nat,a<=s0/\s0<=r0/\r0<=m/\r0<=c/\c+m-s0<=b/\(s0=a∨c+m-s0=b)/\(r0=m∨r0=c)/\(c<m->s0=c+m-b/\r0=c)/\(¬c<m->s0=a/\r0=m):=by
    by_cases h:c<m
    . exact ⟨c+m-b,c,by omega,by omega,by omega,by omega,by omega,.inr (by omega),.inr rfl,λ_=>⟨rfl,rfl⟩,λh'=>absurd h h'⟩
    . exact ⟨a,m,by omega,by omega,by omega,by omega,by omega,.inl rfl,.inl rfl,λh'=>absurd h' h,λ_=>⟨rfl,rfl⟩⟩
   obtain ⟨s0,r0,g1,g2,g3,g4,g5,g6,g7,g8,g9⟩:=hbr;have w3:i64.wrap (((c+m:Nat):Int)-1)=((c+m-1:Nat):Int):=by rw[Yf (by omega) (by omega)];omega
   have hk12:(c<m/\s0=c+m-b/\r0=c)∨(¬c<m/\s0=a/\r0=m):=by
    by_cases h:c<m
    . exact .inl ⟨h,g8 h⟩
    . exact .inr ⟨h,g9 h⟩
   clear g8 g9;rcases hk12 with ⟨hcm,k1,k2⟩ | ⟨hcm,k1,k2⟩
   case' inl =>
    have w4:i64.wrap (((c+m:Nat):Int)-b)=((c+m-b:Nat):Int):=(by rw[Yf (by omega) (by omega)];omega);rw[Int.natCast_add]at w3 w4;rw[<- k1]at w4;simp -implicitDefEqProofs[hcm,w3,w4]
   case' inr =>
    rw[Int.natCast_add]at w3;simp -implicitDefEqProofs[hcm,w3]
   all_goals
    refine Z1Q (λp:Nat×Nat=>⟨[(20,.int .i64 p.1),(21,.int .i64 p.2),(22,.int .i64 (c+m-1:Nat)),(19,.int .i64 ((c:Int)+m)),(18,.int .i64 c),(0,.osl 1000 l.length),(1,.int .i64 a),(2,.int .i64 m),(3,.int .i64 b),(4,.func (.func 39) [] [])],[(1000,.row 5 (l.map isa))]⟩)
     (CtI l (c+m) s0 r0) (λp=>p.2-p.1) (s0,r0) ?_ ⟨W0f _,g2,W0f _,λh=>absurd h (Nat.lt_irrefl _),λh=>absurd h (Nat.lt_irrefl _)⟩ ?_
    . simp only[k1,k2]
      (refine Wkc ?_;simp only[Zck,Wkl,and_true];(try simp[lk,Yc,Ya,AV.keys]))
    . rintro ⟨i,j⟩ hI;have hI0:=hI;obtain ⟨q1,q2,q3,q4,q5⟩:=hI;refine Qga ?_;simp only at q1 q2 q3 q4 q5;by_cases hij:i<j
      . obtain ⟨h,hh⟩:=Qex ((i+j) / 2);have hwh:=Zag (i:=i) (j:=j) (by omega);rw[<- hh]at hwh;have b1:h<l.length:=(by omega);have b2:c+m-1-h<l.length:=(by omega);have hvx:=hv _ (W0e b2);have hvy:=hv _ (W0e b1);have hcl:=Zcm hvx hvy;have wh:i64.wrap ((h:Int)+1)=((h+1:Nat):Int):=Yf;have wp:i64.wrap (((c+m-1:Nat):Int)-h)=((c+m-1-h:Nat):Int):=(by rw[Yf (by omega) (by omega)];omega);have hcall:=Zcf (G:=R.G) l[c+m-1-h] l[h] hvx hvy;have exh:isa l[h]=[.int .i64 l[h].d,.int .i64 l[h].l,.int .u8 l[h].k,.vsl (l[h].its.map ita),.vsl (l[h].dms.map dma)]:=rfl;have exp:isa l[c+m-1-h]=[.int .i64 l[c+m-1-h].d,.int .i64 l[c+m-1-h].l,.int .u8 l[c+m-1-h].k,.vsl (l[c+m-1-h].its.map ita),.vsl (l[c+m-1-h].dms.map dma)]:=rfl;rw[exh,exp]at hcall;have dh:l.getD h default=l[h]:=(by simp[W0j,b1]);have dp:l.getD (c+m-1-h) default=l[c+m-1-h]:=(by simp[W0j,b2]);generalize hP:c+m-1=P at *;simp -implicitDefEqProofs[hij,hwh,wp,b1,b2,exh,exp];refine Ye.of hcall (by simp[AV.pure]) ?_;by_cases hlt:cmpN l[P-h] l[h]<0
        . simp -implicitDefEqProofs[hlt];refine ⟨rfl,(i,h),?_,⟨q1,by simp only;omega,by simp only;omega,q4,λ_=>?_⟩,by simp only;omega⟩
          . (refine Wkc ?_;simp only[Zck,Wkl,and_true];(try simp[lk,Yc,Ya,AV.keys]))
          . simp only;rw[hP,dh,dp];exact hcl.1 hlt
        . simp -implicitDefEqProofs[hlt,wh];refine ⟨rfl,(h+1,j),?_,⟨by simp only;omega,by simp only;omega,q3,λ_=>?_,by simp only;rw[hP];exact q5⟩,by simp only;omega⟩
          . (refine Wkc ?_;simp only[Zck,Wkl,and_true];(try simp[lk,Yc,Ya,AV.keys]))
          . simp only;rw[show c+m-(h+1)=P-h by omega,show h+1-1=h by omega,dh,dp];exact λh=>hlt (hcl.2 h)
      . obtain rfl:i=j:=(by omega);obtain ⟨e,he⟩:=Qex (c+m-i);have we:i64.wrap (((c:Int)+m)-i)=(e:Int):=(by rw[Yf (by omega) (by omega)];omega);have x1:a<=i:=(by omega);have x2:i<=m:=(by omega);have x3:i<=c:=(by omega);have x4:m<=e:=(by omega);have x5:e<=b:=(by omega);have x6:c=i+(e-m):=(by omega);have hstep:=ZdF (l:=l) (a:=a) (m:=m) (b:=b) (c:=c) (s:=i) hin (by omega) (by omega) h3 (by omega) (by omega) hsA hsB x1 x2 x3 (by omega) hI0 g6 g7;rw[<- he]at hstep;have pr:=ZdH (l:=l) (a:=i) (m:=m) (b:=e) x2 x4 (by omega);obtain ⟨rl1,rl2⟩:=ZdJ (l:=l) (a:=a) (s:=i) (m:=m) (e:=e) (c:=c) x1 x2 x4 (by omega) x6;obtain ⟨rr1,rr2⟩:=ZdN (l:=l) (s:=i) (m:=m) (e:=e) (c:=c) (b:=b) x2 x4 (by omega) x6;have roL:=roS_l (l:=l) (m:=m) (e:=e) x4;have roR:=roS_r (l:=l) (s:=i) (m:=m) x2;have hrot:=λ(y1:i<m) (y2:m<e)=>Zdj (G:=R.G) l i m e y1 y2 (by omega) h4
        generalize hq1:roS l i m e=q1 at *;have q1v:=ZdI pr hv;have q1i:InjN q1:=hin.perm pr.symm;have q1l:q1.length=l.length:=pr.length_eq;have ps:=ZdG (l:=q1) (a:=a) (b:=c) (by omega);have sr:=ZdK (q:=q1) (a:=a) (c:=c) (e:=e) (b:=b) (by omega) (by omega) (by omega);have sid:=λhs=>ZdC (q:=q1) (a:=a) (c:=c) q1i (by omega) hs
        have hrec1:=λ(y1:a<i) (y2:i<c) z1 z2=>ih q1 a i c (by omega) q1v q1i y1 y2 (by omega) (by omega) z1 z2
        generalize hq2:srtS q1 a c=q2 at *;have q2v:=ZdI ps q1v;have q2i:InjN q2:=q1i.perm ps.symm;have q2l:q2.length=l.length:=(by rw[ps.length_eq,q1l]);have sid2:=λhs=>ZdC (q:=q2) (a:=c) (c:=b) q2i (by omega) hs
        have hrec2:=λ(y1:c<e) (y2:e<b) z1 z2=>ih q2 c e b (by omega) q2v q2i y1 y2 (by omega) (by omega) z1 z2
        rw[q1l]at hrec1;rw[q2l]at hrec2;have wl1:SrtN ((q1.take i).drop a):=(by rw[rl1];exact ZdL hsA x2);have wl2:SrtN ((q1.take c).drop i):=(by rw[rl2];exact ZdL hsB x5);have wr1:SrtN ((q2.take e).drop c):=(by rw[sr.1,rr1];exact ZdM hsA x1);have wr2:SrtN ((q2.take b).drop e):=(by rw[sr.2,rr2];exact ZdM hsB x4);simp -implicitDefEqProofs;refine Z2R mixed 2 ?_;simp -implicitDefEqProofs
        refine GO0 (ZdO (S:=⟨[(24,.int .i64 e),(20,.int .i64 i),(18,.int .i64 c),(0,.osl 1000 l.length),(1,.int .i64 a),(2,.int .i64 m),(3,.int .i64 b),(4,.func (.func 39) [] [])],[(1000,.row 5 (l.map isa))]⟩) ?_
         (ZdO (S:=⟨[(24,.int .i64 e),(20,.int .i64 i),(18,.int .i64 c),(0,.osl 1000 l.length),(1,.int .i64 a),(2,.int .i64 m),(3,.int .i64 b),(4,.func (.func 39) [] [])],[(1000,.row 5 (q1.map isa))]⟩) ?_
         (ZdO (S:=⟨[(24,.int .i64 e),(20,.int .i64 i),(18,.int .i64 c),(0,.osl 1000 l.length),(1,.int .i64 a),(2,.int .i64 m),(3,.int .i64 b),(4,.func (.func 39) [] [])],[(1000,.row 5 (q2.map isa))]⟩) ?_ ?_)))
        . refine Qga ?_;simp -implicitDefEqProofs[we]
          (refine Wkc ?_;simp only[Zck,Wkl,and_true];(try simp[lk,Yc,Ya,AV.keys]))
        . refine Qga ?_;by_cases y1:i<m
          . by_cases y2:m<e
            . simp -implicitDefEqProofs[y1,y2];refine Yd.sem (Z1B.byref (hrot y1 y2) id (by simp) (by simp) (by simp[St.get,lk,ZcE]) (by simp[Zck]) (by simp[Ya,AV.keys,lk,fM1]) rfl (by simp[AV.ren,fM1]) rfl rfl) ?_;simp -implicitDefEqProofs[Yl,ZcE]
              (refine Wkc ?_;simp only[Zck,Wkl,and_true];(try simp[lk,Yc,Ya,AV.keys]))
            . obtain rfl:e=m:=(by omega);rw[roR]at hq1;simp -implicitDefEqProofs[y1];rw[<- hq1]
              (refine Wkc ?_;simp only[Zck,Wkl,and_true];(try simp[lk,Yc,Ya,AV.keys]))
          . obtain rfl:i=m:=(by omega);rw[roL]at hq1;simp -implicitDefEqProofs;rw[<- hq1]
            (refine Wkc ?_;simp only[Zck,Wkl,and_true];(try simp[lk,Yc,Ya,AV.keys]))
        . refine Qga ?_;by_cases y1:a<i
          . by_cases y2:i<c
            . simp -implicitDefEqProofs[y1,y2];refine Yd.sem (Z1B.byref (hrec1 y1 y2 wl1 wl2) id (by simp) (by simp) (by simp[St.get,lk,ZcE]) (by simp[Zck]) (by simp[Ya,AV.keys,lk,fM1]) rfl (by simp[AV.ren,fM1]) rfl rfl) ?_;simp -implicitDefEqProofs[Yl,ZcE]
              (refine Wkc ?_;simp only[Zck,Wkl,and_true];(try simp[lk,Yc,Ya,AV.keys]))
            . have e9:i=c:=(by omega);have:=sid (by rw[<- e9];exact wl1);simp -implicitDefEqProofs[y1,y2];rw[this]
              (refine Wkc ?_;simp only[Zck,Wkl,and_true];(try simp[lk,Yc,Ya,AV.keys]))
          . have e9:i=a:=(by omega);have:=sid (by rw[<- e9];exact wl2);simp -implicitDefEqProofs[y1];rw[this]
            (refine Wkc ?_;simp only[Zck,Wkl,and_true];(try simp[lk,Yc,Ya,AV.keys]))
        . refine Qga ?_;by_cases y1:c<e
          . by_cases y2:e<b
            . have hr:=hrec2 y1 y2 wr1 wr2;rw[hstep]at hr;simp -implicitDefEqProofs[y1,y2];refine Yd.sem (Z1B.byref hr id (by simp) (by simp) (by simp[St.get,lk,ZcE]) (by simp[Zck]) (by simp[Ya,AV.keys,lk,fM1]) rfl (by simp[AV.ren,fM1]) rfl rfl) ?_;simp -implicitDefEqProofs[Yl,ZcE];refine ⟨[],rfl,rfl,?_⟩;simp[Yi,newK,ZcC]
            . have e9:e=b:=(by omega);have:=sid2 (by rw[<- e9];exact wr1);rw[hstep]at this;simp -implicitDefEqProofs[y1,y2];refine ⟨[],rfl,rfl,?_⟩;simp[Yi,newK,ZcC,this]
          . have e9:e=c:=(by omega);have:=sid2 (by rw[<- e9];exact wr2);rw[hstep]at this;simp -implicitDefEqProofs[y1];refine ⟨[],rfl,rfl,?_⟩;simp[Yi,newK,ZcC,this]
def ZdQ {q:Jr} {a b x y:Nat} (h:y<=a) (ha:a<=q.length):((srtS q a b).take y).drop x=(q.take y).drop x:=by
 have e:(srtS q a b).take y=q.take y:=by
  rw[srtS,List.take_append_of_le_length (by simp;omega),List.take_take,Nat.min_eq_left h]
 rw[e]
def ZdR {q:Jr} {a b x y:Nat} (h0:a<=b) (hb:b<=q.length) (h:b<=x):((srtS q a b).take y).drop x=(q.take y).drop x :=
 (ZdK (q:=q) (a:=a) (c:=b) (e:=x) (b:=y) h0 h hb).2
def ZdS {q:Jr} {a b:Nat} (h0:a<=b) (hb:b<=q.length):((srtS q a b).take b).drop a=sortN ((q.take b).drop a):=by
 have e:(srtS q a b).take b=q.take a++sortN ((q.take b).drop a):=by
  rw[srtS,<- W0U];exact List.take_left' (by rw[W0s,Zcs];simp;omega)
 rw[e];exact List.drop_left' (by simp;omega)
def BlkS (bs:Nat) (q:Jr) (i:Nat):Prop:=∀ j,j<i->SrtN ((q.take (bs*j+bs)).drop (bs*j))
def BlkF (bs:Nat) (q:Jr) (i:Nat):Prop:=∀ j,i<=j->SrtN ((q.take (bs*j+bs)).drop (bs*j))
def ZdT {bs j i:Nat} (h:j<i):bs*j+bs<=bs*i:=by
 have:=Nat.mul_le_mul_left bs (Nat.succ_le_of_lt h)
 rwa [Nat.mul_succ]at this
def ZdU {bs i:Nat} {q:Jr} (h:BlkS bs q i) (hl:bs*i+bs<=q.length):BlkS bs (srtS q (bs*i) (bs*i+bs)) (i+1):=λj hj=>by
 rcases W0q j i with h1|h1
 . rw[ZdQ (ZdT h1) (by omega)];exact h j h1
 . obtain rfl:j=i:=(by omega);rw[ZdS (by omega) hl];exact Zcp _
def ZdV {bs i:Nat} {q:Jr} (h:BlkS bs q i) (h1:bs*i<=q.length) (h2:q.length<=bs*i+bs):∀ k,BlkS bs (srtS q (bs*i) q.length) k:=λk j _=>by
 have hl:(srtS q (bs*i) q.length).length=q.length:=Zcu h1 (W0f _);rcases W0R j i with hj|hj|hj
 . rw[ZdQ (ZdT hj) h1];exact h j hj
 . subst hj;have e:(srtS q (bs*j) q.length).take (bs*j+bs)=(srtS q (bs*j) q.length).take q.length:=(by rw[W0J (by omega),W0J (by omega)]);rw[e,ZdS h1 (W0f _)];exact Zcp _
 . have:=ZdT (bs:=bs) hj;rw[W1h (by simp;omega)];exact List.Pairwise.nil
def ZdW {bs i:Nat}:bs*(2*i)=2*bs*i/\bs*(2*i+1)=2*bs*i+bs/\bs*(2*(i+1))=2*bs*i+2*bs:=by
 have e:bs*(2*i)=2*bs*i:=(by rw[Nat.mul_comm 2 bs,Nat.mul_assoc]);refine ⟨e,by rw[Nat.mul_add,e,Nat.mul_one],?_⟩;rw[Nat.mul_add 2 i 1,Nat.mul_add,e,Nat.mul_one,Nat.mul_comm bs 2]
def ZdX {bs i:Nat} {q:Jr} (h:BlkF bs q (2*i)):SrtN ((q.take (2*bs*i+bs)).drop (2*bs*i))/\SrtN ((q.take (2*bs*i+2*bs)).drop (2*bs*i+bs)):=by
 obtain ⟨e1,e2,-⟩:=ZdW (bs:=bs) (i:=i);have h1:=h (2*i) (W0f _);have h2:=h (2*i+1) (by omega);rw[e1]at h1;rw[e2]at h2;refine ⟨h1,?_⟩;rw[show 2*bs*i+2*bs=2*bs*i+bs+bs by omega];exact h2
def ZdY {bs i:Nat} {q:Jr} (h:BlkF bs q (2*i)) (hl:2*bs*i+2*bs<=q.length):BlkF bs (srtS q (2*bs*i) (2*bs*i+2*bs)) (2*(i+1)):=λj hj=>by
 have e:=(ZdW (bs:=bs) (i:=i)).2.2;have h2:=Nat.mul_le_mul_left bs hj;rw[ZdR (by omega) hl (by omega)];exact h j (by omega)
def ZdZ {bs i:Nat} {q:Jr} (h:BlkS (2*bs) q i) (hf:BlkF bs q (2*i)) (hl:q.length<=2*bs*i+bs):∀ k,BlkS (2*bs) q k:=λk j _=>by
 rcases W0R j i with hj|hj|hj
 . exact h j hj
 . subst hj;have:=(ZdX hf).1;rw[W0J hl]at this;rw[W0J (by omega)];exact this
 . have:=ZdT (bs:=2*bs) hj;rw[W1h (by simp;omega)];exact List.Pairwise.nil
def Ze0 {bs:Nat} {q:Jr} (h:∀ k,BlkS bs q k) (hl:q.length<=bs):SrtN q:=by
 have:=h 1 0 (by omega);rw[Nat.mul_zero,W1J,W0J (by omega)]at this;exact this
def blk_F {bs i:Nat} {q:Jr} (h:∀ k,BlkS bs q k):BlkF bs q i:=λj _=>h (j+1) j (by omega)
def Ze1 (l:Jr) (hv:∀ x∈l,okN x) (hin:InjN l) (h3:l.length<=500) :
  PB prog G 69 [(1000,.row 5 (l.map isa))] [.osl 1000 l.length,.int .i64 l.length,fM1] (.tup []) [(1000,.row 5 ((sortN l).map isa))]:=by
 (refine Z5O (W0C rfl) λR hG hrd=>Qga ?_;subst hG)
 simp -implicitDefEqProofs[Z5M,Z5N,fM1]
 refine Z1Q (λp:List Iss×Nat=>⟨[(8,.int .i64 ((p.2:Int)+20)),(7,.int .i64 p.2),(6,.int .i64 20),(0,.osl 1000 l.length),(1,.int .i64 l.length),(2,.func (.func 39) [] [])],[(1000,.row 5 (p.1.map isa))]⟩)
  (λp=>p.1.Perm l/\p.2<=l.length/\∃ i,p.2=20*i/\BlkS 20 p.1 i) (λp=>l.length-p.2) (l,0) ?_ ⟨List.Perm.refl _,W1e _,0,rfl,λj hj=>absurd hj (Nat.not_lt_zero _)⟩ ?_
 . (refine Wkc ?_;simp only[Zck,Wkl,and_true];(try simp[lk,Yc,Ya,AV.keys]))
 rintro ⟨q,A⟩ ⟨hp,hA,i,hi,hb⟩;simp only at hp hA hi hb;refine Qga ?_;have hql:=hp.length_eq;have qv:=ZdI hp hv;have qi:InjN q:=hin.perm hp.symm;by_cases k1:A+20<=l.length
 . have k1':(A:Int)+20<=l.length:=(by omega);have hc:=ZcD (G:=R.G) q A (A+20) qv qi (by omega) (by omega) (by omega);rw[show ((A+20:Nat):Int)=(A:Int)+20 by omega,hql]at hc;have w1:i64.wrap ((A:Int)+20+20)=(A:Int)+20+20:=Yf;have ps:=(ZdG (l:=q) (a:=A) (b:=A+20) (by omega)).trans hp;have hb2:=ZdU hb (by omega);rw[<- hi]at hb2;generalize hq2:srtS q A (A+20)=q2 at *;simp -implicitDefEqProofs[k1'];refine Yd.sem (Z1B.byref hc id (by simp) (by simp) (by simp[St.get,lk,ZcE]) (by simp[Zck]) (by simp[Ya,AV.keys,lk,fM1]) rfl (by simp[AV.ren,fM1]) rfl rfl) ?_;simp -implicitDefEqProofs[Yl,ZcE,w1];refine ⟨(q2,A+20),?_,⟨ps,k1,i+1,by simp only;omega,hb2⟩,by simp only;omega⟩
   (refine Wkc ?_;simp only[Zck,Wkl,and_true];(try simp[lk,Yc,Ya,AV.keys]))
 . have k1':¬(A:Int)+20<=l.length:=(by omega);have hc:=ZcD (G:=R.G) q A l.length qv qi (by omega) (by omega) (by omega);rw[hql]at hc;have ps:=(ZdG (l:=q) (a:=A) (b:=l.length) (by omega)).trans hp;have hb2:=ZdV hb (by omega) (by omega);rw[<- hi,hql]at hb2;generalize hq2:srtS q A l.length=q2 at *;simp -implicitDefEqProofs[k1'];refine Qgr ?_;simp -implicitDefEqProofs;refine Yd.sem (Z1B.byref hc id (by simp) (by simp) (by simp[St.get,lk,ZcE]) (by simp[Zck]) (by simp[Ya,AV.keys,lk,fM1]) rfl (by simp[AV.ren,fM1]) rfl rfl) ?_;simp -implicitDefEqProofs[Yl,ZcE]
   refine Z1Q (λp:List Iss×Nat=>⟨[(6,.int .i64 p.2),(0,.osl 1000 l.length),(1,.int .i64 l.length),(2,.func (.func 39) [] [])],[(1000,.row 5 (p.1.map isa))]⟩)
    (λp=>p.1.Perm l/\20<=p.2/\∀ k,BlkS p.2 p.1 k) (λp=>l.length-p.2) (q2,20) ?_ ⟨ps,W0f _,hb2⟩ ?_
   . (refine Wkc ?_;simp only[Zck,Wkl,and_true];(try simp[lk,Yc,Ya,AV.keys]))
   clear hc ps hb2 hq2 hql qv qi k1 k1' hp hA hi hb;clear q2 q A i;rintro ⟨q,bs⟩ ⟨hp,h20,hb⟩;simp only at hp h20 hb;refine Qga ?_;by_cases k1:bs<l.length
   . have w0:i64.wrap (2*(bs:Int))=2*(bs:Int):=Yf;have w9:i64.wrap ((bs:Int)*2)=2*(bs:Int):=(by rw[Yf (by omega) (by omega)];omega);simp -implicitDefEqProofs[k1,w0]
     refine Z1Q (λp:List Iss×Nat=>⟨[(8,.int .i64 ((p.2:Int)+2*(bs:Int))),(7,.int .i64 p.2),(6,.int .i64 bs),(0,.osl 1000 l.length),(1,.int .i64 l.length),(2,.func (.func 39) [] [])],[(1000,.row 5 (p.1.map isa))]⟩)
      (λp=>p.1.Perm l/\p.2<=l.length/\∃ i,p.2=2*bs*i/\BlkS (2*bs) p.1 i/\BlkF bs p.1 (2*i)) (λp=>l.length-p.2) (q,0) ?_ ⟨hp,W1e _,0,rfl,λj hj=>absurd hj (Nat.not_lt_zero _),blk_F hb⟩ ?_
     . (refine Wkc ?_;simp only[Zck,Wkl,and_true];(try simp[lk,Yc,Ya,AV.keys]))
     rintro ⟨q,A⟩ ⟨hp,hA,i,hi,hb,hf⟩;simp only at hp hA hi hb hf;refine Qga ?_;have hql:=hp.length_eq;have qv:=ZdI hp hv;have qi:InjN q:=hin.perm hp.symm;obtain ⟨sm1,sm2⟩:=ZdX hf;rw[<- hi]at sm1 sm2;by_cases k2:A+2*bs<=l.length
     . have k2':(A:Int)+2*(bs:Int)<=l.length:=(by omega);have hc:=ZdP (G:=R.G) q.length q A (A+bs) (A+2*bs) (by omega) qv qi (by omega) (by omega) (by omega) (by omega) sm1 sm2;rw[show ((A+2*bs:Nat):Int)=(A:Int)+2*(bs:Int) by omega,show ((A+bs:Nat):Int)=(A:Int)+bs by omega,hql]at hc;have w1:i64.wrap ((A:Int)+bs)=(A:Int)+bs:=Yf;have w2:i64.wrap ((A:Int)+2*(bs:Int)+2*(bs:Int))=(A:Int)+2*(bs:Int)+2*(bs:Int):=Yf;have ps:=(ZdG (l:=q) (a:=A) (b:=A+2*bs) (by omega)).trans hp;have hb2:=ZdU hb (by omega);have hf2:=ZdY hf (by omega);rw[<- hi]at hb2 hf2;generalize hq2:srtS q A (A+2*bs)=q2 at *;simp -implicitDefEqProofs[k2',w0,w1];refine Yd.sem (Z1B.byref hc id (by simp) (by simp) (by simp[St.get,lk,ZcE]) (by simp[Zck]) (by simp[Ya,AV.keys,lk,fM1]) rfl (by simp[AV.ren,fM1]) rfl rfl) ?_;simp -implicitDefEqProofs[Yl,ZcE,w0,w2];refine ⟨(q2,A+2*bs),?_,⟨ps,k2,i+1,by simp only;rw[Nat.mul_succ];omega,hb2,hf2⟩,by simp only;omega⟩
       (refine Wkc ?_;simp only[Zck,Wkl,and_true];(try simp[lk,Yc,Ya,AV.keys]))
     . have k2':¬(A:Int)+2*(bs:Int)<=l.length:=(by omega);have w1:i64.wrap ((A:Int)+bs)=(A:Int)+bs:=Yf;by_cases k3:A+bs<l.length
       . have k3':(A:Int)+bs<l.length:=(by omega);have e1:q.take (A+2*bs)=q.take l.length:=(by rw[W0J (by omega),W0J (by omega)]);rw[e1]at sm2;have hc:=ZdP (G:=R.G) q.length q A (A+bs) l.length (by omega) qv qi (by omega) (by omega) (by omega) (by omega) sm1 sm2;rw[show ((A+bs:Nat):Int)=(A:Int)+bs by omega,hql]at hc;have ps:=(ZdG (l:=q) (a:=A) (b:=l.length) (by omega)).trans hp;have hb2:=ZdV hb (by omega) (by omega);rw[<- hi,hql]at hb2;generalize hq2:srtS q A l.length=q2 at *;simp -implicitDefEqProofs[k2'];refine Qgr ?_;simp -implicitDefEqProofs[w1,k3'];refine Yd.sem (Z1B.byref hc id (by simp) (by simp) (by simp[St.get,lk,ZcE]) (by simp[Zck]) (by simp[Ya,AV.keys,lk,fM1]) rfl (by simp[AV.ren,fM1]) rfl rfl) ?_;simp -implicitDefEqProofs[Yl,ZcE,w9];refine ⟨(q2,2*bs),?_,⟨ps,by simp only;omega,hb2⟩,by simp only;omega⟩
         (refine Wkc ?_;simp only[Zck,Wkl,and_true];(try simp[lk,Yc,Ya,AV.keys]))
       . have k3':¬(A:Int)+bs<l.length:=(by omega);have hb2:=ZdZ hb hf (by omega);simp -implicitDefEqProofs[k2'];refine Qgr ?_;simp -implicitDefEqProofs[w1,k3',w9];refine ⟨(q,2*bs),?_,⟨hp,by simp only;omega,hb2⟩,by simp only;omega⟩
         (refine Wkc ?_;simp only[Zck,Wkl,and_true];(try simp[lk,Yc,Ya,AV.keys]))
   . have hs:=Ze0 hb (by rw[hp.length_eq];omega);have he:sortN l=q:=Zcr hin hp hs;simp -implicitDefEqProofs[k1];refine Qgr ?_;simp -implicitDefEqProofs;refine ⟨[],rfl,rfl,?_⟩;simp[Yi,newK,ZcC,he]
def Ze2 (l:Jr) (hv:∀ x∈l,okN x) (hin:InjN l) (h3:l.length<=500) :
  PB prog G 38 [(1000,.row 5 (l.map isa))] [.osl 1000 l.length,fM1] (.tup []) [(1000,.row 5 ((sortN l).map isa))]:=by
 (refine Z5L (W0C rfl) λR hG hrd=>Qga ?_;subst hG)
 simp -implicitDefEqProofs[Z5J,Z5K,fM1];refine Yd.sem (Z1B.byref (Ze1 l hv hin h3) id (by simp) (by simp) (by simp[St.get,lk,ZcE]) (by simp[Zck]) (by simp[Ya,AV.keys,lk,fM1]) rfl (by simp[AV.ren,fM1]) rfl rfl) ?_;simp -implicitDefEqProofs[Yl,ZcE];refine ⟨[],rfl,rfl,?_⟩;simp[Yi,newK,ZcC]
def Ze3 (hG:GC G) (a b:Jr) (ha:Wf a) (hb:Wf b):PC prog G 10 [rega a,rega b] (.tup [rega (mgE a b).1,.int .i64 (mgE a b).2]):=by
 obtain ⟨bk,hcl⟩:=ZcW hG a b ha hb;by_cases k0:bothE a b=0
 case neg =>
  refine PC.nzR (v:=.tup [.agg [.nils],.int .i64 (bothE a b)]) ?_ (by simp[nz,mgE,k0,rega])
  (refine Z66 rfl λR hG hrd=>Qga ?_;subst hG)
  simp -implicitDefEqProofs[Z64,Z65,rega];rw[rega,rega]at hcl;refine Qco (hcl) ?_;simp -implicitDefEqProofs[k0]
 by_cases k1:clN a b a.length=[]
 case neg =>
  refine PC.nzR (v:=.tup [.agg [.nils],.int .i64 23]) ?_ (by simp[nz,mgE,k0,k1,rega]);have ev:clE a b=clN a b a.length:=(by simp[clE,k0]);have hl:0<(clN a b a.length).length:=List.length_pos_iff.2 k1
  (refine Z66 rfl λR hG hrd=>Qga ?_;subst hG)
  simp -implicitDefEqProofs[Z64,Z65,rega];rw[rega,rega,ev]at hcl;refine Qco (hcl) ?_;simp -implicitDefEqProofs[k0,hl]
 have ev:clE a b=[]:=by simp[clE,k0,k1]
 have oa:openV a=0:=by
  unfold bothE at k0;split at k0
  . assumption
  . exact k0
 have ob:openV b=0:=(by simpa [bothE,oa] using k0);have la:=Zbh oa;have lb:=Zbh ob;have sa:=Zbi la;have sb:=Zbi lb;have na:a≠[]:=(by rintro rfl;simp at sa);have nb:b≠[]:=(by rintro rfl;simp at sb);have hwf:=Zd4 ha hb (by omega) (by omega);have hin:=Zd0 la lb k1
 have hok:∀ x∈a++b,okN x:=λx hx=>by
  rcases W0h.1 hx with h|h
  . exact ZcY la x h
  . exact ZcY lb x h
 have hcc:=Zcl (G:=G) a b na nb (by omega) (by omega)
 have hwx:∀ x∈a++b,Sml x.its/\Sml x.dms:=λx hx=>by
  rcases W0h.1 hx with h|h
  . exact ha.1.2 x h
  . exact hb.1.2 x h
 have hll:(a++b).length<=500:=(by rw[W0s];omega);have hl0:0<(a++b).length:=(by rw[W0s];omega);have hsp:=Ze2 (G:=G) (a++b) hok hin hll;have hcp:=ZcO (G:=G) (sortN (a++b)) (by rw[Zcs];omega);have hck:=Zbo hG (mgL a b) hwf;have hmv:mgE a b=if openV (mgL a b)=0 then (mgL a b,0) else ([],openV (mgL a b)):=by simp[mgE,k0,k1]
 have hcm:cmpct (sortN (a++b))=mgL a b:=rfl;have hmn:=Zd3 a b;rw[hmv];rw[rega,rega,ev,k0]at hcl;refine PC.nzR (v:=.tup [.agg [if openV (mgL a b)=0 then .vsl ((mgL a b).map isa) else .nils],.int .i64 (openV (mgL a b))]) ?_ (by by_cases ko:openV (mgL a b)=0 <;> simp[nz,ko,rega])
 (refine Z66 rfl λR hG hrd=>Qga ?_;subst hG)
 simp -implicitDefEqProofs[Z64,Z65,rega];refine Qco (hcl) ?_;simp -implicitDefEqProofs;unfold ccA at hcc;generalize a++b=l at *;refine Qco (hcc) ?_;simp -implicitDefEqProofs;refine Z91 (fM l) (λ_=>True) l.length (by simp only[fM];(first|exact Wka|exact Wkb)) trivial ?_ ?_
 . intro i hi _;refine Qga ?_;have hx:=hwx l[i] (W0e hi);have tk:=ZbL hi;have ln:=ZbK (Nat.le_of_lt hi);have cp:=Zd5 (G:=R.G) l[i] hx.1 hx.2;have ex:isa l[i]=[.int .i64 l[i].d,.int .i64 l[i].l,.int .u8 l[i].k,.vsl (l[i].its.map ita),.vsl (l[i].dms.map dma)]:=rfl;rw[ex]at cp
   cases i with
   | zero =>
     have w1:i64.wrap 1=1:=rfl;have tk0:twR l 1=[[.int .i64 l[0].d,.int .i64 l[0].l,.int .u8 l[0].k,.vsl (l[0].its.map ita),.vsl (l[0].dms.map dma)]]:=(by rw[tk];simp[twR]);simp -implicitDefEqProofs[fM,hi,ex];refine Qco (cp) ?_;simp -implicitDefEqProofs[w1,fM];refine ⟨rfl,?_⟩;exact Ym.sub (by simp[lk,Ya,AV.keys]) (by simp[lk,Yc,Ya,AV.keys,tk0])
   | succ i =>
     have w1:i64.wrap ((i:Int)+1+1)=(i:Int)+1+1:=Yf;have k1:(i:Int)+1<l.length:=(by omega);have k2:((i:Int)+1).toNat=i+1:=(by omega);have k3:(0:Int)<=(i:Int)+1:=(by omega);have b2:(i+1+1)*72<=70368744177664:=(by omega);simp -implicitDefEqProofs[fM,hi,k1,k2,k3,ex];refine Qco (cp) ?_;simp -implicitDefEqProofs[w1,b2,ln];refine ⟨rfl,?_⟩;refine Ym.sub (by simp[lk,Ya,AV.keys]) ?_;simp only[W0g,W0Q,or_false,W1H,forall_eq,ZbM,and_true];simp[lk,Yc,Ya,AV.keys,tk]
 . intro _;refine Qga ?_;obtain ⟨n,hn⟩ : ∃ n,l.length=n+1:=⟨l.length-1,by omega⟩;have e1:twR l (n+1)=l.map isa:=(by rw[<- hn,ZbN]);have k1:¬(n:Int)+1<n+1:=(by omega);rw[hn];rw[hn]at hsp;simp -implicitDefEqProofs[fM,hn,k1,e1];refine Qgr ?_;simp -implicitDefEqProofs;refine Yd.sem (Z1B.byref hsp (λ_=>44) (by simp) (by simp) (by simp[St.get,lk,ZcE]) (by simp[Zck]) (by simp[Ya,AV.keys,lk,fM1]) rfl (by simp[AV.ren,fM1]) rfl rfl) ?_;simp -implicitDefEqProofs[Yl,ZcE];have ls:(sortN l).length=n+1:=(by rw[Zcs,hn]);rw[ls]at hcp;refine Yd.sem (Z1B.byref hcp (λ_=>44) (by simp) (by simp) (by simp[St.get,lk,ZcE]) (by simp[Zck]) (by simp[Ya,AV.keys,lk,fM2]) rfl (by simp[AV.ren,fM2]) rfl rfl) ?_;have hcv:cmpV 1000 (sortN l)=if (mgL a b).length=n+1 then .osl 1000 (n+1) else .oss 1000 (n+1) 0 (mgL a b).length:=by rw[cmpV,hcm,ls]
   have hco:cmpO (sortN l)=(mgL a b).map isa++List.replicate (n+1-(mgL a b).length) zrI:=(by rw[cmpO,hcm,ls]);rw[hcv,hco];generalize mgL a b=m at *;by_cases hm:m.length=n+1
   . have hr:List.replicate (n+1-m.length) zrI=[]:=(by rw[hm,W29];rfl);rw[if_pos hm,hr,W1B];have pu:=Zcj m;rw[rega]at hck;simp -implicitDefEqProofs[Yl,ZcE,AV.ren];refine Yd.flat hck (by simp[AV.flat]) (by simp[pu,hm]) ?_;by_cases ko:openV m=0
     . simp -implicitDefEqProofs[ko,pu,hm]
     . simp -implicitDefEqProofs[ko]
   . rw[if_neg hm]
     have hml:m.length<=n+1:=by
      have:=ZcF (sortN l) (sortN l).length;rw[<- hcm,<- ls];exact this
     have hRl:(m.map isa++List.replicate (n+1-m.length) zrI).length=n+1:=(by simp;omega);have hRt:(m.map isa++List.replicate (n+1-m.length) zrI).take m.length=m.map isa:=by rw[List.take_left'];simp
     have hRn:AObj.ren (λ_=>44) (.row 5 (m.map isa++List.replicate (n+1-m.length) zrI)) = .row 5 (m.map isa++List.replicate (n+1-m.length) zrI):=by
      have h:=ZcE (λ_=>44) m;simp only[AObj.ren,AObj.row.injEq,true_and]at h ⊢;rw[W0r,h];simp[zrI,AV.ren]
     generalize m.map isa++List.replicate (n+1-m.length) zrI=RR at *;have pu:=Zcj m;rw[rega]at hck;simp -implicitDefEqProofs[Yl,hRn,AV.ren];refine Yd.flat hck (by simp[AV.flat]) (by simp[pu,hRl,hRt,hml]) ?_;by_cases ko:openV m=0
     . simp -implicitDefEqProofs[ko,pu,hRl,hRt,hml]
     . simp -implicitDefEqProofs[ko]
def SrtK (l:Jr):Prop:=l.Pairwise λx y=>kyN x<kyN y
def SrtK.nodup {l:Jr} (h:SrtK l):l.Nodup:=List.Pairwise.imp (λ{x y} (h:kyN x<kyN y) (e:x=y)=>by subst e;omega) h
def Ze4 {a b:Jr} (ha:SrtK a) (hb:SrtK b) (h:∀ x,x∈a↔x∈b):a=b :=
 List.Perm.eq_of_pairwise (le:=λx y:Iss=>kyN x<kyN y) (λx y _ _ h1 h2=>by omega) ha hb ((List.perm_ext_iff_of_nodup ha.nodup hb.nodup).2 h)
def Ze5 {r:Jr} (h:Z9o r=true):SrtK r:=W0Y.2 λi j hi hj hij=>by
 have h1:=Zbm h hij hj;rw[at_eq hi,at_eq hj]at h1;obtain ⟨-,-,a1,a2⟩:=ZcY h _ (W0e hi);obtain ⟨-,-,b1,b2⟩:=ZcY h _ (W0e hj);unfold Lx at h1;unfold kyN;omega
def Ze6 {x y:Iss} (hx:okN x) (hy:okN y):smN x y=true↔kyN x=kyN y:=by rw[Zcn hx hy,smN,W0b]
def Ze7 {l:Jr} {x:Iss}:∀ {p:Nat},p<=l.length->x∈kN l p->∃ j,∃ h:j<l.length,j<p/\x=l[j]
 |0,_,h=>by cases h
 | p + 1,hp,h=>by
   have hlt:p<l.length:=(by omega);rw[kN]at h
   split at h
   . obtain ⟨j,h1,h2,h3⟩:=Ze7 (by omega) h;exact ⟨j,h1,by omega,h3⟩
   . rcases W0h.1 h with h|h
     . obtain ⟨j,h1,h2,h3⟩:=Ze7 (by omega) h;exact ⟨j,h1,by omega,h3⟩
     . rw[W0B]at h;exact ⟨p,hlt,by omega,by rw[h,ZcL hlt]⟩
def Ze8 {l:Jr} (hs:SrtN l) (hv:∀ x∈l,okN x):∀ {p:Nat},p<=l.length->SrtK (kN l p)
 |0,_=>List.Pairwise.nil
 | p + 1,hp=>by
   have hlt:p<l.length:=(by omega);have ih:=Ze8 hs hv (p:=p) (by omega);rw[kN]
   split
   . exact ih
   . rename_i hn;rw[ZcL hlt]at hn ⊢;refine W1Y.2 ⟨ih,List.pairwise_singleton _ _,λx hx y hy=>?_⟩;rw[W0B]at hy;subst hy;obtain ⟨j,hj,hjp,rfl⟩:=Ze7 (by omega) hx;obtain ⟨q,rfl⟩ : ∃ q,p=q+1:=⟨p-1,by omega⟩;have hq:q<l.length:=(by omega);rw[Nat.add_sub_cancel,ZcL hq]at hn;have hpw:=W0Y.1 hs;have h1:=hpw q (q+1) hq hlt (by omega);have hne:kyN l[q+1]≠kyN l[q]:=λe=>hn ⟨by omega,(Ze6 (hv _ (W0e hlt)) (hv _ (W0e hq))).2 e⟩
     rcases W0q j q with h2|h2
     . have:=hpw j q hj hq h2;omega
     . obtain rfl:j=q:=(by omega);omega
def Ze9 {l:Jr} (hi:InjN l) (hv:∀ x∈l,okN x):∀ {p:Nat},p<=l.length->∀ j (h:j<l.length),j<p->l[j]∈kN l p
 |0,_,_,_,h=>absurd h (Nat.not_lt_zero _)
 | p + 1,hp,j,hj,hjp=>by
   have hlt:p<l.length:=(by omega);have ih:=λj h1 h2=>Ze9 hi hv (p:=p) (by omega) j h1 h2
   rw[kN]
   split
   . rename_i hn;rcases W0q j p with h1|h1
     . exact ih j hj h1
     . obtain rfl:j=p:=(by omega);have hq:j-1<l.length:=(by omega);rw[ZcL hlt,ZcL hq]at hn;have:=hi _ (W0e hlt) _ (W0e hq) ((Ze6 (hv _ (W0e hlt)) (hv _ (W0e hq))).1 hn.2);rw[this];exact ih _ hq (by have:=hn.1;omega)
   . rw[ZcL hlt];rcases W0q j p with h1|h1
     . exact W0h.2 (.inl (ih j hj h1))
     . obtain rfl:j=p:=(by omega);exact W0h.2 (.inr (List.mem_singleton_self _))
def Zea {a b:Jr} (hv:∀ x∈a++b,okN x):SrtK (mgL a b):=Ze8 (Zcp _) (λx hx=>hv x (Zct.1 hx)) (W0f _)
def Zeb {a b:Jr} (hv:∀ x∈a++b,okN x) (hi:InjN (a++b)) {x:Iss}:x∈mgL a b↔x∈a∨x∈b:=by
 rw[<- W0h];refine ⟨Zd2,λh=>?_⟩;obtain ⟨j,hj,rfl⟩:=W0k (Zct.2 h);exact Ze9 (hi.perm (Zco _).symm) (λx hx=>hv x (Zct.1 hx)) (W0f _) j hj hj
def ok2 {a b:Jr} (ha:Z9o a=true) (hb:Z9o b=true):∀ x∈a++b,okN x:=λx hx=>(W0h.1 hx).elim (ZcY ha x) (ZcY hb x)
section
open Qq Go.Proofs.Tryd
def Zec:RCode :=
 S [r 0 [b 1 0,w 2 (.alloc [O,O])],r 1 [f 3 0 1,l 4 3,f 5 1 1,l 6 5,w 7 (.build [O,O] [(0,1,.t 4),(1,1,.t 6)]),s 2 2 7],.ret]
def Zed:List RRes:=[.c 2 true 2]
def Zee:PCt prog 45 f45 Zec Zed:=pcT func45 rfl
end
attribute [local simp] Z9N
def Zef (x:Iss):PC prog G 45 [.agg (isa x)] (.agg [.int .i64 x.d,.int .i64 x.l]):=by
 (refine Zee rfl λR hG hrd=>Qga ?_;subst hG)
 simp -implicitDefEqProofs[Zec,Zed,isa]
def Zeg (hG:GC G) (a b:Jr) (ha:Wf a) (hb:Wf b):PC prog G 8 [rega a,rega b] (.tup [.vsl ((clE a b).map ita),.int .i64 (bothE a b)]):=by
 obtain ⟨bk,hcl⟩:=ZcW hG a b ha hb;rw[rega,rega]at hcl
 (refine Z69 rfl λR hG hrd=>Qga ?_;subst hG)
 simp -implicitDefEqProofs[Z67,Z68,rega];refine Qco (hcl) ?_;simp -implicitDefEqProofs
def rcS (a b:Jr) (i:Nat):St:=if clN a b i=[] then ⟨[(6,.int .i64 i),(5,.nils),(2,.ptr 2 0),(3,.ptr 3 0)],[(2,.box [.vsl (a.map isa)]),(3,.box [.vsl (b.map isa)])]⟩
 else ⟨[(6,.int .i64 i),(5,.osl 50 (clN a b i).length),(2,.ptr 2 0),(3,.ptr 3 0)],[(2,.box [.vsl (a.map isa)]),(3,.box [.vsl (b.map isa)]),(50,.row 2 ((clN a b i).map ita))]⟩
def Zeh {a b:Jr} {i:Nat} (z:clN a b i=[]):rcS a b i=⟨[(6,.int .i64 i),(5,.nils),(2,.ptr 2 0),(3,.ptr 3 0)],[(2,.box [.vsl (a.map isa)]),(3,.box [.vsl (b.map isa)])]⟩:=if_pos z
def Zei {a b:Jr} {i:Nat} (z:clN a b i≠[]):rcS a b i=⟨[(6,.int .i64 i),(5,.osl 50 (clN a b i).length),(2,.ptr 2 0),(3,.ptr 3 0)],[(2,.box [.vsl (a.map isa)]),(3,.box [.vsl (b.map isa)]),(50,.row 2 ((clN a b i).map ita))]⟩:=if_neg z
def Zej (a b:Jr) (ha:Wf a) (hb:Wf b):PC prog G 34 [rega a,rega b] (.int .i64 (bothE a b)):=by
 (refine Z5q rfl λR hG hrd=>Qga ?_;subst hG)
 have ca:=Z9Q (G:=R.G) a ha;have cb:=Z9Q (G:=R.G) b hb;rw[<- ZbJ]at ca cb;rw[rega]at ca cb;by_cases k:openV a=0
 . simp -implicitDefEqProofs[Z5o,Z5p,rega];refine Qco (ca) ?_;simp -implicitDefEqProofs[k];refine Qco (cb) ?_;simp -implicitDefEqProofs[bothE,k]
 . simp -implicitDefEqProofs[Z5o,Z5p,rega];refine Qco (ca) ?_;simp -implicitDefEqProofs[bothE,k]
def Zek (a b:Jr) (ha:SmlR a) (hb:SmlR b):PC prog G 35 [rega a,rega b] (.vsl ((clN a b a.length).map ita)):=by
 refine PC.nzR (v:=Yg ((clN a b a.length).map ita)) ?_ (by simp[ZbR])
 (refine Z5t rfl λR hG hrd=>Qga ?_;subst hG)
 have hs:=ha.1;unfold Sml at hs;simp -implicitDefEqProofs[Z5r,Z5s,rega];refine Z91 (rcS a b) (λ_=>True) a.length ?_ trivial ?_ ?_
 . have e0:clN a b 0=[]:=rfl;simp only[rcS,e0,if_true]
   (first|exact Wka|exact Wkb)
 . intro i hi _;refine Qga ?_;have w1:i64.wrap ((i:Int)+1)=((i+1:Nat):Int):=Yf;have hx:=ha.2 a[i] (W0e hi);have hs:=ZcU (b:=b) hi;have bl:=ZcV a b i;have bb:((clN a b i).length+1)*16<=70368744177664:=(by omega);have ex:isa a[i]=[.int .i64 a[i].d,.int .i64 a[i].l,.int .u8 a[i].k,.vsl (a[i].its.map ita),.vsl (a[i].dms.map dma)]:=rfl;have cf:=Z9k (G:=R.G) b a[i].d a[i].l hb.1;rw[rega]at cf;by_cases z:clN a b i=[]
   case' pos=>have hst:=Zeh z
   case' neg=>have hst:=Zei z
   all_goals
    rw[hst]
    cases q:findN a[i].d a[i].l b with
    | none =>
      have qb:clB b a[i]=false:=(by simp[clB,q]);rw[if_neg (by simp[qb])]at hs;simp -implicitDefEqProofs[hi,ex];refine ⟨rfl,?_⟩;refine Qco (cf) ?_;simp -implicitDefEqProofs[q,fndA,noIs];refine ⟨rfl,?_⟩;simp -implicitDefEqProofs[w1]
      first|rw[Zeh (hs.trans z)]|rw[Zei (by rw[hs];exact z),hs]
      ((try simp only[ita]);refine Ym.sub (by simp[lk,Ya,AV.keys,ita]) ?_;simp only[ita,Wkl,ZbP,and_true];(try simp[lk,Yc,Ya,AV.keys,ita]))
    | some y =>
      have ey:isa y=[.int .i64 y.d,.int .i64 y.l,.int .u8 y.k,.vsl (y.its.map ita),.vsl (y.dms.map dma)]:=rfl;have qb:clB b a[i] = !decide (a[i]=y):=(by simp[clB,q]);rw[qb]at hs;have cs:=Z9c (G:=R.G) a[i] y hx.1 hx.2;rw[ex,ey]at cs
      cases q2:decide (a[i]=y)
      . simp only[q2,W1z,if_true]at hs;simp -implicitDefEqProofs[hi,ex];refine ⟨rfl,?_⟩;refine Qco (cf) ?_;simp -implicitDefEqProofs[q,fndA,ey,hi,ex];refine Qco (cs) ?_;simp -implicitDefEqProofs[q2];refine ⟨rfl,?_⟩;simp -implicitDefEqProofs[q2,w1,bb,z];rw[Zei (by rw[hs];simp),hs]
        (try rw[z])
        ((try simp only[ita]);refine Ym.sub (by simp[lk,Ya,AV.keys,ita]) ?_;simp only[ita,Wkl,ZbP,and_true];(try simp[lk,Yc,Ya,AV.keys,ita]))
      . replace hs:clN a b (i+1)=clN a b i:=by rw[hs];simp[q2]
        simp -implicitDefEqProofs[hi,ex];refine ⟨rfl,?_⟩;refine Qco (cf) ?_;simp -implicitDefEqProofs[q,fndA,ey,hi,ex];refine Qco (cs) ?_;simp -implicitDefEqProofs[q2];refine ⟨rfl,?_⟩;simp -implicitDefEqProofs[q2,w1]
        first|rw[Zeh (hs.trans z)]|rw[Zei (by rw[hs];exact z),hs]
        ((try simp only[ita]);refine Ym.sub (by simp[lk,Ya,AV.keys,ita]) ?_;simp only[ita,Wkl,ZbP,and_true];(try simp[lk,Yc,Ya,AV.keys,ita]))
 . intro _;refine Qga ?_;by_cases z:clN a b a.length=[]
   . rw[Zeh z];simp -implicitDefEqProofs;refine Qgr ?_;simp -implicitDefEqProofs[Yg,z]
   . have pu:((clN a b a.length).map ita).all (λr=>r.all AV.pure)=true:=(by simp[ita,AV.pure]);rw[Zei z];simp -implicitDefEqProofs;refine Qgr ?_;simp -implicitDefEqProofs[Yg,z,pu]
def Zel (a b:Jr) (ha:Wf a) (hb:Wf b):PC prog G 9 [rega a,rega b] (.tup [.vsl ((clE a b).map ita),.int .i64 (bothE a b)]):=by
 by_cases k:bothE a b=0
 . have ev:clE a b=clN a b a.length:=(by simp[clE,k]);rw[ev]
   (refine Z5w rfl λR hG hrd=>Qga ?_;subst hG)
   have c1:=Zej (G:=R.G) a b ha hb;have c2:=Zek (G:=R.G) a b ha.1 hb.1;rw[rega,rega]at c1 c2;simp -implicitDefEqProofs[Z5u,Z5v,rega];refine Qco (c1) ?_;simp -implicitDefEqProofs[k];refine Qco (c2) ?_;simp -implicitDefEqProofs
 . refine PC.nzR (v:=.tup [.nils,.int .i64 (bothE a b)]) ?_ (by simp[nz,clE,k])
   (refine Z5w rfl λR hG hrd=>Qga ?_;subst hG)
   have c1:=Zej (G:=R.G) a b ha hb;rw[rega,rega]at c1;simp -implicitDefEqProofs[Z5u,Z5v,rega];refine Qco (c1) ?_;simp -implicitDefEqProofs[k]
def Zem (d l e m:Int):PC prog G 46 [.agg [.int .i64 d,.int .i64 l],.agg [.int .i64 e,.int .i64 m]] (.bool (decide (d<e)||(decide (d=e)&&decide (l<m)))):=by
 (refine Z5z rfl λR hG hrd=>Qga ?_;subst hG)
 by_cases h1:d<e
 . simp -implicitDefEqProofs[Z5x,Z5y,h1]
 . by_cases h2:d=e
   . simp -implicitDefEqProofs[Z5x,Z5y,h1,h2]
   . simp -implicitDefEqProofs[Z5x,Z5y,h1,h2]
def lsN (y x:Iss):Bool:=decide (y.d<x.d)||(decide (y.d=x.d)&&decide (y.l<x.l))
def posN:List Iss->Iss->Nat
 |[],_=>0
 |y::l,x=>if lsN y x=true then posN l x+1 else 0
def insR:List Iss->Iss->List Iss
 |[],x=>[x]
 |y::l,x=>if lsN y x=true then y::insR l x else x::y::l
def mrN (a b:Jr):Nat->List Iss
 |0=>a
 |i+1=>if (findN (at' b i).d (at' b i).l a).isSome=true then mrN a b i else insR (mrN a b i) (at' b i)
def Zen:∀ (l:Jr) (x:Iss),posN l x<=l.length
 |[],_=>W0f _
 | y::l,x=>by
   have:=Zen l x;rw[posN];split <;> simp <;> omega
def Zeo:∀ (l:Jr) (x:Iss) (k:Nat) (h:k<l.length),k<posN l x->lsN l[k] x=true
 |[],_,_,h,_=>by simp at h
 | y :: l,x,k,h,hk=>by
   rw[posN]at hk
   split at hk
   . rename_i e
     cases k with
     |zero=>exact e
     |succ k=>exact Zeo l x k (by simpa using h) (by omega)
   . omega
def Zep:∀ (l:Jr) (x:Iss) (h:posN l x<l.length),lsN l[posN l x] x=false
 |[],_,h=>by simp at h
 | y :: l,x,h=>by
   by_cases e:lsN y x=true
   . have hp:posN (y::l) x=posN l x+1:=(by rw[posN,if_pos e]);have h2:posN l x<l.length:=(by rw[hp]at h;simpa using h);have:=Zep l x h2;simp only[hp,List.getElem_cons_succ];exact this
   . have hp:posN (y::l) x=0:=(by rw[posN,if_neg e]);simp only[hp,List.getElem_cons_zero];simpa using e
def Zeq:∀ (l:Jr) (x:Iss),insR l x=l.take (posN l x)++x::l.drop (posN l x)
 |[],_=>rfl
 | y::l,x=>by
   rw[insR,posN]
   split
   . rw[Zeq l x];rfl
   . rfl
def Zer {l:Jr} {x y:Iss}:y∈insR l x↔y=x∨y∈l:=by
 rw[Zeq];simp only[W0h,W0g]
 constructor
 . rintro (h|h|h)
   . exact .inr (W1p h)
   . exact .inl h
   . exact .inr (W1L h)
 . rintro (h|h)
   . exact .inr (.inl h)
   . rw[<- W11 (posN l x) l]at h;rcases W0h.1 h with h|h
     . exact .inl h
     . exact .inr (.inr h)
def Zes (l:Jr) (x:Iss):(insR l x).length=l.length+1:=by
 have:=Zen l x;rw[Zeq];simp;omega
def Zet {y x:Iss} (hy:okN y) (hx:okN x):lsN y x=true↔kyN y<kyN x:=by
 obtain ⟨x1,x2,x3,x4⟩:=hx;obtain ⟨y1,y2,y3,y4⟩:=hy;simp only[lsN,W0T,W01,W0b,kyN];omega
def Zeu:∀ {l:Jr} {x:Iss},SrtK l->(∀ y∈l,okN y)->okN x->(∀ y∈l,kyN y≠kyN x)->SrtK (insR l x)
 |[],x,_,_,_,_=>List.pairwise_singleton _ _
 | y :: l,x,hs,ho,hx,hn=>by
   obtain ⟨h1,h2⟩:=W1j.1 hs;have hy:=ho y (W0H ..);rw[insR]
   split
   . rename_i e;have e:=(Zet hy hx).1 e;refine W1j.2 ⟨λz hz=>?_,Zeu h2 (λz hz=>ho z (W0z _ hz)) hx λz hz=>hn z (W0z _ hz)⟩;rcases Zer.1 hz with rfl|hz
     . exact e
     . exact h1 z hz
   . rename_i e;have e2:¬kyN y<kyN x:=λh=>e ((Zet hy hx).2 h)
     have e3:=hn y (W0H ..);have e4:kyN x<kyN y:=(by omega);refine W1j.2 ⟨λz hz=>?_,hs⟩;rcases W0g.1 hz with rfl|hz
     . exact e4
     . exact Int.lt_trans e4 (h1 z hz)
def Zev (a b:Jr):∀ i,(mrN a b i).length<=a.length+i
 |0=>W0f _
 | i+1=>by
   have:=Zev a b i;rw[mrN];split
   . omega
   . rw[Zes];omega
def Zew {a:Jr} {d l:Int} (h:∃ y∈a,y.d=d/\y.l=l):(findN d l a).isSome=true:=by
 induction a with
 |nil=>obtain ⟨y,hy,-⟩:=h;cases hy
 | cons z a ih =>
   rw[findN]
   split
   . rfl
   . rename_i e;refine ih ?_;obtain ⟨y,hy,h1⟩:=h;rcases W0g.1 hy with rfl|hy
     . exact absurd h1 e
     . exact ⟨y,hy,h1⟩
def Zex {a b:Jr} (ha:Z9o a=true) (hb:Z9o b=true) (hi:InjN (a++b)):∀ i,i<=b.length->SrtK (mrN a b i)/\∀ x,x∈mrN a b i↔x∈a∨x∈b.take i
 |0,_=>⟨Ze5 ha,λx=>by simp[mrN]⟩
 | i + 1,h=>by
   obtain ⟨h1,h2⟩:=Zex ha hb hi i (by omega);have hib:i<b.length:=(by omega);have ok:=ok2 ha hb;have tk:b.take (i+1)=b.take i++[b[i]]:=W08 hib;have hm:b[i]∈b:=W0e hib;rw[mrN,at_eq hib,tk]
   split
   . rename_i e;refine ⟨h1,λx=>?_⟩;rw[h2 x];simp only[W0h,W0B]
     constructor
     . rintro (h|h)
       . exact .inl h
       . exact .inr (.inl h)
     . rintro (h|h|rfl)
       . exact .inl h
       . exact .inr h
       . obtain ⟨y,hy⟩:=W0t.1 e;obtain ⟨q1,q2,q3⟩:=Z9O hy;have:y=b[i]:=hi y (List.mem_append_left _ q1) _ (List.mem_append_right _ hm) (by unfold kyN;rw[q2,q3]);exact .inl (this ▸ q1)
   . rename_i e;have oki:∀ y∈mrN a b i,okN y:=λy hy=>ok y (W0h.2 (((h2 y).1 hy).imp id W1p))
     refine ⟨Zeu h1 oki (ok _ (List.mem_append_right _ hm)) λy hy hk=>?_,λx=>?_⟩
     . rcases (h2 y).1 hy with hy2|hy2
       . obtain ⟨k1,k2⟩:=(Zcn (oki y hy) (ok _ (List.mem_append_right _ hm))).1 hk;exact e (Zew ⟨y,hy2,k1,k2⟩)
       . obtain ⟨j,hj,rfl⟩:=W0k hy2;rw[W1O]at hk;have hji:j<i:=(by simp at hj;omega);have:=W0Y.1 (Ze5 hb) j i (by omega) hib hji;omega
     . rw[Zer,h2 x];simp only[W0h,W0B]
       constructor
       . rintro (h|h|h)
         . exact .inr (.inr h)
         . exact .inl h
         . exact .inr (.inl h)
       . rintro (h|h|h)
         . exact .inr (.inl h)
         . exact .inr (.inr h)
         . exact .inl h
def Zey {a b:Jr} (ha:Z9o a=true) (hb:Z9o b=true) (hi:InjN (a++b)):mrN a b b.length=mgL a b:=by
 obtain ⟨h1,h2⟩:=Zex ha hb hi b.length (W0f _);refine Ze4 h1 (Zea (ok2 ha hb)) λx=>?_
 rw[h2 x,Zeb (ok2 ha hb) hi,W0v]
def twOK:Nat->Bool:=λk=>decide (k<1000) && !decide (k=21)
def rmS (a b:Jr) (i:Nat):St:=⟨[(8,.int .i64 i),(7,.ptr 7 0),(2,.ptr 2 0),(3,.ptr 3 0),(4,.ptr 4 0)],
 [(2,.box [.vsl (a.map isa)]),(3,.box [.vsl (b.map isa)]),(4,.box [.nils]),(7,.box [.osl 921 (mrN a b i).length]),(921,.row 5 ((mrN a b i).map isa))]⟩
def rmP (a b Q:Jr) (x:Iss) (i k:Nat):St:=⟨[(12,.int .i64 k),(9,.ptr 9 0),(8,.int .i64 i),(7,.ptr 7 0),(2,.ptr 2 0),(3,.ptr 3 0),(4,.ptr 4 0)],
 [(2,.box [.vsl (a.map isa)]),(3,.box [.vsl (b.map isa)]),(4,.box [.nils]),(7,.box [.osl 921 Q.length]),(9,.box (isa x)),(921,.row 5 (Q.map isa))]⟩
def Zez {α:Type} (U B D:List α) (X:α) (p:Nat) (h:U.length=p):(U++X::B).take (p+1)++D=U++X::D:=by
 rw[show U++X::B=(U++[X])++B by simp,List.take_left' (by simp[h])];simp
def ZeA (r:Jr) (h0:r≠[]) (h:SmlR r):PB prog G 7 [] [rega r] (.agg [.osl 21 r.length]) [(21,.row 5 (r.map isa))]:=by
 refine Z5j twOK (by intro k hk;simp[twOK]at hk;omega) Tryd.func7 rfl (by kernel_rfl) (rc:=Z8Q) (by kernel_rfl) (rs:=Z8R) (by kernel_rfl) (W0C rfl) λR _ hG' hrd=>Qga ?_
 subst hG';have hs:=h.1;unfold Sml at hs;simp -implicitDefEqProofs[Z8Q,Z8R,rega];refine Z91 (twS r) (λ_=>True) r.length (by simp only[twS];(first|exact Wka|exact Wkb)) trivial ?_ ?_
 . intro i hi _;refine Qga ?_;have hx:=h.2 r[i] (W0e hi);have tk:=ZbL hi;have ln:=ZbK (Nat.le_of_lt hi)
   cases i with
   | zero =>
     have w1:i64.wrap 1=1:=rfl;simp -implicitDefEqProofs[twS,hi,isa];refine Qco (Z9i r[0] hx.1 hx.2) ?_;simp -implicitDefEqProofs[w1,isa];refine ⟨rfl,?_⟩;have tk0:twR r 1=[[.int .i64 r[0].d,.int .i64 r[0].l,.int .u8 r[0].k,.vsl (r[0].its.map ita),.vsl (r[0].dms.map dma)]]:=(by rw[tk];simp[twR]);simp only[twS];exact Ym.sub (by simp[lk,Ya,AV.keys]) (by simp[lk,Yc,Ya,AV.keys,tk0])
   | succ i =>
     have w1:i64.wrap ((i:Int)+1+1)=(i:Int)+1+1:=Yf;have k1:(i:Int)+1<r.length:=(by omega);have k2:((i:Int)+1).toNat=i+1:=(by omega);have k3:(0:Int)<=(i:Int)+1:=(by omega);have b2:(i+1+1)*72<=70368744177664:=(by omega);simp -implicitDefEqProofs[twS,hi,k1,k2,k3,isa];refine Qco (Z9i r[i+1] hx.1 hx.2) ?_;simp -implicitDefEqProofs[w1,ln,b2,isa];refine ⟨rfl,?_⟩;simp only[twS];refine Ym.sub (by simp[lk,Ya,AV.keys]) ?_;simp only[W0g,W0Q,or_false,W1H,forall_eq,ZbM,and_true];simp[lk,Yc,Ya,AV.keys,tk]
 . intro _;refine Qga ?_
   obtain ⟨n,hn⟩ : ∃ n,r.length=n+1:=⟨r.length-1,by
    have:r.length≠0:=(by simpa using h0);omega⟩
   have e1:twR r (n+1)=r.map isa:=(by rw[<- hn,ZbN]);have k1:¬(n:Int)+1<n+1:=(by omega);have fz:=λok st=>ZcC ok st r
   rw[hn];simp -implicitDefEqProofs[twS,hn,k1,e1];refine Qgr ?_;simp -implicitDefEqProofs;simp -implicitDefEqProofs[FinO,Yi,twOK,frzA,frz,AV.keys,fz]
def ZeB (a b:Jr) (ha:Wf a) (hb:Wf b):PC prog G 11 [rega a,rega b] (.tup [rega (mgE a b).1,.int .i64 (mgE a b).2]):=by
 have c1:=Zej (G:=G) a b ha hb;have c2:=Zek (G:=G) a b ha.1 hb.1;rw[rega,rega]at c1 c2;by_cases k0:bothE a b=0
 case neg =>
  refine PC.nzR (v:=.tup [.agg [.nils],.int .i64 (bothE a b)]) ?_ (by simp[nz,mgE,k0,rega])
  (refine Z5C rfl λR hG hrd=>Qga ?_;subst hG)
  simp -implicitDefEqProofs[Z5A,Z5B,rega];refine Qco (c1) ?_;simp -implicitDefEqProofs[k0]
 by_cases k1:clN a b a.length=[]
 case neg =>
  refine PC.nzR (v:=.tup [.agg [.nils],.int .i64 23]) ?_ (by simp[nz,mgE,k0,k1,rega]);have hl:0<(clN a b a.length).length:=List.length_pos_iff.2 k1
  (refine Z5C rfl λR hG hrd=>Qga ?_;subst hG)
  simp -implicitDefEqProofs[Z5A,Z5B,rega];refine Qco (c1) ?_;simp -implicitDefEqProofs[k0];refine Qco (c2) ?_;simp -implicitDefEqProofs[hl]
 have oa:openV a=0:=by
  unfold bothE at k0;split at k0
  . assumption
  . exact k0
 have ob:openV b=0:=(by simpa [bothE,oa] using k0);have la:=Zbh oa;have lb:=Zbh ob;have sa:=Zbi la;have sb:=Zbi lb;have na:a≠[]:=(by rintro rfl;simp at sa);have hin:=Zd0 la lb k1;have hend:=Zey la lb hin;have hwf:=Zd4 ha hb (by omega) (by omega);have hck:=Z9Q (G:=G) (mgL a b) hwf;rw[<- ZbJ]at hck;have hmv:mgE a b=if openV (mgL a b)=0 then (mgL a b,0) else ([],openV (mgL a b)):=by simp[mgE,k0,k1]
 have ctw:=ZeA (G:=G) a na ha.1;rw[hmv];rw[k1]at c2;refine PC.nzR (v:=.tup [.agg [if openV (mgL a b)=0 then .vsl ((mgL a b).map isa) else .nils],.int .i64 (openV (mgL a b))]) ?_ (by by_cases ko:openV (mgL a b)=0 <;> simp[nz,ko,rega])
 (refine Z5C rfl λR hG hrd=>Qga ?_;subst hG)
 rw[rega]at ctw;simp -implicitDefEqProofs[Z5A,Z5B,rega];refine Qco (c1) ?_;simp -implicitDefEqProofs[k0];refine Qco (c2) ?_;simp -implicitDefEqProofs;refine Yd.sem (Z1B.objs ctw (λk=>k+900) (by simp) (by simp[St.get,lk]) (by simp[AV.pure]) rfl rfl) ?_;simp -implicitDefEqProofs[Yl,ZcE,AV.ren];refine Z91 (rmS a b) (λ_=>True) b.length ?_ trivial ?_ ?_
 . simp only[rmS,mrN]
   (refine Wkc ?_;simp only[Zck,Wkl,and_true];(try simp[lk,Yc,Ya,AV.keys]))
 . intro i hi _;have hx2:=hb.1.2 b[i] (W0e hi);have hml:=Zev a b i;have hsc:mrN a b (i+1)=if (findN b[i].d b[i].l a).isSome=true then mrN a b i else insR (mrN a b i) b[i]:=by rw[mrN,at_eq hi]
   have wi:i64.wrap ((i:Int)+1)=(i:Int)+1:=Yf;have cr:=Zef (G:=R.G) b[i];have ct:=Z9i (G:=R.G) b[i] hx2.1 hx2.2;have cf:=Z9k (G:=R.G) a b[i].d b[i].l ha.1.1;obtain ⟨Q,hQ⟩:=Qex (mrN a b i);obtain ⟨x,hx⟩:=Qex (b[i]);have hax:isa b[i]=[.int .i64 x.d,.int .i64 x.l,.int .u8 x.k,.vsl (x.its.map ita),.vsl (x.dms.map dma)]:=(by rw[<- hx];rfl);have eX:isa x=[.int .i64 x.d,.int .i64 x.l,.int .u8 x.k,.vsl (x.its.map ita),.vsl (x.dms.map dma)]:=rfl;rw[hax,<- hx]at cr;rw[hax]at ct;rw[<- hx]at cf hsc;rw[rega]at cf;rw[<- hQ]at hml hsc;have hst:rmS a b i=⟨[(8,.int .i64 i),(7,.ptr 7 0),(2,.ptr 2 0),(3,.ptr 3 0),(4,.ptr 4 0)],[(2,.box [.vsl (a.map isa)]),(3,.box [.vsl (b.map isa)]),(4,.box [.nils]),(7,.box [.osl 921 Q.length]),(921,.row 5 (Q.map isa))]⟩:=(by rw[rmS,<- hQ]);refine Qga ?_;rw[hst];simp -implicitDefEqProofs[hi,hax];refine Qco (cr) ?_;simp -implicitDefEqProofs;refine Qco (cf) ?_
   cases q:findN x.d x.l a with
   | some y =>
     have ey:isa y=[.int .i64 y.d,.int .i64 y.l,.int .u8 y.k,.vsl (y.its.map ita),.vsl (y.dms.map dma)]:=rfl;rw[q]at hsc;replace hsc:mrN a b (i+1)=Q:=by rw[hsc];rfl
     simp -implicitDefEqProofs[q,fndA,ey];refine ⟨rfl,?_⟩;simp -implicitDefEqProofs[wi];simp only[rmS,hsc]
     (refine Wkc ?_;simp only[Zck,Wkl,and_true];(try simp[lk,Yc,Ya,AV.keys]))
   | none =>
     rw[q]at hsc;replace hsc:mrN a b (i+1)=insR Q x:=by rw[hsc];rfl
     simp -implicitDefEqProofs[q,fndA,noIs];refine ⟨rfl,?_⟩;refine Z91 (rmP a b Q x i) (λ_=>True) (posN Q x) ?_ trivial ?_ ?_
     . simp only[rmP,eX]
       (refine Wkc ?_;simp only[Zck,Wkl,and_true];(try simp[lk,Yc,Ya,AV.keys]))
     . intro k hk _;have hpl:=Zen Q x;have hkQ:k<Q.length:=(by omega);have hls:=Zeo Q x k hkQ hk;obtain ⟨y,hy⟩:=Qex (Q[k]);have hay:isa Q[k]=[.int .i64 y.d,.int .i64 y.l,.int .u8 y.k,.vsl (y.its.map ita),.vsl (y.dms.map dma)]:=(by rw[<- hy];rfl);have cy:=Zef (G:=R.G) Q[k];rw[hay,<- hy]at cy;rw[<- hy,lsN]at hls;have cl:=Zem (G:=R.G) y.d y.l x.d x.l;rw[hls]at cl;have wk':i64.wrap ((k:Int)+1)=(k:Int)+1:=Yf;refine Qga ?_;simp -implicitDefEqProofs[rmP,eX,hkQ,hay];refine Qco (cy) ?_;simp -implicitDefEqProofs;refine Qco (cr) ?_;simp -implicitDefEqProofs;refine Qco (cl) ?_;simp -implicitDefEqProofs;refine ⟨rfl,?_⟩;simp -implicitDefEqProofs[wk'];simp only[rmP,eX]
       (refine Wkc ?_;simp only[Zck,Wkl,and_true];(try simp[lk,Yc,Ya,AV.keys]))
     . intro _;have hpl:=Zen Q x;have hend':=Zep Q x;have hins:=Zeq Q x;generalize hp:posN Q x=p at *;have b0:(Q.length-p)*72<=70368744177664:=(by omega);have b1:(p+1)*72<=70368744177664:=(by omega);have b2:(p+1+(Q.length-p))*72<=70368744177664:=(by omega);by_cases hpe:p=Q.length
       . subst hpe;refine Qga ?_;simp -implicitDefEqProofs[rmP,eX];refine ⟨rfl,?_⟩;refine Qgr ?_;simp -implicitDefEqProofs[b0,b1,b2];refine Qco (ct) ?_;have nq:¬Q.length+1<=Q.length:=Nat.not_succ_le_self _;simp -implicitDefEqProofs[b1,wi,nq];refine ⟨rfl,?_⟩;have hfin:(insR Q x).map isa=Q.map isa++[isa x]:=(by rw[hins,W0v,List.drop_length];simp);have kp:=λo=>Zck (insR Q x) o
         rw[hfin,eX]at kp;rw[rmS,hsc,Zes,hfin,eX]
         (refine Wkc ?_;simp only[kp,Wkl,and_true];(try simp[lk,Yc,Ya,AV.keys]))
         exact W0J (by simp)
       . have hkQ:p<Q.length:=(by omega);have hls:=hend' hkQ;obtain ⟨y,hy⟩:=Qex (Q[p]);have hay:isa Q[p]=[.int .i64 y.d,.int .i64 y.l,.int .u8 y.k,.vsl (y.its.map ita),.vsl (y.dms.map dma)]:=(by rw[<- hy];rfl);have cy:=Zef (G:=R.G) Q[p];rw[hay,<- hy]at cy;rw[<- hy,lsN]at hls;have cl:=Zem (G:=R.G) y.d y.l x.d x.l;rw[hls]at cl;refine Qga ?_;simp -implicitDefEqProofs[rmP,eX,hkQ,hay];refine Qco (cy) ?_;simp -implicitDefEqProofs;refine Qco (cr) ?_;simp -implicitDefEqProofs;refine Qco (cl) ?_;simp -implicitDefEqProofs;refine ⟨rfl,?_⟩;refine Qgr ?_;have hne:¬Q.length<=p:=(by omega);have on:=Zci (Q.drop p);rw[List.map_drop]at on;have b0':(Q.length-p)*72<=70368744177664:=(by omega);have tkQ:(Q.map isa).take Q.length=Q.map isa:=W0J (by simp);simp -implicitDefEqProofs[b0,b1,b2,hpl,hne,on,tkQ,List.drop_eq_nil_iff,List.length_drop];refine Qco (ct) ?_;have f1:p+1<=Q.length:=hkQ;have f2:¬p+1+(Q.length-p)<=Q.length:=(by omega);have f3:min p Q.length=p:=(by omega);have f4:p+(Q.length-(p+1)+1)=Q.length:=(by omega);have f5:p+1+(Q.length-p)=Q.length+1:=(by omega);simp -implicitDefEqProofs[b0,b1,b2,hpl,hne,on,tkQ,List.drop_eq_nil_iff,List.length_drop,f1,f2,f3,f4,wi];refine ⟨rfl,?_⟩
         have hrow:List.take (p+1) (List.take p (Q.map isa)++[.int .i64 x.d,.int .i64 x.l,.int .u8 x.k,.vsl (x.its.map ita),.vsl (x.dms.map dma)]::List.drop (p+1) (Q.map isa))++List.drop p (Q.map isa)=(insR Q x).map isa:=by
          rw[hins,W0r,W0F,List.map_take,List.map_drop,eX];have hA:(Q.map isa).length=Q.length:=(by simp);exact Zez _ _ _ _ p (by rw[W15,hA];exact f3)
         rw[hrow,f5,rmS,hsc,Zes]
         (refine Wkc ?_;simp only[Zck,Wkl,and_true];(try simp[lk,Yc,Ya,AV.keys]))
 . intro _;refine Qga ?_;have pu:=Zcj (mgL a b);rw[rmS,hend];rw[rega]at hck;simp -implicitDefEqProofs;refine Qgr ?_;simp -implicitDefEqProofs;refine Yd.flat hck (by simp[AV.flat]) (by simp[pu]) ?_;by_cases ko:openV (mgL a b)=0
   . simp -implicitDefEqProofs[ko,pu]
   . simp -implicitDefEqProofs[ko]
def isT (S T:Iss->Value->Prop) (x:Iss):List AV:=[.int .i64 x.d,.int .i64 x.l,.int .u8 x.k,.tok (S x),.tok (T x)]
section
variable {G:Jg} {S T:Iss->Value->Prop}
def ZeC (x:Iss):PC prog G 43 [.agg (isT S T x)] (.agg [.int .i64 x.d,.int .i64 x.l]):=by
 (refine Z6Y rfl λR hG hrd=>Qga ?_;subst hG)
 simp -implicitDefEqProofs[Z6W,Z6X,isT]
def ZeD (x y:Iss) (hx:okN x) (hy:okN y):PC prog G 39 [.agg (isT S T x),.agg (isT S T y)] (.int .i64 (cmpN x y)):=by
 (refine Z5U rfl λR hG hrd=>Qga ?_;subst hG)
 obtain ⟨x1,x2,x3,x4⟩:=hx;obtain ⟨y1,y2,y3,y4⟩:=hy;have w1:i64.wrap (x.d-y.d)=x.d-y.d:=Yf;have w2:i64.wrap (x.l-y.l)=x.l-y.l:=Yf;simp -implicitDefEqProofs[Z5S,Z5T,isT,w1,w2];refine Qco (or_pc (x.d-y.d) (x.l-y.l)) ?_;simp -implicitDefEqProofs[cmpN]
def ZeE (x y:Iss):PC prog G 42 [.agg (isT S T x),.agg (isT S T y)] (.bool (decide (x.d=y.d/\x.l=y.l))):=by
 (refine Z5X rfl λR hG hrd=>Qga ?_;subst hG)
 have e1:isT S T x=[.int .i64 x.d,.int .i64 x.l,.int .u8 x.k,.tok (S x),.tok (T x)]:=rfl;have e2:isT S T y=[.int .i64 y.d,.int .i64 y.l,.int .u8 y.k,.tok (S y),.tok (T y)]:=rfl;simp -implicitDefEqProofs[Z5V,Z5W,e1,e2];refine Qco (ZeC x) ?_;simp -implicitDefEqProofs;refine Qco (ZeC y) ?_;simp -implicitDefEqProofs;rfl
def ZeF (l:Jr) (o:List (Nat×AObj)):Yc o (.row 5 (l.map (isT S T)))=true:=by
 simp only[Yc,W03,W0i];rintro x ⟨y,-,rfl⟩ v hv;simp only[isT,W0g,W0Q,or_false]at hv;rcases hv with rfl|rfl|rfl|rfl|rfl <;> simp[Ya,AV.keys]
def ZeG (ok:Nat->Bool) (st:St) (l:Jr):frzO ok st (.row 5 (l.map (isT S T))) = .row 5 (l.map (isT S T)):=by
 simp only[frzO,W10]
 congr 2
 funext p;simp[isT,frzA,frz,AV.keys]
def ZeH (l:Jr) (a b:Nat) (hv:∀ x∈l,okN x) (hin:InjN l) (h1:a<=b) (h2:b<=l.length) (h3:l.length<=1000) :
  PB prog G 83 [(1000,.row 5 (l.map (isT S T)))] [.osl 1000 l.length,.int .i64 a,.int .i64 b,fM1] (.tup []) [(1000,.row 5 ((srtS l a b).map (isT S T)))]:=by
 (refine Z5R (W0C rfl) λR hG hrd=>Qga ?_;subst hG)
 have w1:i64.wrap ((a:Int)+1)=a+1:=Yf;simp -implicitDefEqProofs[Z5P,Z5Q,fM1,w1];refine Z91 (λi=>⟨[(8,.int .i64 ((a:Int)+1+i)),(0,.osl 1000 l.length),(1,.int .i64 a),(2,.int .i64 b),(3,fM1)],[(1000,.row 5 ((srtS l a (a+1+i)).map (isT S T)))]⟩) (λi=>True) (b-(a+1)) ?_ trivial ?_ ?_
 . rw[Zcv (by omega) (by omega)];refine Ym.sub (by simp[lk,Ya,AV.keys,fM1]) ?_;simp only[W0g,W0Q,or_false,W1H,forall_eq,ZeF,and_true];simp[lk]
 . intro i hi _;refine Qga ?_;have k1:(a:Int)+1+i<b:=(by omega);simp -implicitDefEqProofs[fM1,k1];have hI:a+1+i<l.length:=(by omega);have z:=Zcx (l:=l) (a:=a) (i:=a+1+i) (by omega) hI;have z0:a+1+i-a=i+1:=(by omega);rw[z0]at z;rw[z];have hx:=hv _ (W0e hI);have ex:isT S T l[a+1+i]=[.int .i64 l[a+1+i].d,.int .i64 l[a+1+i].l,.int .u8 l[a+1+i].k,.tok (S l[a+1+i]),.tok (T l[a+1+i])]:=rfl;have hat:=λp (hp:p+1<=a+1+i-a)=>ZcA (l:=l) (a:=a) (i:=a+1+i) (p:=p) (by omega) hI hp
   have hend:=λp=>ZcB (l:=l) (a:=a) (i:=a+1+i) (p:=p) hin (by omega) hI
   have hln:=λp (hp:p<=a+1+i-a)=>Zcy (l:=l) (a:=a) (i:=a+1+i) (p:=p) (by omega) hI hp
   have hsl:=Zcw (l:=l) (a:=a) (i:=a+1+i) (by omega);generalize hsg:sortN ((l.take (a+1+i)).drop a)=s at *;generalize hxx:l[a+1+i]=x at *
   refine Z1Q (λp:Nat=>⟨[(9,.int .i64 ((a:Int)+p)),(8,.int .i64 ((a:Int)+1+i)),(0,.osl 1000 l.length),(1,.int .i64 a),(2,.int .i64 b),(3,.func (.func 39) [] [])],[(1000,.row 5 ((mvS l a (a+1+i) p).map (isT S T)))]⟩)
    (λp=>p<=i+1/\∀ y∈s.drop p,kyN x<kyN y) (λp=>p) (i+1) ?_ ⟨W0f _,λy hy=>by rw[W1h (by omega)]at hy;cases hy⟩ ?_
   . have e9:(a:Int)+1+i=(a:Int)+(i+1:Nat):=(by omega);rw[e9];refine Ym.sub (by simp[lk,Ya,AV.keys]) ?_;simp only[W0g,W0Q,or_false,W1H,forall_eq,ZeF,and_true];simp[lk]
   . rintro p ⟨hp,hd⟩;refine Qga ?_
     cases p with
     | zero =>
       have k2:¬(a:Int)<a:=(by omega);simp -implicitDefEqProofs;refine ⟨rfl,?_⟩;refine Qgr ?_;have w3:i64.wrap ((a:Int)+1+i+1)=(a:Int)+1+(i+1):=(by rw[Yf (by omega) (by omega)];omega);have he:=hend 0 (W1e _) hd (λq hq=>by omega);have he2:a+1+i+1=a+1+(i+1):=(by omega);rw[he2]at he;simp -implicitDefEqProofs[w3];refine Ym.sub (by simp[lk,Ya,AV.keys]) ?_;simp only[W0g,W0Q,or_false,W1H,forall_eq,ZeF,and_true];simp[lk,he]
     | succ p =>
       obtain ⟨y,hy0,hy1,hy2,hy3,hy4⟩:=hat p (by omega);have ey:isT S T y=[.int .i64 y.d,.int .i64 y.l,.int .u8 y.k,.tok (S y),.tok (T y)]:=rfl;have hl2:=hln (p+1) (by omega);have k2:(a:Int)<(a:Int)+(p+1):=(by omega);have k3:((a:Int)+(p+1)).toNat=a+p+1:=(by omega);have w2:i64.wrap ((a:Int)+(p+1)-1)=(a:Int)+p:=(by rw[Yf (by omega) (by omega)];omega);have k4:((a:Int)+p).toNat=a+p:=(by omega);have k5:a+p+1<l.length:=(by omega);have k6:a+p<l.length:=(by omega);have k7:(0:Int)<=(a:Int)+(p+1):=(by omega);have k8:(0:Int)<=(a:Int)+p:=(by omega);have he:=hend (p+1) (by omega) hd;generalize mvS l a (a+1+i) (p+1)=Q at *;obtain ⟨q1,g1⟩:=W02.1 hy1;obtain ⟨q2,g2⟩:=W02.1 hy2;have hcl:=Zcm hx (hv y hy4);simp -implicitDefEqProofs[k2,k3,w2,k4,k5,k6,k7,k8,g1,g2,hl2,ex,ey];refine Ye.of (ZeD x y hx (hv y hy4)) (by simp[AV.pure]) ?_;by_cases hlt:cmpN x y<0
       . simp -implicitDefEqProofs[hlt,k3,w2,k4,k5,k6,k7,k8,g1,g2,hl2,ex,ey];refine ⟨rfl,rfl,p,?_,⟨by omega,λu hu=>?_⟩,W2d _⟩
         . rw[<- ex,<- ey,<- W2a,<- W2a,hy3];refine Ym.sub (by simp[lk,Ya,AV.keys]) ?_;simp only[W0g,W0Q,or_false,W1H,forall_eq,ZeF,and_true];simp[lk]
         . obtain ⟨hps,gs⟩:=W02.1 hy0;rw[W0x hps,gs]at hu;rcases W0g.1 hu with rfl|hu
           . exact hcl.1 hlt
           . exact hd u hu
       . simp -implicitDefEqProofs[hlt];refine ⟨rfl,?_⟩;refine Qgr ?_;have w3:i64.wrap ((a:Int)+1+i+1)=(a:Int)+1+(i+1):=by rw[Yf (by omega) (by omega)];omega
         have he:=he (λq hq u hu hk=>by
          have:q=p:=(by omega);subst this;rw[hy0]at hu
          cases hu
          exact hlt (hcl.2 hk))
         have he2:a+1+i+1=a+1+(i+1):=(by omega);rw[he2]at he;simp -implicitDefEqProofs[w3];refine Ym.sub (by simp[lk,Ya,AV.keys]) ?_;simp only[W0g,W0Q,or_false,W1H,forall_eq,ZeF,and_true];simp[lk,he]
 . intro _;refine Qga ?_;have k1:¬(a:Int)+1+(b-(a+1):Nat)<b:=(by omega);simp -implicitDefEqProofs[fM1,k1];refine Qgr ?_
   have e:srtS l a (a+1+(b-(a+1)))=srtS l a b:=by
    rcases W0q a b with h|h
    . congr 1;omega
    . rw[Zcv (by omega) (by omega),Zcv (by omega) (by omega)]
   rw[e];refine ⟨[],rfl,rfl,?_⟩;simp[Yi,newK,ZeG]
def ZeI (ρ:Nat->Nat) (l:Jr):AObj.ren ρ (.row 5 (l.map (isT S T))) = .row 5 (l.map (isT S T)):=by
 simp only[AObj.ren,W10]
 congr 2
 funext p;simp[isT,AV.ren]
def cmpOT (S T:Iss->Value->Prop) (l:Jr):List (List AV):=(cmpct l).map (isT S T)++List.replicate (l.length-(cmpct l).length) zrI
def ZeJ (ok:Nat->Bool) (st:St) (l:Jr):frzO ok st (.row 5 (cmpOT S T l)) = .row 5 (cmpOT S T l):=by
 have h:=ZeG (S:=S) (T:=T) ok st (cmpct l);simp only[frzO,AObj.row.injEq,true_and]at h ⊢;rw[cmpOT,W0r,h];simp[zrI,frzA,frz,AV.keys]
def ZeK (l:Jr) (h3:l.length<=1000) :
  PB prog G 41 [(1000,.row 5 (l.map (isT S T)))] [.osl 1000 l.length,fM2] (cmpV 1000 l) [(1000,.row 5 (cmpOT S T l))]:=by
 (refine Z63 (W0C rfl) λR hG hrd=>Qga ?_;subst hG)
 simp -implicitDefEqProofs[Z61,Z62,fM2];by_cases hs:(l.length:Int)<2
 . have e:cmpct l=l:=ZcM λj h1 h2=>by omega
   simp -implicitDefEqProofs[hs];refine ⟨[.osl 1000 l.length],?_,?_,?_⟩
   . simp[Z29,evRes,Yi,newK,frzA,frz,AV.keys,lk,St.tmp,Z62]
   . simp[cmpV,e,tupV]
   . simp[Yi,newK,ZeG,cmpOT,e]
 simp -implicitDefEqProofs[hs];refine Z91 (λi=>⟨[(5,.int .i64 ((i:Int)+1)),(0,.osl 1000 l.length),(1,fM2)],[(1000,.row 5 (l.map (isT S T)))]⟩) (λi=>noD l (i+1)) (l.length-1) ?_ (λj h1 h2=>by omega) ?_ ?_
 . refine Ym.sub (by simp[lk,Ya,AV.keys,fM2]) ?_;simp only[W0g,W0Q,or_false,W1H,forall_eq,ZeF,and_true];simp[lk]
 . intro i hi hn;refine Qga ?_;have k1:(i:Int)+1<l.length:=(by omega);have k2:((i:Int)+1).toNat=i+1:=(by omega);have k3:(0:Int)<=(i:Int)+1:=(by omega);have k4:i+1<l.length:=(by omega);have k5:i<l.length:=(by omega);have w1:i64.wrap (i:Int)=i:=Yf;have w2:i64.wrap ((i:Int)+1+1)=(i:Int)+1+1:=Yf;have ex:∀ x,isT S T x=[.int .i64 x.d,.int .i64 x.l,.int .u8 x.k,.tok (S x),.tok (T x)]:=λx=>rfl
   simp -implicitDefEqProofs[fM2,k1,k2,k3,k4,k5,w1,ex];refine Ye.of (ZeE l[i+1] l[i]) (by simp[AV.pure,isT]) ?_;have hsm:smN (l.getD (i+1) default) (l.getD i default)=decide (l[i+1].d=l[i].d/\l[i+1].l=l[i].l):=(by rw[ZcL k4,ZcL k5];rfl);by_cases hd:l[i+1].d=l[i].d/\l[i+1].l=l[i].l
   . simp -implicitDefEqProofs [hd];refine ⟨rfl,?_⟩;rw[W0M hd]at hsm;have hs2:i+1≠0/\smN (l.getD (i+1) default) (l.getD (i+1-1) default)=true:=⟨by omega,hsm⟩;have hk:=ZcG hn (by omega);have hk1:(kN l (i+1)).length=i+1:=(by rw[hk];simp;omega);obtain ⟨c1,c2⟩:=ZcK hs2;have c3:cpS l (i+1)=l:=(by rw[cpS,hk1,hk,W11]);have hkl:=λp=>kN_lt (l:=l) (k:=i+1) (by omega) hsm p
     have k6:i+1<=l.length:=(by omega);simp -implicitDefEqProofs[k2,k3,k6];refine Z91 (λj=>⟨[(7,.int .i64 ((j:Int)+1)),(6,.oss 1000 l.length (i+1) l.length),(5,.int .i64 (kN l (i+1+1+j)).length),(0,.osl 1000 l.length),(1,.func (.func 42) [] [])],[(1000,.row 5 ((cpS l (i+1+1+j)).map (isT S T)))]⟩) (λ_=>True) (l.length-(i+1+1)) ?_ trivial ?_ ?_
     . have z1:cpS l (i+1+1+0)=l:=(by rw[W1Q,c1,c3]);have z2:(kN l (i+1+1+0)).length=i+1:=(by rw[W1Q,c2,hk1]);rw[z1,z2];refine Ym.sub (by simp[lk,Ya,AV.keys]) ?_;simp only[W0g,W0Q,or_false,W1H,forall_eq,ZeF,and_true];simp[lk]
     . intro j hj _;refine Qga ?_;have hq:i+1+1+j<l.length:=(by omega);have hq2:i+1+j<l.length:=(by omega);have hml:=hkl (i+1+1+j) (by omega);have hcl:=ZcH (l:=l) (p:=i+1+1+j) (by omega);have a1:=ZcI (j:=i+1+1+j) hq (by omega) (by omega);have a2:=ZcI (j:=i+1+j) hq (by omega) (by omega);rw[ZcL hq]at a1;rw[ZcL hq2]at a2;have hkeep:=ZcJ hq;have hskip:=ZcK (l:=l) (p:=i+1+1+j);have e3:i+1+1+j-1=i+1+j:=(by omega);have hkk:kN l (i+1+1+j+1)=kN l (i+1+1+j+1):=rfl
       conv at hkk=>rhs;rw[kN]
       have hsm2:smN (l.getD (i+1+1+j) default) (l.getD (i+1+j) default)=decide (l[i+1+1+j].d=l[i+1+j].d/\l[i+1+1+j].l=l[i+1+j].l):=(by rw[ZcL hq,ZcL hq2];rfl);rw[e3,hsm2,ZcL hq]at hkeep hkk;rw[e3,hsm2]at hskip;have e4:i+1+1+(j+1)=i+1+1+j+1:=(by omega);have m1:(j:Int)+1<((l.length-(i+1):Nat):Int):=(by omega);have m2:((j:Int)+1).toNat=j+1:=(by omega);have m3:(0:Int)<=(j:Int)+1:=(by omega);have m4:j+1<l.length-(i+1):=(by omega);have m5:j<l.length-(i+1):=(by omega);have m6:i+1+(j+1)=i+1+1+j:=(by omega);have u1:i64.wrap (j:Int)=j:=Yf;have u2:i64.wrap ((j:Int)+1+1)=(j:Int)+1+1:=Yf;have u3:i64.wrap (((kN l (i+1+1+j)).length:Int)+1)=(kN l (i+1+1+j)).length+1:=Yf;have m7:(kN l (i+1+1+j)).length<l.length:=(by omega);have hpl:=ZcF l (i+1+1+j);generalize cpS l (i+1+1+j)=Q at *;obtain ⟨q1,g1⟩:=W02.1 a1;obtain ⟨q2,g2⟩:=W02.1 a2;generalize l[i+1+1+j]=x at *;generalize l[i+1+j]=y at *;have ex1:=ex x;have ey1:=ex y;simp -implicitDefEqProofs[m1,m2,m3,m4,m5,m6,u1,u2,hq,hq2,g1,g2,hcl,ex1,ey1];refine Ye.of (ZeE x y) (by simp[AV.pure,isT]) ?_;by_cases hd2:x.d=y.d/\x.l=y.l
       . obtain ⟨f1,f2⟩:=hskip ⟨by omega,W0M hd2⟩;simp -implicitDefEqProofs[hd2,u2];refine ⟨rfl,?_⟩;rw[e4,f1,f2];refine Ym.sub (by simp[lk,Ya,AV.keys]) ?_;simp only[W0g,W0Q,or_false,W1H,forall_eq,ZeF,and_true];simp[lk]
       . have hn2:¬(i+1+1+j≠0/\decide (x.d=y.d/\x.l=y.l)=true):=by
          rintro ⟨-,h⟩;exact hd2 (W0X h)
         have f1:=hkeep hn2;rw[if_neg hn2]at hkk;have il:∀ z:Iss,(isT S T z).length=5:=λz=>rfl
         have id5:∀ z:Iss,(isT S T z).drop 5=[]:=λz=>rfl
         have m8:(((kN l (i+1+1+j)).length:Int)+1)=((kN l (i+1+1+j+1)).length:Nat):=(by rw[hkk];simp);simp -implicitDefEqProofs[hd2,m1,m2,m3,m4,m5,m6,u1,u2,u3,hq,hq2,g1,g2,hcl,ex1,ey1,m7,il,id5];refine ⟨rfl,?_⟩;rw[<- ex1,<- W2a,f1,m8,e4];refine Ym.sub (by simp[lk,Ya,AV.keys]) ?_;simp only[W0g,W0Q,or_false,W1H,forall_eq,ZeF,and_true];simp[lk]
     . intro _;refine Qga ?_;have n1:¬(((l.length-(i+1+1):Nat):Int)+1<((l.length-(i+1):Nat):Int)):=(by omega);have e5:i+1+1+(l.length-(i+1+1))=l.length:=(by omega);rw[e5];have hml:=hkl l.length (by omega);have hcl:=ZcH (l:=l) (p:=l.length) (W0f _);have n2:(kN l l.length).length<=l.length:=(by omega);simp -implicitDefEqProofs[n1,hcl];refine Qgr ?_;simp -implicitDefEqProofs[hcl,n2];refine Qgr ?_
       have t1:List.take (kN l l.length).length ((cpS l l.length).map (isT S T))=(cmpct l).map (isT S T):=by
        rw[<- List.map_take,cpS,List.take_left'];rfl;rfl
       have t2:List.drop l.length ((cpS l l.length).map (isT S T))=[]:=W1h (by simp[hcl]);rw[t1,t2,W1B];have hne:¬(cmpct l).length=l.length:=(by rw[cmpct];omega);refine ⟨[.oss 1000 l.length 0 (kN l l.length).length],?_,?_,?_⟩
       . simp[Z29,evRes,Yi,newK,frzA,frz,AV.keys,lk,St.tmp]
       . rw[cmpV,if_neg hne];rfl
       . have hz:List.map (isT S T) (cmpct l)++List.replicate (l.length-(kN l l.length).length) [AV.int .i64 0,AV.int .i64 0,AV.int .u8 0,AV.nils,AV.nils]=cmpOT S T l:=rfl;rw[hz];simp[Yi,newK,ZeJ]
   . rw [W0S hd]at hsm;simp -implicitDefEqProofs[hd,w2];refine ⟨rfl,?_,λj h1 h2=>?_⟩
     . ((try simp only[fM2]);refine Ym.sub (by simp[lk,Ya,AV.keys,fM2]) ?_;simp only[fM2,Wkl,ZeF,and_true];(try simp[lk,Yc,Ya,AV.keys,fM2]))
     . rcases W0q j (i+1) with h|h
       . exact hn j h1 h
       . have:j=i+1:=(by omega);subst this;exact hsm
 . intro hn;refine Qga ?_;have k1:¬((l.length-1:Nat):Int)+1<l.length:=(by omega);have el:l.length-1+1=l.length:=(by omega);rw[el]at hn;have e:cmpct l=l:=ZcM hn;simp -implicitDefEqProofs[k1,fM2];refine Qgr ?_;simp -implicitDefEqProofs;refine ⟨[.osl 1000 l.length],?_,?_,?_⟩
   . simp[Z29,evRes,Yi,newK,frzA,frz,AV.keys,lk,St.tmp,Z62]
   . simp[cmpV,e,tupV]
   . simp[Yi,newK,ZeG,cmpOT,e]
end
def isN (F H:Iss->AV) (x:Iss):List AV:=[.int .i64 x.d,.int .i64 x.l,.int .u8 x.k,F x,H x]
def IsSl (x:AV):Prop:=∀ (E:Env) (W:World) (v:Value),VR E W x v->∃ a l c,v = .slice a l c
def ZeL (L:List (Nat×Nat)):IsSl (.oof L):=λE W v h=>by
 cases h with
 |pv h=>cases h
 |oof _ k n a l c hm h=>exact ⟨a,l,c,rfl⟩
section
variable {P:Program} {G:Jg} {R:Run} {st:St} {a:Act} {W:World} {κ:Nat->Option (Nat×Nat)}
def SK.recell (h:SK R st a W κ) {K sz:Nat} {rows rows':List (List AV)} (hg:st.get K=some (.row sz rows)) (hl:rows'.length=rows.length) (hs:∀ r∈rows',r.length=sz)
  (hc:∀ (i j:Nat) (r:List AV) (x':AV),rows'[i]? = some r->r[j]? = some x'->∃ r0 x,rows[i]? = some r0/\r0[j]? = some x/\∀ v,VR (st.env R.M κ) W x v->VR (st.env R.M κ) W x' v)
  {st':St} (ht:st'.t=st.t) (hK:st'.get K=some (.row sz rows')) (ho:∀ j,j≠K->st'.get j=st.get j):st'.env R.M κ=st.env R.M κ/\SK R st' a W κ:=by
 have hE:st'.env R.M κ=st.env R.M κ:=by
  unfold St.env
  congr 1
  funext k
  by_cases e:k=K
  . subst e;rw[hK,hg];simp[AObj.dim,hl]
  . rw[ho k e]
 refine ⟨hE,h.defers,h.size,λn x hx=>?_,λk o hk=>?_,λk p hk=>?_,h.inj,h.low,h.apart,h.kp,by rw[hE];exact h.gr,by rw[hE];exact h.mono,h.ent⟩
 . rw[hE];exact h.tm n x (by simpa only [St.tmp,ht] using hx)
 . by_cases e:k=K
   . subst e;rw[hK]at hk;simp only[W00]at hk;subst hk;obtain ⟨b,s,g1,g2,g3,g4⟩:=h.obj k _ hg;refine ⟨b,s,g1,g2,g3,?_⟩;obtain ⟨-,cs,t,g5,g6,g7⟩:=g4;rw[hE];refine ⟨hs,cs,t,g5,by rw[hl];exact g6,λi j r x hi hj=>?_⟩;obtain ⟨r0,x0,h1,h2,h3⟩:=hc i j r x hi hj;obtain ⟨v,h4,h5⟩:=g7 i j r0 x0 h1 h2;exact ⟨v,h4,h3 v h5⟩
   . rw[ho k e]at hk;rw[hE];exact h.obj k o hk
 . obtain ⟨o,h1⟩:=h.dom k p hk;by_cases e:k=K
   . exact ⟨_,by rw[e];exact hK⟩
   . exact ⟨o,(ho k e).trans h1⟩
def ZeM {F H F' H':Iss->AV} {l:Jr} {z:List (List AV)} {E:Env} {W:World} (hF:∀ x∈l,∀ v,VR E W (F x) v->VR E W (F' x) v) (hH:∀ x∈l,∀ v,VR E W (H x) v->VR E W (H' x) v)
  (i j:Nat) (r:List AV) (x':AV) (hi:(l.map (isN F' H')++z)[i]? = some r) (hj:r[j]? = some x'):∃ r0 x,(l.map (isN F H)++z)[i]? = some r0/\r0[j]? = some x/\∀ v,VR E W x v->VR E W x' v:=by
 rcases W0q i l.length with h|h
 . have e1:(l.map (isN F' H')++z)[i]? = some (isN F' H' l[i]):=(by rw[W0E (by simpa using h)];simp[h]);have e2:(l.map (isN F H)++z)[i]? = some (isN F H l[i]):=(by rw[W0E (by simpa using h)];simp[h]);rw[e1]at hi;simp only[W00]at hi;subst hi
   match j,hj with
   |0,hj=>exact ⟨_,_,e2,rfl,by cases hj;exact λv h=>h⟩
   |1,hj=>exact ⟨_,_,e2,rfl,by cases hj;exact λv h=>h⟩
   |2,hj=>exact ⟨_,_,e2,rfl,by cases hj;exact λv h=>h⟩
   |3,hj=>exact ⟨_,_,e2,rfl,by cases hj;exact hF _ (W0e h)⟩
   |4,hj=>exact ⟨_,_,e2,rfl,by cases hj;exact hH _ (W0e h)⟩
   |j+5,hj=>simp[isN]at hj
 . rw[W0o (by simpa using h),W0N]at hi;refine ⟨r,x',?_,hj,λv h=>h⟩;rw[W0o (by simpa using h),W0N];exact hi
def Z1B.byT {f:FuncId} {l l2:Jr} {z:List (List AV)} {args:List AV} {r:AV} (h:∀ S T:Iss->Value->Prop,PB P G f [(1000,.row 5 (l.map (isT S T)))] args r [(1000,.row 5 (l2.map (isT S T)++z))])
  (K:Nat) (F H:Iss->AV) (hF:∀ x,IsSl (F x)) (hH:∀ x,IsSl (H x)) (hg:st.get K=some (.row 5 (l.map (isN F H)))) (hargs:∀ x∈args,∀ k∈x.keys,k=1000)
  (hz:z.map (λr=>r.map (AV.ren λ_=>K))=z) (hz5:∀ r∈z,r.length=5)
  {args':List AV} {r':AV} {st1:St} (ha:args'=args.map (AV.ren λ_=>K)) (hr:r'=r.ren λ_=>K) (hs:st1=st.set K (.row 5 (l2.map (isN F H)++z))):Z1B P G st f args' r' st1:=by
 subst ha;subst hr;subst hs;intro R a W κ vs hG hk ha;subst hG;obtain ⟨S,hS⟩ : ∃ S:Iss->Value->Prop,∀ x v,S x v↔VR (st.env R.M κ) W (F x) v:=⟨λx v=>VR (st.env R.M κ) W (F x) v,λx v=>Iff.rfl⟩;obtain ⟨T,hT⟩ : ∃ T:Iss->Value->Prop,∀ x v,T x v↔VR (st.env R.M κ) W (H x) v:=⟨λx v=>VR (st.env R.M κ) W (H x) v,λx v=>Iff.rfl⟩;have eT:isT S T=isN (λx=>.tok (S x)) (λx=>.tok (T x)):=rfl
 have tokI:∀ (Q:Value->Prop) (x:AV) (v:Value),IsSl x->(∀ v,Q v↔VR (st.env R.M κ) W x v)->VR (st.env R.M κ) W x v->VR (st.env R.M κ) W (.tok Q) v:=λQ x v h1 h2 h3=>by
  obtain ⟨a,l,c,rfl⟩:=h1 _ _ _ h3;exact .pv (.tok Q a l c ((h2 _).2 h3))
 have len5:∀ (F H:Iss->AV) (l:Jr) (z:List (List AV)),(∀ r∈z,r.length=5)->∀ r∈l.map (isN F H)++z,r.length=5:=λF H l z hz r hr=>by
  rcases W0h.1 hr with h|h
  . obtain ⟨x,-,rfl⟩:=W0i.1 h;rfl
  . exact hz r h
 obtain ⟨hE1,h1⟩:=hk.recell (rows':=l.map (isT S T)) (st':=st.set K (.row 5 (l.map (isT S T)))) hg (by simp)
  (by have:=len5 (λx=>.tok (S x)) (λx=>.tok (T x)) l [] (by simp);rwa [W1B]at this)
  (by
   have:=ZeM (F:=F) (H:=H) (F':=λx=>.tok (S x)) (H':=λx=>.tok (T x)) (l:=l) (z:=[]) (E:=st.env R.M κ) (W:=W) (λx _ v hv=>tokI _ _ _ (hF x) (hS x) hv) (λx _ v hv=>tokI _ _ _ (hH x) (hT x) hv);simp only[W1B]at this;exact this) rfl (by rw[St.get_set,if_pos rfl]) (λj hj=>by rw[St.get_set,if_neg (λe=>hj e.symm)])
 obtain ⟨he,hc⟩:=h S T
 have hrn:∀ l:List Iss,(l.map (isT S T)).map (λr=>r.map (AV.ren λ_=>K))=l.map (isT S T):=λl=>by
  rw[W10];congr 1;funext x;simp[isT,AV.ren]
 have one:∀ (o:AObj) (k:Nat),isK [(1000,o)] k=true->k=1000:=λo k hk=>by
  have:=Z56.1 hk;simpa using this
 have get1:∀ (o o':AObj) (k:Nat),lk [(1000,o)] k=some o'->o'=o:=λo o' k hk=>by
  have:=Z4J hk;simp at this;exact this.2
 generalize hst:st.set K (.row 5 (l.map (isT S T)))=st0 at *;have hg0:st0.get K=some (.row 5 (l.map (isT S T))):=(by rw[<- hst,St.get_set,if_pos rfl]);have hj0:∀ j,j≠K->st0.get j=st.get j:=λj hj=>by rw[<- hst,St.get_set,if_neg (λe=>hj e.symm)]
 have ht0:st0.t=st.t:=(by rw[<- hst];rfl);have hK1:∀ k,isK [(1000,AObj.row 5 (l.map (isT S T)))] k=true->1000<=k:=λk hk=>by rw[one _ k hk];exact W0f _
 have hinj:∀ k k',isK [(1000,AObj.row 5 (l.map (isT S T)))] k=true->isK [(1000,AObj.row 5 (l.map (isT S T)))] k'=true->(λ_:Nat=>K) k=(λ_=>K) k'->k=k':=λk k' h1 h2 _=>by rw[one _ k h1,one _ k' h2]
 have ho:∀ k o,lk [(1000,AObj.row 5 (l.map (isT S T)))] k=some o->st0.get ((λ_:Nat=>K) k)=some (o.ren λ_=>K):=λk o hk=>by
  rw[get1 _ _ _ hk,hg0,AObj.ren,hrn]
 have hin:∀ k o,lk [(1000,AObj.row 5 (l.map (isT S T)))] k=some o->inKO [(1000,AObj.row 5 (l.map (isT S T)))] o:=λk o hk=>by
  rw[get1 _ _ _ hk];intro r hr x hx k hk;obtain ⟨y,-,rfl⟩:=W0i.1 hr;simp only[isT,W0g,W0Q,or_false]at hx;rcases hx with rfl|rfl|rfl|rfl|rfl <;> simp[AV.keys]at hk
 obtain ⟨h0,conv⟩:=Z50 h1 hK1 hinj ho hin;have ha1:CR (st0.env R.M κ) W (args.map (AV.ren λ_=>K)) vs.toList:=(by rw[hE1];exact ha);have hsz:vs.size=args.length:=(by have:=ha.1;simp at this;omega);have inA:∀ x∈args,inK [(1000,AObj.row 5 (l.map (isT S T)))] x:=λx hx k hk=>by rw[hargs x hx k hk];simp[isK,lk]
 refine ⟨he,(hc (rC [(1000,AObj.row 5 (l.map (isT S T)))] (λ_=>K) R st0 κ W) W (kC [(1000,AObj.row 5 (l.map (isT S T)))] (λ_=>K) κ) vs rfl rfl rfl rfl rfl h0 hsz (λi x u hx hu=>conv x u (inA x (W0d hx)) (ha1.2 i (x.ren _) u (by rw[W09,hx];rfl) (by simpa using hu)))).mono ?_⟩;rintro e W' ⟨v,κ',rfl,c1,c2⟩
 obtain ⟨κ1,h3,m,h4⟩:=Z51 h1 hinj ho (λk=>by simp[isK,lk];split <;> rfl) c1 (st1:=st0.set K (.row 5 (l2.map (isT S T)++z))) rfl
  (λk o hk=>by rw[get1 _ _ _ hk,St.get_set,if_pos rfl,AObj.ren,W0r,hrn,hz]) (λj hj=>by rw[St.get_set,if_neg (hj 1000 (by simp[isK,lk]))])
 generalize hst2:st0.set K (.row 5 (l2.map (isT S T)++z))=st2 at *;have hg2:st2.get K=some (.row 5 (l2.map (isT S T)++z)):=by rw[<- hst2,St.get_set,if_pos rfl]
 have back:∀ (Q:Value->Prop) (x:AV) (v:Value),(∀ v,Q v↔VR (st.env R.M κ) W x v)->VR (st2.env R.M κ1) W' (.tok Q) v->VR (st2.env R.M κ1) W' x v:=λQ x v h2 h5=>by
  have h6:Q v:=by
   cases h5 with
   |pv h=>cases h;assumption
  rw[hE1]at m;exact ((h2 v).1 h6).mono m
 obtain ⟨hE2,h5⟩:=h3.recell (rows':=l2.map (isN F H)++z) (st':=st.set K (.row 5 (l2.map (isN F H)++z))) hg2 (by simp) (len5 F H l2 z hz5)
  (ZeM (F:=λx=>.tok (S x)) (H:=λx=>.tok (T x)) (F':=F) (H':=H) (l:=l2) (z:=z) (E:=st2.env R.M κ1) (W:=W') (λx _ v hv=>back _ _ _ (hS x) hv) (λx _ v hv=>back _ _ _ (hT x) hv))
  (by rw[<- hst2];exact ht0.symm) (by rw[St.get_set,if_pos rfl]) (λj hj=>by rw[St.get_set,if_neg (λe=>hj e.symm),<- hst2,St.get_set,if_neg (λe=>hj e.symm),hj0 j hj])
 exact ⟨v,κ1,rfl,h5,by rw[hE2];exact h4 r v c2⟩
end
section
variable {P:Program} {G:Jg} {R:Run} {st:St} {a:Act} {W:World} {κ:Nat->Option (Nat×Nat)}
def SK.reobj (h:SK R st a W κ) {K:Nat} {o o':AObj} (hg:st.get K=some o) (hd:o'.dim=o.dim) (hc:∀ b s,κ K=some (b,s)->ObjR (st.env R.M κ) W b s o->ObjR (st.env R.M κ) W b s o')
  {st':St} (ht:st'.t=st.t) (hK:st'.get K=some o') (ho:∀ j,j≠K->st'.get j=st.get j):st'.env R.M κ=st.env R.M κ/\SK R st' a W κ:=by
 have hE:st'.env R.M κ=st.env R.M κ:=by
  unfold St.env
  congr 1
  funext k
  by_cases e:k=K
  . subst e;rw[hK,hg];exact hd
  . rw[ho k e]
 refine ⟨hE,h.defers,h.size,λn x hx=>?_,λk o1 hk=>?_,λk p hk=>?_,h.inj,h.low,h.apart,h.kp,by rw[hE];exact h.gr,by rw[hE];exact h.mono,h.ent⟩
 . rw[hE];exact h.tm n x (by simpa only [St.tmp,ht] using hx)
 . by_cases e:k=K
   . subst e;rw[hK]at hk;simp only[W00]at hk;subst hk;obtain ⟨b,s,g1,g2,g3,g4⟩:=h.obj k _ hg;rw[hE];exact ⟨b,s,g1,g2,g3,hc b s g1 g4⟩
   . rw[ho k e]at hk;rw[hE];exact h.obj k o1 hk
 . obtain ⟨o1,h1⟩:=h.dom k p hk;by_cases e:k=K
   . exact ⟨_,by rw[e];exact hK⟩
   . exact ⟨o1,(ho k e).trans h1⟩
def Ym.reobj {st':St} {K:Nat} {o o':AObj} (hg:st.get K=some o) (hd:o'.dim=o.dim) (hc:∀ E W b s,ObjR E W b s o->ObjR E W b s o') (ht:st'.t=st.t) (hK:st'.get K=some o') (ho:∀ j,j≠K->st'.get j=st.get j):Ym st st' :=
 λR _ W ⟨κ,h⟩=>⟨κ,(h.reobj hg hd (λb s _=>hc _ W b s) ht hK ho).2⟩
def Z1B.alt {f:FuncId} {args ys:List AV} {v:AV} (h:PC P G f ys v) (hf:v.flat=true)
  (hs:∀ (R:Run) (a:Act) (W:World) (κ:Nat->Option (Nat×Nat)),SK R st a W κ->∃ st',SK R st' a W κ/\st'.env R.M κ=st.env R.M κ/\Yj (snap st') args=some ys):Z1B P G st f args v st:=by
 intro R a W κ vs hG hk ha;subst hG;obtain ⟨st',h1,h2,hy⟩:=hs R a W κ hk;obtain ⟨he,hc⟩:=h;rw[<- h2]at ha;have hsz:vs.size=args.length:=(by simpa using ha.1);obtain ⟨g1,g2⟩:=Z1R hy;refine ⟨he,(hc R.M W vs (λb hb=>hk.owned_lt (.inl hb)) (hk.gr.mono (λb _ hM=>⟨λe=>hM (.inl e),rfl⟩) (W0f _)) (by omega) (λi y u hy hu=>?_)).mono ?_⟩
 . obtain ⟨x,h3,h4⟩:=g2 i y hy;exact Z1T h1 (ha.2 i x u h3 (by simpa using hu)) h4
 . rintro e W' ⟨u,rfl,h3,h4⟩;exact ⟨u,κ,rfl,hk.grow h4,.pv (h3.flat hf)⟩
def ZeY {c:RCode} {Φ:Exit->St->Prop} {Q:St->Prop} (hw:∀ a W,SR R st a W->∃ st',Q st'/\SR R st' a W) (h:∀ st',Q st'->AR P R c st' Φ):AR P R c st Φ:=λk hk m a W hs=>by
 obtain ⟨st',h1,h2⟩:=hw a W hs;exact h st' h1 k hk m a W h2
def Pick (x y:AV):Prop:=match x with
 |.oof L=>∃ p∈L,y = .osl p.1 p.2
 |_=>y=x
def VR.pick {E:Env} {x:AV} {v:Value} (h:VR E W x v):∃ y,Pick x y/\VR E W y v:=by
 cases x with
 | oof L =>
   cases h with
   |pv h=>cases h
   |oof _ k n a l c hm h=>exact ⟨.osl k n,⟨(k,n),hm,rfl⟩,h⟩
 |_=>exact ⟨_,rfl,h⟩
def isX (l:Jr) (F H:Nat->AV):List (List AV):=(List.range l.length).map λi=>isN (λ_=>F i) (λ_=>H i) (l.getD i default)
def ZeZ (l:Jr) (F H:Nat->AV):(isX l F H).length=l.length:=by simp[isX]
def Zf0 {l:Jr} {F H:Nat->AV} {i:Nat} (h:i<l.length):(isX l F H)[i]? = some [.int .i64 l[i].d,.int .i64 l[i].l,.int .u8 l[i].k,F i,H i]:=by
 simp[isX,h,isN,W0j]
def SK.choose (h:SK R st a W κ) {K:Nat} {l:Jr} {F H:Iss->AV} {z:List (List AV)} (hg:st.get K=some (.row 5 (l.map (isN F H)++z))) :
  ∃ F' H':Nat->AV,(∀ i (hi:i<l.length),Pick (F l[i]) (F' i)/\Pick (H l[i]) (H' i)) /\
    ∀ st':St,st'.t=st.t->st'.get K=some (.row 5 (isX l F' H'++z))->(∀ j,j≠K->st'.get j=st.get j)->st'.env R.M κ=st.env R.M κ/\SK R st' a W κ:=by
 obtain ⟨b,s,g1,g2,g3,g4⟩:=h.obj K _ hg;obtain ⟨g0,cs,t,g5,g6,g7⟩:=g4;have at':∀ i (hi:i<l.length),(l.map (isN F H)++z)[i]? = some (isN F H l[i]):=λi hi=>by rw[W0E (by simpa using hi)];simp[hi]
 have ch:∀ i,∃ y:AV×AV,∀ hi:i<l.length,(Pick (F l[i]) y.1/\Pick (H l[i]) y.2)/\(∃ v,cs[s+i*5+3]? = some v/\VR (st.env R.M κ) W y.1 v)/\∃ v,cs[s+i*5+4]? = some v/\VR (st.env R.M κ) W y.2 v:=λi=>by
  by_cases hi:i<l.length
  . obtain ⟨v,h1,h2⟩:=g7 i 3 _ _ (at' i hi) rfl;obtain ⟨w,h3,h4⟩:=g7 i 4 _ _ (at' i hi) rfl;obtain ⟨y,h5,h6⟩:=h2.pick;obtain ⟨x,h7,h8⟩:=h4.pick;exact ⟨(y,x),λ_=>⟨⟨h5,h7⟩,⟨v,h1,h6⟩,⟨w,h3,h8⟩⟩⟩
  . exact ⟨(.hole,.hole),λh=>absurd h hi⟩
 obtain ⟨Y,hY⟩:=Classical.axiomOfChoice ch;refine ⟨λi=>(Y i).1,λi=>(Y i).2,λi hi=>(hY i hi).1,λst' ht hK ho=>h.reobj hg (by simp[AObj.dim,ZeZ]) (λb' s' hb0 hb=>?_) ht hK ho⟩;rw[g1]at hb0;simp only[W00,W06]at hb0;obtain ⟨rfl,rfl⟩:=hb0;obtain ⟨q0,cs',t',q5,q6,q7⟩:=hb;rw[g5]at q5;simp only[W00,Obj.cells.injEq]at q5;obtain ⟨rfl,rfl,-⟩:=q5;refine ⟨λr hr=>?_,cs,t,g5,by simpa [ZeZ] using g6,λi j r x hi hj=>?_⟩
 . rcases W0h.1 hr with h|h
   . obtain ⟨i,-,rfl⟩:=W0i.1 h;rfl
   . exact q0 r (List.mem_append_right _ h)
 . rcases W0q i l.length with hl|hl
   . rw[W0E (by rw[ZeZ];exact hl),Zf0 hl]at hi;simp only[W00]at hi;subst hi;obtain ⟨-,hv,hw⟩:=hY i hl
     match j,hj with
     |0,hj=>cases hj;exact g7 i 0 _ _ (at' i hl) rfl
     |1,hj=>cases hj;exact g7 i 1 _ _ (at' i hl) rfl
     |2,hj=>cases hj;exact g7 i 2 _ _ (at' i hl) rfl
     |3,hj=>cases hj;exact hv
     |4,hj=>cases hj;exact hw
     |j+5,hj=>simp at hj
   . rw[W0o (by rw[ZeZ];exact hl),ZeZ]at hi;exact g7 i j r x (by rw[W0o (by simpa using hl),W0N];exact hi) hj
end
end Go.Proofs.YthlcppdbldkldaaDoor
