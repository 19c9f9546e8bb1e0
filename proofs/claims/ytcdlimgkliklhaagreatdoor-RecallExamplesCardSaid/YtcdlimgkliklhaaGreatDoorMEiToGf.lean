/-
  How the program opens a register, by the abstract machine.
-/
import Derived.Test.YtcdlimgkliklhaaGreatDoorMRctToEh
set_option linter.all false
set_option maxHeartbeats 8000000
namespace Go.Proofs.YtcdlimgkliklhaaGreatDoor
open Tryz (prog)
open IntKind (i64)
open Go.RowKit
variable {G:Jg}
def GC (G:Jg):Prop:=G 2=some [.func (.func 260) [] [],.func (.func 261) [] [],.func (.func 262) [] [],.func (.func 263) [] []]
def ckN (x:Iss):Nat->Bool
 |0=>ck1 x
 |1=>ck2 x
 |2=>ck3 x
 |_=>ck4 x
def Z9u {x:Iss} (h:∀ j,j<4->ckN x j=true):issB x=true:=by
 rw[Z8o,show ck1 x=true from h 0 (by omega),show ck2 x=true from h 1 (by omega),show ck3 x=true from h 2 (by omega),show ck4 x=true from h 3 (by omega)];rfl
def Z9v {x:Iss} {j:Nat} (hj:j<4) (h:ckN x j=false):issB x=false:=by
 rw[Z8o];have:j=0∨j=1∨j=2∨j=3:=(by omega);rcases this with rfl|rfl|rfl|rfl <;> simp only[ckN]at h <;> simp[h]
def openV (r:Jr):Int:=if Z7S r=true then
    if 0<(dRun r (nums r).length).2.length then 21 else if (∃ p∈(dRun r (nums r).length).1,6<p.2) then 20 else 0
 else 20
def openA (r:Jr):AV:=.tup [if openV r=0 then bkA r (nums r) else .nilp,.int .i64 (openV r)]
def Z9w {r:Jr} (h:Z7S r=false):openA r = .tup [.nilp,.int .i64 20]:=by simp[openA,openV,h]
def opS (r:Jr):Nat->St
 |0=>⟨[(28,.int .i64 0),(27,.int .i64 r.length),(26,.vsl (r.map isa)),(1,.ptr 1 0),(4,.ptr 4 0)],[(1,.box [.vsl (r.map isa)]),(4,.box [.ptr 18 0]),(18,.box [.vsl (r.map isa),.nils])]⟩
 |i+1=>⟨[(28,.int .i64 (i+1:Nat)),(27,.int .i64 r.length),(26,.vsl (r.map isa)),(1,.ptr 1 0),(4,.ptr 4 0)],[(1,.box [.vsl (r.map isa)]),(4,.box [.ptr 18 0]),(18,.box [.vsl (r.map isa),.osl 85 (numsN r (i+1)).length]),(85,.row 1 ((numsN r (i+1)).map ia))]⟩
def opT (r:Jr) (k:Nat):St:=⟨[(98,.int .i64 k),(97,.int .i64 r.length),(96,.vsl (r.map isa)),(4,.vptr [bkA r (nums r)] 0)],[]⟩
def opJ (r:Jr) (i:Nat) (x:Iss) (j:Nat):St:=⟨[(34,.int .i64 j),(33,.agg [.func (.func 260) [] [],.func (.func 261) [] [],.func (.func 262) [] [],.func (.func 263) [] []]),(5,.int .i64 i),(6,.ptr 6 0)]++(opS r i).t,(opS r i).o++[(6,.box (isa x))]⟩
def Z9x {x:Iss} {j:Nat} (hc:∀ k,k<j->ckN x k=true) (h:ckN x j=true):∀ k,k<j+1->ckN x k=true:=λk hk=>by
 by_cases e:k=j
 . rw[e];exact h
 . exact hc k (by omega)
set_option maxRecDepth 4000 in
def Z9y (hG:GC G) (r:Jr) (h:Wf r):PC prog G 168 [rega r] (openA r):=by
 (refine Z5X rfl λR hG hrd=>Qga ?_;subst hG)
 unfold GC at hG;have hs:=h.1.1;unfold Sml at hs;simp -implicitDefEqProofs[Z5V,Z5W,rega];refine Yd.flat (Z8l 1 60 r.length) (by simp[AV.flat]) (by simp) ?_
 cases q1:inR r.length 1 60
 . simp -implicitDefEqProofs[Z9w (r:=r) (by simp[Z7S,q1])]
 have q1':1<=r.length/\r.length<=60:=by
  have:=W0X q1;omega
 simp -implicitDefEqProofs;refine Z7K (opS r) (λi=>∀ j (h:j<r.length),j<i->issB r[j]=true/\ordB r j=true) r.length (by simp only[opS];(first|exact Wka|exact Wkb)) (by simp) ?_ ?_
 . intro i hi he;refine Qga ?_;have w1:i64.wrap ((i:Int)+1)=((i+1:Nat):Int):=Yf;have a1:=at_eq hi;have hx:=h.1.2 r[i] (W0e hi);have hk:=h.2 r[i] (W0e hi);have a1:=at_eq hi
   cases i with
   | zero =>
     simp -implicitDefEqProofs[opS,hi,isa,hG];refine Z7K (opJ r (0) r[0]) (λj=>∀ k,k<j->ckN r[0] k=true) 4 (by simp only[opJ,opS];(first|exact Ym.tm (by simp[lk,isa,ia])|exact Ym.sub (by simp[lk,Ya,AV.keys,isa,ia]) (by simp[lk,Yc,Ya,AV.keys,isa,ia]))) (by simp) ?_ ?_
     . intro j hj hc;refine Qga ?_;rcases (show j=0∨j=1∨j=2∨j=3 by omega) with rfl|rfl|rfl|rfl
       . have v0:i64.wrap 1=1:=rfl;simp -implicitDefEqProofs[opJ,opS,isa];refine Qco (Z8p r[0]) ?_
         cases q:ck1 r[0]
         . simp -implicitDefEqProofs;refine Qgr ?_;simp -implicitDefEqProofs;refine Qgr ?_;simp -implicitDefEqProofs[Z9w (Z7T hi (Z9v (j:=0) (by omega) q))]
         . simp -implicitDefEqProofs[v0]
           first|exact ⟨(by (first|exact Ym.tm (by simp[lk,opJ,opS,isa,ia])|exact Ym.sub (by simp[lk,Ya,AV.keys,opJ,opS,isa,ia]) (by simp[lk,Yc,Ya,AV.keys,opJ,opS,isa,ia]))),Z9x hc q⟩|exact ⟨(by (first|exact Ym.tm (by simp[lk,opJ,opS,isa,ia])|exact Ym.sub (by simp[lk,Ya,AV.keys,opJ,opS,isa,ia]) (by simp[lk,Yc,Ya,AV.keys,opJ,opS,isa,ia]))),q⟩
       . have v1:i64.wrap 2=2:=rfl;simp -implicitDefEqProofs[opJ,opS,isa];refine Qco (Z8q r[0] hk) ?_
         cases q:ck2 r[0]
         . simp -implicitDefEqProofs;refine Qgr ?_;simp -implicitDefEqProofs;refine Qgr ?_;simp -implicitDefEqProofs[Z9w (Z7T hi (Z9v (j:=1) (by omega) q))]
         . simp -implicitDefEqProofs[v1]
           first|exact ⟨(by (first|exact Ym.tm (by simp[lk,opJ,opS,isa,ia])|exact Ym.sub (by simp[lk,Ya,AV.keys,opJ,opS,isa,ia]) (by simp[lk,Yc,Ya,AV.keys,opJ,opS,isa,ia]))),Z9x hc q⟩|exact ⟨(by (first|exact Ym.tm (by simp[lk,opJ,opS,isa,ia])|exact Ym.sub (by simp[lk,Ya,AV.keys,opJ,opS,isa,ia]) (by simp[lk,Yc,Ya,AV.keys,opJ,opS,isa,ia]))),q⟩
       . have v2:i64.wrap 3=3:=rfl;simp -implicitDefEqProofs[opJ,opS,isa];refine Qco (Z8r r[0] hx.1) ?_
         cases q:ck3 r[0]
         . simp -implicitDefEqProofs;refine Qgr ?_;simp -implicitDefEqProofs;refine Qgr ?_;simp -implicitDefEqProofs[Z9w (Z7T hi (Z9v (j:=2) (by omega) q))]
         . simp -implicitDefEqProofs[v2]
           first|exact ⟨(by (first|exact Ym.tm (by simp[lk,opJ,opS,isa,ia])|exact Ym.sub (by simp[lk,Ya,AV.keys,opJ,opS,isa,ia]) (by simp[lk,Yc,Ya,AV.keys,opJ,opS,isa,ia]))),Z9x hc q⟩|exact ⟨(by (first|exact Ym.tm (by simp[lk,opJ,opS,isa,ia])|exact Ym.sub (by simp[lk,Ya,AV.keys,opJ,opS,isa,ia]) (by simp[lk,Yc,Ya,AV.keys,opJ,opS,isa,ia]))),q⟩
       . have v3:i64.wrap 4=4:=rfl;simp -implicitDefEqProofs[opJ,opS,isa];refine Qco (Z8t r[0] hx.2) ?_
         cases q:ck4 r[0]
         . simp -implicitDefEqProofs;refine Qgr ?_;simp -implicitDefEqProofs;refine Qgr ?_;simp -implicitDefEqProofs[Z9w (Z7T hi (Z9v (j:=3) (by omega) q))]
         . simp -implicitDefEqProofs[v3]
           first|exact ⟨(by (first|exact Ym.tm (by simp[lk,opJ,opS,isa,ia])|exact Ym.sub (by simp[lk,Ya,AV.keys,opJ,opS,isa,ia]) (by simp[lk,Yc,Ya,AV.keys,opJ,opS,isa,ia]))),Z9x hc q⟩|exact ⟨(by (first|exact Ym.tm (by simp[lk,opJ,opS,isa,ia])|exact Ym.sub (by simp[lk,Ya,AV.keys,opJ,opS,isa,ia]) (by simp[lk,Yc,Ya,AV.keys,opJ,opS,isa,ia]))),q⟩
     . intro hc;refine Qga ?_;have p1:issB r[0]=true:=Z9u hc;simp -implicitDefEqProofs[opJ,opS,isa];refine Qgr ?_;by_cases p3:r[0].l=1
       . have hn:numsN r 1=[r[0].d]:=(by simp[numsN,newB,a1]);have ok:ordB r 0=true:=(by simp[ordB,a1,p3]);have w0:i64.wrap 1=1:=rfl;simp -implicitDefEqProofs[p3,w0];exact ⟨rfl,(by (first|exact Ym.tm (by simp[lk,opS,hn,ia])|exact Ym.sub (by simp[lk,Ya,AV.keys,opS,hn,ia]) (by simp[lk,Yc,Ya,AV.keys,opS,hn,ia]))),λj q1 q2=>by subst q2;exact ⟨p1,ok⟩⟩
       . simp -implicitDefEqProofs[p3];refine Qgr ?_;simp -implicitDefEqProofs[Z9w (Z7U hi (by simp[ordB,a1,p3]))]
   | succ i =>
     have k1:(i:Int)+1<r.length:=(by omega);have k2:((i:Int)+1).toNat=i+1:=(by omega);have k3:(0:Int)<=(i:Int)+1:=(by omega);simp -implicitDefEqProofs[opS,hi,isa,hG,k1,k2,k3];refine Z7K (opJ r (i+1) r[i+1]) (λj=>∀ k,k<j->ckN r[i+1] k=true) 4 (by simp only[opJ,opS];(first|exact Ym.tm (by simp[lk,isa,ia])|exact Ym.sub (by simp[lk,Ya,AV.keys,isa,ia]) (by simp[lk,Yc,Ya,AV.keys,isa,ia]))) (by simp) ?_ ?_
     . intro j hj hc;refine Qga ?_;rcases (show j=0∨j=1∨j=2∨j=3 by omega) with rfl|rfl|rfl|rfl
       . have v0:i64.wrap 1=1:=rfl;simp -implicitDefEqProofs[opJ,opS,isa];refine Qco (Z8p r[i+1]) ?_
         cases q:ck1 r[i+1]
         . simp -implicitDefEqProofs;refine Qgr ?_;simp -implicitDefEqProofs;refine Qgr ?_;simp -implicitDefEqProofs[Z9w (Z7T hi (Z9v (j:=0) (by omega) q))]
         . simp -implicitDefEqProofs[v0]
           first|exact ⟨(by (first|exact Ym.tm (by simp[lk,opJ,opS,isa,ia])|exact Ym.sub (by simp[lk,Ya,AV.keys,opJ,opS,isa,ia]) (by simp[lk,Yc,Ya,AV.keys,opJ,opS,isa,ia]))),Z9x hc q⟩|exact ⟨(by (first|exact Ym.tm (by simp[lk,opJ,opS,isa,ia])|exact Ym.sub (by simp[lk,Ya,AV.keys,opJ,opS,isa,ia]) (by simp[lk,Yc,Ya,AV.keys,opJ,opS,isa,ia]))),q⟩
       . have v1:i64.wrap 2=2:=rfl;simp -implicitDefEqProofs[opJ,opS,isa];refine Qco (Z8q r[i+1] hk) ?_
         cases q:ck2 r[i+1]
         . simp -implicitDefEqProofs;refine Qgr ?_;simp -implicitDefEqProofs;refine Qgr ?_;simp -implicitDefEqProofs[Z9w (Z7T hi (Z9v (j:=1) (by omega) q))]
         . simp -implicitDefEqProofs[v1]
           first|exact ⟨(by (first|exact Ym.tm (by simp[lk,opJ,opS,isa,ia])|exact Ym.sub (by simp[lk,Ya,AV.keys,opJ,opS,isa,ia]) (by simp[lk,Yc,Ya,AV.keys,opJ,opS,isa,ia]))),Z9x hc q⟩|exact ⟨(by (first|exact Ym.tm (by simp[lk,opJ,opS,isa,ia])|exact Ym.sub (by simp[lk,Ya,AV.keys,opJ,opS,isa,ia]) (by simp[lk,Yc,Ya,AV.keys,opJ,opS,isa,ia]))),q⟩
       . have v2:i64.wrap 3=3:=rfl;simp -implicitDefEqProofs[opJ,opS,isa];refine Qco (Z8r r[i+1] hx.1) ?_
         cases q:ck3 r[i+1]
         . simp -implicitDefEqProofs;refine Qgr ?_;simp -implicitDefEqProofs;refine Qgr ?_;simp -implicitDefEqProofs[Z9w (Z7T hi (Z9v (j:=2) (by omega) q))]
         . simp -implicitDefEqProofs[v2]
           first|exact ⟨(by (first|exact Ym.tm (by simp[lk,opJ,opS,isa,ia])|exact Ym.sub (by simp[lk,Ya,AV.keys,opJ,opS,isa,ia]) (by simp[lk,Yc,Ya,AV.keys,opJ,opS,isa,ia]))),Z9x hc q⟩|exact ⟨(by (first|exact Ym.tm (by simp[lk,opJ,opS,isa,ia])|exact Ym.sub (by simp[lk,Ya,AV.keys,opJ,opS,isa,ia]) (by simp[lk,Yc,Ya,AV.keys,opJ,opS,isa,ia]))),q⟩
       . have v3:i64.wrap 4=4:=rfl;simp -implicitDefEqProofs[opJ,opS,isa];refine Qco (Z8t r[i+1] hx.2) ?_
         cases q:ck4 r[i+1]
         . simp -implicitDefEqProofs;refine Qgr ?_;simp -implicitDefEqProofs;refine Qgr ?_;simp -implicitDefEqProofs[Z9w (Z7T hi (Z9v (j:=3) (by omega) q))]
         . simp -implicitDefEqProofs[v3]
           first|exact ⟨(by (first|exact Ym.tm (by simp[lk,opJ,opS,isa,ia])|exact Ym.sub (by simp[lk,Ya,AV.keys,opJ,opS,isa,ia]) (by simp[lk,Yc,Ya,AV.keys,opJ,opS,isa,ia]))),Z9x hc q⟩|exact ⟨(by (first|exact Ym.tm (by simp[lk,opJ,opS,isa,ia])|exact Ym.sub (by simp[lk,Ya,AV.keys,opJ,opS,isa,ia]) (by simp[lk,Yc,Ya,AV.keys,opJ,opS,isa,ia]))),q⟩
     . intro hc;refine Qga ?_;have p1:issB r[i+1]=true:=Z9u hc;simp -implicitDefEqProofs[opJ,opS,isa];refine Qgr ?_;have w2:i64.wrap (i:Int)=(i:Int):=Yf;have w3:i64.wrap ((i:Int)+1+1)=(i:Int)+1+1:=Yf;have k3:(0:Int)<(i:Int)+1:=(by omega);have hi2:i<r.length:=(by omega);have a2:=at_eq hi2;have bl:=(he i hi2 (by omega)).1;simp only[issB,headB,W01,inR,W0b]at bl;have w4:i64.wrap (r[i].l+1)=r[i].l+1:=Yf;have b1:=Z7P r (i+1);have b2:((numsN r (i+1)).length+1)*8<=70368744177664:=by omega
       have go:ordB r (i+1)=true->∀ j (h:j<r.length),j<i+1+1->issB r[j]=true/\ordB r j=true:=λg2 j q1 q2=>by
        by_cases e:j=i+1
        . subst e;exact ⟨p1,g2⟩
        . exact he j q1 (by omega)
       by_cases p3:r[i].d=r[i+1].d
       . have hn:numsN r (i+1+1)=numsN r (i+1):=(by rw[numsN];simp[newB,a1,a2,p3]);by_cases p5:r[i+1].l=r[i].l+1
         case neg =>
          have p5':¬r[i].l+1=r[i+1].l:=λe=>p5 e.symm
          simp -implicitDefEqProofs[k3,w2,w4,hi2,isa,p3,p5'];refine Qgr ?_;simp -implicitDefEqProofs[Z9w (Z7U hi (by simp[ordB,a1,a2,p3,p5]))]
         by_cases p6:r[i].k=r[i+1].k
         . have ok:ordB r (i+1)=true:=(by simp[ordB,a1,a2,p3,p5,p6]);simp -implicitDefEqProofs[k3,w2,w3,w4,hi2,isa,p3,p5,p6];exact ⟨(by (first|exact Ym.tm (by simp[lk,opS,hn,ia])|exact Ym.sub (by simp[lk,Ya,AV.keys,opS,hn,ia]) (by simp[lk,Yc,Ya,AV.keys,opS,hn,ia]))),go ok⟩
         . have p6':¬r[i+1].k=r[i].k:=λe=>p6 e.symm
           simp -implicitDefEqProofs[k3,w2,w4,hi2,isa,p3,p5,p6];refine Qgr ?_;simp -implicitDefEqProofs[Z9w (Z7U hi (by simp[ordB,a1,a2,p3,p5,p6']))]
       by_cases p4:r[i+1].d<r[i].d
       . simp -implicitDefEqProofs[k3,w2,hi2,isa,p3,p4];refine Qgr ?_;simp -implicitDefEqProofs[Z9w (Z7U hi (by simp[ordB,a1,a2,p4]))]
       have p7:r[i].d<r[i+1].d:=(by omega);have hn:numsN r (i+1+1)=numsN r (i+1)++[r[i+1].d]:=(by rw[numsN];simp[newB,a1,a2,p3]);by_cases p5:r[i+1].l=1
       . have ok:ordB r (i+1)=true:=(by simp[ordB,a1,a2,p4,p7,p5]);simp -implicitDefEqProofs[k3,w2,w3,hi2,isa,p3,p4,p5,b2];exact ⟨rfl,(by (first|exact Ym.tm (by simp[lk,opS,hn,ia])|exact Ym.sub (by simp[lk,Ya,AV.keys,opS,hn,ia]) (by simp[lk,Yc,Ya,AV.keys,opS,hn,ia]))),go ok⟩
       . simp -implicitDefEqProofs[k3,w2,hi2,isa,p3,p4,p5];refine Qgr ?_;simp -implicitDefEqProofs[Z9w (Z7U hi (by simp[ordB,a1,a2,p4,p7,p5]))]
 . intro he;refine Qga ?_;obtain ⟨n,hn⟩ : ∃ n,r.length=n+1:=⟨r.length-1,by omega⟩;have e:numsN r (n+1)=nums r:=by rw[nums,hn]
   have g1:r.all issB=true:=W03.2 λx hx=>by
    obtain ⟨j,hj,rfl⟩:=W0k hx;exact (he j hj hj).1
   have g2:(List.range r.length).all (ordB r)=true:=Z7R.2 λj hj=>(he j hj hj).2
   have hO:Ord r:=λi hi=>by
    have:=(he (i+1) hi (by omega)).2;simp only[ordB]at this
    split at this
    . cases this
    . omega
   have hns:Sml (nums r):=(by have:=Z7X r;unfold Sml;omega);have hsn:(nums r).Pairwise (· <= ·):=(Z80 hO).imp λh=>Int.le_of_lt h
   have k1:¬(n:Int)+1<r.length:=(by omega);rw[hn];simp -implicitDefEqProofs[opS,k1,e];refine Qgr ?_;simp -implicitDefEqProofs;by_cases c20:20<(nums r).length
   . have c20':(20:Int)<(nums r).length:=(by omega);simp -implicitDefEqProofs[c20',Z9w (r:=r) (by simp[Z7S];omega)]
   have c20':¬(20:Int)<(nums r).length:=(by omega);have pu:((nums r).map ia).all (λx=>x.all AV.pure)=true:=(by simp[ia,AV.pure]);have pw:(r.map isa).all (λx=>x.all AV.pure)=true:=(by simp[isa,AV.pure]);simp -implicitDefEqProofs[c20'];refine Z7K (opT r) (λi=>∀ j (h:j<r.length),j<i->ItsIn r r[j]) r.length (Ym.trans (Ym.frz newK _ (λk hk=>by simp[newK];omega)) ?_) (by simp) ?_ ?_
   . simp only[opT,bkA,Yi];refine Ym.sub (by simp[lk,Ya,AV.keys,Yi,newK,frzA,frz,Yh,Yj,St.get,pu,pw]) (by simp) (by simp[newK])
   . intro i hi hc;refine Qga ?_;have w1:i64.wrap ((i:Int)+1)=((i+1:Nat):Int):=Yf;have hx:=h.1.2 r[i] (W0e hi);simp -implicitDefEqProofs[opT,hi,isa];refine Qco (Z8f 196 [.vptr [bkA r (nums r)] 0] (λy=>!decide (y.1∈nums r)) r[i].its (by simp[AV.pure]) hx.1 (λy _=>Z8X r (nums r) y hsn hns)) ?_
     cases q:r[i].its.any λy=>!decide (y.1∈nums r)
     . simp -implicitDefEqProofs[w1];refine ⟨(by (first|exact Ym.tm (by simp[lk,opT])|exact Ym.sub (by simp[lk,Ya,AV.keys,opT]) (by simp[lk,Yc,Ya,AV.keys,opT]))),λj q1 q2=>?_⟩;by_cases e2:j=i
       . subst e2;intro y hy;have:=W26.1 q y hy;simpa using this
       . exact hc j q1 (by omega)
     . simp -implicitDefEqProofs;refine Qgr ?_;obtain ⟨y,hy,hy2⟩:=W14.1 q;obtain ⟨k,hk,rfl⟩:=W0k hy;simp -implicitDefEqProofs[Z9w (Z7V hi hk (by simpa using hy2))]
   . intro hc;refine Qga ?_
     have g3:inB r=true:=W03.2 λx hx=>by
      obtain ⟨j,hj,rfl⟩:=W0k hx;exact W03.2 λy hy=>W0M (hc j hj hj y hy)
     have hL:Z7S r=true:=by
      simp only[Z7S,q1,g1,g2,g3,W1k,W2c,W0b];omega
     simp -implicitDefEqProofs[opT];refine Qgr ?_;simp -implicitDefEqProofs;refine Qco (Z9k r h hO (by omega)) ?_;simp -implicitDefEqProofs;by_cases c21:0<(dRun r (nums r).length).2.length
     . have v:openA r = .tup [.nilp,.int .i64 21]:=(by simp[openA,openV,hL,c21]);simp -implicitDefEqProofs[c21,v]
     simp -implicitDefEqProofs[c21];refine Z5h (kvs:=(dRun r (nums r).length).1) rfl (by simp[opnT,St.tmp,lk]) ?_ ?_
     . intro h6;refine Qgr ?_;have n6:¬ ∃ p∈(dRun r (nums r).length).1,6<p.2:=λ⟨p,hp,hp6⟩=>by have:=h6 p hp;omega
       have v:openA r = .tup [bkA r (nums r),.int .i64 0]:=by
        unfold openA openV;rw[if_pos hL,if_neg c21,if_neg n6];simp
       simp -implicitDefEqProofs[v,bkA]
     . intro h6;refine Qga ?_
       have v:openA r = .tup [.nilp,.int .i64 20]:=by
        unfold openA openV;rw[if_pos hL,if_neg c21,if_pos h6];simp
       simp -implicitDefEqProofs[Z5a,v];refine Qgr ?_;simp -implicitDefEqProofs
def Z9z {r:Jr} (h:openV r=0):Z7S r=true:=by
 unfold openV at h
 split at h
 . assumption
 . cases h
def Z9A {r:Jr} (h:Z7S r=true):1<=r.length/\r.length<=60:=by
 simp only[Z7S,W01,W0b,inR]at h;have:=h.1.1.1.1;omega
def Z9B {r:Jr} (h:Z7S r=true) {i:Nat} (hi:i<r.length):ordB r i=true:=by
 simp only[Z7S,W01]at h;exact Z7R.1 h.1.1.2 i hi
def Z9C {r:Jr} (hO:Ord r):(r.map (·.d)).Pairwise (· <= ·):=by
 rw[W2n,W0Y];intro i j hi hj hij;have:=hO.mono (Nat.le_of_lt hij) hj
 rwa [at_eq hi,at_eq hj]at this
def Lx (x y:Iss):Prop:=x.d<y.d∨(x.d=y.d/\x.l<y.l)
def Z9D {r:Jr} (h:Z7S r=true):∀ {i j:Nat},i<j->j<r.length->Lx (at' r i) (at' r j):=by
 intro i j hij hj
 induction j with
 |zero=>omega
 | succ j ih =>
   have step:Lx (at' r j) (at' r (j+1)):=by
    have:=Z9B h hj;simp only[ordB]at this
    split at this
    . cases this
    . split at this
      . rename_i h2;exact .inl h2
      . simp only[W01,W0b]at this;exact .inr ⟨by omega,by omega⟩
   by_cases e:i=j
   . subst e;exact step
   . have:=ih (by omega) (by omega);unfold Lx at *;omega
def Z9E {r:Jr} (h:Z7S r=true):∀ y∈r,findN y.d y.l r=some y:=λy hy=>by
 obtain ⟨i,hi,rfl⟩:=W0k hy;refine Z7Q hi rfl rfl λj hj hij=>?_
 have:=Z9D h hij hi;rw[at_eq hj,at_eq hi]at this;unfold Lx at this;omega
def Z9F (hG:GC G) (r:Jr) (h:Wf r):PC prog G 131 [rega r] (.tup [.vsl ((if openV r=0 then nums r else []).map ia),.int .i64 (openV r)]):=by
 by_cases e:openV r=0
 . (refine Z7y rfl λR hG hrd=>Qga ?_;subst hG)
   simp -implicitDefEqProofs[Z7w,Z7x,rega];refine Qco (Z9y hG r h) ?_;simp -implicitDefEqProofs[openA,e,bkA]
 . refine PC.nzR (v:=.tup [.nils,.int .i64 (openV r)]) ?_ (by simp[nz,e])
   (refine Z7y rfl λR hG hrd=>Qga ?_;subst hG)
   simp -implicitDefEqProofs[Z7w,Z7x,rega];refine Qco (Z9y hG r h) ?_;simp -implicitDefEqProofs[openA,e]
def atP (r:Jr) (d l:Int):Iss×Int:=if openV r=0 then match findN d l r with
    |some x=>(x,0)
    |none=>(zI,6)
 else (zI,openV r)
def chL (l:Jr):List Int:=l.flatMap λx=>x.its.map (·.1)
def Z9G (x:Iss) (l:Jr):chL (x::l)=x.its.map (·.1)++chL l:=rfl
def C (r:Jr) (n:Int):List Int:=chL (issOf r n)
def dvL (f:Int->Int) (m:Int) (l:Jr):Int:=l.foldl (λm x=>dvIt f (max m 1) x.its) m
def Z9H (r:Jr) (f:Int->Int) (n:Int):∀ i,i<=r.length->dvN r f n i=dvL f 0 (issOf (r.take i) n)
 |0,_=>by simp[dvN,issOf,dvL]
 | i+1,hi=>by
   have hlt:i<r.length:=(by omega);have ih:=Z9H r f n i (by omega);rw[W08 hlt,issOf,W1a,dvN,at_eq hlt];by_cases e:r[i].d=n
   . rw[if_pos e,ih,W2i (by simpa using e),dvL,dvL,W1q];rfl
   . rw[if_neg e,ih,W2j (by simpa using e),List.filter_nil,W1G];rfl
def Z9I (f:Int->Int):∀ (its:List (Int×Int)) (m:Int),m<=dvIt f m its/\(∀ y∈its,1+f y.1<=dvIt f m its)/\(dvIt f m its=m∨∃ y∈its,dvIt f m its=1+f y.1)
 |[],m=>⟨W1Y _,by simp,.inl rfl⟩
 | y :: its,m=>by
   obtain ⟨h1,h2,h3⟩:=Z9I f its (max m (1+f y.1));have e:dvIt f m (y::its)=dvIt f (max m (1+f y.1)) its:=rfl;rw[e];refine ⟨by omega,λz hz=>?_,?_⟩
   . rcases W0g.1 hz with rfl|hz
     . omega
     . exact h2 z hz
   . rcases h3 with h3 | ⟨z,hz,h3⟩
     . rcases Int.le_total m (1+f y.1) with hm|hm
       . exact .inr ⟨y,W0H ..,by omega⟩
       . exact .inl (by omega)
     . exact .inr ⟨z,W0z _ hz,h3⟩
def Z9J (f:Int->Int):∀ (l:Jr) (m:Int),m<=dvL f m l/\(l≠[]->1<=dvL f m l)/\(∀ c∈chL l,1+f c<=dvL f m l)/\(dvL f m l=m∨dvL f m l=1∨∃ c∈chL l,dvL f m l=1+f c)
 |[],m=>⟨W1Y _,by simp,by simp[chL],.inl rfl⟩
 | x :: l,m=>by
   obtain ⟨h1,h2,h3⟩:=Z9I f x.its (max m 1);obtain ⟨g1,g2,g3,g4⟩:=Z9J f l (dvIt f (max m 1) x.its);have e:dvL f m (x::l)=dvL f (dvIt f (max m 1) x.its) l:=rfl;rw[e];have q1:m<=max m 1:=Int.le_max_left ..;have q2:1<=max m 1:=Int.le_max_right ..;refine ⟨Int.le_trans q1 (Int.le_trans h1 g1),λ_=>Int.le_trans q2 (Int.le_trans h1 g1),λc hc=>?_,?_⟩
   . rw[Z9G]at hc;rcases W0h.1 hc with hc|hc
     . obtain ⟨y,hy,rfl⟩:=W0i.1 hc;exact Int.le_trans (h2 y hy) g1
     . exact g3 c hc
   . rcases g4 with g4|g4 | ⟨c,hc,g4⟩
     . rcases h3 with h3 | ⟨y,hy,h3⟩
       . rcases Int.le_total m 1 with hm|hm
         . exact .inr (.inl (by omega))
         . exact .inl (by omega)
       . exact .inr (.inr ⟨y.1,by rw[Z9G];exact W0h.2 (.inl (W0i.2 ⟨y,hy,rfl⟩)),by omega⟩)
     . exact .inr (.inl g4)
     . exact .inr (.inr ⟨c,by rw[Z9G];exact W0h.2 (.inr hc),g4⟩)
section
variable {r:Jr}
def Z9K (hO:Ord r) {n:Int} (hn:n∈nums r):issOf r n≠[]:=by
 obtain ⟨i,hi,rfl⟩:=Z82 hO hn;exact List.ne_nil_of_mem (a:=r[i]) (W0G.2 ⟨W0e hi,by simp⟩)
def Dv_eq (r:Jr) (k:Nat) (n:Int):Dv r (k+1) n=dvL (Dv r k) 0 (issOf r n):=by
 rw[Dv,Z9H r _ n _ (W0f _),W0v]
def Dv_ch (k:Nat) (n:Int) {c:Int} (hc:c∈C r n):1+Dv r k c<=Dv r (k+1) n:=by
 rw[Dv_eq];exact (Z9J _ _ _).2.2.1 c hc
def Z9L (hO:Ord r) (k:Nat) {n:Int} (hn:n∈nums r):1<=Dv r (k+1) n:=by
 rw[Dv_eq];exact (Z9J _ _ _).2.1 (Z9K hO hn)
def Dv_or (hO:Ord r) (k:Nat) {n:Int} (hn:n∈nums r):Dv r (k+1) n=1∨∃ c∈C r n,Dv r (k+1) n=1+Dv r k c:=by
 have h1:=Z9L hO k hn;rw[Dv_eq]at *;rcases (Z9J (Dv r k) (issOf r n) 0).2.2.2 with h|h|h
 . omega
 . exact .inl h
 . exact .inr h
def C_in (hin:∀ x∈r,ItsIn r x) {n c:Int} (hc:c∈C r n):c∈nums r:=by
 obtain ⟨x,hx,hc⟩:=W0u.1 hc;obtain ⟨y,hy,rfl⟩:=W0i.1 hc;exact hin x (W0G.1 hx).1 y hy
def Z9M (lf:List Int):∀ (its:List (Int×Int)) (b:Bool),rdIt lf b its=true↔b=true/\∀ y∈its,y.1 ∉ lf
 |[],b=>by simp[rdIt]
 | y::its,b=>by
   have e:rdIt lf b (y::its)=rdIt lf (b && !decide (y.1∈lf)) its:=rfl;rw[e,Z9M lf its];simp[and_assoc]
def Z9N (lf:List Int):∀ (l:Jr) (b:Bool),rdN lf b l=true↔b=true/\∀ c∈chL l,c ∉ lf
 |[],b=>by simp[rdN,chL]
 | x :: l,b=>by
   have e:rdN lf b (x::l)=rdN lf (rdIt lf b x.its) l:=rfl;rw[e,Z9N lf l,Z9M,Z9G];simp only[W0h,W0i]
   constructor
   . rintro ⟨⟨h1,h2⟩,h3⟩;refine ⟨h1,λc hc=>?_⟩;rcases hc with ⟨y,hy,rfl⟩|hc
     . exact h2 y hy
     . exact h3 c hc
   . rintro ⟨h1,h2⟩;exact ⟨⟨h1,λy hy=>h2 _ (.inl ⟨y,hy,rfl⟩)⟩,λc hc=>h2 c (.inr hc)⟩
def Z9O (dp:List (Int×Int)):∀ (its:List (Int×Int)) (m:Int),m<=msIt dp m its/\(∀ y∈its,dpG dp y.1<=msIt dp m its)/\(msIt dp m its=m∨∃ y∈its,msIt dp m its=dpG dp y.1)
 |[],m=>⟨W1Y _,by simp,.inl rfl⟩
 | y :: its,m=>by
   obtain ⟨h1,h2,h3⟩:=Z9O dp its (max m (dpG dp y.1));have e:msIt dp m (y::its)=msIt dp (max m (dpG dp y.1)) its:=rfl;rw[e];refine ⟨by omega,λz hz=>?_,?_⟩
   . rcases W0g.1 hz with rfl|hz
     . omega
     . exact h2 z hz
   . rcases h3 with h3 | ⟨z,hz,h3⟩
     . rcases Int.le_total m (dpG dp y.1) with hm|hm
       . exact .inr ⟨y,W0H ..,by omega⟩
       . exact .inl (by omega)
     . exact .inr ⟨z,W0z _ hz,h3⟩
def Z9P (dp:List (Int×Int)):∀ (l:Jr) (m:Int),m<=msN dp m l/\(∀ c∈chL l,dpG dp c<=msN dp m l)/\(msN dp m l=m∨∃ c∈chL l,msN dp m l=dpG dp c)
 |[],m=>⟨W1Y _,by simp[chL],.inl rfl⟩
 | x :: l,m=>by
   obtain ⟨h1,h2,h3⟩:=Z9O dp x.its m;obtain ⟨g1,g2,g3⟩:=Z9P dp l (msIt dp m x.its);have e:msN dp m (x::l)=msN dp (msIt dp m x.its) l:=rfl;rw[e];refine ⟨by omega,λc hc=>?_,?_⟩
   . rw[Z9G]at hc;rcases W0h.1 hc with hc|hc
     . obtain ⟨y,hy,rfl⟩:=W0i.1 hc;have:=h2 y hy;omega
     . exact g2 c hc
   . rcases g3 with g3 | ⟨c,hc,g3⟩
     . rcases h3 with h3 | ⟨y,hy,h3⟩
       . exact .inl (by omega)
       . exact .inr ⟨y.1,by rw[Z9G];exact W0h.2 (.inl (W0i.2 ⟨y,hy,rfl⟩)),by omega⟩
     . exact .inr ⟨c,by rw[Z9G];exact W0h.2 (.inr hc),g3⟩
def Z9Q {n:Int}:∀ {dp:List (Int×Int)},n∈dp.map (·.1)->∃ v,dpLk n dp=some v
 |[],h=>by simp at h
 | p :: dp,h=>by
   simp only[dpLk]
   split
   . exact ⟨_,rfl⟩
   . rename_i e;simp only[W0F,W0g]at h;exact Z9Q (h.resolve_left λe2=>e (by rw[e2]))
def AInv (r:Jr) (s:List (Int×Int)×List Int):Prop:=∀ p∈s.1,∀ j:Nat,p.2<=j->Dv r j p.1=p.2
def AInv.step (hO:Ord r) (hin:∀ x∈r,ItsIn r x) {s:List (Int×Int)×List Int} (hd:DInv r s) (h:AInv r s) {n:Int} (hn:n∈nums r):AInv r (dStep r s n):=by
 unfold dStep
 split
 . rename_i hb;obtain ⟨h1,h2⟩:=(Z9N _ _ _).1 hb
   have kids:∀ c∈C r n,(c,dpG s.1 c)∈s.1:=λc hc=>by
    have hc1:c∈s.1.map (·.1)++s.2:=hd.perm.mem_iff.2 (C_in hin hc);have hc2:c∈s.1.map (·.1):=(W0h.1 hc1).resolve_right (h2 c hc);obtain ⟨v,hv⟩:=Z9Q hc2;have:=Z9f hv
    rwa [show dpG s.1 c=v by simp[dpG,hv]]
   obtain ⟨m1,m2,m3⟩:=Z9P s.1 (issOf r n) 0;intro p hp j hj;rcases W0h.1 hp with hp|hp
   . exact h p hp j hj
   . simp only[W0B]at hp;subst hp;simp only at hj ⊢;obtain ⟨j,rfl⟩ : ∃ j',j=j'+1:=⟨j-1,by omega⟩
     have same:∀ c∈C r n,Dv r j c=dpG s.1 c:=λc hc=>by
      have:=m2 c hc;exact h _ (kids c hc) j (by simp only;omega)
     have o1:=Z9L hO j hn
     apply Int.le_antisymm
     . rcases Dv_or hO j hn with e | ⟨c,hc,e⟩
       . omega
       . have:=m2 c hc;have:=same c hc;omega
     . rcases m3 with e | ⟨c,hc,e⟩
       . omega
       . have:=Dv_ch (r:=r) j n hc;have:=same c hc;omega
 . exact h
def AInv.fold (hO:Ord r) (hin:∀ x∈r,ItsIn r x):∀ (l:List Int) {s:List (Int×Int)×List Int},(∀ n∈l,n∈nums r)->DInv r s->AInv r s->AInv r (l.foldl (dStep r) s)
 |[],s,_,_,h=>h
 |n::l,s,hl,hd,h=>AInv.fold hO hin l (λm hm=>hl m (W0z _ hm)) (hd.step n) (h.step hO hin hd (hl n (W0H ..)))
def AInv.run (hO:Ord r) (hin:∀ x∈r,ItsIn r x):∀ k,AInv r (dRun r k)
 |0=>by intro p hp;simp[dRun]at hp
 |k+1=>AInv.fold hO hin (nums r) (λ_ h=>h) (DInv.run r k) (AInv.run hO hin k)
def Z9R {i:Nat} (hi:i<r.length) (n:Int):issOf (r.take (i+1)) n=if r[i].d=n then issOf (r.take i) n++[r[i]] else issOf (r.take i) n:=by
 rw[W08 hi,issOf,W1a]
 split
 . rename_i e;rw[W2i (by simpa using e)];rfl
 . rename_i e;rw[W2j (by simpa using e),List.filter_nil,W1G];rfl
def Z9S (hL:Z7S r=true):∀ (i:Nat) (hi:i<r.length),r[i].l=((issOf (r.take (i+1)) r[i].d).length:Nat)
 | 0,hi=>by
   have h0:=Z9B hL hi;simp only[ordB,W0b,at_eq hi]at h0;rw[h0,Z9R hi,if_pos rfl];simp[issOf]
 | j + 1,hi=>by
   have hj:j<r.length:=(by omega);have h0:=Z9B hL hi;have ih:=Z9S hL j hj;have hO:=Z7Y hL;rw[Z9R hi,if_pos rfl];simp only[ordB,at_eq hi,at_eq hj]at h0
   split at h0
   . cases h0
   . split at h0
     . rename_i h1 h2
       have e:issOf (r.take (j+1)) r[j+1].d=[]:=by
        rw[issOf,W2m];intro x hx;obtain ⟨k,hk,rfl⟩:=W0k hx;simp only[W15]at hk;have:=hO.mono (i:=k) (j:=j) (by omega) hj;rw[at_eq (show k<r.length by omega),at_eq hj]at this;simp only[W1V,W0b];omega
       rw[e];simpa using h0
     . rename_i h1 h2;simp only[W01,W0b]at h0;have e:r[j+1].d=r[j].d:=(by omega);rw[e,h0.1,ih];simp
def Z9T (hL:Z7S r=true) (n:Int):∀ i,i<=r.length->lastN r n i=((issOf (r.take i) n).length:Nat)
 |0,_=>by simp[lastN,issOf]
 | i + 1,hi=>by
   have hlt:i<r.length:=(by omega);have ih:=Z9T hL n i (by omega);rw[lastN,at_eq hlt,Z9R hlt]
   split
   . rename_i e;have:=Z9S hL i hlt;rw[e,Z9R hlt,if_pos e]at this;rw[ih,this];simp only[W0s,W1p,W1U];omega
   . exact ih
def Z9U (hL:Z7S r=true) (n:Int):lastV r n=cntV r n:=by
 rw[lastV,Z9T hL n _ (W0f _),W0v];rfl
end
section
variable {r:Jr}
def Z9V (hL:Z7S r=true) (n:Int):∀ (i:Nat),i<=r.length->∀ k:Nat,1<=k->k<=(issOf (r.take i) n).length->∃ j,∃ h:j<r.length,r[j].d=n/\r[j].l=k
 |0,_,k,h1,h2=>by simp[issOf]at h2;omega
 | i + 1,hi,k,h1,h2=>by
   have hlt:i<r.length:=(by omega);by_cases c:k<=(issOf (r.take i) n).length
   . exact Z9V hL n i (by omega) k h1 c
   . have hl:=Z9S hL i hlt;rw[Z9R hlt]at h2
     split at h2
     . rename_i e;simp only[W0s,W1p,W1U]at h2;refine ⟨i,hlt,e,?_⟩;rw[hl,e,Z9R hlt,if_pos e];simp only[W0s,W1p,W1U];omega
     . omega
def Z9W (hL:Z7S r=true) {x:Iss} (hx:x∈r):1<=x.l/\x.l<=cntV r x.d:=by
 obtain ⟨i,hi,rfl⟩:=W0k hx;have h1:=Z9S hL i hi;have h2:(issOf (r.take (i+1)) r[i].d).length<=(issOf r r[i].d).length:=((List.take_sublist (i+1) r).filter _).length_le;have h3:0<(issOf (r.take (i+1)) r[i].d).length:=(by rw[Z9R hi,if_pos rfl];simp);have h4:cntV r r[i].d=((issOf r r[i].d).length:Nat):=rfl;omega
def Z9X (hL:Z7S r=true) {x:Iss} (hx:x∈r):findN x.d x.l r=some x:=Z9E hL x hx
def Z9Y (hL:Z7S r=true) (n l:Int):(findN n l r).isSome=true↔inR l 1 (lastV r n)=true:=by
 rw[inR,W0b,Z9U hL]
 constructor
 . intro h;obtain ⟨x,hx⟩:=W0t.1 h;obtain ⟨h1,rfl,rfl⟩:=Z88 hx;exact Z9W hL h1
 . rintro ⟨h1,h2⟩;have h3:cntV r n=((issOf r n).length:Nat):=rfl;obtain ⟨j,hj,rfl,e⟩:=Z9V hL n r.length (W0f _) l.toNat (by omega) (by rw[W0v];omega);have:=Z9X hL (W0e hj);rw[e,show ((l.toNat:Nat):Int)=l by omega]at this;rw[this];rfl
end
structure Nte where
 nu:Int
 dy:Int
 sg:Int
 dr:Int
 lt:Int
 fr:Int
 tu:Int
 ca:Int
 up:Bool
 wy:Int
 deriving DecidableEq,Inhabited
def na (x:Nte):List AV:=[.int .i64 x.nu,.int .i64 x.dy,.int .u8 x.sg,.int .i64 x.dr,.int .i64 x.lt,.int .i64 x.fr,.int .i64 x.tu,.int .i64 x.ca,.bool x.up,.int .u8 x.wy]
def nAt (l:List Nte) (i:Nat):Nte:=l.getD i default
def Z9Z {l:List Nte} {i:Nat} (h:i<l.length):nAt l i=l[i]:=by simp[nAt,W0j,h]
def cN1 (x:Nte):Bool:=inR x.nu 1 9999&&inR x.dy 0 14610
def cN2 (x:Nte):Bool:=decide (x.sg<=2)&&decide (x.wy<=3)
def cN3 (x:Nte):Bool:=inR x.fr 1 999&&inR x.tu 1 999&&decide (x.fr<=x.tu)
def cN4 (r:Jr) (x:Nte):Bool:=if x.dr=0/\x.lt=0 then !decide (x.ca=0) else (findN x.dr x.lt r).isSome
def cN5 (x:Nte):Bool:=decide (2<=x.lt)||(!x.up&&decide (x.wy=0))
def cN6 (l:List Nte) (i:Nat) (x:Nte):Bool:=decide (x.ca=0)||(l.take i).any λy=>decide (y.nu=x.ca)
def cN7 (l:List Nte) (i:Nat) (x:Nte):Bool:=!(l.take i).any λy=>decide (y.nu=x.nu)
def cN8 (l:List Nte):Nat->Nte->Bool
 |0,_=>true
 |i+1,x=>decide ((nAt l i).dy<x.dy)||(decide ((nAt l i).dy=x.dy)&&decide ((nAt l i).nu<x.nu))
def noteB (r:Jr) (l:List Nte) (i:Nat):Bool:=cN1 (nAt l i)&&cN2 (nAt l i)&&cN3 (nAt l i)&&cN4 r (nAt l i)&&cN5 (nAt l i)&&cN6 l i (nAt l i)&&cN7 l i (nAt l i)&&cN8 l i (nAt l i)
def opN (l:List Nte) (i:Nat):List Nte:=(l.take i).filter λx=>decide (x.sg=1)
def Za0 {l:List Nte} {i:Nat} (h:i<l.length):opN l (i+1)=if l[i].sg=1 then opN l i++[l[i]] else opN l i:=by
 unfold opN;rw[W08 h,W1a]
 split
 . rename_i e;rw[W2i (by simpa using e)];rfl
 . rename_i e;rw[W2j (by simpa using e)];simp
def Za1 (l:List Nte) (i:Nat):(opN l i).length<=i:=W0O (W0D _ _) (by simp;omega)
def Za2 (r:Jr) (l:List Nte):Bool:=decide (l.length<=12)&&(List.range l.length).all (noteB r l)&&decide ((opN l l.length).length<=5)
def chN (r:Jr) (l:List Nte):Int:=if openV r=0 then if Za2 r l=true then 0 else 30 else openV r
def opU (l:List Nte):List Int:=(opN l l.length).map (·.nu)
def truB (l:List Nte) (s:List Int):Bool:=(List.range s.length).all λi=>decide (s.getD i 0∈opU l)&&(i == 0||decide (s.getD (i-1) 0<s.getD i 0))
def asN (r:Jr) (l:List Nte) (s:List Int) (m:Int):Int:=if chN r l=0 then if truB l s=true then if inR m 1 999=true then 0 else 2 else 31 else chN r l
def bsF (s w:List Int) (m:Int) (x:Nte):Bool:=(decide (x.sg=2)||decide (x.nu∈s)) && !decide (x.nu∈w)&&inR m x.fr x.tu
def gcL {α:Type} (p:α->Bool) (h:α->α->Bool):List α->List Bool
 |[]=>[]
 |x::l=>(p x && !((l.zip (gcL p h l)).any λq=>q.2&&h x q.1))::gcL p h l
section
variable {α:Type} {p:α->Bool} {h:α->α->Bool} {l:List α}
def Za3:∀ l:List α,(gcL p h l).length=l.length
 |[]=>rfl
 |x::l=>by simp[gcL,Za3 l]
def Za4:∀ (l:List α) (i:Nat),(gcL p h l).drop i=gcL p h (l.drop i)
 |[],i=>by simp[gcL]
 |x::l,0=>rfl
 |x::l,i+1=>by simp only[gcL,W1D];exact Za4 l i
def gcB (p:α->Bool) (h:α->α->Bool) (l:List α) (i:Nat):Bool:=(gcL p h l).getD i false
def gwB (p:α->Bool) (h:α->α->Bool) (l:List α) (x:α) (i k:Nat):Bool:=p x && !((((l.zip (gcL p h l)).take k).drop (i+1)).any λq=>q.2&&h x q.1)
def Za5 {i:Nat} (hi:i<l.length):gcB p h l i=gwB p h l l[i] i l.length:=by
 have e1:l.drop i=l[i]::l.drop (i+1):=W0x hi;have e2:=Za4 (p:=p) (h:=h) l i;have e4:=Za4 (p:=p) (h:=h) l (i+1);rw[e1,gcL]at e2
 have e3:(gcL p h l)[i]? = some (p l[i] && !(((l.drop (i+1)).zip (gcL p h (l.drop (i+1)))).any λq=>q.2&&h l[i] q.1)):=by
  have:=congrArg (λq=>q[0]?) e2;simp only[W13,W1X,W2h]at this;exact this
 have e5:((l.zip (gcL p h l)).take l.length).drop (i+1)=(l.drop (i+1)).zip (gcL p h (l.drop (i+1))):=by
  rw[W0J (by simp[Za3])];show List.drop (i+1) (List.zipWith Prod.mk l (gcL p h l))=List.zipWith Prod.mk (l.drop (i+1)) (gcL p h (l.drop (i+1)));rw[List.drop_zipWith,e4]
 rw[gcB,W0j,e3,W0P,gwB,e5]
def Za6 {x:α} {i:Nat}:gwB p h l x i (i+1)=p x:=by
 rw[gwB,W1j (by simp;omega)];simp
def Za7 {x:α} {i k:Nat} (hi:i<k) (hk:k<l.length):gwB p h l x i (k+1)=(gwB p h l x i k && !(gcB p h l k&&h x l[k])):=by
 have hz:k<(l.zip (gcL p h l)).length:=(by simp[Za3,hk]);have hf:k<(gcL p h l).length:=by rw[Za3];exact hk
 have e:(l.zip (gcL p h l))[k]=(l[k],gcB p h l k):=by
  rw[List.getElem_zip]
  congr 1
  rw[gcB,W0j,W07 hf];rfl
 rw[gwB,gwB,W08 hz,List.drop_append_of_le_length (by simp[Za3];omega),List.any_append,e];simp only[List.any_cons,List.any_nil,Bool.or_false,Bool.not_or,Bool.and_assoc]
end
def fB (s w:List Int) (m:Int) (l:List Nte) (i:Nat):Bool:=gcB (bsF s w m) (λx y=>decide (y.ca=x.nu)) l i
def WfN (l:List Nte):Prop:=Sml l/\∀ x∈l,0<=x.sg/\x.sg<=255/\0<=x.wy/\x.wy<=255
abbrev Jl:=List Nte
def sortI (l:List Int):List Int:=l.mergeSort λa b=>decide (a<=b)
def SrtI (l:List Int):Prop:=l.Pairwise λx y=>x<=y
def Za8 (l:List Int):(sortI l).Perm l:=List.mergeSort_perm l _
def Za9 (l:List Int):SrtI (sortI l):=by
 have:=List.pairwise_mergeSort (le:=λa b:Int=>decide (a<=b)) (λa b c=>by simp;omega) (λa b=>by simp;omega) l;exact this.imp (by simp)
def Zaa {a b:List Int} (p:a.Perm b) (ha:SrtI a) (hb:SrtI b):a=b :=
 List.Perm.eq_of_pairwise (le:=λx y:Int=>x<=y) (λx y _ _ h1 h2=>by omega) ha hb p
def Zab {l s:List Int} (p:s.Perm l) (hs:SrtI s):sortI l=s:=Zaa ((Za8 l).trans p.symm) (Za9 l) hs
def Zac (l:List Int):(sortI l).length=l.length:=(Za8 l).length_eq
def Zad {l:List Int} {x:Int}:x∈sortI l↔x∈l:=(Za8 l).mem_iff
def srtI (l:List Int) (a b:Nat):List Int:=l.take a++(sortI ((l.take b).drop a)++l.drop b)
def Zae {l:List Int} {a b:Nat} (h1:a<=b) (h2:b<=a+1):srtI l a b=l:=by
 have e:sortI ((l.take b).drop a)=(l.take b).drop a:=by
  generalize hq:(l.take b).drop a=q;have hl:q.length<=1:=by rw[<- hq];simp;omega
  match q,hl with
  |[],_=>simp[sortI]
  |[x],_=>simp[sortI]
 have e2:l.take a=(l.take b).take a:=(by rw[List.take_take,Nat.min_eq_left h1]);rw[srtI,e,<- W0U,e2,W11,W11]
def mvI (l:List Int) (a i p:Nat):List Int :=
 l.take a++((sortI ((l.take i).drop a)).take p++(l.getD i 0::((sortI ((l.take i).drop a)).drop p++l.drop (i+1))))
def Zaf {l:List Int} {a i:Nat} (h:i<=l.length):(sortI ((l.take i).drop a)).length=i-a:=by rw[Zac];simp;omega
def Zag {l:List Int} {a i:Nat} (h1:a<=i) (h2:i<l.length):srtI l a i=mvI l a i (i-a):=by
 have e:=Zaf (l:=l) (a:=a) (i:=i) (by omega);rw[mvI,srtI,W0x h2];generalize sortI ((l.take i).drop a)=s at *;rw[W0J (by omega:s.length<=i-a),W1j (by omega:s.length<=i-a)];simp[W0j,h2]
def Zah {l:List Int} {a i p:Nat} (h1:a<=i) (h2:i<l.length) (h3:p<=i-a):(mvI l a i p).length=l.length:=by
 have e:=Zaf (l:=l) (a:=a) (i:=i) (by omega);simp[mvI,e];omega
def Zai {α:Type} (D C:List α) (y x:α) (n:Nat) (h:n=D.length):((D++y::x::C).set (n+1) y).set n x=D++x::y::C:=by
 subst h;rw[W24 _ _ (by omega),W24 _ _ (by omega)];simp
def Zaj {l:List Int} {a i p:Nat} (h1:a<=i) (h2:i<l.length) (h3:p+1<=i-a) :
  ∃ y,(sortI ((l.take i).drop a))[p]? = some y/\(mvI l a i (p+1))[a+p+1]? = some l[i]/\(mvI l a i (p+1))[a+p]? = some y/\((mvI l a i (p+1)).set (a+p+1) y).set (a+p) l[i]=mvI l a i p/\y∈l:=by
 have e:=Zaf (l:=l) (a:=a) (i:=i) (by omega);have hm:∀ y∈sortI ((l.take i).drop a),y∈l:=λy hy=>W1r (W1S (Zad.1 hy))
 unfold mvI;generalize sortI ((l.take i).drop a)=s at *;have hp:p<s.length:=(by omega);have ta:(l.take a).length=a:=(by simp;omega);have e1:s.take (p+1)=s.take p++[s[p]]:=W08 hp;have e2:s.drop p=s[p]::s.drop (p+1):=W0x hp;have e3:l.getD i 0=l[i]:=(by simp[W0j,h2]);have tp:(s.take p).length=p:=(by simp;omega);refine ⟨s[p],by simp[hp],?_,?_,?_,hm _ (W0e hp)⟩
 . rw[e1,e3,W0o (by omega),ta,W0o (by simp;omega)];have:a+p+1-a-(s.take p++[s[p]]).length=0:=(by simp;omega);rw[this];rfl
 . rw[e1,W0o (by omega),ta,W0U,W0o (by omega),tp];have:a+p-a-p=0:=(by omega);rw[this];rfl
 . rw[e1,e2,e3,W0U];have q:=Zai (l.take a++s.take p) (s.drop (p+1)++l.drop (i+1)) s[p] l[i] (a+p) (by simp;omega);simp only[W0U,W1e,W18]at q ⊢;exact q
def Zak {l:List Int} {a i p:Nat} (h1:a<=i) (h2:i<l.length) (h3:p<=i-a)
  (hd:∀ y∈(sortI ((l.take i).drop a)).drop p,l[i]<y) (hc:∀ q,p=q+1->∀ y,(sortI ((l.take i).drop a))[q]? = some y->¬l[i]<y):mvI l a i p=srtI l a (i+1):=by
 have e:=Zaf (l:=l) (a:=a) (i:=i) (by omega);have e3:l.getD i 0=l[i]:=by simp[W0j,h2]
 have e4:(l.take (i+1)).drop a=(l.take i).drop a++[l[i]]:=by
  rw[W08 h2,List.drop_append_of_le_length (by simp;omega)]
 have hs:=Za9 ((l.take i).drop a);have hp:=Za8 ((l.take i).drop a);rw[srtI,mvI,e3];rw[Zab (l:=(l.take (i+1)).drop a) (s:=(sortI ((l.take i).drop a)).take p++l[i]::(sortI ((l.take i).drop a)).drop p) ]
 . simp[W0U]
 . rw[e4];refine List.perm_middle.trans ?_;rw[W11];exact (List.perm_cons _).2 hp |>.trans (List.perm_append_singleton _ _).symm
 . generalize sortI ((l.take i).drop a)=s at *;have hs2:=hs;unfold SrtI at hs ⊢;rw[<- W11 p s,W28]at hs;obtain ⟨t1,t2,t3⟩:=hs;rw[W28];refine ⟨t1,W1l.2 ⟨λy hy=>by have:=hd y hy;omega,t2⟩,λu hu v hv=>?_⟩;rcases W0g.1 hv with rfl|hv
   . match p,hc,h3 with
     |0,_,_=>simp at hu
     | q + 1,hc,h3 =>
       have hq:q<s.length:=(by omega);have hc2:=hc q rfl s[q] (by simp[hq]);obtain ⟨j,hj,rfl⟩:=W0k hu;rw[W1V];have hjq:j<=q:=(by simp at hj;omega);rcases W0q j q with hl|hg
       . have:=W0Y.1 hs2 j q (by omega) hq hl;omega
       . have:j=q:=(by omega);subst this;omega
   . exact t3 u hu v hv
structure Hld where
 id:Int
 fr:Int
 to:Int
 ds:List Int
structure Prt where
 no:Int
 dy:Int
 ho:Int
 dw:Int
 lt:Int
 bk:Int
 lo:Int
deriving DecidableEq
def hoa (h:Hld):List AV:=[.int .i64 h.id,.int .i64 h.fr,.int .i64 h.to,.vsl (h.ds.map ia)]
def ptA (x:Prt):List AV:=[.int .i64 x.no,.int .i64 x.dy,.int .i64 x.ho,.int .i64 x.dw,.int .i64 x.lt,.int .i64 x.bk,.int .u8 x.lo]
def outB (x:Prt) (day:Int):Bool:=decide (x.dy<=day)&&(decide (x.bk = -1)||decide (day<x.bk)) && !decide (x.lo=2)
def Zal {a b:List Int} (ha:a.Pairwise (· < ·)) (hb:b.Pairwise (· < ·)) (h:∀ x,x∈a↔x∈b):a=b:=by
 have na:a.Nodup:=ha.imp λh=>Int.ne_of_lt h
 have nb:b.Nodup:=hb.imp λh=>Int.ne_of_lt h
 exact List.Perm.eq_of_pairwise (le:=λx y:Int=>x<y) (λx y _ _ h1 h2=>by omega) ha hb ((List.perm_ext_iff_of_nodup na nb).2 h)
def cmpG (p:Int):List Int->List Int
 |[]=>[]
 |x::t=>if x=p then cmpG p t else x::cmpG x t
def cmpI:List Int->List Int
 |[]=>[]
 |a::t=>a::cmpG a t
def Zam:∀ (l:List Int) (p:Int),SrtI (p::l)->(cmpG p l).Pairwise (· < ·)/\(∀ x∈cmpG p l,p<x)/\∀ x,x∈cmpG p l↔x∈l/\x≠p
 |[],p,_=>by simp[cmpG]
 | a :: t, p,h=>by
   have h1:SrtI (a::t):=(W1l.1 h).2;have h2:p<=a:=(W1l.1 h).1 a (W0H ..);unfold cmpG;by_cases e:a=p
   . rw[if_pos e];subst e;obtain ⟨g1,g2,g3⟩:=Zam t a h1;refine ⟨g1,g2,λx=>?_⟩;rw[g3]
     constructor
     . rintro ⟨q1,q2⟩;exact ⟨W0z _ q1,q2⟩
     . rintro ⟨q1,q2⟩;rcases W0g.1 q1 with q|q
       . exact absurd q q2
       . exact ⟨q,q2⟩
   . rw [if_neg e];obtain ⟨g1,g2,g3⟩:=Zam t a h1;have h3:p<a:=(by omega);refine ⟨W1l.2 ⟨λy hy=>g2 y hy,g1⟩,λx hx=>?_,λx=>?_⟩
     . rcases W0g.1 hx with rfl|hx
       . exact h3
       . have:=g2 x hx;omega
     . rw [W0g,W0g,g3]
       constructor
       . rintro (rfl | ⟨q1,q2⟩)
         . exact ⟨.inl rfl,e⟩
         . refine ⟨.inr q1,λq=>?_⟩;subst q;have:=(W1l.1 h1).1 x q1;omega
       . rintro ⟨q|q,q2⟩
         . exact .inl q
         . by_cases q3:x=a
           . exact .inl q3
           . exact .inr ⟨q,q3⟩
def Zan {l:List Int} (h:SrtI l):(cmpI l).Pairwise (· < ·):=by
 cases l with
 |nil=>exact .nil
 |cons a t=>exact W1l.2 ⟨(Zam t a h).2.1,(Zam t a h).1⟩
def Zao {l:List Int} (h:SrtI l) {x:Int}:x∈cmpI l↔x∈l:=by
 cases l with
 |nil=>rfl
 | cons a t =>
   show x∈a::cmpG a t↔_;rw[W0g,W0g,(Zam t a h).2.2];by_cases e:x=a <;> simp[e]
def setI (l:List Int):List Int:=cmpI (sortI l)
def Zap (l:List Int):(setI l).Pairwise (· < ·):=Zan (Za9 l)
def Zaq {l:List Int} {x:Int}:x∈setI l↔x∈l:=(Zao (Za9 l)).trans Zad
def Zar {l s:List Int} (hs:s.Pairwise (· < ·)) (h:∀ x,x∈s↔x∈l):setI l=s:=Zal (Zap l) hs λx=>Zaq.trans (h x).symm
def r9:List Int:=[0,1,2,3,4,5,6,7,8]
def Zas {x:Int}:x∈r9↔0<=x/\x<=8:=by simp[r9];omega
def r9_lt:r9.Pairwise (· < ·):=by decide
def Zat {l:List Int} (h:l.Pairwise (· < ·)) {s:Int} (hs:s∈l):l.drop (l.idxOf s)=s::l.filter λx=>decide (s<x):=by
 induction l with
 |nil=>cases hs
 | cons a t ih =>
   rw[W1l]at h;by_cases e:a=s
   . subst e;have q:t.filter (λx=>decide (a<x))=t:=List.filter_eq_self.2 λx hx=>by simpa using h.1 x hx
     simp[q]
   . have hs2:s∈t:=by
      rcases W0g.1 hs with q|q
      . exact absurd q.symm e
      . exact q
     have q:=h.1 s hs2;have e2:(a == s)=false:=(by simpa using e);rw[List.idxOf_cons,e2];simp only[cond_false,W1D];rw[ih h.2 hs2,List.filter_cons,if_neg (by simp;omega)]
def Zau {pp:List Int} {su:Int} (hp:∀ x∈pp,0<=x/\x<=8):(setI (pp++[su])).drop ((setI (pp++[su])).idxOf su)=su::r9.filter λn=>decide (su<n)&&pp.contains n:=by
 have hm:su∈setI (pp++[su]):=Zaq.2 (by simp);rw[Zat (Zap _) hm]
 congr 1
 refine Zal ((Zap _).filter _) (r9_lt.filter _) λx=>?_
 simp only[W0G,Zaq,W0h,W0B,W0b,W01,W0w,Zas]
 constructor
 . rintro ⟨q|q,q2⟩
   . exact ⟨hp x q,q2,q⟩
   . omega
 . rintro ⟨-,q2,q⟩;exact ⟨.inl q,q2⟩
abbrev Jh:=List Hld
abbrev Jp:=List Prt
def clP (x y:Prt):Bool:=decide (x.ho=y.ho)||decide (x.dw=y.dw)
def apD:List Prt->Nat->List Prt->Option (List Prt)
 |_,0,tk=>some tk
 |[],_+1,_=>none
 | x::t,m+1,tk=>if tk.any (clP x)=true then apD t (m+1) tk else match apD t m (tk++[x]) with
   |some o=>some o
   |none=>apD t (m+1) tk
def frP (x y:Prt):Prop:=clP x y=false
def Zav (x y:Prt):clP x y=clP y x:=by simp[clP,eq_comm]
def MfP (l:Jp) (m:Nat) (tk M:Jp):Prop:=M.Sublist l/\M.length=m/\M.Pairwise frP/\∀ x∈M,∀ y∈tk,frP x y
def Zaw:∀ {l:Jp} {m:Nat} {tk o:Jp},apD l m tk=some o->∃ M,o=tk++M/\MfP l m tk M
 | l,0,tk,o,h=>by
   have h:some tk=some o:=by cases l <;> exact h
   cases h
   exact ⟨[],by simp,List.nil_sublist _,rfl,.nil,by simp⟩
 |[],m+1,tk,o,h=>by cases h
 | x :: t,m+1,tk,o,h=>by
   unfold apD at h;by_cases e:tk.any (clP x)=true
   . rw[if_pos e]at h;obtain ⟨M,h1,h2,h3⟩:=Zaw h;exact ⟨M,h1,h2.cons _,h3⟩
   . rw [if_neg e]at h
     have free:∀ y∈tk,clP x y=false:=by
      intro y hy
      cases q:clP x y with
      |false=>rfl
      |true=>exact absurd (W14.2 ⟨y,hy,q⟩) e
     cases q:apD t m (tk++[x]) with
     | some o' =>
       rw[q]at h
       cases h
       obtain ⟨M,h1,h2,h3,h4,h5⟩:=Zaw q;refine ⟨x::M,by rw[h1];simp,h2.cons_cons _,by simp[h3],W1l.2 ⟨λy hy=>?_,h4⟩,?_⟩
       . have:=h5 y hy x (by simp);exact (Zav x y).trans this
       . intro z hz y hy;rcases W0g.1 hz with rfl|hz
         . exact free y hy
         . exact h5 z hz y (W0h.2 (.inl hy))
     | none =>
       rw[q]at h;obtain ⟨M,h1,h2,h3⟩:=Zaw h;exact ⟨M,h1,h2.cons _,h3⟩
def bitL (ids:List Int) (s:Nat):List Int:=((List.range ids.length).filter λi=>s.testBit i).map λi=>ids.getD i 0
def ndL (dl:List Int) (l:Jp) (a:List Int):List Int:=dl.filter λd=>l.any λx=>decide (x.dw=d) && !a.contains x.ho
def plN (ids dl:List Int) (l:Jp) (s:Nat):List Int×List Int:=(bitL ids s,ndL dl l (bitL ids s))
def lexB:List Int->List Int->Bool
 |a::s,b::t=>if a=b then lexB s t else decide (a<b)
 |_,_=>false
def bfr (a b:List Int):Bool:=if a.length=b.length then lexB a b else decide (a.length<b.length)
def szP (p:List Int×List Int):Nat:=p.1.length+p.2.length
def btB (p q:List Int×List Int):Bool:=decide (szP p<szP q)||(decide (szP p=szP q)&&bfr p.1 q.1)
def caN (ids dl:List Int) (l:Jp):Nat->List Int×List Int
 |0=>plN ids dl l 0
 |s+1=>if btB (plN ids dl l (s+1)) (caN ids dl l s)=true then plN ids dl l (s+1) else caN ids dl l s
def caE (ids dl:List Int) (l:Jp):List Int×List Int:=caN ids dl l (2 ^ ids.length-1)
def Zax (ids dl:List Int) (l:Jp):∀ n,∃ s,s<=n/\caN ids dl l n=plN ids dl l s
 |0=>⟨0,W0f _,rfl⟩
 | n + 1=>by
   unfold caN
   split
   . exact ⟨n+1,W0f _,rfl⟩
   . obtain ⟨s,h1,h2⟩:=Zax ids dl l n;exact ⟨s,by omega,h2⟩
def Zay (ids dl:List Int) (l:Jp):∃ s,s<2 ^ ids.length/\caE ids dl l=plN ids dl l s:=by
 obtain ⟨s,h1,h2⟩:=Zax ids dl l (2 ^ ids.length-1);have:=Nat.two_pow_pos ids.length;exact ⟨s,by omega,h2⟩
section
open Qq Tryz
def Zaz:RCode :=
 S [r 0 [w 6 (.alloc [O,O,.int .u8 0,O,O,O,O,O,.bool false,.int .u8 0])],S [r 1 [m 9 0,w 10 (.nilck (.t 9)),f 11 0 10,f 12 1 11,l 13 12,e 14 13,k 15 .sub 14 I,m 7 15],.block 0 (.loop (S [S [r 2 [m 16 7,k 17 .geq 16 O],.cond (.t 17) .skip (.exit 0)],.block 1 (S [r 4 [m 20 0,w 21 (.nilck (.t 20)),f 22 0 21,f 23 1 22,l 24 23,m 25 7,i 26 10 24 25,L 27 10 26,w 8 (.alloc [O,O,.int .u8 0,O,O,O,O,O,.bool false,.int .u8 0]),s 10 8 27],r 5 [f 28 3 8,l 29 28,m 30 2,o 31 .eql 29 30,m 32 31,g 32 true (m 33 1),g 32 true (m 34 7),g 32 true (w 35 (.callv (.t 33) [.t 34])),v 36 32 35],K 36 6 [L 37 10 8,s 10 6 37]]),r 3 [m 18 7,k 19 .sub 18 I,m 7 19]]))],r 7 [w 38 (.build [O,O,.int .u8 0,O,O,O,O,O,.bool false,.int .u8 0] [(4,1,.c I)]),s 10 6 38],.ret]
def ZaA:List RRes:=[.c 6 true 10]
def ZaB {G:Jg} {objs objs':List (Nat×AObj)} {args:List AV} {v:AV} (hn:args.length<=f113.ntmps) (h:∀ R:Run,R.G=G->R.Top->AR prog R Zaz ⟨iniT 0 args,objs⟩ (FinB ZaA v objs')):PB prog G 113 objs args v objs' :=
 PB_of func113 rfl (by kernel_rfl) (rc:=Zaz) (by kernel_rfl) (rs:=ZaA) (by kernel_rfl) hn (λR _ hG hr=>h R hG hr)
end
section
open Qq Tryz
end
def Chk (S:St) (Q:Prop) (Φ:Exit->St->Prop):Exit->St->Prop
 |.normal,s=>Ym s S/\Q
 |.ret,s=>Φ .ret s
 |_,_=>False
section
variable {P:Program} {R:Run} {S s:St} {Q:Prop} {Φ:Exit->St->Prop}
def ZaC:Chk S Q Φ .normal s=(Ym s S/\Q):=rfl
def ZaD:Chk S Q Φ .ret s=Φ .ret s:=rfl
attribute [simp] ZaC ZaD
def ZaE {a b:RCode} {st S:St} {Φ:Exit->St->Prop} (h:AR P R a st λe s=>e = .normal/\Ym s S) (hb:AR P R b S Φ):AR P R (.seq a b) st Φ :=
 Z1M (Z2I h λe s hs=>by obtain ⟨rfl,hw⟩:=hs;exact Z2Q hw hb)
end
section
open Qq Tryz
def ZaF:RCode :=
 S [r 0 [b 3 0,b 4 1,n 6 (.bool false)],r 1 [m 7 2,w 8 (.mkf (.func 182) [] [.t 3,.t 4]),c 9 85 [7,8],t 10 9,m 6 10],.ret]
def ZaG:List RRes:=[.t 6]
def ZaH:PCt prog 163 f163 ZaF ZaG:=pcT func163 rfl
def ZaI:RCode :=
 S [r 0 [n 4 (.bool false)],r 1 [m 5 0,l 6 1,o 7 .lss 5 6,m 8 7,g 8 false (m 9 0),g 8 false (l 10 2),g 8 false (o 11 .gtr 9 10),u 12 8 11,m 4 12],.ret]
def ZaJ:List RRes:=[.t 4]
def ZaK:PCt prog 182 f182 ZaI ZaJ:=pcT func182 rfl
def ZaL:RCode :=
 S [r 0 [b 2 0,n 4 (.bool false)],r 1 [f 5 1 2,l 6 5,m 7 1,i 8 10 6 7,f 9 0 8,l 10 9,w 11 (.bsl false 1 1 [O] [(0,.t 10)]),w 12 (.call 163 [.c I,.c (.int .i64 9999),.t 11]),m 13 12,g 13 true (f 14 1 2),g 13 true (l 15 14),g 13 true (m 16 1),g 13 true (i 17 10 15 16),g 13 true (f 18 1 17),g 13 true (l 19 18),g 13 true (w 20 (.bsl false 1 1 [O] [(0,.t 19)])),g 13 true (w 21 (.call 163 [.c O,.c (.int .i64 14610),.t 20])),v 22 13 21,m 4 22],.ret]
def ZaM:List RRes:=[.t 4]
def ZaN:PCt prog 237 f237 ZaL ZaM:=pcT func237 rfl
def ZaO:RCode :=
 S [r 0 [b 2 0,n 4 (.bool false)],r 1 [f 5 1 2,l 6 5,m 7 1,i 8 10 6 7,f 9 2 8,l 10 9,k 11 .leq 10 (.int .u8 2),m 12 11,g 12 true (f 13 1 2),g 12 true (l 14 13),g 12 true (m 15 1),g 12 true (i 16 10 14 15),g 12 true (f 17 9 16),g 12 true (l 18 17),g 12 true (k 19 .leq 18 (.int .u8 3)),v 20 12 19,m 4 20],.ret]
def ZaP:List RRes:=[.t 4]
def ZaQ:PCt prog 238 f238 ZaO ZaP:=pcT func238 rfl
def ZaR:RCode :=
 S [r 0 [b 2 0,n 4 (.bool false)],r 1 [f 6 1 2,l 7 6,m 8 1,i 9 10 7 8,L 10 10 9,w 5 (.alloc [O,O,.int .u8 0,O,O,O,O,O,.bool false,.int .u8 0]),s 10 5 10],r 2 [f 11 5 5,l 12 11,f 13 6 5,l 14 13,w 15 (.bsl false 1 2 [O,O] [(0,.t 12),(1,.t 14)]),w 16 (.call 163 [.c I,.c (.int .i64 999),.t 15]),m 17 16,g 17 true (f 18 5 5),g 17 true (l 19 18),g 17 true (f 20 6 5),g 17 true (l 21 20),g 17 true (o 22 .leq 19 21),v 23 17 22,m 4 23],.ret]
def ZaS:List RRes:=[.t 4]
def ZaT:PCt prog 239 f239 ZaR ZaS:=pcT func239 rfl
def ZaU:RCode :=
 S [r 0 [b 2 0,n 4 (.bool false)],r 1 [f 8 1 2,l 9 8,m 10 1,i 11 10 9 10,L 12 10 11,w 5 (.alloc [O,O,.int .u8 0,O,O,O,O,O,.bool false,.int .u8 0]),s 10 5 12],S [r 2 [w 13 (.build [O,O] []),f 14 3 5,l 15 14,f 16 4 5,l 17 16,w 18 (.build [O,O] [(0,1,.t 15),(1,1,.t 17)]),w 19 (.eqs false [.i,.i] (.t 13) (.t 18))],K 19 3 [f 20 7 5,l 21 20,k 22 .neq 21 O,m 4 22]],r 4 [f 24 0 2,L 25 1 24,f 26 3 5,l 27 26,f 28 4 5,l 29 28,w 30 (.build [O,O] [(0,1,.t 27),(1,1,.t 29)]),c 31 241 [25,30],m 23 31,x 32 0 23,x 33 1 23,w 6 (.alloc [O,O,.int .u8 0,.nils,.nils]),s 5 6 32,m 7 33],r 5 [m 34 7,k 35 .eql 34 O,m 4 35],.ret]
def ZaV:List RRes:=[.t 4]
def ZaW:PCt prog 240 f240 ZaU ZaV:=pcT func240 rfl
def ZaX:RCode :=
 S [r 0 [b 2 0,n 4 (.bool false)],r 1 [f 6 1 2,l 7 6,m 8 1,i 9 10 7 8,L 10 10 9,w 5 (.alloc [O,O,.int .u8 0,O,O,O,O,O,.bool false,.int .u8 0]),s 10 5 10],r 2 [f 11 4 5,l 12 11,k 13 .geq 12 (.int .i64 2),m 14 13,g 14 false (f 15 8 5),g 14 false (l 16 15),g 14 false (t 17 16),g 14 false (m 18 17),g 18 true (f 19 9 5),g 18 true (l 20 19),g 18 true (k 21 .eql 20 (.int .u8 0)),g 14 false (v 22 18 21),u 23 14 22,m 4 23],.ret]
def ZaY:List RRes:=[.t 4]
def ZaZ:PCt prog 242 f242 ZaX ZaY:=pcT func242 rfl
def Zb0:RCode :=
 S [r 0 [b 2 0,n 4 (.bool false)],r 1 [f 6 1 2,l 7 6,m 8 1,i 9 10 7 8,L 10 10 9,w 5 (.alloc [O,O,.int .u8 0,O,O,O,O,O,.bool false,.int .u8 0]),s 10 5 10],r 2 [f 11 7 5,l 12 11,k 13 .eql 12 O,m 14 13,g 14 false (f 15 1 2),g 14 false (l 16 15),g 14 false (m 17 1),g 14 false (w 18 (.slc 10 (.t 16) none (some (.t 17)))),g 14 false (w 19 (.mkf (.func 245) [] [.t 5])),g 14 false (c 20 244 [18,19]),u 21 14 20,m 4 21],.ret]
def Zb1:List RRes:=[.t 4]
def Zb2:PCt prog 243 f243 Zb0 Zb1:=pcT func243 rfl
def Zb3:RCode :=
 S [r 0 [b 2 0,n 3 (.bool false)],r 1 [f 4 0 2,l 5 4,f 6 7 1,l 7 6,o 8 .eql 5 7,m 3 8],.ret]
def Zb4:List RRes:=[.t 3]
def Zb5:PCt prog 245 f245 Zb3 Zb4:=pcT func245 rfl
def Zb6:RCode :=
 S [r 0 [b 2 0,b 3 1,n 4 (.bool false)],r 1 [f 5 1 2,l 6 5,l 7 3,w 8 (.slc 10 (.t 6) none (some (.t 7))),w 9 (.mkf (.func 247) [] [.t 2,.t 3]),c 10 244 [8,9],t 11 10,m 4 11],.ret]
def Zb7:List RRes:=[.t 4]
def Zb8:PCt prog 246 f246 Zb6 Zb7:=pcT func246 rfl
def Zb9:RCode :=
 S [r 0 [b 3 0,n 4 (.bool false)],R 1 [f 5 0 3,a [0] (l 6 5),f 7 1 1,a [2] (l 8 7),l 9 2,a [3,4] (i 10 10 8 9),a [5] (f 11 0 10),a [6] (l 12 11),a [1,7] (o 13 .eql 6 12),a [8,0,1,2,3,4,5,6,7,8] (m 4 13)],.ret]
def Zba:List RRes:=[.t 4]
def Zbb:PCt prog 247 f247 Zb9 Zba:=pcT func247 rfl
def Zbc:RCode :=
 S [r 0 [b 2 0,n 4 (.bool false)],R 1 [m 5 1,a [0] (k 6 .eql 5 O),a [1] (m 7 6),a [2] (g 7 false (f 8 1 2)),a [3,2] (g 7 false (l 9 8)),a [2] (g 7 false (m 10 1)),a [5,2] (g 7 false (k 11 .sub 10 I)),a [4,6,2] (g 7 false (i 12 10 9 11)),a [7,2] (g 7 false (f 13 1 12)),a [8,2] (g 7 false (l 14 13)),a [2] (g 7 false (f 15 1 2)),a [10,2] (g 7 false (l 16 15)),a [2] (g 7 false (m 17 1)),a [11,12,2] (g 7 false (i 18 10 16 17)),a [13,2] (g 7 false (f 19 1 18)),a [14,2] (g 7 false (l 20 19)),a [9,15,2,2] (g 7 false (c 21 107 [14,20])),a [2] (g 7 false (f 22 1 2)),a [17,2] (g 7 false (l 23 22)),a [2] (g 7 false (m 24 1)),a [19,2] (g 7 false (k 25 .sub 24 I)),a [18,20,2] (g 7 false (i 26 10 23 25)),a [21,2] (g 7 false (f 27 0 26)),a [22,2] (g 7 false (l 28 27)),a [2] (g 7 false (f 29 1 2)),a [24,2] (g 7 false (l 30 29)),a [2] (g 7 false (m 31 1)),a [25,26,2] (g 7 false (i 32 10 30 31)),a [27,2] (g 7 false (f 33 0 32)),a [28,2] (g 7 false (l 34 33)),a [23,29,16,2] (g 7 false (c 35 107 [28,34])),a [16,30,2] (g 7 false (w 36 (.bsl false 1 2 [O,O] [(0,.t 21),(1,.t 35)]))),a [31,30,2] (g 7 false (c 37 151 [36])),a [32,2] (g 7 false (k 38 .lss 37 O)),a [2,33] (u 39 7 38),a [34,32,0,1,2,3,4,5,6,7,8,9,10,11,12,13,14,15,16,17,18,19,20,21,22,23,24,25,26,27,28,29,30,31,32,33,34] (m 4 39)],.ret]
def Zbd:List RRes:=[.t 4]
def Zbe:PCt prog 248 f248 Zbc Zbd:=pcT func248 rfl
def Zbf:RCode :=
 S [r 0 [b 1 0,n 2 .nilp,n 3 O],.scope (S [r 1 [f 13 0 1,L 14 1 13,c 15 131 [14],m 12 15,x 16 0 12,x 17 1 12,m 4 16,m 5 17],S [r 2 [m 18 5,k 19 .neq 18 O],K 19 3 [m 20 5,n 2 .nilp,m 3 20]],S [r 4 [f 21 1 1,l 22 21,e 23 22,k 24 .gtr 23 (.int .i64 12)],K 24 5 [n 2 .nilp,n 3 (.int .i64 30)]],r 6 [L 25 2 1,m 26 4,w 27 (.build [.nils,.nils,.nils,.nils] [(0,2,.t 25),(2,1,.t 26)]),b 28 27,m 6 28],r 7 [n 7 (.bool false)],(.label 0),S [r 8 [f 29 1 1,l 30 29,e 31 30,n 32 O],.block 0 (.loop (S [r 9 [o 33 .lss 32 31],.cond (.t 33) .skip (.exit 0),.block 1 (S [r 10 [m 34 32,i 35 10 30 32,L 36 10 35,w 9 (.alloc [O,O,.int .u8 0,O,O,O,O,O,.bool false,.int .u8 0]),m 8 34,s 10 9 36],S [r 11 [w 37 (.load true 8 (.g 0)),n 38 O],.block 2 (.loop (S [r 12 [k 39 .lss 38 (.int .i64 8)],.cond (.t 39) .skip (.exit 2),.block 3 (S [r 13 [w 40 (.vop (.aidx true 8 1) [(.t 37),(.t 38)]),w 11 (.alloc [.nilf]),s 1 11 40],r 14 [f 41 0 11,l 42 41,L 43 2 1,m 44 8,w 45 (.callv (.t 42) [.t 43,.t 44]),t 46 45],.cond (.t 46) (S [r 15 [n 7 (.bool true)],.exit 0]) .skip]),r 16 [k 47 .add 38 I,m 38 47]]))],r 17 [f 48 2 9,l 49 48,k 50 .eql 49 (.int .u8 1)],.cond (.t 50) (R 18 [m 51 6,m 52 6,a [1] (w 53 (.nilck (.t 52))),a [2] (f 54 3 53),a [3] (l 55 54),f 56 0 9,a [5] (l 57 56),a [6] (w 58 (.bsl false 1 1 [O] [(0,.t 57)])),a [4,7] (w 59 (.app 1 8 (.t 55) (.t 58))),a [0,0,1,2,3,4,5,6,7,8] (w 60 (.nilck (.t 51))),a [9,0,1,2,3,4,5,6,7,8] (f 61 3 60),a [10,8,8,0,1,2,3,4,5,6,7,8] (s 1 61 59)]) .skip]),r 19 [k 62 .add 32 I,m 32 62]]))],S [r 20 [m 63 7,m 64 63,g 64 false (m 65 6),g 64 false (w 66 (.nilck (.t 65))),g 64 false (f 67 3 66),g 64 false (l 68 67),g 64 false (e 69 68),g 64 false (k 70 .gtr 69 (.int .i64 5)),u 71 64 70],K 71 21 [n 2 .nilp,n 3 (.int .i64 30)]],r 22 [m 72 6,w 73 (.nilck (.t 72)),f 74 3 73,l 75 74,c 76 115 [75]],r 23 [m 77 6,m 2 77,n 3 O],.ret])]
def Zbg:List RRes:=[.t 2,.t 3]
def Zbh:PCt prog 119 f119 Zbf Zbg:=pcT func119 rfl
def Zbi:RCode :=
 S [r 0 [b 1 0,n 2 O],r 1 [L 6 2 1,c 7 119 [6],m 5 7,x 8 0 5,x 9 1 5,m 3 8,m 4 9],r 2 [m 10 4,m 2 10],.ret]
def Zbj:List RRes:=[.t 2]
def Zbk:PCt prog 130 f130 Zbi Zbj:=pcT func130 rfl
def Zbl:RCode :=
 S [r 0 [n 4 O],r 1 [w 10 (.mkmap),m 5 10],S [r 2 [m 11 0,w 12 (.nilck (.t 11)),f 13 3 12,l 14 13,e 15 14,n 16 O],.block 0 (.loop (S [r 3 [o 17 .lss 16 15],.cond (.t 17) .skip (.exit 0),.block 1 (S [r 4 [i 18 1 14 16,l 19 18,m 7 19],r 5 [m 20 5,m 21 7,z (.mupd (.i .i64) (.t 20) (.t 21) (.c (.bool true)))]]),r 6 [k 22 .add 16 I,m 16 22]]))],S [r 7 [m 23 1,e 24 23,n 25 O],.block 2 (.loop (S [r 8 [o 26 .lss 25 24],.cond (.t 26) .skip (.exit 2),.block 3 (S [r 9 [m 27 25,i 28 1 23 25,l 29 28,m 8 27,m 9 29],S [r 10 [m 30 5,m 31 9,w 32 (.look (.i .i64) (.bool false) false (.t 30) (.t 31)),t 33 32,m 34 33,g 34 false (m 35 8),g 34 false (k 36 .gtr 35 O),g 34 false (m 37 36),g 37 true (m 38 1),g 37 true (m 39 8),g 37 true (k 40 .sub 39 I),g 37 true (i 41 1 38 40),g 37 true (l 42 41),g 37 true (m 43 9),g 37 true (o 44 .gtr 42 43),g 34 false (v 45 37 44),u 46 34 45],K 46 11 [n 4 (.int .i64 31)]],r 12 [m 47 5,m 48 9,z (.mdel (.i .i64) (.t 47) (.t 48))]]),r 13 [k 49 .add 25 I,m 25 49]]))],r 14 [n 4 O],.ret]
def Zbm:List RRes:=[.t 4]
def Zbn:PCt prog 166 f166 Zbl Zbm:=pcT func166 rfl
def Zbo:RCode :=
 S [r 0 [b 3 0,n 6 .nilp,n 7 O],r 1 [L 12 2 3,c 13 119 [12],m 11 13,x 14 0 11,x 15 1 11,m 8 14,m 9 15],S [r 2 [m 16 9,k 17 .neq 16 O],K 17 3 [m 18 9,n 6 .nilp,m 7 18]],S [r 4 [m 19 8,m 20 1,c 21 166 [19,20],m 10 21],r 5 [m 22 10,k 23 .neq 22 O],K 23 6 [m 24 10,n 6 .nilp,m 7 24]],S [r 7 [m 25 2,w 26 (.bsl false 1 1 [O] [(0,.t 25)]),w 27 (.call 163 [.c I,.c (.int .i64 999),.t 26]),t 28 27],K 28 8 [n 6 .nilp,n 7 (.int .i64 2)]],r 9 [m 29 8,m 6 29,n 7 O],.ret]
def Zbp:List RRes:=[.t 6,.t 7]
def Zbq:PCt prog 117 f117 Zbo Zbp:=pcT func117 rfl
def Zbr:RCode :=
 S [r 0 [b 4 0,b 5 1,b 6 2,b 7 3,n 8 .nilf],r 1 [w 11 (.mkmap),w 9 (.alloc [.nilm]),s 1 9 11],r 2 [w 10 (.alloc [.nilf])],r 3 [w 12 (.mkf (.func 162) [] [.t 9,.t 4,.t 5,.t 6,.t 7,.t 10]),s 1 10 12],r 4 [l 13 10,m 8 13],.ret]
def Zbs:List RRes:=[.t 8]
def Zbt:RCode :=
 S [r 0 [n 8 (.bool false)],S [r 1 [l 15 1,m 16 0,w 17 (.look (.i .i64) (.bool false) true (.t 15) (.t 16)),m 14 17,x 18 0 14,x 19 1 14,m 9 18,m 10 19],r 2 [m 20 10],K 20 3 [m 21 9,m 8 21]],r 4 [l 22 2,w 23 (.nilck (.t 22)),f 24 0 23,f 25 1 24,l 26 25,m 27 0,i 28 10 26 27,L 29 10 28,w 11 (.alloc [O,O,.int .u8 0,O,O,O,O,O,.bool false,.int .u8 0]),s 10 11 29],r 5 [f 30 2 11,l 31 30,k 32 .eql 31 (.int .u8 2),m 33 32,g 33 false (l 34 3),g 33 false (f 35 0 11),g 33 false (l 36 35),g 33 false (c 37 87 [34,36]),u 38 33 37,m 39 38,g 39 true (l 40 4),g 39 true (f 41 0 11),g 39 true (l 42 41),g 39 true (c 43 87 [40,42]),g 39 true (t 44 43),v 45 39 44,m 46 45,g 46 true (f 47 5 11),g 46 true (l 48 47),g 46 true (f 49 6 11),g 46 true (l 50 49),g 46 true (l 51 5),g 46 true (w 52 (.bsl false 1 1 [O] [(0,.t 51)])),g 46 true (c 53 163 [48,50,52]),v 54 46 53,m 12 54],S [r 6 [m 55 0,k 56 .add 55 I,m 13 56],.block 0 (.loop (S [S [r 7 [m 57 12,m 58 57,g 58 true (m 59 13),g 58 true (l 60 2),g 58 true (w 61 (.nilck (.t 60))),g 58 true (f 62 0 61),g 58 true (f 63 1 62),g 58 true (l 64 63),g 58 true (e 65 64),g 58 true (o 66 .lss 59 65),v 67 58 66],.cond (.t 67) .skip (.exit 0)],.block 1 (R 9 [l 70 2,a [0] (w 71 (.nilck (.t 70))),a [1] (f 72 0 71),a [2] (f 73 1 72),a [3] (l 74 73),m 75 13,a [4,5] (i 76 10 74 75),a [6] (f 77 7 76),a [7] (l 78 77),f 79 0 11,a [9] (l 80 79),a [8,10] (o 81 .neq 78 80),a [11] (m 82 81),a [12] (g 82 false (l 83 6)),a [12] (g 82 false (m 84 13)),a [13,14,12,12] (g 82 false (w 85 (.callv (.t 83) [.t 84]))),a [15,12] (g 82 false (t 86 85)),a [12,16] (u 87 82 86),a [17,15,0,1,2,3,4,5,6,7,8,9,10,11,12,13,14,15,16,17] (m 12 87)]),r 8 [m 68 13,k 69 .add 68 I,m 13 69]]))],r 10 [l 88 1,m 89 0,m 90 12,z (.mupd (.i .i64) (.t 88) (.t 89) (.t 90))],r 11 [m 91 12,m 8 91],.ret]
def Zbu:List RRes:=[.t 8]
def Zbv {G:Jg} {objs objs':List (Nat×AObj)} {args:List AV} {v:AV} (hn:args.length<=f162.ntmps) (h:∀ R:Run,R.G=G->R.Top->AR prog R Zbt ⟨iniT 0 args,objs⟩ (FinB Zbu v objs')):PB prog G 162 objs args v objs' :=
 PB_of func162 rfl (by kernel_rfl) (rc:=Zbt) (by kernel_rfl) (rs:=Zbu) (by kernel_rfl) hn (λR _ hG hr=>h R hG hr)
def Zbw:RCode :=
 S [r 0 [n 4 (.bool false)],r 1 [m 5 0,m 6 1,c 7 123 [5,6],k 8 .geq 7 O,m 4 8],.ret]
def Zbx:List RRes:=[.t 4]
def Zby:PCt prog 244 f244 Zbw Zbx:=pcT func244 rfl
def Zbz:RCode :=
 S [r 0 [n 4 O],S [r 1 [m 6 0,e 7 6,n 8 O],.block 0 (.loop (S [r 2 [o 9 .lss 8 7],.cond (.t 9) .skip (.exit 0),.block 1 (S [r 3 [m 10 8,m 5 10],r 4 [m 11 1,m 12 0,m 13 5,i 14 10 12 13,L 15 10 14,w 16 (.callv (.t 11) [.t 15])],K 16 5 [m 17 5,m 4 17]]),r 6 [k 18 .add 8 I,m 8 18]]))],r 7 [n 4 (.int .i64 (-1))],.ret]
def ZbA:List RRes:=[.t 4]
def ZbB:PCt prog 123 f123 Zbz ZbA:=pcT func123 rfl
def ZbC:RCode :=
 S [r 0 [n 4 (.bool false)],r 1 [m 5 0,m 6 1,c 7 129 [5,6],k 8 .geq 7 O,m 4 8],.ret]
def ZbD:List RRes:=[.t 4]
def ZbE:PCt prog 87 f87 ZbC ZbD:=pcT func87 rfl
def ZbF:RCode :=
 S [r 0 [n 4 O],S [r 1 [m 6 0,e 7 6,n 8 O],.block 0 (.loop (S [r 2 [o 9 .lss 8 7],.cond (.t 9) .skip (.exit 0),.block 1 (S [r 3 [m 10 8,m 5 10],r 4 [m 11 1,m 12 0,m 13 5,i 14 1 12 13,l 15 14,o 16 .eql 11 15],K 16 5 [m 17 5,m 4 17]]),r 6 [k 18 .add 8 I,m 8 18]]))],r 7 [n 4 (.int .i64 (-1))],.ret]
def ZbG:List RRes:=[.t 4]
def ZbH:PCt prog 129 f129 ZbF ZbG:=pcT func129 rfl
def ZbI:RCode :=
 S [r 0 [m 3 0,e 4 3,m 2 4],r 1 [m 5 0,m 6 2,m 7 2,w 8 (.conv .u64 (.t 7)),c 9 165 [8],w 10 (.call 164 [.t 5,.c O,.t 6,.t 9])]]
def ZbJ:List RRes:=[]
def ZbK:PCt prog 115 f115 ZbI ZbJ:=pcT func115 rfl
def ZbL {G:Jg} {objs objs':List (Nat×AObj)} {args:List AV} {v:AV} (hn:args.length<=f115.ntmps) (h:∀ R:Run,R.G=G->R.Top->AR prog R ZbI ⟨iniT 0 args,objs⟩ (FinB ZbJ v objs')):PB prog G 115 objs args v objs' :=
 PB_of func115 rfl (by kernel_rfl) (rc:=ZbI) (by kernel_rfl) (rs:=ZbJ) (by kernel_rfl) hn (λR _ hG hr=>h R hG hr)
def ZbM:RCode :=
 S [r 0 [n 8 (.bool true)],r 1 [n 9 (.bool true)],.block 0 (.loop (.block 1 (S [r 2 [m 19 2,m 20 1,o 21 .sub 19 20,m 10 21],S [r 3 [m 22 10,k 23 .leq 22 (.int .i64 12)],K 23 4 [m 24 0,m 25 1,m 26 2,c 27 183 [24,25,26]]],S [r 5 [m 28 3,k 29 .eql 28 O],K 29 6 [m 30 0,m 31 1,m 32 2,c 33 184 [30,31,32]]],S [r 7 [m 34 8,t 35 34],.cond (.t 35) (S [r 8 [m 36 0,m 37 1,m 38 2,c 39 185 [36,37,38]],r 9 [m 40 3,k 41 .sub 40 I,m 3 41]]) .skip],r 10 [m 43 0,m 44 1,m 45 2,c 46 186 [43,44,45],m 42 46,x 47 0 42,x 48 1 42,m 11 47,m 12 48],S [r 11 [m 49 12,k 50 .eql 49 (.int .i64 2)],.cond (.t 50) (S [r 12 [m 51 0,m 52 1,m 53 2,c 54 187 [51,52,53]],r 13 [m 55 2,k 56 .sub 55 I,m 57 11,m 58 1,o 59 .sub 57 58,o 60 .sub 56 59,m 11 60],r 14 [n 12 I]]) .skip],S [r 15 [m 61 8,m 62 61,g 62 true (m 63 9),v 64 62 63,m 65 64,g 65 true (m 66 12),g 65 true (k 67 .eql 66 I),v 68 65 67],.cond (.t 68) (S [r 16 [m 69 0,m 70 1,m 71 2,c 72 188 [69,70,71]],.cond (.t 72) .ret .skip]) .skip],S [R 17 [m 73 1,a [0] (k 74 .gtr 73 O),a [1] (m 75 74),a [2] (g 75 true (m 76 0)),a [2] (g 75 true (m 77 1)),a [4,2] (g 75 true (k 78 .sub 77 I)),a [3,5,2] (g 75 true (i 79 1 76 78)),a [6,2] (g 75 true (l 80 79)),a [2] (g 75 true (m 81 0)),a [2] (g 75 true (m 82 11)),a [8,9,2] (g 75 true (i 83 1 81 82)),a [10,2] (g 75 true (l 84 83)),a [7,11,2,2] (g 75 true (c 85 189 [80,84])),a [12,2] (g 75 true (t 86 85)),a [2,13] (v 87 75 86)],.cond (.t 87) (S [r 18 [m 88 0,m 89 1,m 90 2,m 91 11,c 92 190 [88,89,90,91],m 13 92],r 19 [m 93 13,m 1 93],.exit 1]) .skip],r 20 [m 95 0,m 96 1,m 97 2,m 98 11,c 99 191 [95,96,97,98],m 94 99,x 100 0 94,x 101 1 94,m 14 100,m 15 101],r 21 [m 102 15,m 9 102],r 22 [m 103 14,m 104 1,o 105 .sub 103 104,m 106 2,m 107 14,o 108 .sub 106 107,m 16 105,m 17 108],r 23 [m 109 10,k 110 .quo 109 (.int .i64 8),m 18 110],r 24 [m 111 16,m 112 17,o 113 .lss 111 112],.cond (.t 113) (S [r 25 [m 114 16,m 115 18,o 116 .geq 114 115,m 8 116],r 26 [m 117 0,m 118 1,m 119 14,m 120 3,c 121 164 [117,118,119,120]],r 27 [m 122 14,k 123 .add 122 I,m 1 123]]) (S [r 28 [m 124 17,m 125 18,o 126 .geq 124 125,m 8 126],r 29 [m 127 0,m 128 14,k 129 .add 128 I,m 130 2,m 131 3,c 132 164 [127,129,130,131]],r 30 [m 133 14,m 2 133]])])))]
def ZbN:List RRes:=[]
def ZbO:PCt prog 164 f164 ZbM ZbN:=pcT func164 rfl
def ZbP {G:Jg} {objs objs':List (Nat×AObj)} {args:List AV} {v:AV} (hn:args.length<=f164.ntmps) (h:∀ R:Run,R.G=G->R.Top->AR prog R ZbM ⟨iniT 0 args,objs⟩ (FinB ZbN v objs')):PB prog G 164 objs args v objs' :=
 PB_of func164 rfl (by kernel_rfl) (rc:=ZbM) (by kernel_rfl) (rs:=ZbN) (by kernel_rfl) hn (λR _ hG hr=>h R hG hr)
def ZbQ:RCode :=
 S [r 0 [m 8 1,k 9 .add 8 I,m 6 9],.block 0 (.loop (S [S [r 1 [m 10 6,m 11 2,o 12 .lss 10 11],.cond (.t 12) .skip (.exit 0)],.block 1 (S [r 3 [m 15 6,m 7 15],.block 2 (.loop (S [S [R 4 [m 16 7,m 17 1,a [0,1] (o 18 .gtr 16 17),a [2] (m 19 18),a [3] (g 19 true (m 20 0)),a [3] (g 19 true (m 21 7)),a [4,5,3] (g 19 true (i 22 1 20 21)),a [6,3] (g 19 true (l 23 22)),a [3] (g 19 true (m 24 0)),a [3] (g 19 true (m 25 7)),a [9,3] (g 19 true (k 26 .sub 25 I)),a [8,10,3] (g 19 true (i 27 1 24 26)),a [11,3] (g 19 true (l 28 27)),a [7,12,3,3] (g 19 true (c 29 189 [23,28])),a [3,13] (v 30 19 29)],.cond (.t 30) .skip (.exit 2)],.block 3 (R 6 [m 33 0,m 34 7,m 35 0,m 36 7,a [3] (k 37 .sub 36 I),m 38 0,m 39 7,a [6] (k 40 .sub 39 I),a [5,7] (i 41 1 38 40),a [8] (l 42 41),m 43 0,m 44 7,a [10,11] (i 45 1 43 44),a [12] (l 46 45),a [0,1,0,1,5,6,7,8,9,13] (i 47 1 33 34),a [14,9,0,1,5,6,7,8,9,13] (s 1 47 42),a [2,4,0,1,2,3,4,5,6,7,8,9,10,11,12,13,14,15] (i 48 1 35 37),a [16,13,15,0,1,2,3,4,5,6,7,8,9,10,11,12,13,14,15] (s 1 48 46)]),r 5 [m 31 7,k 32 .sub 31 I,m 7 32]]))]),r 2 [m 13 6,k 14 .add 13 I,m 6 14]]))]
def ZbR:List RRes:=[]
def ZbS:PCt prog 183 f183 ZbQ ZbR:=pcT func183 rfl
def ZbT {G:Jg} {objs objs':List (Nat×AObj)} {args:List AV} {v:AV} (hn:args.length<=f183.ntmps) (h:∀ R:Run,R.G=G->R.Top->AR prog R ZbQ ⟨iniT 0 args,objs⟩ (FinB ZbR v objs')):PB prog G 183 objs args v objs' :=
 PB_of func183 rfl (by kernel_rfl) (rc:=ZbQ) (by kernel_rfl) (rs:=ZbR) (by kernel_rfl) hn (λR _ hG hr=>h R hG hr)
def ZbU:RCode :=
 S [r 0 [n 2 O],r 1 [n 3 O],S [r 2 [m 6 0,e 7 6,n 8 O],.block 0 (.loop (S [r 3 [o 9 .lss 8 7],.cond (.t 9) .skip (.exit 0),.block 1 (S [r 4 [i 10 1 6 8,l 11 10,m 5 11],r 5 [m 12 5,m 13 3,o 14 .neq 12 13],K 14 6 [m 15 5,m 2 15]]),r 7 [k 16 .add 8 I,m 8 16]]))],r 8 [m 17 3,m 2 17],.ret]
def ZbV:List RRes:=[.t 2]
def ZbW:PCt prog 151 f151 ZbU ZbV:=pcT func151 rfl
def ZbX:RCode :=
 S [r 0 [n 2 O],.cond (.c (.bool false)) (S [r 1 [m 3 0,w 4 (.conv .u32 (.t 3)),c 5 192 [4],m 2 5],.ret]) .skip,r 2 [m 6 0,c 7 193 [6],m 2 7],.ret]
def ZbY:List RRes:=[.t 2]
def ZbZ:PCt prog 165 f165 ZbX ZbY:=pcT func165 rfl
def Zc0:RCode :=
 S [r 0 [n 2 O],S [r 1 [m 3 0,k 4 .geq 3 (.int .u64 4294967296)],.cond (.t 4) (S [r 2 [m 5 0,w 6 (.vop (.sh false) [(.t 5),(.c (.int .u64 32))]),m 0 6],r 3 [n 2 (.int .i64 32)]]) .skip],S [r 4 [m 7 0,k 8 .geq 7 (.int .u64 65536)],.cond (.t 8) (S [r 5 [m 9 0,w 10 (.vop (.sh false) [(.t 9),(.c (.int .u64 16))]),m 0 10],r 6 [m 11 2,k 12 .add 11 (.int .i64 16),m 2 12]]) .skip],S [r 7 [m 13 0,k 14 .geq 13 (.int .u64 256)],.cond (.t 14) (S [r 8 [m 15 0,w 16 (.vop (.sh false) [(.t 15),(.c (.int .u64 8))]),m 0 16],r 9 [m 17 2,k 18 .add 17 (.int .i64 8),m 2 18]]) .skip],r 10 [m 19 2,m 20 0,w 21 (.conv .u8 (.t 20)),w 22 (.vop .sidx [(.c (.str ⟨#[0,1,2,2,3,3,3,3,4,4,4,4,4,4,4,4,5,5,5,5,5,5,5,5,5,5,5,5,5,5,5,5,6,6,6,6,6,6,6,6,6,6,6,6,6,6,6,6,6,6,6,6,6,6,6,6,6,6,6,6,6,6,6,6,7,7,7,7,7,7,7,7,7,7,7,7,7,7,7,7,7,7,7,7,7,7,7,7,7,7,7,7,7,7,7,7,7,7,7,7,7,7,7,7,7,7,7,7,7,7,7,7,7,7,7,7,7,7,7,7,7,7,7,7,7,7,7,7,8,8,8,8,8,8,8,8,8,8,8,8,8,8,8,8,8,8,8,8,8,8,8,8,8,8,8,8,8,8,8,8,8,8,8,8,8,8,8,8,8,8,8,8,8,8,8,8,8,8,8,8,8,8,8,8,8,8,8,8,8,8,8,8,8,8,8,8,8,8,8,8,8,8,8,8,8,8,8,8,8,8,8,8,8,8,8,8,8,8,8,8,8,8,8,8,8,8,8,8,8,8,8,8,8,8,8,8,8,8,8,8,8,8,8,8,8,8,8,8,8,8,8,8,8,8,8,8]⟩)),(.t 21)]),w 23 (.conv .i64 (.t 22)),o 24 .add 19 23,m 2 24],.ret]
def Zc1:List RRes:=[.t 2]
def Zc2:PCt prog 193 f193 Zc0 Zc1:=pcT func193 rfl
end
def Zc3 (l:Jr):(l.map isa).all (λr=>r.all AV.pure)=true:=by simp[isa,AV.pure]
def Zc4 (x:Iss) (h1:Sml x.its) (h2:Sml x.dms):PC prog G 250 [.agg (isa x)] (.agg (isa x)):=by
 have p1:(x.its.map ita).all (λr=>r.all AV.pure)=true:=(by simp[ita,AV.pure]);have p2:(x.dms.map dma).all (λr=>r.all AV.pure)=true:=by simp[dma,AV.pure]
 (refine Z7p rfl λR hG hrd=>Qga ?_;subst hG)
 by_cases e1:x.its=[] <;> by_cases e2:x.dms=[]
 . simp -implicitDefEqProofs[Z7n,Z7o,isa,e1,e2];refine Z2T.of Z9s (by simp) ?_;simp -implicitDefEqProofs;refine Z2T.of Z9t (by simp) ?_;simp -implicitDefEqProofs;exact rfl
 . simp -implicitDefEqProofs[Z7n,Z7o,isa,e1];refine Z2T.of Z9s (by simp) ?_;simp -implicitDefEqProofs;refine Z2T.new (Z9r _ e2 h2) (by simp) (by simp[lk,St.get]) ?_;simp -implicitDefEqProofs[p2];exact rfl
 . simp -implicitDefEqProofs[Z7n,Z7o,isa,e2];refine Z2T.new (Z9q _ e1 h1) (by simp) (by simp[lk,St.get]) ?_;simp -implicitDefEqProofs;refine Z2T.of Z9t (by simp) ?_;simp -implicitDefEqProofs[p1];exact rfl
 . simp -implicitDefEqProofs[Z7n,Z7o,isa];refine Z2T.new (Z9q _ e1 h1) (by simp) (by simp[lk,St.get]) ?_;simp -implicitDefEqProofs;refine Z2T.new (Z9r _ e2 h2) (by simp) (by simp[lk,St.get]) ?_;simp -implicitDefEqProofs[p1,p2];exact rfl
def at_pc (hG:GC G) (r:Jr) (d l:Int) (h:Wf r):PC prog G 241 [rega r,.agg [.int .i64 d,.int .i64 l]] (.tup [.agg (isa (atP r d l).1),.int .i64 (atP r d l).2]):=by
 by_cases e:openV r=0
 case neg =>
  refine PC.nzR (v:=.tup [.agg [.int .i64 0,.int .i64 0,.int .u8 0,.nils,.nils],.int .i64 (openV r)]) ?_ (by simp[nz,atP,e,zI,isa])
  (refine Z7B rfl λR hG hrd=>Qga ?_;subst hG)
  simp -implicitDefEqProofs[Z7z,Z7A,rega];refine Qco (Z9y hG r h) ?_;simp -implicitDefEqProofs[openA,e]
 have hL:=Z9z e;have hO:=Z7Y hL
 cases hf:findN d l r with
 | none =>
   refine PC.nzR (v:=.tup [.agg [.int .i64 0,.int .i64 0,.int .u8 0,.nils,.nils],.int .i64 6]) ?_ (by simp[nz,atP,e,hf,zI,isa])
   (refine Z7B rfl λR hG hrd=>Qga ?_;subst hG)
   simp -implicitDefEqProofs[Z7z,Z7A,rega];refine Qco (Z9y hG r h) ?_;simp -implicitDefEqProofs[openA,e];refine Qco (Z8Z r (nums r) d l (Z9C hO) h.1.1 (Z9E hL)) ?_;simp -implicitDefEqProofs[hf,fndA,noIs]
 | some x =>
   have ev:atP r d l=(x,0):=(by simp[atP,e,hf]);have hx:=h.1.2 x (Z88 hf).1;have ex:isa x=[.int .i64 x.d,.int .i64 x.l,.int .u8 x.k,.vsl (x.its.map ita),.vsl (x.dms.map dma)]:=rfl;have cp:=Zc4 (G:=G) x hx.1 hx.2;rw[ev];rw[ex]at cp
   (refine Z7B rfl λR hG hrd=>Qga ?_;subst hG)
   simp -implicitDefEqProofs[Z7z,Z7A,rega];refine Qco (Z9y hG r h) ?_;simp -implicitDefEqProofs[openA,e];refine Qco (Z8Z r (nums r) d l (Z9C hO) h.1.1 (Z9E hL)) ?_;simp -implicitDefEqProofs[hf,fndA,ex];refine Qco (cp) ?_;simp -implicitDefEqProofs[ex]
theorem  Zc5 (n lo hi:Int):PC prog G 182 [.int .i64 n,.vptr [.int .i64 lo] 0,.vptr [.int .i64 hi] 0] (.bool (!inR n lo hi)):=by
 (refine ZaK rfl λR hG hrd=>Qga ?_;subst hG)
 by_cases h1:n<lo
 . have h2:¬lo<=n:=(by omega);simp -implicitDefEqProofs[ZaI,ZaJ,h1,h2,inR]
 . have h2:lo<=n:=(by omega);by_cases h3:hi<n
   . have h4:¬n<=hi:=(by omega);simp -implicitDefEqProofs[ZaI,ZaJ,h1,h2,h3,h4,inR]
   . have h4:n<=hi:=(by omega);simp -implicitDefEqProofs[ZaI,ZaJ,h1,h2,h3,h4,inR]
theorem  Zc6 (lo hi:Int) (l:List Int) (hl:Sml l):PC prog G 163 [.int .i64 lo,.int .i64 hi,.vsl (l.map ia)] (.bool (l.all λn=>inR n lo hi)):=by
 (refine ZaH rfl λR hG hrd=>Qga ?_;subst hG)
 simp -implicitDefEqProofs[ZaF,ZaG]
 (first|refine Yd.flat (Z8d 182 [.vptr [.int .i64 lo] 0,.vptr [.int .i64 hi] 0] (λn=>!inR n lo hi) l (by simp[AV.pure]) hl (λn _=>Zc5 n lo hi)) (by simp[AV.flat]) (by simp) ?_|refine Ye.flat (Z8d 182 [.vptr [.int .i64 lo] 0,.vptr [.int .i64 hi] 0] (λn=>!inR n lo hi) l (by simp[AV.pure]) hl (λn _=>Zc5 n lo hi)) (by simp[AV.flat]) (by simp) ?_)
 have e:(!l.any λn=>!inR n lo hi)=l.all λn=>inR n lo hi:=by simp[W2k]
 simp -implicitDefEqProofs[e]
theorem  Zc7 (lo hi n:Int):PC prog G 163 [.int .i64 lo,.int .i64 hi,.vsl [[.int .i64 n]]] (.bool (inR n lo hi)):=by
 have h:=Zc6 (G:=G) lo hi [n] (by simp[Sml]);simpa [ia] using h
theorem  Zc8 (lo hi n m:Int):PC prog G 163 [.int .i64 lo,.int .i64 hi,.vsl [[.int .i64 n],[.int .i64 m]]] (.bool (inR n lo hi&&inR m lo hi)):=by
 have h:=Zc6 (G:=G) lo hi [n,m] (by simp[Sml]);simpa [ia] using h
theorem  Zc9 (g:Nat) (caps:List AV) (p:Nte->Bool) (l:Jl) (hc:caps.all AV.pure=true) (hl:Sml l)
  (hg:∀ x∈l,PC prog G g (.agg (na x)::caps) (.bool (p x))) :
  PC prog G 123 [.vsl (l.map na),.func (.func g) [] caps] (.int .i64 (fstOf p l)):=by
 (refine ZbB rfl λR hG hrd=>Qga ?_;subst hG)
 unfold Sml at hl;have hc2:∀ x∈caps,x.pure=true:=W03.1 hc;simp -implicitDefEqProofs[Zbz,ZbA];refine Z7K (λi=>⟨[(8,.int .i64 i),(7,.int .i64 l.length),(0,.vsl (l.map na)),(1,.func (.func g) [] caps)],[]⟩) (λi=>∀ j (h:j<l.length),j<i->p l[j]=false) l.length (by (first|exact Wka|exact Wkb)) (by simp) ?_ ?_
 . intro i hi he;refine Qga ?_;have w1:i64.wrap ((i:Int)+1)=((i+1:Nat):Int):=Yf;have hgi:=hg _ (W0e hi);have hln:(na l[i]).length=10:=rfl;have htk:(na l[i]).take 10=na l[i]:=rfl;simp -implicitDefEqProofs[hi,hln,htk];refine Yd.of hgi (by simpa [AV.pure,na] using hc2) ?_
   cases h3:p l[i]
   . simp -implicitDefEqProofs[w1];refine ⟨(by (first|exact Wka|exact Wkb)),λj q1 q2=>?_⟩;by_cases e:j=i
     . subst e;exact h3
     . exact he j q1 (by omega)
   . simp -implicitDefEqProofs;refine Qgr ?_;simp -implicitDefEqProofs[Z89 hi h3 he]
 . intro he;refine Qga ?_;simp -implicitDefEqProofs;refine Qgr ?_;simp -implicitDefEqProofs[Z8a (p:=p) (l:=l) (λj hj=>he j hj hj)]
theorem  Zca (g:Nat) (caps:List AV) (p:Nte->Bool) (l:Jl) (hc:caps.all AV.pure=true) (hl:Sml l)
  (hg:∀ x∈l,PC prog G g (.agg (na x)::caps) (.bool (p x))) :
  PC prog G 244 [.vsl (l.map na),.func (.func g) [] caps] (.bool (l.any p)):=by
 (refine Zby rfl λR hG hrd=>Qga ?_;subst hG)
 simp -implicitDefEqProofs[Zbw,Zbx];have hc2:∀ x∈caps,x.pure=true:=W03.1 hc;refine Yd.of (Zc9 g caps p l hc hl hg) (by simpa [AV.pure] using hc2) ?_;have e:=Z8b p l;simp -implicitDefEqProofs[e]
theorem  Zcb (a b:Int):PC prog G 151 [.vsl [[.int .i64 a],[.int .i64 b]]] (.int .i64 (if a=0 then b else a)):=by
 (refine ZbW rfl λR hG hrd=>Qga ?_;subst hG)
 simp -implicitDefEqProofs[ZbU,ZbV];refine Z7K (λi=>⟨[(8,.int .i64 i),(7,.int .i64 2),(6,.vsl [[.int .i64 a],[.int .i64 b]]),(3,.int .i64 0)],[]⟩) (λi=>(0<i->a=0)/\(1<i->b=0)) 2 (by (first|exact Wka|exact Wkb)) (by simp) ?_ ?_
 . intro i hi he;refine Qga ?_
   match i,hi,he with
   | 0,_,_ =>
     have w1:i64.wrap 1=1:=rfl;by_cases h:a=0
     . simp -implicitDefEqProofs[h,w1]
       (first|exact Wka|exact Wkb)
     . simp -implicitDefEqProofs[h];refine Qgr ?_;simp -implicitDefEqProofs[h]
   | 1,_,he =>
     have h0:=he.1 (by omega);have w1:i64.wrap 2=2:=rfl;by_cases h:b=0
     . simp -implicitDefEqProofs[h,w1];exact ⟨(by (first|exact Wka|exact Wkb)),h0⟩
     . simp -implicitDefEqProofs[h];refine Qgr ?_;simp -implicitDefEqProofs[h,h0]
 . rintro ⟨h0,h1⟩;refine Qga ?_;have e0:=h0 (by omega);have e1:=h1 (by omega);simp -implicitDefEqProofs;refine Qgr ?_;simp -implicitDefEqProofs[e0,e1]
theorem  Zcc (x y:Nte):PC prog G 245 [.agg (na y),.vptr (na x) 0] (.bool (decide (y.nu=x.ca))):=by
 (refine Zb5 rfl λR hG hrd=>Qga ?_;subst hG)
 simp -implicitDefEqProofs[Zb3,Zb4,na]
section
variable (r:Jr) (l:Jl) (i:Nat) (hi:i<l.length) (hw:WfN l) (hr:Wf r)
include hi hw hr
theorem  Zcd:PC prog G 237 [.agg [.vsl (r.map isa),.vsl (l.map na)],.int .i64 i] (.bool (cN1 (nAt l i))):=by
 rw[Z9Z hi]
 (refine ZaN rfl λR hG hrd=>Qga ?_;subst hG)
 simp -implicitDefEqProofs[ZaL,ZaM,hi,na];refine Qco (Zc7 1 9999 l[i].nu) ?_
 cases h1:inR l[i].nu 1 9999
 . simp -implicitDefEqProofs[cN1,h1]
 simp -implicitDefEqProofs[hi,na];refine Qco (Zc7 0 14610 l[i].dy) ?_;simp -implicitDefEqProofs[cN1,h1]
theorem  Zce:PC prog G 238 [.agg [.vsl (r.map isa),.vsl (l.map na)],.int .i64 i] (.bool (cN2 (nAt l i))):=by
 rw[Z9Z hi]
 (refine ZaQ rfl λR hG hrd=>Qga ?_;subst hG)
 by_cases h1:l[i].sg<=2 <;> by_cases h2:l[i].wy<=3 <;> simp -implicitDefEqProofs[ZaO,ZaP,hi,na,cN2,h1,h2]
theorem  Zcf:PC prog G 239 [.agg [.vsl (r.map isa),.vsl (l.map na)],.int .i64 i] (.bool (cN3 (nAt l i))):=by
 rw[Z9Z hi]
 (refine ZaT rfl λR hG hrd=>Qga ?_;subst hG)
 simp -implicitDefEqProofs[ZaR,ZaS,hi,na];refine Qco (Zc8 1 999 l[i].fr l[i].tu) ?_
 cases h1:inR l[i].fr 1 999&&inR l[i].tu 1 999
 . simp -implicitDefEqProofs[cN3,h1]
 . by_cases h2:l[i].fr<=l[i].tu <;> simp -implicitDefEqProofs[cN3,h1,h2]
end
section
variable (hG:GC G) (r:Jr) (l:Jl) (i:Nat) (hi:i<l.length) (hw:WfN l) (hr:Wf r)
include hi hw hr
include hG in
theorem  Zcg (ho:openV r=0):PC prog G 240 [.agg [.vsl (r.map isa),.vsl (l.map na)],.int .i64 i] (.bool (cN4 r (nAt l i))):=by
 rw[Z9Z hi];have ha:=at_pc hG r l[i].dr l[i].lt hr;rw[rega]at ha;obtain ⟨x,hxx⟩:=Qex (l[i]);rw[<- hxx]at ha ⊢;have hlx:l[i]=x:=hxx.symm;have hna:na x=[.int .i64 x.nu,.int .i64 x.dy,.int .u8 x.sg,.int .i64 x.dr,.int .i64 x.lt,.int .i64 x.fr,.int .i64 x.tu,.int .i64 x.ca,.bool x.up,.int .u8 x.wy]:=rfl
 have he:(atP r x.dr x.lt).2=0↔(findN x.dr x.lt r).isSome=true:=by
  unfold atP;rw[if_pos ho]
  cases findN x.dr x.lt r <;> simp
 (refine ZaW rfl λR hG hrd=>Qga ?_;subst hG)
 by_cases hz:x.dr=0/\x.lt=0
 . simp -implicitDefEqProofs[ZaU,ZaV,hi,hlx,hna,hz.1,hz.2,cN4]
 . have hz1:¬(0=x.dr/\0=x.lt):=λh=>hz ⟨h.1.symm,h.2.symm⟩
   have e4:cN4 r x=decide ((atP r x.dr x.lt).2=0):=by
    rw[cN4,if_neg hz]
    cases q:(findN x.dr x.lt r).isSome
    . rw[eq_comm,W1b,he,q];simp
    . rw[eq_comm,W0b,he,q]
   rw[e4];have ey:isa (atP r x.dr x.lt).1=[.int .i64 (atP r x.dr x.lt).1.d,.int .i64 (atP r x.dr x.lt).1.l,.int .u8 (atP r x.dr x.lt).1.k,.vsl ((atP r x.dr x.lt).1.its.map ita),.vsl ((atP r x.dr x.lt).1.dms.map dma)]:=rfl;rw[ey]at ha;generalize atP r x.dr x.lt=v at *;by_cases q1:x.dr=0
   . have q2:¬x.lt=0:=λh=>hz ⟨q1,h⟩
     have q2':¬0=x.lt:=λh=>q2 h.symm
     rw[q1]at ha;simp -implicitDefEqProofs[ZaU,ZaV,hi,hlx,hna,q1,q2,q2'];refine Qco (ha) ?_;simp -implicitDefEqProofs
   . have q1':¬0=x.dr:=λh=>q1 h.symm
     simp -implicitDefEqProofs[ZaU,ZaV,hi,hlx,hna,q1,q1'];refine Qco (ha) ?_;simp -implicitDefEqProofs
theorem  Zch:PC prog G 242 [.agg [.vsl (r.map isa),.vsl (l.map na)],.int .i64 i] (.bool (cN5 (nAt l i))):=by
 rw[Z9Z hi]
 (refine ZaZ rfl λR hG hrd=>Qga ?_;subst hG)
 by_cases h1:2<=l[i].lt
 . simp -implicitDefEqProofs[ZaX,ZaY,hi,na,cN5,h1]
 . cases h2:l[i].up
   . by_cases h3:l[i].wy=0 <;> simp -implicitDefEqProofs[ZaX,ZaY,hi,na,cN5,h1,h2,h3]
   . simp -implicitDefEqProofs[ZaX,ZaY,hi,na,cN5,h1,h2]
theorem  Zci:PC prog G 243 [.agg [.vsl (r.map isa),.vsl (l.map na)],.int .i64 i] (.bool (cN6 l i (nAt l i))):=by
 have hl:=hw.1;unfold Sml at hl;rw[Z9Z hi];obtain ⟨x,hxx⟩:=Qex (l[i]);rw[<- hxx];have hlx:l[i]=x:=hxx.symm;have hna:na x=[.int .i64 x.nu,.int .i64 x.dy,.int .u8 x.sg,.int .i64 x.dr,.int .i64 x.lt,.int .i64 x.fr,.int .i64 x.tu,.int .i64 x.ca,.bool x.up,.int .u8 x.wy]:=rfl;have hc:=Zca (G:=G) 245 [.vptr (na x) 0] (λy=>decide (y.nu=x.ca)) (l.take i) (by simp[AV.pure,na]) (by unfold Sml;simp;omega) (λy _=>Zcc x y);have i1:i<=l.length:=(by omega);have bl:∀ x:Nte,(na x).length=10:=λ_=>rfl
 rw[List.map_take]at hc
 have pu:∀ x∈List.take i (List.map na l),∀ y∈x,y.pure=true:=λx hx y hy=>by
  obtain ⟨z,-,rfl⟩:=W0i.1 (W1r hx);simp only[na,W0g,W0Q,or_false]at hy;rcases hy with rfl|rfl|rfl|rfl|rfl|rfl|rfl|rfl|rfl|rfl <;> simp[AV.pure]
 (refine Zb2 rfl λR hG hrd=>Qga ?_;subst hG)
 by_cases h1:x.ca=0
 . simp -implicitDefEqProofs[Zb0,Zb1,hi,hlx,hna,cN6,h1]
 . simp -implicitDefEqProofs[Zb0,Zb1,hi,hlx,hna,cN6,h1,i1,bl];rw[hna]at hc;refine Yd.flat hc (by simp[AV.flat]) (by simp) ?_;simp -implicitDefEqProofs
theorem  Zcj:PC prog G 248 [.agg [.vsl (r.map isa),.vsl (l.map na)],.int .i64 i] (.bool (cN8 l i (nAt l i))):=by
 have hl:=hw.1;unfold Sml at hl
 cases i with
 | zero =>
   (refine Zbe rfl λR hG hrd=>Qga ?_;subst hG)
   simp -implicitDefEqProofs[Zbc,Zbd,cN8];rfl
 | succ k =>
   have hk:k<l.length:=(by omega);have w1:i64.wrap ((k:Int)+1-1)=(k:Int):=(by rw[Yf (by omega) (by omega)];omega);have w2:i64.wrap (k:Int)=(k:Int):=Yf;have i0:¬(k:Int)+1=0:=(by omega);have k1:(0:Int)<=(k:Int)+1:=(by omega);have k2:((k:Int)+1).toNat=k+1:=(by omega);have e8:cN8 l (k+1) (nAt l (k+1))=(decide (l[k].dy<l[k+1].dy)||(decide (l[k].dy=l[k+1].dy)&&decide (l[k].nu<l[k+1].nu))):=(by rw[cN8,Z9Z hk,Z9Z hi]);have hc1:=Z8P (G:=G) l[k].dy l[k+1].dy;have hc2:=Z8P (G:=G) l[k].nu l[k+1].nu;have hR:∀ a b:AV,(List.range 2).map (λi=>List.take 1 (List.drop i [a,b]))=[[a],[b]]:=λ_ _=>rfl
   obtain ⟨a,b,ha,hb,hv⟩ : ∃ a b:Int,(if l[k].dy<l[k+1].dy then (-1:Int) else if l[k+1].dy<l[k].dy then 1 else 0)=a/\(if l[k].nu<l[k+1].nu then (-1:Int) else if l[k+1].nu<l[k].nu then 1 else 0)=b/\decide ((if a=0 then b else a)<0)=(decide (l[k].dy<l[k+1].dy)||(decide (l[k].dy=l[k+1].dy)&&decide (l[k].nu<l[k+1].nu))):=by
    refine ⟨_,_,rfl,rfl,?_⟩;rcases Int.lt_trichotomy l[k].dy l[k+1].dy with q|q|q
    . simp[q]
    . rw[q];rcases Int.lt_trichotomy l[k].nu l[k+1].nu with q2|q2|q2
      . simp[q2]
      . rw[q2];simp
      . have:¬l[k].nu<l[k+1].nu:=(by omega);simp[q2,this]
    . have h1:¬l[k].dy<l[k+1].dy:=(by omega);have h2:¬l[k].dy=l[k+1].dy:=(by omega);simp[q,h1,h2]
   rw[ha]at hc1;rw[hb]at hc2;have ho:=Zcb (G:=G) a b;rw[e8,<- hv];clear hv;generalize (if a=0 then b else a)=c at *
   (refine Zbe rfl λR hG hrd=>Qga ?_;subst hG)
   simp -implicitDefEqProofs[Zbc,Zbd,hi,hk,w1,w2,i0,k1,k2,na];refine Qco (hc1) ?_;simp -implicitDefEqProofs[hi,hk,w1,w2,i0,k1,k2,na];refine Qco (hc2) ?_;simp -implicitDefEqProofs[hR];refine Qco (ho) ?_;simp -implicitDefEqProofs;rfl
theorem  Zck (y:Nte):PC prog G 247 [.agg (na y),.vptr [.vsl (r.map isa),.vsl (l.map na)] 0,.vptr [.int .i64 i] 0] (.bool (decide (y.nu=(nAt l i).nu))):=by
 rw[Z9Z hi]
 (refine Zbb rfl λR hG hrd=>Qga ?_;subst hG)
 simp -implicitDefEqProofs[Zb9,Zba,na,hi];rfl
theorem  Zcl:PC prog G 246 [.agg [.vsl (r.map isa),.vsl (l.map na)],.int .i64 i] (.bool (cN7 l i (nAt l i))):=by
 have hl:=hw.1;unfold Sml at hl;have hc:=Zca (G:=G) 247 [.vptr [.vsl (r.map isa),.vsl (l.map na)] 0,.vptr [.int .i64 i] 0] (λy=>decide (y.nu=(nAt l i).nu)) (l.take i) (by simp[AV.pure,isa,na]) (by unfold Sml;simp;omega) (λy _=>Zck r l i hi hw hr y);have i1:i<=l.length:=(by omega);have bl:∀ x:Nte,(na x).length=10:=λ_=>rfl
 rw[List.map_take]at hc
 have pu:∀ x∈List.take i (List.map na l),∀ y∈x,y.pure=true:=λx hx y hy=>by
  obtain ⟨z,-,rfl⟩:=W0i.1 (W1r hx);simp only[na,W0g,W0Q,or_false]at hy;rcases hy with rfl|rfl|rfl|rfl|rfl|rfl|rfl|rfl|rfl|rfl <;> simp[AV.pure]
 have pn:(l.map na).all (λr=>r.all AV.pure)=true:=(by simp[na,AV.pure]);have pi:=Zc3 r;have e7:cN7 l i (nAt l i) = !(l.take i).any λy=>decide (y.nu=(nAt l i).nu):=rfl
 rw[e7]
 (refine Zb8 rfl λR hG hrd=>Qga ?_;subst hG)
 simp -implicitDefEqProofs[Zb6,Zb7,i1,bl];refine Yd.flat hc (by simp[AV.flat]) (by simp[pn,pi]) ?_;simp -implicitDefEqProofs
end
def Zcm (ok:Nat->Bool) (st:St) (l:List Int):frzO ok st (.row 1 (l.map ia)) = .row 1 (l.map ia):=by
 simp only[frzO,W10]
 congr 2
 funext p;simp[ia,frzA,frz,AV.keys]
def Zcn (ρ:Nat->Nat) (l:List Int):AObj.ren ρ (.row 1 (l.map ia)) = .row 1 (l.map ia):=by
 simp only[AObj.ren,W10]
 congr 2
 funext p;simp[ia,AV.ren]
def Zco (o:List (Nat×AObj)) (l:List Int):Yc o (.row 1 (l.map ia))=true:=by
 simp only[Yc,W03,W0i];rintro x ⟨y,-,rfl⟩ v hv;simp only[ia,W0B]at hv;subst hv;simp[Ya,AV.keys]
def Zcp (S:ByteArray):RCode:=.seq (.reg 0 false [{ d:=some 2,op:=.mov (.c (.int .i64 0)) }]) (.seq (.seq (.reg 1 false [{ d:=some 3,op:=.mov (.t 0) },{ d:=some 4,op:=.bin .geq (.t 3) (.c (.int .u64 4294967296)) }]) (.cond (.t 4) (.seq (.reg 2 false [{ d:=some 5,op:=.mov (.t 0) },{ d:=some 6,op:=.vop (.sh false) [(.t 5),(.c (.int .u64 32))] },{ d:=some 0,op:=.mov (.t 6) }]) (.reg 3 false [{ d:=some 2,op:=.mov (.c (.int .i64 32)) }])) (.skip))) (.seq (.seq (.reg 4 false [{ d:=some 7,op:=.mov (.t 0) },{ d:=some 8,op:=.bin .geq (.t 7) (.c (.int .u64 65536)) }]) (.cond (.t 8) (.seq (.reg 5 false [{ d:=some 9,op:=.mov (.t 0) },{ d:=some 10,op:=.vop (.sh false) [(.t 9),(.c (.int .u64 16))] },{ d:=some 0,op:=.mov (.t 10) }]) (.reg 6 false [{ d:=some 11,op:=.mov (.t 2) },{ d:=some 12,op:=.bin .add (.t 11) (.c (.int .i64 16)) },{ d:=some 2,op:=.mov (.t 12) }])) (.skip))) (.seq (.seq (.reg 7 false [{ d:=some 13,op:=.mov (.t 0) },{ d:=some 14,op:=.bin .geq (.t 13) (.c (.int .u64 256)) }]) (.cond (.t 14) (.seq (.reg 8 false [{ d:=some 15,op:=.mov (.t 0) },{ d:=some 16,op:=.vop (.sh false) [(.t 15),(.c (.int .u64 8))] },{ d:=some 0,op:=.mov (.t 16) }]) (.reg 9 false [{ d:=some 17,op:=.mov (.t 2) },{ d:=some 18,op:=.bin .add (.t 17) (.c (.int .i64 8)) },{ d:=some 2,op:=.mov (.t 18) }])) (.skip))) (.seq (.reg 10 false [{ d:=some 19,op:=.mov (.t 2) },{ d:=some 20,op:=.mov (.t 0) },{ d:=some 21,op:=.conv .u8 (.t 20) },{ d:=some 22,op:=.vop .sidx [(.c (.str S)),(.t 21)] },{ d:=some 23,op:=.conv .i64 (.t 22) },{ d:=some 24,op:=.bin .add (.t 19) (.t 23) },{ d:=some 2,op:=.mov (.t 24) }]) (.ret))))) 
def Zcq (l:List Int) (a b:Nat) (h1:a<=b) (h2:b<=l.length) (h3:l.length<=1000) :
  PB prog G 183 [(1000,.row 1 (l.map ia))] [.osl 1000 l.length,.int .i64 a,.int .i64 b] (.tup []) [(1000,.row 1 ((srtI l a b).map ia))]:=by
 (refine ZbT (W0C rfl) λR hG hrd=>Qga ?_;subst hG)
 have w1:i64.wrap ((a:Int)+1)=a+1:=Yf;simp -implicitDefEqProofs[ZbQ,ZbR,w1];refine Z7K (λi=>⟨[(6,.int .i64 ((a:Int)+1+i)),(0,.osl 1000 l.length),(1,.int .i64 a),(2,.int .i64 b)],[(1000,.row 1 ((srtI l a (a+1+i)).map ia))]⟩) (λi=>True) (b-(a+1)) ?_ trivial ?_ ?_
 . rw[Zae (by omega) (by omega)]
   (refine Wkc ?_;simp only[Zco,Wkl,and_true];(try simp[lk,Yc,Ya,AV.keys]))
 . intro i hi _;refine Qga ?_;have k1:(a:Int)+1+i<b:=(by omega);simp -implicitDefEqProofs[k1];have hI:a+1+i<l.length:=(by omega);have z:=Zag (l:=l) (a:=a) (i:=a+1+i) (by omega) hI;have z0:a+1+i-a=i+1:=(by omega);rw[z0]at z;rw[z];have hat:=λp (hp:p+1<=a+1+i-a)=>Zaj (l:=l) (a:=a) (i:=a+1+i) (p:=p) (by omega) hI hp
   have hend:=λp=>Zak (l:=l) (a:=a) (i:=a+1+i) (p:=p) (by omega) hI
   have hln:=λp (hp:p<=a+1+i-a)=>Zah (l:=l) (a:=a) (i:=a+1+i) (p:=p) (by omega) hI hp
   have hsl:=Zaf (l:=l) (a:=a) (i:=a+1+i) (by omega);generalize hsg:sortI ((l.take (a+1+i)).drop a)=s at *;generalize hxx:l[a+1+i]=x at *
   refine Z1Q (λp:Nat=>⟨[(7,.int .i64 ((a:Int)+p)),(6,.int .i64 ((a:Int)+1+i)),(0,.osl 1000 l.length),(1,.int .i64 a),(2,.int .i64 b)],[(1000,.row 1 ((mvI l a (a+1+i) p).map ia))]⟩)
    (λp=>p<=i+1/\∀ y∈s.drop p,x<y) (λp=>p) (i+1) ?_ ⟨W0f _,λy hy=>by rw[W1j (by omega)]at hy;cases hy⟩ ?_
   . have e9:(a:Int)+1+i=(a:Int)+(i+1:Nat):=(by omega);rw[e9]
     (refine Wkc ?_;simp only[Zco,Wkl,and_true];(try simp[lk,Yc,Ya,AV.keys]))
   . rintro p ⟨hp,hd⟩;refine Qga ?_
     cases p with
     | zero =>
       have k2:¬(a:Int)<a:=(by omega);simp -implicitDefEqProofs;refine ⟨rfl,?_⟩;refine Qgr ?_;have w3:i64.wrap ((a:Int)+1+i+1)=(a:Int)+1+(i+1):=(by rw[Yf (by omega) (by omega)];omega);have he:=hend 0 (W1f _) hd (λq hq=>by omega);have he2:a+1+i+1=a+1+(i+1):=(by omega);rw[he2]at he;rw[he];simp -implicitDefEqProofs[w3]
       (refine Wkc ?_;simp only[Zco,Wkl,and_true];(try simp[lk,Yc,Ya,AV.keys]))
     | succ p =>
       obtain ⟨y,hy0,hy1,hy2,hy3,hy4⟩:=hat p (by omega);have hl2:=hln (p+1) (by omega);have k2:(a:Int)<(a:Int)+(p+1):=(by omega);have k3:((a:Int)+(p+1)).toNat=a+p+1:=(by omega);have w2:i64.wrap ((a:Int)+(p+1)-1)=(a:Int)+p:=(by rw[Yf (by omega) (by omega)];omega);have k4:((a:Int)+p).toNat=a+p:=(by omega);have k5:a+p+1<l.length:=(by omega);have k6:a+p<l.length:=(by omega);have k7:(0:Int)<=(a:Int)+(p+1):=(by omega);have k8:(0:Int)<=(a:Int)+p:=(by omega);have he:=hend (p+1) (by omega) hd;generalize mvI l a (a+1+i) (p+1)=Q at *;obtain ⟨q1,g1⟩:=W02.1 hy1;obtain ⟨q2,g2⟩:=W02.1 hy2;have hls:=Z8B (G:=R.G) x y;simp -implicitDefEqProofs[k2,k3,w2,k4,k5,k6,k7,k8,g1,g2,hl2,ia];refine Qco (hls) ?_;by_cases hlt:x<y
       . simp -implicitDefEqProofs[hlt,k3,w2,k4,k5,k6,k7,k8,g1,g2,hl2,ia];refine ⟨rfl,rfl,p,?_,⟨by omega,λu hu=>?_⟩,W2t _⟩
         . have e1:∀ z:Int,[AV.int .i64 z]=ia z:=λ_=>rfl
           rw[e1,e1,<- W2q,<- W2q,hy3]
           (refine Wkc ?_;simp only[Zco,Wkl,and_true];(try simp[lk,Yc,Ya,AV.keys]))
         . obtain ⟨hps,gs⟩:=W02.1 hy0;rw[W0x hps,gs]at hu;rcases W0g.1 hu with rfl|hu
           . exact hlt
           . exact hd u hu
       . simp -implicitDefEqProofs[hlt];refine ⟨rfl,?_⟩;refine Qgr ?_;have w3:i64.wrap ((a:Int)+1+i+1)=(a:Int)+1+(i+1):=by rw[Yf (by omega) (by omega)];omega
         have he:=he (λq hq u hu hk=>by
          have:q=p:=(by omega);subst this;rw[hy0]at hu
          cases hu
          exact hlt hk)
         have he2:a+1+i+1=a+1+(i+1):=(by omega);rw[he2]at he;rw[he];simp -implicitDefEqProofs[w3]
         (refine Wkc ?_;simp only[Zco,Wkl,and_true];(try simp[lk,Yc,Ya,AV.keys]))
 . intro _;refine Qga ?_;have k1:¬(a:Int)+1+(b-(a+1):Nat)<b:=by omega
   have e:srtI l a (a+1+(b-(a+1)))=srtI l a b:=by
    rcases W0q a b with h|h
    . congr 1;omega
    . rw[Zae (by omega) (by omega),Zae (by omega) (by omega)]
   rw[e];simp -implicitDefEqProofs[k1];refine Qgr ?_;simp -implicitDefEqProofs;refine ⟨[],rfl,rfl,?_⟩;simp[Yi,newK,Zcm]
def Zcr (l:List Int):srtI l 0 l.length=sortI l:=by simp[srtI]
def Zcs (l:List Int) (m:Int) (h3:l.length<=12) :
  PB prog G 164 [(1000,.row 1 (l.map ia))] [.osl 1000 l.length,.int .i64 0,.int .i64 l.length,.int .i64 m] (.tup []) [(1000,.row 1 ((sortI l).map ia))]:=by
 have hp:=Zcq (G:=G) l 0 l.length (W1f _) (W0f _) (by omega);rw[Zcr]at hp
 (refine ZbP (W0C rfl) λR hG hrd=>Qga ?_;subst hG)
 have w1:i64.wrap (l.length:Int)=(l.length:Int):=Yf;have k1:(l.length:Int)<=12:=(by omega);simp -implicitDefEqProofs[ZbM,ZbN];refine Z1Q (λ_:Unit=>⟨[(0,.osl 1000 l.length),(1,.int .i64 0),(2,.int .i64 l.length)],[(1000,.row 1 (l.map ia))]⟩) (λ_=>True) (λ_=>0) () ?_ trivial ?_
 . (refine Wkc ?_;simp only[Zco,Wkl,and_true];(try simp[lk,Yc,Ya,AV.keys]))
 rintro ⟨⟩ -;refine Qga ?_;simp -implicitDefEqProofs[w1,k1,h3];refine Yd.sem (Z1B.byref hp id (by simp) (by simp) (by simp[St.get,lk,Zcn]) (by simp[Zco]) (by simp[Ya,AV.keys,lk]) rfl (by simp[AV.ren]) rfl rfl) ?_;simp -implicitDefEqProofs[Yl,Zcn];refine Qgr ?_;simp -implicitDefEqProofs;refine ⟨[],rfl,rfl,?_⟩;simp[Yi,newK,Zcm]
set_option maxRecDepth 100000 in
def Zct (n:Nat) (h:n<=12):∃ v:Int,PC prog G 193 [.int .u64 n] (.int .i64 v):=by
 have k1:¬(4294967296:Int)<=n:=(by omega);have k2:¬(65536:Int)<=n:=(by omega);have k3:¬(256:Int)<=n:=(by omega);obtain ⟨S,hS,hz⟩ : ∃ S,Zc0=Zcp S/\S.size=256:=⟨_,rfl,rfl⟩;have hn:n<S.size:=(by omega);obtain ⟨c,hc⟩ : ∃ c,S[n]? = some c:=⟨S[n],getElem?_pos S n hn⟩
 have w1:IntKind.u8.wrap (n:Int)=(n:Int):=by
  match n,h with
  |0,_=>rfl
  |1,_=>rfl
  |2,_=>rfl
  |3,_=>rfl
  |4,_=>rfl
  |5,_=>rfl
  |6,_=>rfl
  |7,_=>rfl
  |8,_=>rfl
  |9,_=>rfl
  |10,_=>rfl
  |11,_=>rfl
  |12,_=>rfl
 refine ⟨i64.wrap (0+i64.wrap (c.toNat:Int)),?_⟩;refine Zc2 rfl λR hG hrd=>?_
 rw[hS];refine Qga ?_;simp -implicitDefEqProofs[Zcp,Zc1,k1,k2,k3,w1,hc]
def Zcu (n:Nat) (h:n<=12):∃ v:Int,PC prog G 165 [.int .u64 n] (.int .i64 v):=by
 obtain ⟨v,hv⟩:=Zct (G:=G) n h;refine ⟨v,?_⟩
 (refine ZbZ rfl λR hG hrd=>Qga ?_;subst hG)
 simp -implicitDefEqProofs[ZbX,ZbY];refine Qco (hv) ?_;simp -implicitDefEqProofs
def Zcv (l:List Int) (h3:l.length<=12) :
  PB prog G 115 [(1000,.row 1 (l.map ia))] [.osl 1000 l.length] (.tup []) [(1000,.row 1 ((sortI l).map ia))]:=by
 obtain ⟨v,hv⟩:=Zcu (G:=G) l.length h3;have hp:=Zcs (G:=G) l v h3
 (refine ZbL (W0C rfl) λR hG hrd=>Qga ?_;subst hG)
 have w1:IntKind.u64.wrap (l.length:Int)=(l.length:Int):=IntWalk.u64_in _ ⟨by omega,by omega⟩;simp -implicitDefEqProofs[ZbI,ZbJ,w1];refine Qco (hv) ?_;simp -implicitDefEqProofs;refine Yd.sem (Z1B.byref hp id (by simp) (by simp) (by simp[St.get,lk,Zcn]) (by simp[Zco]) (by simp[Ya,AV.keys,lk]) rfl (by simp[AV.ren]) rfl rfl) ?_;simp -implicitDefEqProofs[Yl,Zcn];refine ⟨[],rfl,rfl,?_⟩;simp[Yi,newK,Zcm]
def Zcw:PC prog G 183 [.nils,.int .i64 0,.int .i64 0] (.tup []):=by
 (refine ZbS rfl λR hG hrd=>Qga ?_;subst hG)
 have w1:i64.wrap 1=1:=rfl;simp -implicitDefEqProofs[ZbQ,ZbR,w1];refine Z1Q (λ_:Unit=>⟨[(6,.int .i64 1),(2,.int .i64 0)],[]⟩) (λ_=>True) (λ_=>0) () (by (first|exact Wka|exact Wkb)) trivial ?_;rintro ⟨⟩ -;refine Qga ?_;simp -implicitDefEqProofs;refine Qgr ?_;simp -implicitDefEqProofs
def Zcx (m:Int):PC prog G 164 [.nils,.int .i64 0,.int .i64 0,.int .i64 m] (.tup []):=by
 (refine ZbO rfl λR hG hrd=>Qga ?_;subst hG)
 have w1:i64.wrap 0=0:=rfl;simp -implicitDefEqProofs[ZbM,ZbN];refine Z1Q (λ_:Unit=>⟨[(0,.nils),(1,.int .i64 0),(2,.int .i64 0)],[]⟩) (λ_=>True) (λ_=>0) () (by (first|exact Wka|exact Wkb)) trivial ?_;rintro ⟨⟩ -;refine Qga ?_;simp -implicitDefEqProofs[w1];refine Qco (Zcw) ?_;simp -implicitDefEqProofs;refine Qgr ?_;simp -implicitDefEqProofs
def Zcy:PC prog G 115 [.nils] (.tup []):=by
 obtain ⟨v,hv⟩:=Zcu (G:=G) 0 (by omega);have w1:IntKind.u64.wrap 0=0:=rfl
 (refine ZbK rfl λR hG hrd=>Qga ?_;subst hG)
 simp -implicitDefEqProofs[ZbI,ZbJ,w1];refine Qco (hv) ?_;simp -implicitDefEqProofs;refine Qco (Zcx v) ?_;simp -implicitDefEqProofs
def K8n:List AV:=[.func (.func 237) [] [],.func (.func 238) [] [],.func (.func 239) [] [],.func (.func 240) [] [],.func (.func 242) [] [],.func (.func 243) [] [],.func (.func 246) [] [],.func (.func 248) [] []]
def GN (G:Jg):Prop:=G 0=some K8n
def ckK (r:Jr) (l:Jl) (i:Nat):Nat->Bool
 |0=>cN1 (nAt l i)
 |1=>cN2 (nAt l i)
 |2=>cN3 (nAt l i)
 |3=>cN4 r (nAt l i)
 |4=>cN5 (nAt l i)
 |5=>cN6 l i (nAt l i)
 |6=>cN7 l i (nAt l i)
 |_=>cN8 l i (nAt l i)
def Zcz {r:Jr} {l:Jl} {i:Nat}:noteB r l i=true↔∀ j,j<8->ckK r l i j=true:=by
 simp only[noteB,W01]
 constructor
 . rintro ⟨⟨⟨⟨⟨⟨⟨h1,h2⟩,h3⟩,h4⟩,h5⟩,h6⟩,h7⟩,h8⟩ j hj
   match j,hj with
   |0,_=>exact h1
   |1,_=>exact h2
   |2,_=>exact h3
   |3,_=>exact h4
   |4,_=>exact h5
   |5,_=>exact h6
   |6,_=>exact h7
   |7,_=>exact h8
 . intro h;exact ⟨⟨⟨⟨⟨⟨⟨h 0 (by omega),h 1 (by omega)⟩,h 2 (by omega)⟩,h 3 (by omega)⟩,h 4 (by omega)⟩,h 5 (by omega)⟩,h 6 (by omega)⟩,h 7 (by omega)⟩
def opA (l:Jl):AV:=if opU l=[] then .nils else .vsl ((sortI (opU l)).map ia)
def fileA (r:Jr) (l:Jl):AV:=.vptr [.vsl (r.map isa),.vsl (l.map na),.vsl ((nums r).map ia),opA l] 0
def opdA (r:Jr) (l:Jl):AV:=.tup [if chN r l=0 then fileA r l else .nilp,.int .i64 (chN r l)]
def onu (l:Jl) (i:Nat):List Int:=(opN l i).map (·.nu)
def ZcA {l:Jl} {i:Nat} (h:i<l.length):onu l (i+1)=if l[i].sg=1 then onu l i++[l[i].nu] else onu l i:=by
 unfold onu;rw[Za0 h];split
 . rw[W0r];rfl
 . rfl
def ZcB (l:Jl) (i:Nat):(onu l i).length<=i:=by unfold onu;rw[W0N];exact Za1 l i
def opdT (l:Jl):List (Nat×AV):=[(31,.int .i64 l.length),(30,.vsl (l.map na)),(6,.ptr 28 0),(7,.bool false),(1,.ptr 1 0)]
def opdO (r:Jr) (l:Jl) (i:Nat):List (Nat×AObj):=if onu l i=[] then [(1,.box [.vsl (r.map isa),.vsl (l.map na)]),(28,.box [.vsl (r.map isa),.vsl (l.map na),.vsl ((nums r).map ia),.nils])]
 else [(1,.box [.vsl (r.map isa),.vsl (l.map na)]),(28,.box [.vsl (r.map isa),.vsl (l.map na),.vsl ((nums r).map ia),.osl 59 (onu l i).length]),(59,.row 1 ((onu l i).map ia))]
def opdS (r:Jr) (l:Jl) (i:Nat):St:=⟨(32,.int .i64 i)::opdT l,opdO r l i⟩
def opdI (r:Jr) (l:Jl) (i:Nat) (x:Nte) (j:Nat):St:=⟨(38,.int .i64 j)::(37,.agg K8n)::(8,.int .i64 i)::(9,.ptr 9 0)::(32,.int .i64 i)::opdT l,(9,.box (na x))::opdO r l i⟩
def kNall (hG:GC G) {r:Jr} {l:Jl} {i:Nat} (hi:i<l.length) (hw:WfN l) (hr:Wf r) (ho:openV r=0) (j:Nat) (hj:j<8) :
  ∃ f,(K8n.drop j).take 1=[.func (.func f) [] []]/\PC prog G f [.agg [.vsl (r.map isa),.vsl (l.map na)],.int .i64 i] (.bool (ckK r l i j)):=by
 match j,hj with
 |0,_=>exact ⟨_,rfl,Zcd r l i hi hw hr⟩
 |1,_=>exact ⟨_,rfl,Zce r l i hi hw hr⟩
 |2,_=>exact ⟨_,rfl,Zcf r l i hi hw hr⟩
 |3,_=>exact ⟨_,rfl,Zcg hG r l i hi hw hr ho⟩
 |4,_=>exact ⟨_,rfl,Zch r l i hi hw hr⟩
 |5,_=>exact ⟨_,rfl,Zci r l i hi hw hr⟩
 |6,_=>exact ⟨_,rfl,Zcl r l i hi hw hr⟩
 |7,_=>exact ⟨_,rfl,Zcj r l i hi hw hr⟩
def ZcC (hG:GC G) (hN:GN G) (r:Jr) (l:Jl) (hw:WfN l) (hr:Wf r):PC prog G 119 [.agg [.vsl (r.map isa),.vsl (l.map na)]] (opdA r l):=by
 have hl:=hw.1;unfold Sml at hl;have hd:=Z9F hG r hr;rw[rega]at hd;unfold GN at hN
 (refine Zbh rfl λR hG hrd=>Qga ?_;subst hG)
 by_cases ho:openV r=0
 case neg =>
  have e:chN r l=openV r:=(by rw[chN,if_neg ho]);simp -implicitDefEqProofs[Zbf,Zbg];refine Qco (hd) ?_;simp -implicitDefEqProofs[ho,opdA,e]
 rw[if_pos ho,ho]at hd;by_cases h12:12<l.length
 . have h12':(12:Int)<l.length:=by omega
   have hB:Za2 r l=false:=by
    have:¬l.length<=12:=(by omega);simp[Za2,this]
   have e:chN r l=30:=(by rw[chN,if_pos ho,hB];rfl);simp -implicitDefEqProofs[Zbf,Zbg];refine Qco (hd) ?_;simp -implicitDefEqProofs[opdA,e,h12,h12']
 have h12':¬(12:Int)<l.length:=(by omega);simp -implicitDefEqProofs[Zbf,Zbg];refine Qco (hd) ?_;simp -implicitDefEqProofs[h12,h12'];refine Z7K (opdS r l) (λi=>∀ j,j<i->noteB r l j=true) l.length ?_ (by simp) ?_ ?_
 . have e0:onu l 0=[]:=rfl;simp only[opdS,opdO,opdT,e0,if_true]
   (refine Wkc ?_;simp only[Wkl,and_true];(try simp[lk,Yc,Ya,AV.keys]))
 . intro i hi he;refine Qga ?_;obtain ⟨x,hxx⟩:=Qex (l[i]);have hlx:l[i]=x:=hxx.symm;have hna:na x=[.int .i64 x.nu,.int .i64 x.dy,.int .u8 x.sg,.int .i64 x.dr,.int .i64 x.lt,.int .i64 x.fr,.int .i64 x.tu,.int .i64 x.ca,.bool x.up,.int .u8 x.wy]:=rfl;have hk:=kNall hG hi hw hr ho;have wi:i64.wrap ((i:Int)+1)=(i:Int)+1:=Yf;have sc:=ZcA hi;have ol:=ZcB l i;rw[hlx]at sc;have t8:K8n.take 8=K8n:=rfl;have l8:K8n.length=8:=rfl;by_cases c:onu l i=[]
   case' pos =>
    simp -implicitDefEqProofs[opdS,opdO,opdT,c,hi,hlx,hna,hN,t8,l8]
   case' neg =>
    simp -implicitDefEqProofs[opdS,opdO,opdT,c,hi,hlx,hna,hN,t8,l8]
   all_goals
    refine Z7K (opdI r l i x) (λj=>∀ k,k<j->ckK r l i k=true) 8 ?_ (by simp) ?_ ?_
    . simp only[opdI,opdO,opdT,c,if_true,if_false]
      ((try simp only[hna,K8n]);refine Ym.sub (by simp[lk,Ya,AV.keys,hna,K8n]) ?_;simp only[hna,K8n,Wkl,Zco,and_true];(try simp[lk,Yc,Ya,AV.keys,hna,K8n]))
    . intro j hj hJ;refine Qga ?_;obtain ⟨f,hf1,hf2⟩:=hk j hj;have wj:i64.wrap ((j:Int)+1)=(j:Int)+1:=Yf;have j1:(j:Int)<8:=(by omega);have j2:j+1<=8:=(by omega);have j3:j<=7:=(by omega);simp -implicitDefEqProofs[opdI,opdO,opdT,c,j1,j2,j3,l8,hf1,hj];refine Qco (hf2) ?_
      cases hb:ckK r l i j
      . have hB:Za2 r l=false:=by
         cases q:Za2 r l
         . rfl
         . simp only[Za2,W01]at q;have h1:=Z7R.1 q.1.2 i hi;have h2:=Zcz.1 h1 j hj;rw[hb]at h2;cases h2
        have e:chN r l=30:=(by rw[chN,if_pos ho,hB];rfl);simp -implicitDefEqProofs;refine Qgr ?_;simp -implicitDefEqProofs;refine Qgr ?_;simp -implicitDefEqProofs[opdA,e]
      . simp -implicitDefEqProofs[wj];refine ⟨?_,λk hk=>?_⟩
        . simp only[opdI,opdO,opdT,c,if_true,if_false]
          ((try simp only[hna,K8n]);refine Ym.sub (by simp[lk,Ya,AV.keys,hna,K8n]) ?_;simp only[hna,K8n,Wkl,Zco,and_true];(try simp[lk,Yc,Ya,AV.keys,hna,K8n]))
        . rcases W0q k j with h1|h1
          . exact hJ k h1
          . obtain rfl:k=j:=(by omega);exact hb
    . intro hJ;refine Qga ?_;have hnb:noteB r l i=true:=Zcz.2 hJ
      have he2:∀ j,j<i+1->noteB r l j=true:=λj hj=>by
       rcases W0q j i with h1|h1
       . exact he j h1
       . obtain rfl:j=i:=(by omega);exact hnb
      have bb:((onu l i).length+1)*8<=70368744177664:=(by omega);simp -implicitDefEqProofs[opdI,opdO,opdT,c];refine Qgr ?_;by_cases q:x.sg=1
      . rw[if_pos q]at sc;have hne:onu l (i+1)≠[]:=(by rw[sc];simp);simp -implicitDefEqProofs[hna,q,bb,wi];refine ⟨rfl,?_,he2⟩;simp only[opdS,opdO,opdT,hne,if_false];have e1:(onu l (i+1)).map ia=(onu l i).map ia++[[AV.int .i64 x.nu]]:=(by rw[sc,W0r];rfl);have e2:(onu l (i+1)).length=(onu l i).length+1:=by rw[sc];simp
        first
         |(rw[c,W18]at sc;rw[sc];((try simp only[ia]);refine Ym.sub (by simp[lk,Ya,AV.keys,ia]) ?_;simp only[ia,Wkl,and_true];(try simp[lk,Yc,Ya,AV.keys,ia]));done)
         |(rw[<- e1,e2];(refine Wkc ?_;simp only[Zco,Wkl,and_true];(try simp[lk,Yc,Ya,AV.keys]));done)
      . rw[if_neg q]at sc;simp -implicitDefEqProofs[hna,q,wi];refine ⟨?_,he2⟩;simp only[opdS,opdO,opdT,sc,c,if_true,if_false]
        (refine Wkc ?_;simp only[Zco,Wkl,and_true];(try simp[lk,Yc,Ya,AV.keys]))
 . intro he;refine Qga ?_;have hall:(List.range l.length).all (noteB r l)=true:=Z7R.2 he;have hu:onu l l.length=opU l:=rfl;have hul:=ZcB l l.length;have hln:(onu l l.length).length=(opN l l.length).length:=by simp[onu]
   have hB:Za2 r l=decide ((opN l l.length).length<=5):=by
    have h2:l.length<=12:=(by omega);simp[Za2,hall,h2]
   rw[<- hln]at hB;by_cases c:onu l l.length=[]
   . have hB2:Za2 r l=true:=(by rw[hB,c];rfl);have e:chN r l=0:=(by rw[chN,if_pos ho,hB2];rfl);have ea:opA l = .nils:=(by rw[opA,<- hu,if_pos c]);simp -implicitDefEqProofs[opdS,opdO,opdT,c];refine Qgr ?_;simp -implicitDefEqProofs;refine Qco (Zcy) ?_;simp -implicitDefEqProofs[opdA,e,fileA,ea]
   . by_cases h5:5<(onu l l.length).length
     . have h5':(5:Int)<(onu l l.length).length:=(by omega);have hB2:Za2 r l=false:=(by rw[hB];exact W0S (by omega));have e:chN r l=30:=(by rw[chN,if_pos ho,hB2];rfl);simp -implicitDefEqProofs[opdS,opdO,opdT,c];refine Qgr ?_;simp -implicitDefEqProofs[h5,h5',opdA,e]
     . have h5':¬(5:Int)<(onu l l.length).length:=(by omega);have hB2:Za2 r l=true:=(by rw[hB];exact W0M (by omega));have e:chN r l=0:=(by rw[chN,if_pos ho,hB2];rfl);have ea:opA l = .vsl ((sortI (opU l)).map ia):=(by rw[opA,<- hu,if_neg c]);have hsp:=Zcv (G:=R.G) (onu l l.length) (by omega);have pu:((sortI (opU l)).map ia).all (λr=>r.all AV.pure)=true:=(by simp[ia,AV.pure]);have sl:(sortI (opU l)).length=(onu l l.length).length:=(by rw[Zac,<- hu]);simp -implicitDefEqProofs[opdS,opdO,opdT,c];refine Qgr ?_;simp -implicitDefEqProofs[h5,h5'];refine Yd.sem (Z1B.byref hsp (λ_=>59) (by simp) (by simp) (by simp[St.get,lk,Zcn]) (by simp[Zco]) (by simp[Ya,AV.keys,lk]) rfl (by simp[AV.ren]) rfl rfl) ?_;rw[hu];rw[hu]at sl;simp -implicitDefEqProofs[Yl,Zcn,opdA,e,fileA,ea,pu,sl]
def dropZ:Nat->RCode->RCode
 |0,c=>c
 |n+1,.seq _ c=>dropZ n c
 |_+1,c=>c
def GOz {P:Program} {R:Run} {c:RCode} {ks:List KF} {Φ:Exit->St->Prop} {st:St} (h:AR P R c st (RetP P R ks Φ)):GO P R 0 (.run c) ks Φ st:=h
def lfS (U s:List Int) (i:Nat):List Int:=U.filter λn=>!decide (n∈s.take i)
def ZcD {U s:List Int} {i:Nat} (hi:i<s.length) (hU:U.Nodup):(lfS U s i).erase s[i]=lfS U s (i+1):=by
 have hn:(lfS U s i).Nodup:=hU.filter _;rw[hn.erase_eq_filter];unfold lfS;rw[List.filter_filter];refine List.filter_congr λn _=>?_
 have hm:n∈s.take (i+1)↔(n∈s.take i∨n=s[i]):=(by rw[W08 hi,W0h,W0B]);by_cases e:n=s[i]
 . rw[W0M (hm.2 (.inr e)),bne_eq_false_iff_eq.2 e];rfl
 . by_cases e2:n∈s.take i
   . rw[W0M (hm.2 (.inl e2)),W0M e2];simp
   . rw[W0S (λh=>(hm.1 h).elim e2 e),W0S e2];simp[e]
def truI (l:Jl) (s:List Int) (i:Nat):Prop:=∀ j,j<i->s.getD j 0∈opU l/\(0<j->s.getD (j-1) 0<s.getD j 0)
def ZcE {l:Jl} {s:List Int} {i:Nat} (h:truI l s i):∀ a b,a<b->b<i->s.getD a 0<s.getD b 0
 |a,0,h1,_=>by omega
 | a,b+1,h1,h2=>by
   have h3:=(h (b+1) h2).2 (by omega);rw[W19]at h3;rcases W0q a b with h4|h4
   . have:=ZcE h a b h4 (by omega);omega
   . obtain rfl:a=b:=(by omega);exact h3
def ZcF {l:Jl} {U s:List Int} {i:Nat} (hU:∀ n,n∈U↔n∈opU l) (hi:i<s.length) (h:truI l s i):(s[i]∈lfS U s i/\(0<i->s.getD (i-1) 0<=s[i]))↔truI l s (i+1):=by
 have eg:∀ j,∀ hj:j<s.length,s.getD j 0=s[j]:=λj hj=>by simp[W0j,hj]
 unfold lfS;rw[W0G,hU]
 constructor
 . rintro ⟨⟨h1,h2⟩,h3⟩ j hj;rcases W0q j i with h4|h4
   . exact h j h4
   . obtain rfl:j=i:=(by omega);rw[eg j hi];refine ⟨h1,λh0=>?_⟩;have h5:=h3 h0;have hj1:j-1<s.length:=by omega
     have h6:s.getD (j-1) 0≠s[j]:=λe=>by
      have:s[j]∈s.take j:=(by rw[<- e,eg _ hj1];rw[W1Q];exact ⟨j-1,by omega,rfl⟩);simp[this]at h2
     omega
 . intro h1;have h2:=h1 i (by omega);rw[eg i hi]at h2;refine ⟨⟨h2.1,?_⟩,λh0=>Int.le_of_lt (h2.2 h0)⟩
   have:s[i] ∉ s.take i:=λhm=>by
    obtain ⟨j,hj,e⟩:=W1Q.1 hm;have:=ZcE h1 j i (by omega) (by omega);rw[eg i hi,eg j (by omega)]at this;omega
   simp[this]
def ZcG {l:Jl} {s:List Int}:truB l s=true↔truI l s s.length:=by
 unfold truB truI;rw[Z7R];refine forall_congr' λj=>forall_congr' λhj=>?_
 rw[W01,W0b];refine and_congr_right λ_=>?_
 cases j with
 |zero=>simp
 |succ j=>simp
def ZcH (l:List Int) (n:Int) (h:Sml l):PC prog G 129 [.vsl (l.map ia),.int .i64 n] (.int .i64 (idx l n)):=by
 (refine ZbH rfl λR hG hrd=>Qga ?_;subst hG)
 unfold Sml at h;simp -implicitDefEqProofs[ZbF,ZbG];refine Z7K (λi=>⟨[(8,.int .i64 i),(7,.int .i64 l.length),(0,.vsl (l.map ia)),(1,.int .i64 n)],[]⟩) (λi=>n ∉ l.take i) l.length (by (first|exact Wka|exact Wkb)) (by simp) ?_ ?_
 . intro i hi he;refine Qga ?_;have w1:i64.wrap ((i:Int)+1)=(i:Int)+1:=Yf;by_cases e:n=l[i]
   . have hm:n∈l:=e ▸ W0e hi
     have hix:l.idxOf n=i:=by
      have hs:=W11 i l;rw[W0x hi]at hs;rw[<- hs,List.idxOf_append,if_neg he,List.idxOf_cons];simp[e];omega
     have e2:idx l n=i:=(by rw[idx,if_pos hm,hix]);simp -implicitDefEqProofs[hi,ia,e];refine Qgr ?_;rw[e]at e2;simp -implicitDefEqProofs[e2]
   . simp -implicitDefEqProofs[hi,ia,e,w1];refine ⟨by (first|exact Wka|exact Wkb),?_⟩;rw[W08 hi,W0h,W0B];exact λh=>h.elim he e
 . intro he;rw[W0v]at he;refine Qga ?_;have e2:idx l n = -1:=(by rw[idx,if_neg he]);simp -implicitDefEqProofs;refine Qgr ?_;simp -implicitDefEqProofs[e2]
def ZcI (l:List Int) (n:Int) (h:Sml l):PC prog G 87 [.vsl (l.map ia),.int .i64 n] (.bool (decide (n∈l))):=by
 have hc:=ZcH (G:=G) l n h
 have e:decide (0<=idx l n)=decide (n∈l):=by
  have:=Z7W (l:=l) (n:=n);by_cases h:n∈l
  . rw[W0M h,W0M];have:¬idx l n<0:=λh2=>(this.1 h2) h
    omega
  . rw[W0S h,W0S];have:=this.2 h;omega
 (refine ZbE rfl λR hG hrd=>Qga ?_;subst hG)
 simp -implicitDefEqProofs[ZbC,ZbD];refine Qco (hc) ?_;simp -implicitDefEqProofs[e]
def ZcJ (o:List (Nat×AObj)) (l:List Int):Yc o (.mp (lfA l))=true:=by
 simp only[Yc,W03,lfA,W0i];rintro _ ⟨y,-,rfl⟩;simp[Ya,AV.keys]
def ZcK (r:Jr) (l:Jl) (s:List Int) (hs:Sml s) (hU:(opU l).Nodup) (hl:(opU l).length<=12):PC prog G 166 [fileA r l,.vsl (s.map ia)] (.int .i64 (if truB l s=true then 0 else 31)):=by
 unfold Sml at hs;have hUs:(sortI (opU l)).Nodup:=(Za8 _).symm.nodup hU;have hsl:=Zac (opU l);obtain ⟨S,hS⟩:=Qex (sortI (opU l));have hSm:∀ n,n∈S↔n∈opU l:=λn=>by rw[hS];exact Zad
 rw[<- hS]at hUs hsl
 have hO:(S=[]/\opA l = .nils)∨(S≠[]/\opA l = .vsl (S.map ia)):=by
  by_cases c:opU l=[]
  . exact .inl ⟨W0l.1 (by rw[hsl,c];rfl),by rw[opA,if_pos c]⟩
  . exact .inr ⟨λe=>c (W0l.1 (by rw[<- hsl,e];rfl)),by rw[opA,if_neg c,hS]⟩
 have key : ∀ R:Run,R.G=G->R.Top->∀ (rc:RCode),rc=dropZ 3 Zbl->AR prog R rc ⟨[(5,.mp 10),(1,.vsl (s.map ia))],[(10,.mp (lfA S))]⟩ (Fin Zbm (.int .i64 (if truB l s=true then 0 else 31))):=λR _ _ rc hrc=>by
  subst hrc;refine Qga ?_;simp -implicitDefEqProofs[dropZ,Zbl];refine Z7K (λi=>⟨[(25,.int .i64 i),(24,.int .i64 s.length),(23,.vsl (s.map ia)),(5,.mp 10),(1,.vsl (s.map ia))],[(10,.mp (lfA (lfS S s i)))]⟩) (λi=>truI l s i) s.length ?_ (λj hj=>by omega) ?_ ?_
  . have e0:lfS S s 0=S:=by unfold lfS;simp
    ((try simp only[e0]);refine Ym.sub (by simp[lk,Ya,AV.keys,e0]) ?_;simp only[e0,Wkl,ZcJ,and_true];(try simp[lk,Yc,Ya,AV.keys,e0]))
  . intro i hi hI;refine Qga ?_;have wi:i64.wrap ((i:Int)+1)=(i:Int)+1:=Yf;have gl:=Z94 s[i] (lfS S s i);have st:=ZcF hSm hi hI;have le:=ZcD (s:=s) hi hUs
    have no:¬truI l s (i+1)->truB l s=false:=λh=>by
     cases q:truB l s
     . rfl
     . exact absurd (λj hj=>ZcG.1 q j (by omega)) h
    by_cases hm:s[i]∈lfS S s i
    . rw [if_pos hm]at gl;have dl:=Z97 hm;rw[le]at dl
      cases i with
      | zero =>
        have w1:i64.wrap 1=1:=rfl;have h1:=st.1 ⟨hm,λh=>by omega⟩;simp -implicitDefEqProofs[hi,ia,gl,dl,w1];refine ⟨?_,h1⟩
        (refine Wkc ?_;simp only[ZcJ,Wkl,and_true];(try simp[lk,Yc,Ya,AV.keys]))
      | succ k =>
        have hk:k<s.length:=(by omega);have k1:(k:Int)+1<s.length:=(by omega);have k2:((k:Int)+1).toNat=k+1:=(by omega);have k3:(0:Int)<=(k:Int)+1:=(by omega);have k4:(0:Int)<(k:Int)+1:=(by omega);have wk:i64.wrap ((k:Int)+1-1)=(k:Int):=(by rw[Yf (by omega) (by omega)];omega);have wk2:i64.wrap (k:Int)=(k:Int):=Yf;have wk3:i64.wrap ((k:Int)+1+1)=(k:Int)+1+1:=Yf;have eg:s.getD (k+1-1) 0=s[k]:=(by simp[W0j,hk]);rw[eg]at st;by_cases hlt:s[k+1]<s[k]
        . have hB:=no λh=>by have:=(st.2 h).2 (by omega);omega
          simp -implicitDefEqProofs[hi,hk,ia,gl,k1,k2,k3,k4,wk,wk2,hlt];refine Qgr ?_;simp -implicitDefEqProofs[hB,Zbm]
        . have h1:=st.1 ⟨hm,λ_=>by omega⟩;simp -implicitDefEqProofs[hi,hk,ia,gl,k1,k2,k3,k4,wk,wk2,wk3,hlt,dl];refine ⟨?_,h1⟩
          (refine Wkc ?_;simp only[ZcJ,Wkl,and_true];(try simp[lk,Yc,Ya,AV.keys]))
    . rw[if_neg hm]at gl;have hB:=no λh=>hm (st.2 h).1
      simp -implicitDefEqProofs[hi,ia,gl];refine Qgr ?_;simp -implicitDefEqProofs[hB,Zbm]
  . intro hI;have hB:=ZcG.2 hI;refine Qga ?_;simp -implicitDefEqProofs;refine Qgr ?_;simp -implicitDefEqProofs[hB,Zbm]
 refine Zbn rfl λR hG hrd=>?_
 have key:=key R hG hrd _ rfl;rcases hO with ⟨h1,h2⟩ | ⟨h1,h2⟩
 . refine Qga ?_;simp -implicitDefEqProofs[Zbl,fileA,h2];refine Z7K (λi=>⟨[(16,.int .i64 i),(15,.int .i64 0),(5,.mp 10),(1,.vsl (s.map ia))],[(10,.mp (lfA S))]⟩) (λ_=>True) 0 ?_ trivial (λi hi=>by omega) ?_
   . have e0:lfA []=[]:=rfl
     ((try simp only[h1,e0]);refine Ym.sub (by simp[lk,Ya,AV.keys,h1,e0]) ?_;simp only[h1,e0,Wkl,ZcJ,and_true];(try simp[lk,Yc,Ya,AV.keys,h1,e0]))
   . intro _;refine Qga ?_;simp -implicitDefEqProofs;refine Z2R mixed 2 ?_;simp -implicitDefEqProofs;refine GOz (Z2Q ?_ key)
     (refine Wkc ?_;simp only[ZcJ,Wkl,and_true];(try simp[lk,Yc,Ya,AV.keys]))
 . refine Qga ?_;simp -implicitDefEqProofs[Zbl,fileA,h2];refine Z7K (λi=>⟨[(16,.int .i64 i),(15,.int .i64 S.length),(14,.vsl (S.map ia)),(5,.mp 10),(1,.vsl (s.map ia))],[(10,.mp (lfA (S.take i)))]⟩) (λ_=>True) S.length ?_ trivial ?_ ?_
   . have e0:lfA []=[]:=rfl
     ((try simp only[W1g,e0]);refine Ym.sub (by simp[lk,Ya,AV.keys,W1g,e0]) ?_;simp only[W1g,e0,Wkl,ZcJ,and_true];(try simp[lk,Yc,Ya,AV.keys,W1g,e0]))
   . intro i hi _;refine Qga ?_;have wi:i64.wrap ((i:Int)+1)=(i:Int)+1:=Yf
     have hni:S[i] ∉ S.take i:=λhm=>by
      obtain ⟨j,hj,e⟩:=W1Q.1 hm;have:=(List.nodup_iff_pairwise_ne.1 hUs);have:=W0Y.1 this j i (by omega) hi (by omega);exact this e
     have pl:=Z95 hni;have e1:S.take i++[S[i]]=S.take (i+1):=(W08 hi).symm;rw[e1]at pl;simp -implicitDefEqProofs[hi,ia,pl,wi]
     (refine Wkc ?_;simp only[ZcJ,Wkl,and_true];(try simp[lk,Yc,Ya,AV.keys]))
   . intro _;refine Qga ?_;simp -implicitDefEqProofs;refine Z2R mixed 2 ?_;simp -implicitDefEqProofs;refine GOz (Z2Q ?_ key)
     ((try simp only[W0v]);refine Ym.sub (by simp[lk,Ya,AV.keys,W0v]) ?_;simp only[W0v,Wkl,ZcJ,and_true];(try simp[lk,Yc,Ya,AV.keys,W0v]))
section
open Qq Tryz
end
section
open Qq Tryz
end
def GO0 {P:Program} {R:Run} {c:RCode} {ks:List KF} {Φ:Exit->St->Prop} {st:St} (h:AR P R c st (RetP P R ks Φ)):GO P R 0 (.run c) ks Φ st:=h
def mpA {α:Type} (f:α->AV) (l:List (Int×α)):List (AV×AV):=l.map λp=>(.int .i64 p.1,f p.2)
def mlk {α:Type} (n:Int):List (Int×α)->Option α
 |[]=>none
 |p::l=>if n=p.1 then some p.2 else mlk n l
def ZcL {α:Type} (f:α->AV) (n:Int):∀ l:List (Int×α),∃ o:Option Nat,(KK.i .i64).find (.int .i64 n) (mpA f l)=some o/\match o with
  |some j=>∃ v,l[j]? = some (n,v)/\mlk n l=some v
  |none=>mlk n l=none/\∀ p∈l,p.1≠n
 |[]=>⟨none,rfl,rfl,by simp⟩
 | p :: r=>by
   obtain ⟨o,h1,h2⟩:=ZcL f n r;by_cases e:n=p.1
   . refine ⟨some 0,by simp[mpA,KK.find,KK.eq,e],p.2,by simp[e],by simp[mlk,e]⟩
   . refine ⟨o.map (· + 1),?_,?_⟩
     . simp only[mpA,W0F,KK.find,KK.eq,and_self,if_true,e,W1x];rw[show r.map (λp=>(AV.int .i64 p.1,f p.2))=mpA f r from rfl,h1];rfl
     . cases o with
       |none=>exact ⟨by simp only[mlk,e,if_false];exact h2.1,λq hq=>by
        rcases W0g.1 hq with rfl|hq
        . exact λh=>e h.symm
        . exact h2.2 q hq⟩
       | some j =>
         obtain ⟨v,h3,h4⟩:=h2;exact ⟨v,by simpa using h3,by simp only[mlk,e,if_false];exact h4⟩
def ZcM {α:Type} (f:α->AV) (n:Int) (l:List (Int×α)):(KK.i .i64).get (.int .i64 n) (mpA f l)=some ((mlk n l).map f):=by
 obtain ⟨o,h1,h2⟩:=ZcL f n l;have hi:(KK.i .i64).is (.int .i64 n)=true:=(by simp[KK.is]);unfold KK.get;rw[if_pos hi,h1]
 cases o with
 |none=>simp[h2.1]
 |some j=>obtain ⟨v,h3,h4⟩:=h2;simp[mpA,h3,h4]
section
open Qq Tryz
def ZcN:RCode :=
 S [r 0 [n 4 (.bool false)],S [r 1 [m 6 0,e 7 6,m 8 1,e 9 8,o 10 .neq 7 9],K 10 2 [n 4 (.bool false)]],S [r 3 [n 5 O],.block 0 (.loop (S [S [r 4 [m 11 5,m 12 0,e 13 12,o 14 .lss 11 13],.cond (.t 14) .skip (.exit 0)],.block 1 (S [R 6 [m 17 0,m 18 5,a [0,1] (i 19 2 17 18),a [2] (L 20 2 19),m 21 1,m 22 5,a [4,5] (i 23 2 21 22),a [6] (L 24 2 23),a [3,7] (w 25 (.eqs true [.i,.i] (.t 20) (.t 24)))],K 25 7 [n 4 (.bool false)]]),r 5 [m 15 5,k 16 .add 15 I,m 5 16]]))],r 8 [n 4 (.bool true)],.ret]
def ZcO:List RRes:=[.t 4]
def ZcP:PCt prog 33 f33 ZcN ZcO:=pcT func33 rfl
end
def needL (n:Int) (l:List (Int×Int)):Bool:=l.any λy=>decide (y.1=n)
inductive Up (T:Int->Iss) (l:List Int) (d:Int):Int->Prop
 |base (n:Int) (hn:n∈l) (h:needL d (T n).its=true):Up T l d n
 |step (n m:Int) (hn:n∈l) (h:needL m (T n).its=true) (hm:Up T l d m):Up T l d n
def Up.trans {T:Int->Iss} {l:List Int} {d m n:Int} (h1:Up T l d m) (h2:Up T l m n):Up T l d n:=by
 induction h2 with
 |base n hn h=>exact .step n m hn h h1
 |step n k hn h _ ih=>exact .step n k hn h ih
def Up.mem {T:Int->Iss} {l:List Int} {d n:Int} (h:Up T l d n):n∈l:=by cases h <;> assumption
def ZcQ (a b:List (Int×Int)) (ha:Sml a):PC prog G 33 [.vsl (a.map ita),.vsl (b.map ita)] (.bool (decide (a=b))):=by
 (refine ZcP rfl λR hG hrd=>Qga ?_;subst hG)
 by_cases hl:a.length=b.length
 . have hl':(a.length:Int)=b.length:=(by omega);simp -implicitDefEqProofs[ZcN,ZcO,hl'];refine Z7K (λi=>⟨[(5,.int .i64 i),(0,.vsl (a.map ita)),(1,.vsl (b.map ita))],[]⟩) (λi=>∀ j (h:j<a.length),j<i->a[j]=b[j]) a.length (by (first|exact Wka|exact Wkb)) (by simp) ?_ ?_
   . intro i hi he;refine Qga ?_;unfold Sml at ha;have hi2:i<b.length:=(by omega);have w1:i64.wrap ((i:Int)+1)=((i+1:Nat):Int):=Yf;simp -implicitDefEqProofs[hi,hi2,ita];refine ⟨rfl,?_⟩;by_cases h2:a[i]=b[i]
     . simp -implicitDefEqProofs[h2,w1];refine ⟨(by (first|exact Wka|exact Wkb)),λj h1 h3=>?_⟩;by_cases e:j=i
       . subst e;exact h2
       . exact he j h1 (by omega)
     . have h3:¬a=b:=λe=>h2 (by subst e;rfl)
       rw[Z7O h2];simp -implicitDefEqProofs;refine Qgr ?_;simp -implicitDefEqProofs[h3]
   . intro he;refine Qga ?_;have h3:a=b:=W1I hl λj h1 h2=>he j h1 h1
     simp -implicitDefEqProofs;refine Qgr ?_;simp -implicitDefEqProofs[h3]
 . have hl':¬(a.length:Int)=b.length:=(by omega);have h3:¬a=b:=λe=>hl (by rw[e])
   simp -implicitDefEqProofs[ZcN,ZcO,hl',h3]
def Yg (l:List (List AV)):AV:=if l=[] then .nils else .vsl l
def ZcR (l:List (List AV)):(Yg l).keys=[]:=by unfold Yg;split <;> simp[AV.keys]
def ZcS (o:List (Nat×AObj)) (l:List Int):Yc o (.mp (lfA l))=true:=by
 simp only[Yc,W03,lfA,W0i];rintro x ⟨y,-,rfl⟩;simp[Ya,AV.keys]
def mpP {α:Type} (n:Int) (v:α):List (Int×α)->List (Int×α)
 |[]=>[(n,v)]
 |p::l=>if n=p.1 then (n,v)::l else p::mpP n v l
def ZcT {α:Type} (n:Int) (v:α):∀ (l:List (Int×α)) (m:Int),mlk m (mpP n v l)=if m=n then some v else mlk m l
 |[],m=>by simp[mpP,mlk]
 | p :: l,m=>by
   have ih:=ZcT n v l m;simp only[mpP];by_cases e:n=p.1
   . rw[if_pos e];simp only[mlk];by_cases e2:m=n
     . rw[if_pos e2,if_pos e2]
     . rw[if_neg e2,if_neg e2,if_neg (by rw[<- e];exact e2)]
   . rw[if_neg e];simp only[mlk];by_cases e2:m=p.1
     . rw[if_pos e2,if_pos e2,if_neg (by rintro rfl;exact e e2)]
     . rw[if_neg e2,if_neg e2];exact ih
def ZcU {α:Type} (f:α->AV) (n:Int) (v:α):∀ l:List (Int×α),∃ o:Option Nat,(KK.i .i64).find (.int .i64 n) (mpA f l)=some o/\match o with
  |some j=>mpP n v l=l.set j (n,v)
  |none=>mpP n v l=l++[(n,v)]
 |[]=>⟨none,rfl,rfl⟩
 | p :: r=>by
   obtain ⟨o,h1,h2⟩:=ZcU f n v r;by_cases e:n=p.1
   . exact ⟨some 0,by simp[mpA,KK.find,KK.eq,e],by simp[mpP,e]⟩
   . refine ⟨o.map (· + 1),?_,?_⟩
     . simp only[mpA,W0F,KK.find,KK.eq,and_self,if_true,e,W1x];rw[show r.map (λp=>(AV.int .i64 p.1,f p.2))=mpA f r from rfl,h1];rfl
     . cases o with
       |none=>simp only[Option.map_none,mpP,if_neg e,h2];rfl
       |some j=>simp only[W0m,mpP,if_neg e,h2];rfl
def ZcV {α:Type} (f:α->AV) (n:Int) (v:α) (l:List (Int×α)):(KK.i .i64).put (.int .i64 n) (f v) (mpA f l)=some (mpA f (mpP n v l)):=by
 obtain ⟨o,h1,h2⟩:=ZcU f n v l;have hi:(KK.i .i64).is (.int .i64 n)=true:=(by simp[KK.is]);unfold KK.put;rw[if_pos hi,h1]
 cases o with
 |none=>simp only[h2];simp[mpA]
 |some j=>rw[h2];simp[mpA,W2q]
end Go.Proofs.YtcdlimgkliklhaaGreatDoor
