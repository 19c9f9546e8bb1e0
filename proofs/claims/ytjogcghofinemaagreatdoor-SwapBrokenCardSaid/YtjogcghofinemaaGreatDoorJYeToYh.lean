/-
  The law SwapPlaces.
-/
import Derived.Test.YtjogcghofinemaaGreatDoorJTpToYg
import Derived.Test.YtjogcghofinemaaGreatDoorJTdToSu
set_option linter.all false
set_option linter.unusedSimpArgs false
set_option linter.unusedVariables false
set_option linter.unusedSectionVars false
namespace Go.Proofs.YtjogcghofinemaaGreatDoor
open Go.RowKit
def akC (s:List Int) (m d:Int) (a b:Rf):List AV:=[.vsl (s.map ia),.int .i64 m,.int .i64 d,.int .i64 a.1,.int .i64 a.2,.int .i64 b.1,.int .i64 b.2]
def swC (r:List Iss) (l:List Nte) (q:List Rul):List AV:=[.vsl (r.map isa),.vsl (l.map na),.vsl (q.map ra)]
section
variable {G:Nat->Option (List AV)}
end
def bkD (d:Int):Rul->Bool:=λx=>decide (x.dy<=d)
def bkH:Rul->Rul->Bool:=λx y=>decide (y.br=x.nu)
theorem sB_gw {d:Int} {q:List Rul} {i:Nat} (hi:i<q.length):sB d q i=gwB (bkD d) bkH q q[i] i q.length:=ZdV hi
theorem ZnX {d:Int} {q:List Rul} {x:Rul} {i:Nat}:gwB (bkD d) bkH q x i (i+1)=decide (x.dy<=d):=ZdW
theorem ZnY {d:Int} {q:List Rul} {x:Rul} {i k:Nat} (hk:i+1+k<q.length):gwB (bkD d) bkH q x i (i+1+(k+1))=(gwB (bkD d) bkH q x i (i+1+k) && !(decide (q[i+1+k].br=x.nu)&&sB d q (i+1+k))):=by
 have:=ZdX (p:=bkD d) (h:=bkH) (x:=x) (i:=i) (k:=i+1+k) (l:=q) (by omega) hk;rw[show i+1+(k+1)=i+1+k+1 by omega,this,Bool.and_comm (gcB _ _ _ _)];rfl
def bkO (W K:List AV):List (Nat×AObj):=[(6,.box W),(14,.box K)]
def bkT (R F:List Int) (X:List Stq):List (Nat×AV):=[(21,.vsl (X.map sa)),(19,.vsl (F.map ia)),(15,.vsl (R.map ia)),(14,.ptr 14 0),(13,.bool true),(6,.ptr 6 0)]
def bk1 (W K:List AV) (R F:List Int) (X:List Stq) (q:List Rul) (d:Int) (i:Nat):St:=⟨(104,.int .i64 i)::(103,.int .i64 q.length)::(102,.vsl (q.map ra))::(23,.int .i64 (ruN d q i).length)::bkT R F X,bkO W K⟩
def bk2 (W K:List AV) (R F:List Int) (X:List Stq) (q:List Rul) (d:Int) (D:List (List AV)) (i:Nat) (x:Rul) (m:Nat) (k:Nat):St:=⟨(120,.int .i64 k)::(119,.int .i64 m)::(118,.vsl D)::(26,.bool (gwB (bkD d) bkH q x i (i+1+k)))::(25,.ptr 25 0)::(24,.int .i64 i)::(104,.int .i64 i)::(103,.int .i64 q.length)::(102,.vsl (q.map ra))::(23,.int .i64 (ruN d q i).length)::bkT R F X,(25,.box (ra x))::bkO W K⟩
def bk3 (W K:List AV) (R F:List Int) (X:List Stq) (j:Nat):St:=⟨(165,.int .i64 j)::(164,.int .i64 X.length)::(163,.vsl (X.map sa))::(23,.int .i64 R.length)::bkT R F X,bkO W K⟩
section
variable {G:Nat->Option (List AV)}
set_option maxRecDepth 100000 in
set_option maxHeartbeats 4000000 in
theorem ZnZ (hG:GC G) (hN:GN G) (hQ:GQ G) (r:List Iss) (l:List Nte) (q:List Rul) (t m d a b:Int) (hr:∀ x∈r,KOk x) (hl:∀ x∈l,NOk x) (ht:0<=t/\t<=255) (hm:0<=m/\m<=65535) (hd:0<=d/\d<=65535) (ha:0<=a/\a<=255) (hb:0<=b/\b<=255) :
  PC Tryz.prog G 4 [swa r l q,.int .u8 t,.int .u16 m,.int .u16 d,.int .u8 a,.int .u8 b] (.bool true):=by
 have hA:=Znc hG hN hQ;have hrd:=ZmU (G:=G) r l q hr hl
 cases hy:rdB r l q
 . rw[hy]at hrd;unfold swa at *
   (refine Z64 rfl λR hG hrd=>Qga ?_;subst hG)
   simp -implicitDefEqProofs[Z62,Z63];refine Qco (hA) (by simp) ?_;simp -implicitDefEqProofs[];refine Qco (hrd) (by simp) ?_;simp -implicitDefEqProofs[]
 rw[hy]at hrd;have hq:=Znk (t:=t) hy hr hl hm.1 hd.1;have hk:=ZmY (G:=G) r l q t m d a b hq.nB hq.wr.1.1 hq.ne ht hm hd ha hb;have mA:=ZmJ hq.rne ha.1;have mB:=ZmJ hq.rne hb.1;generalize isV r a=A at *;generalize isV r b=B at *;generalize ttV l t=s at *;generalize mcV m=mm at *;generalize dyV d=dd at *;have c1:=hq.rules_pc hG hN;have c2:=hq.upto_pc (G:=G);have c3:=hq.force_pc hG hN;have c4:=hq.chain_pc hG hN hQ mA mB;have hql:=hq.wq;have hrm:=λi (hi:i<q.length)=>ZnA (day:=dd) hq.rB hi
 have hRl:=Zeg dd q q.length;have hFl:=hq.fLen
 have hby:∀ x∈chX (st5 r l q s mm dd) A B,if x.nt=true then x.nu∈stF r l s mm dd else x.nu∈ruN dd q q.length:=λx hx=>by
  refine ZnU hq ?_;unfold chX at hx
  split at hx
  . rename_i n hn;exact (Znj hq.l1000 n hn).2.1 x hx
  . cases hx
 have hXl:(chX (st5 r l q s mm dd) A B).length<=1000:=by
  unfold chX
  split
  . rename_i n hn;rw[(Znj hq.l1000 n hn).2.2];have h1:=Zj7 hn;have h2:=hq.e1000;omega
  . simp
 have herr:(if mayT (edg (st5 r l q s mm dd)) A B=true then (0:Int) else 6)=0∨(if mayT (edg (st5 r l q s mm dd)) A B=true then (0:Int) else 6)=6:=(by split <;> simp);have hpre:=λi (hi:i<q.length) (h:sB dd q i=true)=>ZnV hi h
 have hmo:=λi (hi:i<q.length)=>ZnW (d:=dd) hi
 have hR0:(ruN dd q 0).length=0:=(by simp[ruN]);generalize (if mayT (edg (st5 r l q s mm dd)) A B=true then (0:Int) else 6)=er at *;generalize chX (st5 r l q s mm dd) A B=X at *;generalize stF r l s mm dd=F at *;obtain ⟨RN,hRN⟩ : ∃ RN,RN=ruN dd q q.length:=⟨_,rfl⟩;rw[<- hRN]at c1 hRl;simp only[<- hRN]at hrm hpre hby;have cH:=λn=>ZmV (G:=G) RN n (by unfold Sml at *;omega)
 have cF:=λn=>ZmV (G:=G) F n hFl
 unfold Sml at hql;unfold swa akA at *
 (refine Z64 rfl λR hG hrd=>Qga ?_;subst hG)
 simp -implicitDefEqProofs[Z62,Z63];refine Qco (hA) (by simp) ?_;simp -implicitDefEqProofs[];refine Qco (hrd) (by simp) ?_;simp -implicitDefEqProofs[];refine Qco (hk) (by simp) ?_;simp -implicitDefEqProofs[];refine Qco (c1) (by simp) ?_;simp -implicitDefEqProofs[];refine Qco (c2) (by simp) ?_;simp -implicitDefEqProofs[];refine Qco (c3) (by simp) ?_;simp -implicitDefEqProofs[];refine Qco (c4) (by simp) ?_;obtain ⟨DD,hDD⟩ : ∃ DD:Nat->List (List AV),∀ i,DD i=(q.map ra).drop (i+1):=⟨_,λ_=>rfl⟩;have lDD:∀ i,(DD i).length=q.length-(i+1):=λi=>by rw[hDD];simp
 have aDD:∀ i k (h:k<(DD i).length),∃ h2:i+1+k<q.length,(DD i)[k]=ra q[i+1+k]:=λi k h=>by
  have h3:=h;rw[lDD]at h3;refine ⟨by omega,?_⟩;have:(DD i)[k]? = some (ra q[i+1+k]):=(by rw[hDD,List.getElem?_drop,List.getElem?_map,List.getElem?_eq_getElem (by omega)];rfl);exact (List.getElem?_eq_some_iff.1 this).2
 have hsD:∀ i,(q.map ra).drop (i+1)=DD i:=λi=>(hDD i).symm
 clear hDD;rcases herr with h|h
 all_goals
  simp -implicitDefEqProofs[h];refine Zb9 (bk1 (swC r l q) (akC s mm dd A B) RN F X q dd) (λ_=>True) q.length ?_ trivial ?_ ?_
  . simp only[bk1,bkT,bkO,swC,akC,hR0]
    (refine Yn.sub (by simp[lk,Ya,AV.keys]) ?_;simp only[Wkl,and_true];(try simp[lk,Yd,Ya,AV.keys]))
  . intro i hi _;have wi:IntKind.i64.wrap ((i:Int)+1)=(i:Int)+1:=Yg (by omega) (by omega);obtain ⟨x,hx⟩ : ∃ x,x=q[i]:=⟨_,rfl⟩;have hrx:ra q[i]=[.int .i64 x.nu,.int .i64 x.dy,.int .i64 x.fd,.int .i64 x.fl,.int .i64 x.td,.int .i64 x.tl,.bool x.bo,.int .i64 x.br]:=(by rw[<- hx];rfl);have hrx2:ra x=[.int .i64 x.nu,.int .i64 x.dy,.int .i64 x.fd,.int .i64 x.fl,.int .i64 x.td,.int .i64 x.tl,.bool x.bo,.int .i64 x.br]:=rfl;have gb:=ZnX (d:=dd) (q:=q) (x:=x) (i:=i);have hmi:(x.nu∈RN)=(sB dd q i=true):=(by rw[hx];exact propext (hrm i hi));have hpi:=hpre i hi;have hmoi:=hmo i hi;have hsg:=sB_gw (d:=dd) hi;rw[<- hx]at hpi hsg;have k1:(i:Int)+1<=q.length:=(by omega);have k2:((i:Int)+1).toNat=i+1:=(by omega);have k3:(0:Int)<=(i:Int)+1:=(by omega);have lDi:=lDD i;have aDi:=aDD i;have hsi:=hsD i;generalize DD i=D at *;have k4:i+1<=q.length:=(by omega);have k5:∀ x:Rul,(ra x).length=8:=λ_=>rfl
    have htk:(q.map ra).take q.length=q.map ra:=List.take_of_length_le (by simp);have gs0:=λk (hk:i+1+k<q.length)=>ZnY (d:=dd) (q:=q) (x:=x) (i:=i) (k:=k) hk
    refine Qga ?_;simp -implicitDefEqProofs[bk1,bkT,bkO,swC,akC,hi,hrx,wi,k1,k2,k3,k4,k5,htk,hsi];refine Zb9 (bk2 (swC r l q) (akC s mm dd A B) RN F X q dd D i x D.length) (λ_=>True) D.length ?_ trivial ?_ ?_
    . simp only[bk2,bkT,bkO,swC,akC,Nat.add_zero,gb,hrx2]
      (refine Yn.sub (by simp[lk,Ya,AV.keys]) ?_;simp only[Wkl,and_true];(try simp[lk,Yd,Ya,AV.keys]))
    . intro k hk _;have wk:IntKind.i64.wrap ((k:Int)+1)=(k:Int)+1:=Yg (by omega) (by omega);obtain ⟨h2,e2⟩:=aDi k hk;have gsk:=gs0 k h2;have hm2:(q[i+1+k].nu∈RN)=(sB dd q (i+1+k)=true):=propext (hrm _ h2);obtain ⟨y,hy⟩ : ∃ y,y=q[i+1+k]:=⟨_,rfl⟩;rw[<- hy]at e2 gsk hm2;have hry:ra y=[.int .i64 y.nu,.int .i64 y.dy,.int .i64 y.fd,.int .i64 y.fl,.int .i64 y.td,.int .i64 y.tl,.bool y.bo,.int .i64 y.br]:=rfl;have cy:=cH y.nu
      have ey:decide (y.nu∈RN)=sB dd q (i+1+k):=by
       rw[Bool.eq_iff_iff,decide_eq_true_eq,hm2]
      rw[ey]at cy;refine Qga ?_;unfold bk2
      cases hg:gwB (bkD dd) bkH q x i (i+1+k)
      . rw[hg,Bool.false_and]at gsk;simp -implicitDefEqProofs[bkT,bkO,swC,akC,hk,e2,hry,hrx2,wk];rw[gsk]
        (refine Yn.sub (by simp[lk,Ya,AV.keys]) ?_;simp only[Wkl,and_true];(try simp[lk,Yd,Ya,AV.keys]))
      . rw[hg,Bool.true_and]at gsk;by_cases hb:y.br=x.nu
        . rw[decide_eq_true hb,Bool.true_and]at gsk;simp -implicitDefEqProofs[bkT,bkO,swC,akC,hk,e2,hry,hrx2,wk,hb];refine Qco (cy) (by simp) ?_;simp -implicitDefEqProofs[wk];rw[gsk]
          (refine Yn.sub (by simp[lk,Ya,AV.keys]) ?_;simp only[Wkl,and_true];(try simp[lk,Yd,Ya,AV.keys]))
        . rw[decide_eq_false hb,Bool.false_and]at gsk;simp -implicitDefEqProofs[bkT,bkO,swC,akC,hk,e2,hry,hrx2,wk,hb];rw[gsk]
          (refine Yn.sub (by simp[lk,Ya,AV.keys]) ?_;simp only[Wkl,and_true];(try simp[lk,Yd,Ya,AV.keys]))
    . intro _;have cx:=cH x.nu
      have ex:decide (x.nu∈RN)=sB dd q i:=by
       rw[Bool.eq_iff_iff,decide_eq_true_eq,hmi]
      rw[ex]at cx;have hlen:i+1+D.length=q.length:=(by omega);have hgw:gwB (bkD dd) bkH q x i (i+1+D.length)=sB dd q i:=(by rw[hlen,hsg]);refine Qga ?_;unfold bk2;rw[hgw];simp -implicitDefEqProofs[bkT,bkO,swC,akC,hrx2];refine Qgr ?_;simp -implicitDefEqProofs[];refine Qco (cx) (by simp) ?_
      have wn:IntKind.i64.wrap (((ruN dd q i).length:Int)+1)=(((ruN dd q i).length+1:Nat):Int):=by
       have:=Zeg dd q i;rw[Yg (by omega) (by omega)];omega
      cases hs:sB dd q i
      . rw[hs]at hmoi;simp only[Bool.false_eq_true,if_false,Nat.add_zero]at hmoi;simp -implicitDefEqProofs[wi];simp only[bk1,bkT,bkO,swC,akC,hmoi]
        (refine Yn.sub (by simp[lk,Ya,AV.keys]) ?_;simp only[Wkl,and_true];(try simp[lk,Yd,Ya,AV.keys]))
      . rw[hs]at hmoi;simp only[if_true]at hmoi;obtain ⟨hlt,hval⟩:=List.getElem?_eq_some_iff.1 (hpi hs);have hlt2:¬RN.length<=(ruN dd q i).length:=(by omega);simp -implicitDefEqProofs[hlt,hlt2,hval,ia];refine ⟨rfl,?_⟩;simp -implicitDefEqProofs[wn,wi];simp only[bk1,bkT,bkO,swC,akC,hmoi]
        (refine Yn.sub (by simp[lk,Ya,AV.keys]) ?_;simp only[Wkl,and_true];(try simp[lk,Yd,Ya,AV.keys]))
  . intro _;have hrl:(ruN dd q q.length).length=RN.length:=(by rw[hRN]);refine Qga ?_;unfold bk1;rw[hrl];simp -implicitDefEqProofs[bkT,bkO,swC,akC];refine Qgr ?_;simp -implicitDefEqProofs[];refine Zb9 (bk3 (swC r l q) (akC s mm dd A B) RN F X) (λ_=>True) X.length ?_ trivial ?_ ?_
    . simp only[bk3,bkT,bkO,swC,akC]
      (refine Yn.sub (by simp[lk,Ya,AV.keys]) ?_;simp only[Wkl,and_true];(try simp[lk,Yd,Ya,AV.keys]))
    . intro j hj _;have wj:IntKind.i64.wrap ((j:Int)+1)=(j:Int)+1:=Yg (by omega) (by omega);have hb:=hby _ (List.getElem_mem hj);obtain ⟨y,hy⟩ : ∃ y,y=X[j]:=⟨_,rfl⟩;have hay:sa X[j]=[.int .i64 y.fd,.int .i64 y.fl,.int .i64 y.td,.int .i64 y.tl,.int .i64 y.nu,.bool y.nt]:=(by rw[<- hy];rfl);rw[<- hy]at hb;have c5:=cF y.nu;have c6:=cH y.nu;refine Qga ?_;unfold bk3
      cases hn:y.nt
      . rw[hn]at hay;simp only[hn,Bool.false_eq_true,if_false]at hb;rw[decide_eq_true hb]at c6;simp -implicitDefEqProofs[bkT,bkO,swC,akC,hj,hay];refine Qco (c6) (by simp) ?_;simp -implicitDefEqProofs[wj]
        (refine Yn.sub (by simp[lk,Ya,AV.keys]) ?_;simp only[Wkl,and_true];(try simp[lk,Yd,Ya,AV.keys]))
      . rw[hn]at hay;simp only[hn,if_true]at hb;rw[decide_eq_true hb]at c5;simp -implicitDefEqProofs[bkT,bkO,swC,akC,hj,hay];refine Qco (c5) (by simp) ?_;simp -implicitDefEqProofs[wj]
        (refine Yn.sub (by simp[lk,Ya,AV.keys]) ?_;simp only[Wkl,and_true];(try simp[lk,Yd,Ya,AV.keys]))
    . intro _;refine Qga ?_;unfold bk3;simp -implicitDefEqProofs[bkT,bkO,swC,akC];refine Qgr ?_;simp -implicitDefEqProofs[]
end
end Go.Proofs.YtjogcghofinemaaGreatDoor
