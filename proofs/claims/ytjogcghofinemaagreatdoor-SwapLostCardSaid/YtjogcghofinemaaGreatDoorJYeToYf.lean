/-
  The law SwapPlaces.
-/
import Derived.Test.YtjogcghofinemaaGreatDoorJSuToWe
import Derived.Test.YtjogcghofinemaaGreatDoorJTdToUn
import Derived.Test.YtjogcghofinemaaGreatDoorJAmLToAmW
set_option linter.all false
set_option linter.unusedSimpArgs false
set_option linter.unusedVariables false
set_option linter.unusedSectionVars false
namespace Go.Proofs.YtjogcghofinemaaGreatDoor
open Go.RowKit
def akC (s:List Int) (m d:Int) (a b:Rf):List AV:=[.vsl (s.map ia),.int .i64 m,.int .i64 d,.int .i64 a.1,.int .i64 a.2,.int .i64 b.1,.int .i64 b.2]
def swC (r:List Iss) (l:List Nte) (q:List Rul):List AV:=[.vsl (r.map isa),.vsl (l.map na),.vsl (q.map ra)]
section
variable {G:Nat→Option (List AV)}
end
theorem Znw {a b:Rf}:rfB a b=true↔rfLt a b:=by simp[rfB,rfLt]
section
variable {G:Nat→Option (List AV)}
end
def lsO (W K:List AV):List (Nat×AObj):=[(7,.box W),(16,.box K)]
def lsT (e:Int) (X:List Pr) (T U:Bool):List (Nat×AV):=[(22,.bool U),(20,.bool T),(18,.vsl (prM X)),(17,.int .i64 e),(16,.ptr 16 0),(15,.bool true),(7,.ptr 7 0)]
def ls1 (W K:List AV) (e:Int) (X:List Pr) (T U:Bool) (p:Pr) (i:Nat):St:=⟨(126,.int .i64 i)::(125,.int .i64 X.length)::(124,.vsl (prM X))::(26,.bool (decide (p∈X.take i)))::lsT e X T U,lsO W K⟩
def btR (d e:Int) (q:List Rul) (i:Nat):Bool:=(q.take i).any fun x=>decide (d<x.dy)&&decide (x.dy≤e)
def btN (d e:Int) (l:List Nte) (i:Nat):Bool:=(l.take i).any fun x=>decide (d<x.dy)&&decide (x.dy≤e)
def ls2 (W K:List AV) (d e:Int) (X:List Pr) (T U:Bool) (p:Pr) (q:List Rul) (i:Nat):St:=⟨(173,.int .i64 i)::(172,.int .i64 q.length)::(171,.vsl (q.map ra))::(30,.bool (btR d e q i))::(26,.bool (decide (p∈X)))::lsT e X T U,lsO W K⟩
def ls3 (W K:List AV) (d e:Int) (X:List Pr) (T U:Bool) (p:Pr) (q:List Rul) (l:List Nte) (i:Nat):St:=⟨(196,.int .i64 i)::(195,.int .i64 l.length)::(194,.vsl (l.map na))::(30,.bool (btR d e q q.length||btN d e l i))::(26,.bool (decide (p∈X)))::lsT e X T U,lsO W K⟩
theorem Znx {x y:Pr}:prLt x y↔rfB x.1 y.1=true∨x.1=y.1∧rfB x.2 y.2=true:=by rw[Znw,Znw];rfl
section
variable {G:Nat→Option (List AV)}
set_option maxRecDepth 100000 in
set_option maxHeartbeats 4000000 in
theorem Zny (hG:GC G) (hN:GN G) (hQ:GQ G) (r:List Iss) (l:List Nte) (q:List Rul) (t m d f a b:Int) (hr:∀ x∈r,KOk x) (hl:∀ x∈l,NOk x) (ht:0≤t∧t≤255) (hm:0≤m∧m≤65535) (hd:0≤d∧d≤65535) (hf:0≤f∧f≤65535) (ha:0≤a∧a≤255) (hb:0≤b∧b≤255) :
  PC Tryz.prog G 9 [swa r l q,.int .u8 t,.int .u16 m,.int .u16 d,.int .u16 f,.int .u8 a,.int .u8 b] (.bool true):=by
 have hA:=ZmO hG hN hQ;have hrd:=Zmx (G:=G) r l q hr hl
 cases hy:rdB r l q
 · rw[hy]at hrd;unfold swa at *
   (refine Z61 rfl fun R hG hrd=>Yc Yb 1000 ?_;subst hG)
   simp -implicitDefEqProofs[Z5Z,Z60]
   (first|refine Ye.of (hA) (by simp) ?_|refine Yf.of (hA) (by simp) ?_)
   simp -implicitDefEqProofs[]
   (first|refine Ye.of (hrd) (by simp) ?_|refine Yf.of (hrd) (by simp) ?_)
   simp -implicitDefEqProofs[]
 rw[hy]at hrd;have hq:=ZmV (t:=t) hy hr hl hm.1 hd.1;have hk:=Zmz (G:=G) r l q t m d a b hq.nB hq.wr.1.1 hq.ne ht hm hd ha hb;have cD:=Zmu (G:=G) f hf.1 hf.2;have mA:=Zmm hq.rne ha.1;have mB:=Zmm hq.rne hb.1;have hi:=Zml hf.1;generalize isV r a=A at *;generalize isV r b=B at *;generalize ttV l t=s at *;generalize mcV m=mm at *;generalize dyV d=dd at *;generalize dyV f=e at *;have hp:=hq.day hi;have c1:=hq.lost_pc hG hN hQ hi;have c2:=hq.may_pc hG hN hQ mA mB;have c3:=hp.may_pc hG hN hQ mA mB;have c4:=hp.lost_pc hG hN hQ hi;rw[Zne]at c4;have hmem:=Znc (T:=mayT (edg (st5 r l q s mm dd))) (U:=mayT (edg (st5 r l q s mm e))) (bs:=rfs r) (p:=(A,B));have hsrt:=Znd (T:=mayT (edg (st5 r l q s mm dd))) (U:=mayT (edg (st5 r l q s mm e))) (Znb hq.li);have hsz:=ZmC (T:=mayT (edg (st5 r l q s mm dd))) (U:=mayT (edg (st5 r l q s mm e))) hq.h0
 have hnone:(btR dd e q q.length||btN dd e l l.length)=false→dd≤e→losX (mayT (edg (st5 r l q s mm dd))) (mayT (edg (st5 r l q s mm e))) (rfs r) (rfs r).length=[]:=fun h1 h2=>by
  simp only[Bool.or_eq_false_iff,btR,btN,List.take_length,List.any_eq_false,Bool.and_eq_true,decide_eq_true_eq]at h1;rw[Zni h1.1 h1.2 h2,Zne]
 have htold:decide ((A,B)∈losX (mayT (edg (st5 r l q s mm dd))) (mayT (edg (st5 r l q s mm e))) (rfs r) (rfs r).length)=(mayT (edg (st5 r l q s mm dd)) A B && !mayT (edg (st5 r l q s mm e)) A B):=by
  rw[Bool.eq_iff_iff,decide_eq_true_eq,hmem,Bool.and_eq_true,Bool.not_eq_true'];exact ⟨fun h=>h.2.2,fun h=>⟨mA,mB,h.1,h.2⟩⟩
 have hql:=hq.wq;have hll:=hq.wl.1;unfold Sml at hql hll;clear hmem;generalize losX (mayT (edg (st5 r l q s mm dd))) (mayT (edg (st5 r l q s mm e))) (rfs r) (rfs r).length=X at *;generalize mayT (edg (st5 r l q s mm dd)) A B=T at *;generalize mayT (edg (st5 r l q s mm e)) A B=U at *;have lp:=Zl8 X;have e0:prM []=[]:=rfl;rw[e0]at c4;unfold swa akA at *
 (refine Z61 rfl fun R hG hrd=>Yc Yb 1000 ?_;subst hG)
 simp -implicitDefEqProofs[Z5Z,Z60]
 (first|refine Ye.of (hA) (by simp) ?_|refine Yf.of (hA) (by simp) ?_)
 simp -implicitDefEqProofs[]
 (first|refine Ye.of (hrd) (by simp) ?_|refine Yf.of (hrd) (by simp) ?_)
 simp -implicitDefEqProofs[]
 (first|refine Ye.of (hk) (by simp) ?_|refine Yf.of (hk) (by simp) ?_)
 simp -implicitDefEqProofs[]
 (first|refine Ye.of (cD) (by simp) ?_|refine Yf.of (cD) (by simp) ?_)
 simp -implicitDefEqProofs[]
 (first|refine Ye.of (c1) (by simp) ?_|refine Yf.of (c1) (by simp) ?_)
 simp -implicitDefEqProofs[]
 (first|refine Ye.of (c2) (by simp) ?_|refine Yf.of (c2) (by simp) ?_)
 simp -implicitDefEqProofs[]
 (first|refine Ye.of (c3) (by simp) ?_|refine Yf.of (c3) (by simp) ?_)
 simp -implicitDefEqProofs[]
 (first|refine Ye.of (c4) (by simp) ?_|refine Yf.of (c4) (by simp) ?_)
 simp -implicitDefEqProofs[lp];refine ZaX (ls1 (swC r l q) (akC s mm dd A B) e X T U (A,B)) (fun _=>True) X.length ?_ trivial ?_ ?_
 · simp only[ls1,lsT,lsO,swC,akC,List.take_zero,List.not_mem_nil,decide_false]
   (refine Yn.sub (by simp[lk,Ya,AV.keys]) ?_;simp only[Wkl,and_true];(try simp[lk,Yd,Ya,AV.keys]))
 · intro i hi _;have wi:IntKind.i64.wrap ((i:Int)+1)=(i:Int)+1:=Yg (by omega) (by omega);have hx:∀ k (h:k<X.length) (h2:k<(prM X).length),(prM X)[k]=[.int .i64 X[k].1.1,.int .i64 X[k].1.2,.int .i64 X[k].2.1,.int .i64 X[k].2.2]:=fun k h h2=>by simp[prM,pra]
   have hxi:=hx i hi (by omega);have tk:decide ((A,B)∈X.take (i+1))=(decide ((A,B)∈X.take i)||decide (X[i]=(A,B))):=Znk hi
   have e4:(decide (X[i].1.1=A.1)&&(decide (X[i].1.2=A.2)&&(decide (X[i].2.1=B.1)&&decide (X[i].2.2=B.2))))=decide (X[i]=(A,B)):=by
    rw[Bool.eq_iff_iff];simp only[Bool.and_eq_true,decide_eq_true_eq,Prod.ext_iff]
    constructor
    · rintro ⟨h1,h2,h3,h4⟩;exact ⟨⟨h1,h2⟩,h3,h4⟩
    · rintro ⟨⟨h1,h2⟩,h3,h4⟩;exact ⟨h1,h2,h3,h4⟩
   have wk:∀ k:Nat,k<4000→IntKind.i64.wrap (k:Int)=k:=fun k h=>Yg (by omega) (by omega)
   unfold ls1
   cases i with
   | zero =>
     have tk0:decide ((A,B)∈X.take 0)=false:=(by simp);have w1:IntKind.i64.wrap 1=1:=rfl;rw[tk0,Bool.false_or]at tk;rw[tk0];refine Yc Yb 1000 ?_;simp -implicitDefEqProofs[lsT,lsO,swC,akC,hi,lp,hxi,w1,e4];rw[tk]
     (refine Yn.sub (by simp[lk,Ya,AV.keys]) ?_;simp only[Wkl,and_true];(try simp[lk,Yd,Ya,AV.keys]))
   | succ k =>
     have hk2:k<X.length:=(by omega);have hxk:=hx k hk2 (by omega);have k1:(k:Int)+1<X.length:=(by omega);have k2:((k:Int)+1).toNat=k+1:=(by omega);have k3:(0:Int)≤(k:Int)+1:=(by omega);have wkk:=wk k (by omega);have wj2:IntKind.i64.wrap ((k:Int)+1+1)=(k:Int)+1+1:=Yg (by omega) (by omega);have le1:=Zmy (G:=R.G) X[k].1 X[k+1].1;have le2:=Zmy (G:=R.G) X[k].2 X[k+1].2;have hlt:=Znx.1 (List.pairwise_iff_getElem.1 hsrt k (k+1) hk2 hi (by omega));generalize decide ((A,B)∈X.take (k+1))=b0 at *;refine Yc Yb 1000 ?_;rcases hlt with h | ⟨h,h2⟩
     · rw[h]at le1;simp -implicitDefEqProofs[lsT,lsO,swC,akC,hi,lp,hxi,hxk,k1,k2,k3,wkk,hk2]
       (first|refine Ye.of (le1) (by simp) ?_|refine Yf.of (le1) (by simp) ?_)
       cases b0
       · simp -implicitDefEqProofs[wj2,e4];rw[tk,Bool.false_or]
         (refine Yn.sub (by simp[lk,Ya,AV.keys]) ?_;simp only[Wkl,and_true];(try simp[lk,Yd,Ya,AV.keys]))
       · simp -implicitDefEqProofs[wj2];rw[tk,Bool.true_or]
         (refine Yn.sub (by simp[lk,Ya,AV.keys]) ?_;simp only[Wkl,and_true];(try simp[lk,Yd,Ya,AV.keys]))
     · have hf:rfB X[k].1 X[k+1].1=false:=(by rw[h];simp[rfB]);rw[hf]at le1;rw[h2]at le2;have h3:=congrArg Prod.fst h;have h4:=congrArg Prod.snd h;simp -implicitDefEqProofs[lsT,lsO,swC,akC,hi,lp,hxi,hxk,k1,k2,k3,wkk,hk2]
       (first|refine Ye.of (le1) (by simp) ?_|refine Yf.of (le1) (by simp) ?_)
       simp -implicitDefEqProofs[h3,h4]
       (first|refine Ye.of (le2) (by simp) ?_|refine Yf.of (le2) (by simp) ?_)
       cases b0
       · simp -implicitDefEqProofs[wj2,e4];rw[tk,Bool.false_or]
         (refine Yn.sub (by simp[lk,Ya,AV.keys]) ?_;simp only[Wkl,and_true];(try simp[lk,Yd,Ya,AV.keys]))
       · simp -implicitDefEqProofs[wj2];rw[tk,Bool.true_or]
         (refine Yn.sub (by simp[lk,Ya,AV.keys]) ?_;simp only[Wkl,and_true];(try simp[lk,Yd,Ya,AV.keys]))
 · intro _;refine Yc Yb 1000 ?_;simp -implicitDefEqProofs[ls1,lsT,lsO,swC,akC,List.take_length];refine Z2M Yb 1000 ?_;simp -implicitDefEqProofs[];refine ZaX (ls2 (swC r l q) (akC s mm dd A B) dd e X T U (A,B) q) (fun _=>True) q.length ?_ trivial ?_ ?_
   · simp only[ls2,lsT,lsO,swC,akC,btR,List.take_zero,List.any_nil]
     (refine Yn.sub (by simp[lk,Ya,AV.keys]) ?_;simp only[Wkl,and_true];(try simp[lk,Yd,Ya,AV.keys]))
   · intro i hi _;have wi:IntKind.i64.wrap ((i:Int)+1)=(i:Int)+1:=Yg (by omega) (by omega);obtain ⟨x,hx⟩ : ∃ x,x=q[i]:=⟨_,rfl⟩;have hrx:ra q[i]=[.int .i64 x.nu,.int .i64 x.dy,.int .i64 x.fd,.int .i64 x.fl,.int .i64 x.td,.int .i64 x.tl,.bool x.bo,.int .i64 x.br]:=by rw[← hx];rfl
     have hs:btR dd e q (i+1)=(btR dd e q i||(decide (dd<x.dy)&&decide (x.dy≤e))):=by
      unfold btR;rw[List.take_succ_eq_append_getElem hi,List.any_append,hx];simp
     generalize decide ((A,B)∈X)=tl at *;refine Yc Yb 1000 ?_;unfold ls2
     cases hb:btR dd e q i
     · by_cases h1:dd<x.dy
       · simp only[hb,h1,decide_true,Bool.true_and,Bool.false_or]at hs;simp -implicitDefEqProofs[lsT,lsO,swC,akC,hi,hrx,wi,h1];rw[hs]
         (refine Yn.sub (by simp[lk,Ya,AV.keys]) ?_;simp only[Wkl,and_true];(try simp[lk,Yd,Ya,AV.keys]))
       · simp only[hb,h1,decide_false,Bool.false_and,Bool.false_or]at hs;simp -implicitDefEqProofs[lsT,lsO,swC,akC,hi,hrx,wi,h1];rw[hs]
         (refine Yn.sub (by simp[lk,Ya,AV.keys]) ?_;simp only[Wkl,and_true];(try simp[lk,Yd,Ya,AV.keys]))
     · simp only[hb,Bool.true_or]at hs;simp -implicitDefEqProofs[lsT,lsO,swC,akC,hi,hrx,wi];rw[hs]
       (refine Yn.sub (by simp[lk,Ya,AV.keys]) ?_;simp only[Wkl,and_true];(try simp[lk,Yd,Ya,AV.keys]))
   · intro _;refine Yc Yb 1000 ?_;simp -implicitDefEqProofs[ls2,lsT,lsO,swC,akC];refine Z2M Yb 1000 ?_;simp -implicitDefEqProofs[];refine ZaX (ls3 (swC r l q) (akC s mm dd A B) dd e X T U (A,B) q l) (fun _=>True) l.length ?_ trivial ?_ ?_
     · simp only[ls3,lsT,lsO,swC,akC,btN,List.take_zero,List.any_nil,Bool.or_false]
       (refine Yn.sub (by simp[lk,Ya,AV.keys]) ?_;simp only[Wkl,and_true];(try simp[lk,Yd,Ya,AV.keys]))
     · intro i hi _;have wi:IntKind.i64.wrap ((i:Int)+1)=(i:Int)+1:=Yg (by omega) (by omega);obtain ⟨x,hx⟩ : ∃ x,x=l[i]:=⟨_,rfl⟩;have hrx:na l[i]=[.int .i64 x.nu,.int .i64 x.dy,.int .u8 x.sg,.int .i64 x.dr,.int .i64 x.lt,.int .i64 x.fr,.int .i64 x.tu,.int .i64 x.ca,.bool x.up,.int .u8 x.wy]:=by rw[← hx];rfl
       have hs:btN dd e l (i+1)=(btN dd e l i||(decide (dd<x.dy)&&decide (x.dy≤e))):=by
        unfold btN;rw[List.take_succ_eq_append_getElem hi,List.any_append,hx];simp
       generalize decide ((A,B)∈X)=tl at *;refine Yc Yb 1000 ?_;replace hs:(btR dd e q q.length||btN dd e l (i+1))=((btR dd e q q.length||btN dd e l i)||(decide (dd<x.dy)&&decide (x.dy≤e))):=by rw[hs,Bool.or_assoc]
       unfold ls3
       cases hb:(btR dd e q q.length||btN dd e l i)
       · by_cases h1:dd<x.dy
         · simp only[hb,h1,decide_true,Bool.true_and,Bool.false_or]at hs;simp -implicitDefEqProofs[lsT,lsO,swC,akC,hi,hrx,wi,h1];rw[hs]
           (refine Yn.sub (by simp[lk,Ya,AV.keys]) ?_;simp only[Wkl,and_true];(try simp[lk,Yd,Ya,AV.keys]))
         · simp only[hb,h1,decide_false,Bool.false_and,Bool.false_or]at hs;simp -implicitDefEqProofs[lsT,lsO,swC,akC,hi,hrx,wi,h1];rw[hs]
           (refine Yn.sub (by simp[lk,Ya,AV.keys]) ?_;simp only[Wkl,and_true];(try simp[lk,Yd,Ya,AV.keys]))
       · simp only[hb,Bool.true_or]at hs;simp -implicitDefEqProofs[lsT,lsO,swC,akC,hi,hrx,wi];rw[hs]
         (refine Yn.sub (by simp[lk,Ya,AV.keys]) ?_;simp only[Wkl,and_true];(try simp[lk,Yd,Ya,AV.keys]))
     · intro _;refine Yc Yb 1000 ?_;unfold ls3;rw[htold]
       cases hb:(btR dd e q q.length||btN dd e l l.length)
       · by_cases h1:e<dd
         · cases T <;> cases U <;>
           · simp -implicitDefEqProofs[lsT,lsO,swC,akC,h1,lp];refine Z2M Yb 1000 ?_;simp -implicitDefEqProofs[h1,lp]
         · have hX:=hnone hb (by omega)
           cases T <;> cases U <;>
           · simp -implicitDefEqProofs[lsT,lsO,swC,akC,h1,lp,hX,e0];refine Z2M Yb 1000 ?_;simp -implicitDefEqProofs[h1,lp,hX,e0]
       · cases T <;> cases U <;>
         · simp -implicitDefEqProofs[lsT,lsO,swC,akC,lp];refine Z2M Yb 1000 ?_;simp -implicitDefEqProofs[lp]
end
end Go.Proofs.YtjogcghofinemaaGreatDoor
