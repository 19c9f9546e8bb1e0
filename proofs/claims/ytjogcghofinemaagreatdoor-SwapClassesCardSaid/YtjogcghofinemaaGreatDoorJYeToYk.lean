/-
  The law SwapPlaces.
-/
import Derived.Test.YtjogcghofinemaaGreatDoorJTpToYg
import Derived.Test.YtjogcghofinemaaGreatDoorJTdToSu
set_option linter.all false
set_option linter.unusedSimpArgs false
set_option linter.unusedVariables false
set_option linter.unusedSectionVars false
namespace Go.Proofs.YtjogcghofinemaaGreatDoor
open Go.RowKit
def akC (s:List Int) (m d:Int) (a b:Rf):List AV:=[.vsl (s.map ia),.int .i64 m,.int .i64 d,.int .i64 a.1,.int .i64 a.2,.int .i64 b.1,.int .i64 b.2]
def swC (r:List Iss) (l:List Nte) (q:List Rul):List AV:=[.vsl (r.map isa),.vsl (l.map na),.vsl (q.map ra)]
section
variable {G:Nat->Option (List AV)}
end
theorem Zoa {a b:Rf}:rfB a b=true↔rfLt a b:=by simp[rfB,rfLt]
theorem Zob {c:List Rf} (h:c.Pairwise rfLt) {k:Nat} (hk:k+1<c.length):rfB (c[k]'(by omega)) c[k+1]=true:=Zoa.2 (List.pairwise_iff_getElem.1 h k (k+1) (by omega) hk (by omega))
section
variable {G:Nat->Option (List AV)}
end
theorem Zoc {T:Rf->Rf->Bool} {bs:List Rf}:(clX T bs bs.length).length<=bs.length:=by
 unfold clX;rw[ZjQ,List.length_map];exact List.length_filter_le _ _
theorem Zod {T:Rf->Rf->Bool} {bs:List Rf} {a:Rf}:(ownT T bs a).length<=bs.length:=by
 unfold ownT;rw[ZjQ];exact List.length_filter_le _ _
def tgB (C:List (List Rf)) (A B:Rf) (i:Nat):Bool:=(C.take i).any λc=>decide (A∈c)&&decide (B∈c)
def ofN (C:List (List Rf)) (A:Rf) (i:Nat):Nat:=((C.take i).filter λc=>decide (A∈c)).length
theorem Zoe {C:List (List Rf)} {A B:Rf} {i:Nat} (h:i<C.length):tgB C A B (i+1)=(tgB C A B i||(decide (A∈C[i])&&decide (B∈C[i]))):=by
 unfold tgB;rw[List.take_succ_eq_append_getElem h,List.any_append];simp
theorem Zof {C:List (List Rf)} {A:Rf} {i:Nat} (h:i<C.length):ofN C A (i+1)=ofN C A i+(if A∈C[i] then 1 else 0):=by
 unfold ofN;rw[List.take_succ_eq_append_getElem h,List.filter_append,List.length_append]
 split
 . rename_i e;rw[List.filter_cons_of_pos (by simpa using e)];rfl
 . rename_i e;rw[List.filter_cons_of_neg (by simpa using e)];rfl
theorem Zog {C:List (List Rf)} {A:Rf} {i:Nat}:ofN C A i<=C.length:=by
 unfold ofN;exact Nat.le_trans (List.length_filter_le _ _) (by simp;omega)
structure ClF (C:List (List Rf)) (A B:Rf) (T U:Bool):Prop where
 len:C.length<=80
 two:∀ i (h:i<C.length),2<=C[i].length/\C[i].Pairwise rfLt/\C[i].length<=80
 next:∀ k (h:k+1<C.length) (h0:0<C[k].length) (h1:0<C[k+1].length),rfB C[k][0] C[k+1][0]=true
 both:A≠B->tgB C A B C.length=(T&&U)
 tog:tgB C A B C.length=true->T=true/\U=true
 once:ofN C A C.length<=1
theorem Zoh {r:List Iss} {l:List Nte} {q:List Rul} {s:List Int} {m d:Int} (h:Rq r l q s m d) {A B:Rf} (hA:A∈rfs r) (hB:B∈rfs r) :
  ClF (clX (mayT (edg (st5 r l q s m d))) (rfs r) (rfs r).length) A B (mayT (edg (st5 r l q s m d)) A B) (mayT (edg (st5 r l q s m d)) B A):=by
 have hE:=h.e1000;have hs:=ZnC h.li;have h80:=h.rlen;have cs:=ZnF (T:=mayT (edg (st5 r l q s m d))) hs
 have tog:∀ {C:List (List Rf)},tgB C A B C.length=true↔∃ c∈C,A∈c/\B∈c:=λ{C}=>by
  unfold tgB;rw[List.take_length,List.any_eq_true];simp only[Bool.and_eq_true,decide_eq_true_eq]
 refine ⟨by have:=Zoc (T:=mayT (edg (st5 r l q s m d))) (bs:=rfs r);omega,λi hi=>?_,λk hk h0 h1=>?_,λhab=>?_,λht=>?_,?_⟩
 . obtain ⟨a,ha,h1,h2⟩:=ZnE.1 (List.getElem_mem hi);rw[h2];simp only[hdT,Bool.and_eq_true,decide_eq_true_eq]at h1;exact ⟨by omega,ZnD hs a,by have:=Zod (T:=mayT (edg (st5 r l q s m d))) (bs:=rfs r) (a:=a);omega⟩
 . obtain ⟨a,b,h2,h3,h4⟩:=List.pairwise_iff_getElem.1 cs k (k+1) (by omega) hk (by omega);rw[List.head?_eq_getElem?,List.getElem?_eq_getElem h0,Option.some.injEq]at h2;rw[List.head?_eq_getElem?,List.getElem?_eq_getElem h1,Option.some.injEq]at h3;rw[h2,h3];exact Zoa.2 h4
 . rw[Bool.eq_iff_iff,tog,Bool.and_eq_true];exact ZnH hE hA hB hab
 . obtain ⟨c,hc,h1,h2⟩:=tog.1 ht;obtain ⟨x,hx,-,rfl⟩:=ZnE.1 hc;obtain ⟨-,p1,p2⟩:=Zlc.1 h1;obtain ⟨-,q1,q2⟩:=Zlc.1 h2;exact ⟨Zng hE p2 q1,Zng hE q2 p1⟩
 . unfold ofN;rw[List.take_length];have ho:=(ZnI hE hs (a:=A)).sublist (List.filter_sublist (p:=λc=>decide (A∈c)))
   cases e:(clX (mayT (edg (st5 r l q s m d))) (rfs r) (rfs r).length).filter λc=>decide (A∈c) with
   |nil=>simp
   | cons x t =>
     cases t with
     |nil=>simp
     | cons y t =>
       rw[e]at ho;have hx:x∈(clX (mayT (edg (st5 r l q s m d))) (rfs r) (rfs r).length).filter λc=>decide (A∈c):=by rw[e];simp
       have hy:y∈(clX (mayT (edg (st5 r l q s m d))) (rfs r) (rfs r).length).filter λc=>decide (A∈c):=by rw[e];simp
       have h1:=(List.mem_filter.1 hx).2;have h2:=(List.mem_filter.1 hy).2;rw[decide_eq_true_eq]at h1 h2;exact absurd ⟨h1,h2⟩ ((List.pairwise_cons.1 ho).1 y (List.mem_cons_self ..))
def ksO (W K:List AV):List (Nat×AObj):=[(6,.box W),(14,.box K)]
def ksT (C:List (List Rf)) (A B:Rf) (T U:Bool) (i:Nat):List (Nat×AV):=[(101,.int .i64 i),(100,.int .i64 C.length),(99,.vsl (clM C)),(22,.int .i64 (ofN C A i)),(21,.bool (tgB C A B i)),(19,.bool U),(17,.bool T),(15,.vsl (clM C)),(14,.ptr 14 0),(13,.bool true),(6,.ptr 6 0)]
def ks1 (W K:List AV) (C:List (List Rf)) (A B:Rf) (T U:Bool) (i:Nat):St:=⟨ksT C A B T U i,ksO W K⟩
def ks2 (W K:List AV) (C:List (List Rf)) (A B:Rf) (T U:Bool) (i:Nat) (c:List Rf) (j:Nat):St:=⟨(129,.int .i64 j)::(128,.int .i64 c.length)::(127,.vsl (c.map ita))::(24,.vsl (c.map ita))::ksT C A B T U i,ksO W K⟩
section
variable {G:Nat->Option (List AV)}
set_option maxRecDepth 100000 in
set_option maxHeartbeats 4000000 in
theorem Zoi (hG:GC G) (hN:GN G) (hQ:GQ G) (r:List Iss) (l:List Nte) (q:List Rul) (t m d a b:Int) (hr:∀ x∈r,KOk x) (hl:∀ x∈l,NOk x) (ht:0<=t/\t<=255) (hm:0<=m/\m<=65535) (hd:0<=d/\d<=65535) (ha:0<=a/\a<=255) (hb:0<=b/\b<=255) :
  PC Tryz.prog G 7 [swa r l q,.int .u8 t,.int .u16 m,.int .u16 d,.int .u8 a,.int .u8 b] (.bool true):=by
 have hA:=Znc hG hN hQ;have hrd:=ZmU (G:=G) r l q hr hl
 cases hy:rdB r l q
 . rw[hy]at hrd;unfold swa at *
   (refine Z6a rfl λR hG hrd=>Qga ?_;subst hG)
   simp -implicitDefEqProofs[Z68,Z69];refine Qco (hA) (by simp) ?_;simp -implicitDefEqProofs[];refine Qco (hrd) (by simp) ?_;simp -implicitDefEqProofs[]
 rw[hy]at hrd;have hq:=Znk (t:=t) hy hr hl hm.1 hd.1;have hk:=ZmY (G:=G) r l q t m d a b hq.nB hq.wr.1.1 hq.ne ht hm hd ha hb;have mA:=ZmJ hq.rne ha.1;have mB:=ZmJ hq.rne hb.1;generalize isV r a=A at *;generalize isV r b=B at *;generalize ttV l t=s at *;generalize mcV m=mm at *;generalize dyV d=dd at *;have c1:=hq.classes_pc hG hN hQ;have c2:=hq.may_pc hG hN hQ mA mB;have c3:=hq.may_pc hG hN hQ mB mA;have c4:=hq.for_pc hG hN hQ mA;have c5:=hq.for_pc hG hN hQ mB;have c6:=hq.in_pc hG hN hQ mA;have c7:=hq.in_pc hG hN hQ mB;have F:=Zoh hq mA mB;have hE:=hq.e1000
 have same:∀ t,mayT (edg (st5 r l q s mm dd)) A B=true->mayT (edg (st5 r l q s mm dd)) B A=true->rcL r (st5 r l q s mm dd) t A=rcL r (st5 r l q s mm dd) t B:=λt h1 h2=>by
  cases t
  . exact Zni hq.l1000 (t:=false) h1 h2
  . refine Zni hq.l1000 (t:=true) ?_ ?_
    . show mayT (tuE _) A B=true;rw[Znh hE];exact h2
    . show mayT (tuE _) B A=true;rw[Znh hE];exact h1
 have le:∀ t x,Sml (rcL r (st5 r l q s mm dd) t x):=λt x=>by have:=Zl2 (r:=r) (L:=st5 r l q s mm dd) (t:=t) (x:=x);have:=hq.h80;unfold Sml;omega
 have s1:=ZeU (G:=G) (rcL r (st5 r l q s mm dd) false A) (rcL r (st5 r l q s mm dd) false B) (le _ _);have s2:=ZeU (G:=G) (rcL r (st5 r l q s mm dd) true A) (rcL r (st5 r l q s mm dd) true B) (le _ _);have same1:=same false;have same2:=same true;clear same le hE;generalize clX (mayT (edg (st5 r l q s mm dd))) (rfs r) (rfs r).length=C at *;generalize mayT (edg (st5 r l q s mm dd)) A B=T at *;generalize mayT (edg (st5 r l q s mm dd)) B A=U at *;generalize rcL r (st5 r l q s mm dd) false A=P1 at *;generalize rcL r (st5 r l q s mm dd) false B=P2 at *;generalize rcL r (st5 r l q s mm dd) true A=Q1 at *;generalize rcL r (st5 r l q s mm dd) true B=Q2 at *;have lC:(clM C).length=C.length:=(by simp[clM]);have aC:∀ i (h:i<C.length) (h2:i<(clM C).length),(clM C)[i]=[.vsl (C[i].map ita)]:=λi h h2=>by simp[clM,acM]
 unfold swa akA at *
 (refine Z6a rfl λR hG hrd=>Qga ?_;subst hG)
 simp -implicitDefEqProofs[Z68,Z69];refine Qco (hA) (by simp) ?_;simp -implicitDefEqProofs[];refine Qco (hrd) (by simp) ?_;simp -implicitDefEqProofs[];refine Qco (hk) (by simp) ?_;simp -implicitDefEqProofs[];refine Qco (c1) (by simp) ?_;simp -implicitDefEqProofs[];refine Qco (c2) (by simp) ?_;simp -implicitDefEqProofs[];refine Qco (c3) (by simp) ?_;simp -implicitDefEqProofs[lC];refine Zb9 (ks1 (swC r l q) (akC s mm dd A B) C A B T U) (λ_=>True) C.length ?_ trivial ?_ ?_
 . have e1:tgB C A B 0=false:=rfl;have e2:ofN C A 0=0:=rfl;simp only[ks1,ksT,ksO,swC,akC,e1,e2]
   (refine Yn.sub (by simp[lk,Ya,AV.keys]) ?_;simp only[Wkl,and_true];(try simp[lk,Yd,Ya,AV.keys]))
 . intro i hi _;have hC80:=F.len;have wi:IntKind.i64.wrap ((i:Int)+1)=(i:Int)+1:=Yg (by omega) (by omega);obtain ⟨F2,F3,F4⟩:=F.two i hi;have t1:=Zoe (A:=A) (B:=B) hi;have t2:=Zof (A:=A) hi;have hoL:=Zog (C:=C) (A:=A) (i:=i);have w22:IntKind.i64.wrap ((ofN C A i:Int)+1)=((ofN C A i+1:Nat):Int):=(by rw[Yg (by omega) (by omega)];omega);have ha1:=aC i hi (by omega);have F2k:=λk (h:k+1=i)=>(F.two k (by omega)).1
   have ha2:=λk (h:k+1=i)=>aC k (by omega) (by omega)
   have n2:¬(C[i].length:Int)<2:=(by omega);have n3:0<C[i].length:=(by omega);have n4:(0:Int)<C[i].length:=(by omega);have iA:=ZmW (G:=R.G) C[i] A.1 A.2 (by unfold Sml;omega);have iB:=ZmW (G:=R.G) C[i] B.1 B.2 (by unfold Sml;omega);have hita:∀ x:Rf,ita x=[.int .i64 x.1,.int .i64 x.2]:=λ_=>rfl
   have hc:∃ c,c=C[i]:=⟨_,rfl⟩;obtain ⟨c,hc⟩:=hc;rw[<- hc]at F2 F3 F4 t1 t2 ha1 n2 n3 n4 iA iB;have iA':PC Tryz.prog R.G 29 [.vsl (c.map ita),.agg [.int .i64 A.1,.int .i64 A.2]] (.bool (decide (A∈c))):=iA;have iB':PC Tryz.prog R.G 29 [.vsl (c.map ita),.agg [.int .i64 B.1,.int .i64 B.2]] (.bool (decide (B∈c))):=iB;have wk1:IntKind.i64.wrap ((i:Int)-1)=(i:Int)-1:=Yg (by omega) (by omega);refine Qga ?_;unfold ks1;by_cases hi0:i=0
   case' pos =>
    have hz:¬0<i:=(by omega);simp -implicitDefEqProofs[ksT,ksO,swC,akC,hi,lC,ha1,n2,n3,n4,hz];refine ⟨rfl,?_⟩
   case' neg =>
    have hz:0<i:=(by omega);have hk2:i-1<C.length:=(by omega);have hk3:i-1+1=i:=(by omega);have hak:=ha2 (i-1) hk3;have nk:=F2k (i-1) hk3;have m3:0<(C[i-1]'hk2).length:=(by omega);have m4:(0:Int)<(C[i-1]'hk2).length:=by omega
    have hlt:rfB (C[i-1]'hk2)[0] c[0]=true:=by
     have h1:=F.next (i-1) (by omega) m3 (by simp only[hk3];rw[<- hc];exact n3);simp only[hk3]at h1;subst hc;exact h1
    have less:=ZmX (G:=R.G) (C[i-1]'hk2)[0] c[0];rw[hlt]at less;have k1:(i:Int)-1<C.length:=(by omega);have k2:((i:Int)-1).toNat=i-1:=(by omega);have k3:(0:Int)<=(i:Int)-1:=(by omega);have k5:(1:Int)<=i:=(by omega);simp -implicitDefEqProofs[ksT,ksO,swC,akC,hi,lC,ha1,hak,n2,n3,n4,m3,m4,wk1,k1,k2,k3,k5,hk2,hita,hz];refine Qco (less) (by simp) ?_;simp -implicitDefEqProofs[];refine ⟨rfl,?_⟩
   all_goals
    refine Zb9 (ks2 (swC r l q) (akC s mm dd A B) C A B T U i c) (λ_=>True) c.length ?_ trivial ?_ ?_
    . simp only[ks2,ksT,ksO,swC,akC]
      (refine Yn.sub (by simp[lk,Ya,AV.keys]) ?_;simp only[Wkl,and_true];(try simp[lk,Yd,Ya,AV.keys]))
    . intro j hj _;have wj:IntKind.i64.wrap ((j:Int)+1)=(j:Int)+1:=Yg (by omega) (by omega);refine Qga ?_;unfold ks2
      cases j with
      | zero =>
        have w1:IntKind.i64.wrap 1=1:=rfl;simp -implicitDefEqProofs[ksT,ksO,swC,akC,hj,hita,w1];refine ⟨rfl,?_⟩
        (refine Yn.sub (by simp[lk,Ya,AV.keys]) ?_;simp only[Wkl,and_true];(try simp[lk,Yd,Ya,AV.keys]))
      | succ k =>
        have sr:=Zob F3 hj;have wk:IntKind.i64.wrap (k:Int)=k:=Yg (by omega) (by omega);have hk2:k<c.length:=(by omega);have less:=ZmX (G:=R.G) c[k] c[k+1];rw[sr]at less;have wj2:IntKind.i64.wrap ((k:Int)+1+1)=(k:Int)+1+1:=Yg (by omega) (by omega);have k1:(k:Int)+1<c.length:=(by omega);have k2:((k:Int)+1).toNat=k+1:=(by omega);have k3:(0:Int)<=(k:Int)+1:=(by omega);simp -implicitDefEqProofs[ksT,ksO,swC,akC,hj,hita,wk,k1,k2,k3,hk2];refine Qco (less) (by simp) ?_;simp -implicitDefEqProofs[];refine ⟨rfl,?_⟩;simp -implicitDefEqProofs[wj2]
        (refine Yn.sub (by simp[lk,Ya,AV.keys]) ?_;simp only[Wkl,and_true];(try simp[lk,Yd,Ya,AV.keys]))
    . intro _;refine Qga ?_;unfold ks2;simp -implicitDefEqProofs[ksT,ksO,swC,akC];refine Qgr ?_
      cases hb:tgB C A B i
      all_goals rw[hb]at t1
      . by_cases mA:A∈c
        . rw[decide_eq_true mA]at iA' t1;rw[if_pos mA]at t2;by_cases mB:B∈c
          . rw[decide_eq_true mB]at iB' t1;simp -implicitDefEqProofs[];refine Qco (iA') (by simp) ?_;simp -implicitDefEqProofs[];refine Qco (iB') (by simp) ?_;simp -implicitDefEqProofs[];refine Qco (iA') (by simp) ?_;simp -implicitDefEqProofs[w22,wi];rw[t2,t1]
            (refine Yn.sub (by simp[lk,Ya,AV.keys]) ?_;simp only[Wkl,and_true];(try simp[lk,Yd,Ya,AV.keys]))
          . rw[decide_eq_false mB]at iB' t1;simp -implicitDefEqProofs[];refine Qco (iA') (by simp) ?_;simp -implicitDefEqProofs[];refine Qco (iB') (by simp) ?_;simp -implicitDefEqProofs[];refine Qco (iA') (by simp) ?_;simp -implicitDefEqProofs[w22,wi];rw[t2,t1]
            (refine Yn.sub (by simp[lk,Ya,AV.keys]) ?_;simp only[Wkl,and_true];(try simp[lk,Yd,Ya,AV.keys]))
        . rw[decide_eq_false mA]at iA' t1;rw[if_neg mA]at t2;simp -implicitDefEqProofs[];refine Qco (iA') (by simp) ?_;simp -implicitDefEqProofs[];refine Qco (iA') (by simp) ?_;simp -implicitDefEqProofs[w22,wi];rw[t2,t1]
          (refine Yn.sub (by simp[lk,Ya,AV.keys]) ?_;simp only[Wkl,and_true];(try simp[lk,Yd,Ya,AV.keys]))
      . by_cases mA:A∈c
        . rw[decide_eq_true mA]at iA' t1;rw[if_pos mA]at t2;simp -implicitDefEqProofs[];refine Qco (iA') (by simp) ?_;simp -implicitDefEqProofs[w22,wi];rw[t2,t1]
          (refine Yn.sub (by simp[lk,Ya,AV.keys]) ?_;simp only[Wkl,and_true];(try simp[lk,Yd,Ya,AV.keys]))
        . rw[decide_eq_false mA]at iA' t1;rw[if_neg mA]at t2;simp -implicitDefEqProofs[];refine Qco (iA') (by simp) ?_;simp -implicitDefEqProofs[w22,wi];rw[t2,t1]
          (refine Yn.sub (by simp[lk,Ya,AV.keys]) ?_;simp only[Wkl,and_true];(try simp[lk,Yd,Ya,AV.keys]))
 . intro _;have Fb:=F.both;have Ft:=F.tog;have Fo:=F.once;have Fo2:¬1<ofN C A C.length:=(by omega);have Fo3:¬(1:Int)<ofN C A C.length:=(by omega);refine Qga ?_;unfold ks1
   have eAB:A≠B->(!decide (A.1=B.1) || !decide (A.2=B.2))=true:=λh=>by
    cases c:(!decide (A.1=B.1) || !decide (A.2=B.2))
    . simp only[Bool.or_eq_false_iff,Bool.not_eq_false',decide_eq_true_eq]at c;exact absurd (Prod.ext c.1 c.2) h
    . rfl
   simp -implicitDefEqProofs[ksT,ksO,swC,akC];generalize ofN C A C.length=no at *;generalize tgB C A B C.length=tg at *;refine Qgr ?_
   cases tg
   . by_cases hAB:A=B
     . simp -implicitDefEqProofs[hAB,Fo2,Fo3]
     . have h1:=Fb hAB
       cases T <;> cases U
       case true.true=>simp at h1
       all_goals simp -implicitDefEqProofs[eAB hAB,Fo2,Fo3]
   . obtain ⟨rfl,rfl⟩:=Ft rfl;rw[decide_eq_true (same1 rfl rfl)]at s1;rw[decide_eq_true (same2 rfl rfl)]at s2;by_cases hAB:A=B
     case' pos=>simp -implicitDefEqProofs[hAB,Fo2,Fo3]
     case' neg=>simp -implicitDefEqProofs[eAB hAB,Fo2,Fo3]
     all_goals
      try subst hAB
      refine Qco (c4) (by simp) ?_;simp -implicitDefEqProofs[];refine Qco (c5) (by simp) ?_;simp -implicitDefEqProofs[];refine Qco (c6) (by simp) ?_;simp -implicitDefEqProofs[];refine Qco (c7) (by simp) ?_;simp -implicitDefEqProofs[];refine Qco (s1) (by simp) ?_;simp -implicitDefEqProofs[];refine Qco (s2) (by simp) ?_;simp -implicitDefEqProofs[]
end
end Go.Proofs.YtjogcghofinemaaGreatDoor
