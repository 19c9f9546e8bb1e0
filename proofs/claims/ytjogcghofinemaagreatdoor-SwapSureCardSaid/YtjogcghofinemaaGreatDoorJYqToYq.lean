/-
  The law SwapSure.
-/
import Derived.Test.YtjogcghofinemaaGreatDoorJWaToYo
set_option linter.all false
set_option linter.unusedSimpArgs false
set_option linter.unusedVariables false
set_option linter.unusedSectionVars false
namespace Go.Proofs.YtjogcghofinemaaGreatDoor
open Go.RowKit
theorem ZoD {r:List Iss} {l:List Nte} {q:List Rul} {n g:Int} (h:rdB r l q=true) (hg:g<=2) (h1:g≠1):rdB r (l.map (stN n g)) q=true:=by
 simp only[rdB,Bool.and_eq_true,decide_eq_true_eq]at h ⊢;rw[List.length_map];exact ⟨h.1,Zo1 hg h1 h.2⟩
theorem ZoE {l:List Nte} (h:opI l l.length=[]):opQ l=[]:=by
 have:=ZlM l;rw[<- this,nuI,h];rfl
def srO (W K:List AV):List (Nat×AObj):=[(7,.box W),(16,.box K)]
def srT (kk w:Int) (way:Bool) (f:Nat->Bool) (U:List Int) (K v:Nat):List (Nat×AV):=[(69,.int .i64 v),(68,.int .i64 K),(67,.vsl (trK U K)),(20,.bool (anyF f v)),(19,.bool (anyT f v)),(17,.int .u8 kk),(16,.ptr 16 0),(15,.bool true),(7,.ptr 7 0),(6,.bool way),(5,.int .u8 w)]
section
variable {G:Nat->Option (List AV)}
set_option maxRecDepth 100000 in
set_option maxHeartbeats 4000000 in
theorem ZoF (hG:GC G) (hN:GN G) (hQ:GQ G) (r:List Iss) (l:List Nte) (q:List Rul) (m d a b w:Int) (way:Bool) (hr:∀ x∈r,KOk x) (hl:∀ x∈l,NOk x) (hm:0<=m/\m<=65535) (hd:0<=d/\d<=65535) (ha:0<=a/\a<=255) (hb:0<=b/\b<=255) (hw:0<=w/\w<=255) :
  PC Tryz.prog G 13 [swa r l q,.int .u16 m,.int .u16 d,.int .u8 a,.int .u8 b,.int .u8 w,.bool way] (.bool true):=by
 have hA:=Znb hG hN hQ;have hrd:=ZmW (G:=G) r l q hr hl
 cases hy:rdB r l q
 . rw[hy]at hrd;unfold swa at *
   (refine Z5Y rfl λR hG hrd=>Qga ?_;subst hG)
   simp -implicitDefEqProofs[Z5W,Z5X];refine Qco (hA) (by simp) ?_;simp -implicitDefEqProofs[];refine Qco (hrd) (by simp) ?_;simp -implicitDefEqProofs[]
 rw[hy]at hrd;have hq0:=Zng (t:=0) hy hr hl hm.1 hd.1;have hB:=hq0.nB;have hk:=ZmX (G:=G) r l q 0 m d a b hB hq0.wr.1.1 hq0.ne (by omega) hm hd ha hb;have mA:=ZmL hq0.rne ha.1;have mB':=ZmL hq0.rne hb.1;generalize isV r a=A at *;generalize isV r b=B at *;have hq:Rq r l q [] (mcV m) (dyV d):=hq0.truth ZmQ rfl;generalize ttV l 0=s at *;generalize mcV m=mm at *;generalize dyV d=dd at *;have c1:=ZmC hG hN hQ r l q mm dd A.1 A.2 B.1 B.2 hq.wl hq.wr hq.wq;have hpu:puN r l q [] mm dd (A.1,A.2) (B.1,B.2)=0:=hq.pu mA mB';rw[suE,hpu,if_pos rfl]at c1;have hT:=Zm0 (G:=G) r l hB;have h5:=ZlP hB
 have cM:∀ v,PC Tryz.prog G 17 [swa r l q,.vsl ((sbT (opQ l) v).map ia),.int .i64 mm,.int .i64 dd,.agg [.int .i64 A.1,.int .i64 A.2],.agg [.int .i64 B.1,.int .i64 B.2]] (.tup [.bool (mB r l q mm dd A B v),.int .i64 0]):=λv =>
  (hq.truth (by have:=(ZlJ (opQ l) v).length_le;unfold Sml;omega) (ZlO hB v)).may_pc hG hN hQ mA mB'
 have hO:=Zfa (G:=G) r l (ZhR hB);have hK:=pow5 h5;have hKp:0<2 ^ (opQ l).length:=Nat.pow_pos (by omega);have tget:∀ v K,v<K->(trK (opQ l) K)[v]? = some [.vsl ((sbT (opQ l) v).map ia)]:=λv K h=>by simp[trK,trR,h]
 have tlen:=ZlR (opQ l)
 have fin:∀ i0 (hi:i0<l.length),l[i0].sg=1->∃ l':List Nte,∃ kk':Int,
   PC Tryz.prog G 47 [.agg [.vsl (r.map isa),.vsl (l.map na)],.int .i64 l[i0].nu,.bool way] (.tup [.agg [.vsl (r.map isa),.vsl (l'.map na)],.int .i64 0]) /\
   PC Tryz.prog G 15 [swa r l' q] (.bool true) /\
   PC Tryz.prog G 43 [swa r l' q,.int .i64 mm,.int .i64 dd,.agg [.int .i64 A.1,.int .i64 A.2],.agg [.int .i64 B.1,.int .i64 B.2]] (.tup [.int .u8 kk',.int .i64 0]) /\
   (suV (mB r l q mm dd A B) (2 ^ (opQ l).length)≠1->kk'=suV (mB r l q mm dd A B) (2 ^ (opQ l).length)):=λi0 hi hs=>by
  have hn:l[i0].nu∈opU l:=ZnY.2 ⟨_,List.getElem_mem hi,hs,rfl⟩;have hg:(if way=true then (2:Int) else 0)=0∨(if way=true then (2:Int) else 0)=2:=(by cases way <;> simp);have c2:=ZoA hG hN r l l[i0].nu way hq.wl hq.wr hq.ne hq.h80 (Zi0 hq.h0).1 hn;generalize (if way=true then (2:Int) else 0)=g at *
  have hl':∀ x∈l.map (stN l[i0].nu g),NOk x:=λx hx=>by
   obtain ⟨y,hy,rfl⟩:=List.mem_map.1 hx;have:=hl y hy;unfold NOk at *;rw[st_sg,st_wy];refine ⟨?_,?_,this.2.2⟩ <;> split <;> omega
  have hrd':=ZmW (G:=G) r (l.map (stN l[i0].nu g)) q hr hl';have hy':=ZoD (n:=l[i0].nu) hy (show g<=2 by omega) (show g≠1 by omega);rw[hy']at hrd';obtain ⟨w1,w2,w3,w4,w5⟩:=ZmM hy' hr hl';have hq':Rq r (l.map (stN l[i0].nu g)) q [] mm dd:=⟨w1,w2,w3,ZmQ,w4,w5,rfl,hq.mi,hq.di⟩;have c3:=ZmC hG hN hQ r (l.map (stN l[i0].nu g)) q mm dd A.1 A.2 B.1 B.2 w2 w1 w3;have hpu':puN r (l.map (stN l[i0].nu g)) q [] mm dd (A.1,A.2) (B.1,B.2)=0:=hq'.pu mA mB';rw[suE,hpu',if_pos rfl]at c3;exact ⟨_,_,c2,hrd',c3,λh=>Zog hq hn hg h⟩
 have k2:=Zod (f:=mB r l q mm dd A B) hKp;have k0:=Zoe (f:=mB r l q mm dd A B) (K:=2 ^ (opQ l).length);have kle:=Zoc (f:=mB r l q mm dd A B) (K:=2 ^ (opQ l).length)
 have knone:opI l l.length=[]->suV (mB r l q mm dd A B) (2 ^ (opQ l).length)≠1:=λh=>by
  rw[ZoE h];exact Zof
 have hI:=ZeT l l.length;have hIl:=ZeR l l.length;generalize suV (mB r l q mm dd A B) (2 ^ (opQ l).length)=kk at *;generalize mB r l q mm dd A B=f at *;generalize 2 ^ (opQ l).length=K at *;generalize opI l l.length=I at *;unfold swa akA at *
 (refine Z5Y rfl λR hG hrd=>Qga ?_;subst hG)
 simp -implicitDefEqProofs[Z5W,Z5X];refine Qco (hA) (by simp) ?_;simp -implicitDefEqProofs[];refine Qco (hrd) (by simp) ?_;simp -implicitDefEqProofs[];refine Qco (hk) (by simp) ?_;simp -implicitDefEqProofs[];refine Qco (c1) (by simp) ?_;have kg:¬2<kk:=(by omega);simp -implicitDefEqProofs[kg];refine Qco (hT) (by simp) ?_;simp -implicitDefEqProofs[tlen];refine Zba (λv=>⟨srT kk w way f (opQ l) K v,srO (swC r l q) (akC s mm dd A B)⟩) (λ_=>True) K ?_ trivial ?_ ?_
 . have e1:anyT f 0=false:=rfl;have e2:anyF f 0=false:=rfl;simp only[srT,srO,swC,akC,e1,e2]
   (refine Yn.sub (by simp[lk,Ya,AV.keys]) ?_;simp only[Wkl,and_true];(try simp[lk,Yd,Ya,AV.keys]))
 . intro v hv _;have wv:IntKind.i64.wrap ((v:Int)+1)=(v:Int)+1:=Yg (by omega) (by omega);obtain ⟨q1,g1⟩:=List.getElem?_eq_some_iff.1 (tget v K hv);have t1:=Zmz f v;have t2:=ZmA f v;have hmv:=cM v;have tl:=tlen K;simp only[srT];generalize trK (opQ l) K=Q at *;refine Qga ?_;generalize f v=fv at *;generalize hT0:anyT f v=at0 at *;generalize hF0:anyF f v=af0 at *;simp -implicitDefEqProofs[srO,swC,akC,hv,q1,g1,tl];refine Qco (hmv) (by simp) ?_
   cases fv <;> cases at0 <;> cases af0
   all_goals
    simp only[Bool.or_false,Bool.or_true,Bool.not_true,Bool.not_false]at t1 t2;simp -implicitDefEqProofs[wv];rw[t1,t2]
    (refine Yn.sub (by simp[lk,Ya,AV.keys]) ?_;simp only[Wkl,and_true];(try simp[lk,Yd,Ya,AV.keys]))
 . intro _;have tl:=tlen K;simp only[srT];generalize trK (opQ l) K=Q at *;refine Qga ?_
   have e2:decide (kk=2) = !anyF f K:=by
    rw[Bool.eq_iff_iff,decide_eq_true_eq,k2];simp
   have e0:decide (kk=0) = !anyT f K:=by
    rw[Bool.eq_iff_iff,decide_eq_true_eq,k0];simp
   generalize anyF f K=af at *;generalize anyT f K=at_ at *;simp -implicitDefEqProofs[srO,swC,akC,tl];refine Qgr ?_;by_cases hI0:I=[]
   . have hk1:=knone hI0;have eO:Yh (I.map ja) = .nils:=(by rw[hI0];rfl);rw[eO]at hO
     cases af <;> cases at_
     case false.false =>
      simp only[Bool.not_false,decide_eq_true_eq]at e2 e0;omega
     all_goals
      simp only[Bool.not_false,Bool.not_true,decide_eq_true_eq,decide_eq_false_iff_not]at e2 e0;simp -implicitDefEqProofs[e2,e0];refine Qco (hO) (by simp) ?_;simp -implicitDefEqProofs[hk1]
   . have hIm:I.map ja≠[]:=λh=>hI0 (List.map_eq_nil_iff.1 h)
     have eO:Yh (I.map ja) = .vsl (I.map ja):=(by simp[Yh,hIm]);rw[eO]at hO;have hm0:¬I.length=0:=λe=>hI0 (List.length_eq_zero_iff.1 e)
     have hm1:¬(I.length:Int)=0:=(by omega);have b:=ZmI (b:=I.length) hw.1 (by omega);have w1:IntKind.i64.wrap w=w:=Yg (by omega) (by omega);have hkI:(w.tmod I.length).toNat<I.length:=(by omega);obtain ⟨g1,g2⟩:=hI _ (List.getElem_mem hkI);obtain ⟨i0,hi0⟩ : ∃ i0,I[(w.tmod I.length).toNat]=i0:=⟨_,rfl⟩;rw[hi0]at g1 g2;rw[ZdW g1]at g2;obtain ⟨l',kk',p1,p2,p3,p4⟩:=fin i0 g1 g2;have hna0:na l[i0]=[.int .i64 l[i0].nu,.int .i64 l[i0].dy,.int .u8 l[i0].sg,.int .i64 l[i0].dr,.int .i64 l[i0].lt,.int .i64 l[i0].fr,.int .i64 l[i0].tu,.int .i64 l[i0].ca,.bool l[i0].up,.int .u8 l[i0].wy]:=rfl
     cases af <;> cases at_
     case false.false =>
      simp only[Bool.not_false,decide_eq_true_eq]at e2 e0;omega
     all_goals
      simp only[Bool.not_false,Bool.not_true,decide_eq_true_eq,decide_eq_false_iff_not]at e2 e0;simp -implicitDefEqProofs[e2,e0];refine Qco (hO) (by simp) ?_;simp -implicitDefEqProofs[hm0,hm1,w1,b.1,b.2,hkI,hi0,ja,g1,hna0];refine Qco (p1) (by simp) ?_;simp -implicitDefEqProofs[];refine ⟨rfl,?_⟩;refine Qco (p2) (by simp) ?_;simp -implicitDefEqProofs[];refine Qco (p3) (by simp) ?_;by_cases hk1:kk=1
      . simp -implicitDefEqProofs[hk1]
        try omega
      . simp -implicitDefEqProofs[hk1,p4 hk1]
        try omega
end
end Go.Proofs.YtjogcghofinemaaGreatDoor

