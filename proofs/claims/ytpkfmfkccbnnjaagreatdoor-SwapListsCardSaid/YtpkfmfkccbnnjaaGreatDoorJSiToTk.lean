/-
  What the program's functions on swaps compute: rules, whether they are valid.
-/
import Derived.Test.YtpkfmfkccbnnjaaGreatDoorJNdToSh
import Derived.Test.YtpkfmfkccbnnjaaGreatDoorJRcVToEc
import Derived.Test.YtpkfmfkccbnnjaaGreatDoorJEdToNe
import Derived.Test.YtpkfmfkccbnnjaaGreatDoorJAmLToAmR
set_option linter.all false
set_option linter.unusedSimpArgs false
set_option linter.unusedVariables false
set_option linter.unusedSectionVars false
namespace Go.Proofs.YtpkfmfkccbnnjaaGreatDoor
open Go.RowKit
section
variable {G:Nat→Option (List AV)}
set_option maxHeartbeats 2000000 in
theorem Zj4 (r:List Iss) (l:List Nte) (q:List Rul) (i:Nat) (hi:i<q.length) (hq:Sml q) (hr:Sml r):PC Tryz.prog G 76 [Yl r l q,.int .i64 i] (.bool (ruleB r q i)):=by
 unfold Sml at hq;have hx:=Ze7 hi;obtain ⟨x,hxx⟩ : ∃ x,x=q[i]:=⟨_,rfl⟩;rw[← hxx]at hx;have hlx:q[i]=x:=hxx.symm;have hra:ra x=[.int .i64 x.nu,.int .i64 x.dy,.int .i64 x.fd,.int .i64 x.fl,.int .i64 x.td,.int .i64 x.tl,.bool x.bo,.int .i64 x.br]:=rfl;have hk1:=Zj3 (G:=G) r l q x.fd x.fl hr;have hk2:=Zj3 (G:=G) r l q x.td x.tl hr;refine Z77 rfl fun R hG hrd=>?_
 subst hG;have pS:(Yl r l q).pure=true:=(by unfold Yl rfA;split <;> simp[AV.pure,isa,na,ra,rfa]);have kS:(Yl r l q).keys=[]:=(by unfold Yl;simp[AV.keys]);have eS:Yl r l q = .vptr [.vsl (r.map isa),.vsl (l.map na),.vsl (q.map ra),rfA r] 0:=rfl;unfold Z75;refine ZeP (S:=⟨[(0,Yl r l q),(1,.int .i64 i)],[]⟩) (Yc Yb 1000 ?_) ?_
 · simp -implicitDefEqProofs[]
   ((try simp only[kS]);refine Yn.sub (by simp[lk,Ya,AV.keys,kS]) ?_;simp only[kS,Wkl,and_true];(try simp[lk,Yd,Ya,AV.keys,kS]))
 refine ZeP (S:=⟨[(0,Yl r l q),(1,.int .i64 i),(5,.ptr 5 0)],[(5,.box (ra x))]⟩) (Yc Yb 1000 ?_) ?_
 · simp -implicitDefEqProofs[eS,hi,hlx,hra]
   ((try simp only[hra,kS]);refine Yn.sub (by simp[lk,Ya,AV.keys,hra,kS]) ?_;simp only[hra,kS,Wkl,and_true];(try simp[lk,Yd,Ya,AV.keys,hra,kS]))
 refine ZeQ (S:=⟨[(0,Yl r l q),(1,.int .i64 i),(5,.ptr 5 0)],[(5,.box (ra x))]⟩) (Q:=cR1 x=true) (Yc Yb 1000 ?_) ?_
 · simp -implicitDefEqProofs[hra]
   (first|refine Ye.of (ZiT 1 9999 x.nu) (by simp) ?_|refine Yf.of (ZiT 1 9999 x.nu) (by simp) ?_)
   cases h1:inR x.nu 1 9999
   · have e:ruleB r q i=false:=(by simp[ruleB,hx,cR1,h1]);simp -implicitDefEqProofs[e,Z76]
   simp -implicitDefEqProofs[]
   (first|refine Ye.of (ZiT 0 14610 x.dy) (by simp) ?_|refine Yf.of (ZiT 0 14610 x.dy) (by simp) ?_)
   cases h2:inR x.dy 0 14610
   · have e:ruleB r q i=false:=(by simp[ruleB,hx,cR1,h2]);simp -implicitDefEqProofs[e,Z76]
   simp -implicitDefEqProofs[];refine ⟨?_,by rw[cR1,h1,h2];rfl⟩
   ((try simp only[hra,kS]);refine Yn.sub (by simp[lk,Ya,AV.keys,hra,kS]) ?_;simp only[hra,kS,Wkl,and_true];(try simp[lk,Yd,Ya,AV.keys,hra,kS]))
 intro k1;refine ZeQ (S:=⟨[(0,Yl r l q),(1,.int .i64 i),(5,.ptr 5 0)],[(5,.box (ra x))]⟩) (Q:=cR2 r x=true) (Yc Yb 1000 ?_) ?_
 · by_cases hz:x.fd=0∧x.fl=0∧x.td=0∧x.tl=0
   · obtain ⟨z1,z2,z3,z4⟩:=hz;have e2:cR2 r x=(!x.bo && !decide (x.br=0)):=by rw[cR2,if_pos ⟨z1,z2,z3,z4⟩]
     cases hb:x.bo
     · by_cases hc:x.br=0
       · have e:ruleB r q i=false:=(by simp[ruleB,hx,e2,hc]);simp -implicitDefEqProofs[hra,z1,z2,z3,z4,hb,hc,e,Z76]
       · simp -implicitDefEqProofs[hra,z1,z2,z3,z4,hb,hc];refine ⟨?_,by simp[e2,hb,hc]⟩
         ((try simp only[kS,hra,z1,z2,z3,z4,hb]);refine Yn.sub (by simp[lk,Ya,AV.keys,kS,hra,z1,z2,z3,z4,hb]) ?_;simp only[kS,hra,z1,z2,z3,z4,hb,Wkl,and_true];(try simp[lk,Yd,Ya,AV.keys,kS,hra,z1,z2,z3,z4,hb]))
     · have e:ruleB r q i=false:=(by simp[ruleB,hx,e2,hb]);simp -implicitDefEqProofs[hra,z1,z2,z3,z4,hb,e,Z76]
   · have e2 : cR2 r x=(!decide (x.fd=x.td∧x.fl=x.tl)&&knB r x.fd x.fl&&knB r x.td x.tl):=(by rw[cR2,if_neg hz]);have e2f:cR2 r x=false→ruleB r q i=false:=fun h=>by simp[ruleB,hx,h]
     have nb:∀ (p1 p2:Prop) [Decidable p1] [Decidable p2],¬(p1∧p2)→(decide p1&&decide p2)=false∧(!decide p1 || !decide p2)=true:=fun p1 p2 _ _ h=>by
      by_cases a:p1
      · have b:¬p2:=fun b=>h ⟨a,b⟩
        simp[a,b]
      · simp[a]
     by_cases f1:x.fd=0∧x.fl=0
     · have f0:¬(x.td=0∧x.tl=0):=fun h=>hz ⟨f1.1,f1.2,h.1,h.2⟩
       have f2:=nb _ _ f0;have f3:=nb (0=x.td) (0=x.tl) fun h=>f0 ⟨h.1.symm,h.2.symm⟩
       have f5:decide (x.fd=x.td∧x.fl=x.tl)=false:=decide_eq_false fun h=>f0 ⟨h.1.symm.trans f1.1,h.2.symm.trans f1.2⟩
       rw[f5,Bool.not_false,Bool.true_and]at e2;rw[f1.1,f1.2]at hk1 e2;simp -implicitDefEqProofs[hra,f1.1,f1.2,f2.1,f2.2,f3.1,f3.2];refine Ye.of hk1 (by simp[pS,AV.pure]) ?_
       cases h1:knB r 0 0
       · have e:=e2f (by rw[e2,h1];rfl);simp -implicitDefEqProofs[e,Z76]
       · simp -implicitDefEqProofs[hra,f1.1,f1.2];refine Ye.of hk2 (by simp[pS,AV.pure]) ?_
         cases h2:knB r x.td x.tl
         · have e:=e2f (by rw[e2,h2,Bool.and_false]);simp -implicitDefEqProofs[e,Z76]
         · simp -implicitDefEqProofs[];refine ⟨?_,by rw[e2,h1,h2];rfl⟩
           ((try simp only[kS,hra,f1.1,f1.2]);refine Yn.sub (by simp[lk,Ya,AV.keys,kS,hra,f1.1,f1.2]) ?_;simp only[kS,hra,f1.1,f1.2,Wkl,and_true];(try simp[lk,Yd,Ya,AV.keys,kS,hra,f1.1,f1.2]))
     · have f2:=nb _ _ f1;by_cases f4:x.fd=x.td∧x.fl=x.tl
       · have e:=e2f (by rw[e2,decide_eq_true f4];rfl);simp -implicitDefEqProofs[hra,f2.1,f2.2];rw[← f4.1,← f4.2];simp -implicitDefEqProofs[e,Z76]
       · have f5:=nb _ _ f4;rw[decide_eq_false f4,Bool.not_false,Bool.true_and]at e2;simp -implicitDefEqProofs[hra,f2.1,f2.2,f5.1,f5.2];refine Ye.of hk1 (by simp[pS,AV.pure]) ?_
         cases h1:knB r x.fd x.fl
         · have e:=e2f (by rw[e2,h1];rfl);simp -implicitDefEqProofs[e,Z76]
         · simp -implicitDefEqProofs[hra];refine Ye.of hk2 (by simp[pS,AV.pure]) ?_
           cases h2:knB r x.td x.tl
           · have e:=e2f (by rw[e2,h2,Bool.and_false]);simp -implicitDefEqProofs[e,Z76]
           · simp -implicitDefEqProofs[];refine ⟨?_,by rw[e2,h1,h2];rfl⟩
             ((try simp only[hra,kS]);refine Yn.sub (by simp[lk,Ya,AV.keys,hra,kS]) ?_;simp only[hra,kS,Wkl,and_true];(try simp[lk,Yd,Ya,AV.keys,hra,kS]))
 intro k2;have en:ruleB r q i=(cR3 q i x&&cR4 q i x&&cR5 q i x):=(by rw[ruleB,hx,k1,k2];rfl);rw[en];have i1:i≤q.length:=(by omega);have bl:∀ x:Rul,(ra x).length=8:=fun _=>rfl
 have hc1:=ZiW (G:=R.G) 109 [.vptr (ra x) 0] (fun y=>decide (y.nu=x.nu)) (q.take i) (by simp[AV.pure,ra]) (by unfold Sml;simp;omega) (fun y _=>ZiX x y);have hc2:=ZiW (G:=R.G) 110 [.vptr (ra x) 0] (fun y=>decide (y.nu=x.br)) (q.take i) (by simp[AV.pure,ra]) (by unfold Sml;simp;omega) (fun y _=>ZiY x y);have a1:=ZbN (fun y:Rul=>decide (y.nu=x.nu)) (q.take i);have a2:=ZbN (fun y:Rul=>decide (y.nu=x.br)) (q.take i);have e3:cR3 q i x = !(q.take i).any fun y=>decide (y.nu=x.nu):=rfl
 have e4:cR4 q i x=(decide (x.br=0)||(q.take i).any fun y=>decide (y.nu=x.br)):=rfl;rw[← a1]at e3;rw[← a2]at e4
 have pu:∀ x∈List.take i (List.map ra q),∀ y∈x,y.pure=true:=fun x hx y hy=>by
  obtain ⟨z,-,rfl⟩:=List.mem_map.1 (List.mem_of_mem_take hx);simp only[ra,List.mem_cons,List.not_mem_nil,or_false]at hy;rcases hy with rfl|rfl|rfl|rfl|rfl|rfl|rfl|rfl <;> simp[AV.pure]
 rw[List.map_take]at hc1 hc2;generalize fstOf (fun y:Rul=>decide (y.nu=x.nu)) (q.take i)=n1 at *;generalize fstOf (fun y:Rul=>decide (y.nu=x.br)) (q.take i)=n2 at *;refine ZeP (S:=⟨[(0,Yl r l q),(1,.int .i64 i),(5,.ptr 5 0),(7,.vsl ((q.map ra).take i))],[(5,.box (ra x))]⟩) (Yc Yb 1000 ?_) ?_
 · simp -implicitDefEqProofs[eS,i1,bl]
   ((try simp only[hra,kS]);refine Yn.sub (by simp[lk,Ya,AV.keys,hra,kS]) ?_;simp only[hra,kS,Wkl,and_true];(try simp[lk,Yd,Ya,AV.keys,hra,kS]))
 refine ZeQ (S:=⟨[(0,Yl r l q),(1,.int .i64 i),(5,.ptr 5 0)],[(5,.box (ra x))]⟩) (Q:=cR3 q i x=true∧cR4 q i x=true) (Yc Yb 1000 ?_) ?_
 · rw [hra]at hc1 hc2;simp -implicitDefEqProofs[hra];refine Ye.flat hc1 (by simp[AV.flat]) (by simp) ?_;by_cases h1:0≤n1
   · have e:cR3 q i x=false:=(by rw[e3,decide_eq_true h1];rfl);simp -implicitDefEqProofs[h1,e,Z76]
   · have q3:cR3 q i x=true:=(by rw[e3,decide_eq_false h1];rfl);by_cases h2:x.br=0
     · have q4:cR4 q i x=true:=(by rw[e4,decide_eq_true h2];rfl);simp -implicitDefEqProofs[h1,hra,h2];refine ⟨?_,q3,q4⟩
       ((try simp only[kS,hra,h2]);refine Yn.sub (by simp[lk,Ya,AV.keys,kS,hra,h2]) ?_;simp only[kS,hra,h2,Wkl,and_true];(try simp[lk,Yd,Ya,AV.keys,kS,hra,h2]))
     · simp -implicitDefEqProofs[h1,hra,h2];refine Ye.flat hc2 (by simp[AV.flat]) (by simp) ?_;by_cases h3:n2<0
       · have e:cR4 q i x=false:=(by rw[e4,decide_eq_false h2,decide_eq_false (show ¬0≤n2 by omega)];rfl);simp -implicitDefEqProofs[h3,e,Z76]
       · have q4:cR4 q i x=true:=(by rw[e4,decide_eq_true (show 0≤n2 by omega),Bool.or_true]);simp -implicitDefEqProofs[h3];refine ⟨?_,q3,q4⟩
         ((try simp only[kS,hra]);refine Yn.sub (by simp[lk,Ya,AV.keys,kS,hra]) ?_;simp only[kS,hra,Wkl,and_true];(try simp[lk,Yd,Ya,AV.keys,kS,hra]))
 rintro ⟨q3,q4⟩;rw[q3,q4,Bool.true_and,Bool.true_and]
 cases i with
 | zero =>
   refine Yc Yb 1000 ?_;simp -implicitDefEqProofs[cR5,Z76];rfl
 | succ k =>
   have hk:k<q.length:=(by omega);have w1:IntKind.i64.wrap ((k:Int)+1-1)=(k:Int):=(by rw[Yg (by omega) (by omega)];omega);have w2:IntKind.i64.wrap (k:Int)=(k:Int):=Yg (by omega) (by omega);have i0:¬(k:Int)+1=0:=(by omega);have e8:cR5 q (k+1) x=(decide (q[k].dy<x.dy)||(decide (q[k].dy=x.dy)&&decide (q[k].nu<x.nu))):=(by rw[cR5,Ze7 hk]);have hd1:=Zcr (G:=R.G) q[k].dy x.dy;have hd2:=Zcr (G:=R.G) q[k].nu x.nu;have hR:∀ a b:AV,(List.range 2).map (fun i=>List.take 1 (List.drop i [a,b]))=[[a],[b]]:=fun _ _=>rfl
   have hrk:ra q[k]=[.int .i64 q[k].nu,.int .i64 q[k].dy,.int .i64 q[k].fd,.int .i64 q[k].fl,.int .i64 q[k].td,.int .i64 q[k].tl,.bool q[k].bo,.int .i64 q[k].br]:=rfl
   obtain ⟨a,b,ha,hb,hv⟩ : ∃ a b:Int,(if q[k].dy<x.dy then (-1:Int) else if x.dy<q[k].dy then 1 else 0)=a∧(if q[k].nu<x.nu then (-1:Int) else if x.nu<q[k].nu then 1 else 0)=b∧decide ((if a=0 then b else a)<0)=(decide (q[k].dy<x.dy)||(decide (q[k].dy=x.dy)&&decide (q[k].nu<x.nu))):=by
    refine ⟨_,_,rfl,rfl,?_⟩;rcases Int.lt_trichotomy q[k].dy x.dy with q1|q1|q1
    · simp[q1]
    · rw[q1];rcases Int.lt_trichotomy q[k].nu x.nu with q2|q2|q2
      · simp[q2]
      · rw[q2];simp
      · have:¬q[k].nu<x.nu:=(by omega);simp[q2,this]
    · have h1:¬q[k].dy<x.dy:=(by omega);have h2:¬q[k].dy=x.dy:=(by omega);simp[q1,h1,h2]
   rw[ha]at hd1;rw[hb]at hd2;have ho:=ZgR (G:=R.G) a b;rw[e8,← hv];clear hv;generalize (if a=0 then b else a)=c at *;refine Yc Yb 1000 ?_;simp -implicitDefEqProofs[eS,hk,w1,w2,i0,hra,hrk]
   (first|refine Ye.of (hd1) (by simp) ?_|refine Yf.of (hd1) (by simp) ?_)
   simp -implicitDefEqProofs[eS,hk,w1,w2,i0,hra,hrk]
   (first|refine Ye.of (hd2) (by simp) ?_|refine Yf.of (hd2) (by simp) ?_)
   simp -implicitDefEqProofs[hR]
   (first|refine Ye.of (ho) (by simp) ?_|refine Yf.of (ho) (by simp) ?_)
   simp -implicitDefEqProofs[Z76];rfl
set_option maxHeartbeats 1000000 in
theorem Zj5 (r:List Iss) (l:List Nte) (q:List Rul) (day:Int) (hq:q.length≤16):∀ (n i:Nat),i<q.length→q.length-i≤n→PC Tryz.prog G 42 [Yl r l q,.int .i64 i,.int .i64 day] (.bool (sB day q i))
 |0,i,hi,hn=>by omega
 | n + 1, i, hi,hn=>by
   have ih:=fun k h1 h2=>Zj5 r l q day hq n k h1 h2
   have hx:=Ze7 hi;have hra:ra (rAt q i)=[.int .i64 (rAt q i).nu,.int .i64 (rAt q i).dy,.int .i64 (rAt q i).fd,.int .i64 (rAt q i).fl,.int .i64 (rAt q i).td,.int .i64 (rAt q i).tl,.bool (rAt q i).bo,.int .i64 (rAt q i).br]:=rfl;have fe:=ZdP (p:=fun x:Rul=>decide (x.dy≤day)) (h:=fun x y:Rul=>decide (y.br=x.nu)) hi;rw[← hx]at fe;have gb:gwB (fun x:Rul=>decide (x.dy≤day)) (fun x y:Rul=>decide (y.br=x.nu)) q (rAt q i) i (i+1)=decide ((rAt q i).dy≤day):=ZdQ;have gs:=fun j=>ZdR (p:=fun x:Rul=>decide (x.dy≤day)) (h:=fun x y:Rul=>decide (y.br=x.nu)) (l:=q) (x:=rAt q i) (i:=i) (k:=j)
   have gst:=fun k (h1:i<k) (h2:k≤q.length)=>Zhz (p:=fun x:Rul=>decide (x.dy≤day)) (h:=fun x y:Rul=>decide (y.br=x.nu)) (l:=q) (x:=rAt q i) h1 h2 (Nat.le_refl _)
   have fbs:sB day q i=gwB (fun x:Rul=>decide (x.dy≤day)) (fun x y=>decide (y.br=x.nu)) q (rAt q i) i q.length:=fe;rw[fbs];have eS:Yl r l q = .vptr [.vsl (r.map isa),.vsl (l.map na),.vsl (q.map ra),rfA r] 0:=rfl;have pS:(Yl r l q).pure=true:=(by unfold Yl rfA;split <;> simp[AV.pure,isa,na,ra,rfa]);have kS:(Yl r l q).keys=[]:=(by unfold Yl;simp[AV.keys]);generalize hxx:rAt q i=x at *;have hlx:q[i]=x:=hx.symm;have w1:IntKind.i64.wrap ((i:Int)+1)=((i+1:Nat):Int):=Yg (by omega) (by omega)
   (refine Z7j rfl fun R hG hrd=>Yc Yb 1000 ?_;subst hG)
   by_cases h0:day<x.dy
   · have e:=gst (i+1) (by omega) hi (by rw[gb];exact decide_eq_false (by omega));rw[e];simp -implicitDefEqProofs[Z7h,Z7i,eS,hi,hlx,hra,h0]
   · have g0 : gwB (fun x:Rul=>decide (x.dy≤day)) (fun x y=>decide (y.br=x.nu)) q x i (i+1)=true:=(by rw[gb];exact decide_eq_true (by omega));simp -implicitDefEqProofs[Z7h,Z7i,eS,hi,hlx,hra,h0,w1];refine Z1Q (fun p:Nat=>⟨[(7,.int .i64 (p:Int)),(0,.vptr [.vsl (r.map isa),.vsl (l.map na),.vsl (q.map ra),rfA r] 0),(1,.int .i64 i),(2,.int .i64 day)],[]⟩) (fun p=>i+1≤p∧p≤q.length∧gwB (fun x:Rul=>decide (x.dy≤day)) (fun x y=>decide (y.br=x.nu)) q x i p=true) (fun p=>q.length-p) (i+1) ?_ ⟨Nat.le_refl _,hi,g0⟩ ?_
     · (refine Yn.sub (by simp[lk,Ya,AV.keys]) ?_;simp only[Wkl,and_true];(try simp[lk,Yd,Ya,AV.keys]))
     · rintro p ⟨hp1,hp2,hg0⟩;refine Yc Yb 1000 ?_;rcases Nat.lt_or_ge p q.length with h5|h5
       · have hg:=gs p (by omega) h5;have hy:=Ze7 h5;have hny:ra (rAt q p)=[.int .i64 (rAt q p).nu,.int .i64 (rAt q p).dy,.int .i64 (rAt q p).fd,.int .i64 (rAt q p).fl,.int .i64 (rAt q p).td,.int .i64 (rAt q p).tl,.bool (rAt q p).bo,.int .i64 (rAt q p).br]:=rfl;have w2:IntKind.i64.wrap ((p:Int)+1)=(p:Int)+1:=Yg (by omega) (by omega);have ihp:=ih p h5 (by omega);rw[← hy]at hg;replace hg:_=(_ && !(sB day q p&&_)):=hg;have gsp:=gst (p+1) (by omega) h5;generalize hyy:rAt q p=y at *;have hly:q[p]=y:=hy.symm;rw[hg0,Bool.true_and]at hg;by_cases h6:y.br=x.nu
         · rw[decide_eq_true h6,Bool.and_true]at hg;rw[eS]at ihp pS;simp -implicitDefEqProofs[h5,hi,hlx,hra,hly,hny,h6];refine Yf.of ihp (by simp[AV.pure]at pS ⊢;try simp[pS]) ?_
           cases hb:sB day q p
           · rw[hb]at hg;simp -implicitDefEqProofs[w2];refine ⟨rfl,p+1,?_,⟨by omega,h5,hg⟩,(by show q.length-(p+1)<q.length-p;omega)⟩
             (refine Yn.sub (by simp[lk,Ya,AV.keys]) ?_;simp only[Wkl,and_true];(try simp[lk,Yd,Ya,AV.keys]))
           · rw[hb]at hg;have e:=gsp hg;rw[e];simp -implicitDefEqProofs[];refine ⟨rfl,?_⟩;refine Z2N Yb 1000 ?_;simp -implicitDefEqProofs[]
         · rw[decide_eq_false h6,Bool.and_false]at hg;simp -implicitDefEqProofs[h5,hi,hlx,hra,hly,hny,h6,w2];refine ⟨rfl,p+1,?_,⟨by omega,h5,hg⟩,(by show q.length-(p+1)<q.length-p;omega)⟩
           (refine Yn.sub (by simp[lk,Ya,AV.keys]) ?_;simp only[Wkl,and_true];(try simp[lk,Yd,Ya,AV.keys]))
       · obtain rfl:p=q.length:=(by omega);rw[hg0];simp -implicitDefEqProofs[];refine Z2N Yb 1000 ?_;simp -implicitDefEqProofs[]
end
def rkT (r:List Iss) (i:Nat):List (List AV):=(r.take i).map rfa
theorem Zj6 {r:List Iss} {i:Nat} (h:i≤r.length):(rkT r i).length=i:=by simp[rkT];omega
theorem Zj7 {r:List Iss} {i:Nat} (h:i<r.length):rkT r (i+1)=rkT r i++[rfa r[i]]:=by unfold rkT;rw[List.take_succ_eq_append_getElem h,List.map_append];rfl
theorem Zj8 (o:List (Nat×AObj)) (r:List Iss) (i:Nat):Yd o (.row 2 (rkT r i))=true:=by
 simp only[Yd,List.all_eq_true,rkT,List.mem_map];rintro x ⟨y,-,rfl⟩ v hv;simp only[rfa,List.mem_cons,List.not_mem_nil,or_false]at hv;rcases hv with rfl|rfl <;> simp[Ya,AV.keys]
def opR (r:List Iss) (l:List Nte) (q:List Rul) (i:Nat):St :=
 if i=0 then ⟨[(28,.int .i64 i),(27,.int .i64 r.length),(26,.vsl (r.map isa)),(5,.ptr 22 0),(1,.ptr 1 0)],[(22,.box [.vsl (r.map isa),.vsl (l.map na),.vsl (q.map ra),.nils]),(1,.box [.vsl (r.map isa),.vsl (l.map na),.vsl (q.map ra)])]⟩
 else ⟨[(28,.int .i64 i),(27,.int .i64 r.length),(26,.vsl (r.map isa)),(5,.ptr 22 0),(1,.ptr 1 0)],[(22,.box [.vsl (r.map isa),.vsl (l.map na),.vsl (q.map ra),.osl 43 i]),(43,.row 2 (rkT r i)),(1,.box [.vsl (r.map isa),.vsl (l.map na),.vsl (q.map ra)])]⟩
def opnA (r:List Iss) (l:List Nte) (q:List Rul):AV:=.tup [if chS r l q=0 then Yl r l q else .nilp,.int .i64 (chS r l q)]
section
variable {G:Nat→Option (List AV)}
set_option maxHeartbeats 1000000 in
theorem Zj9 (hG:GC G) (hN:GN G) (r:List Iss) (l:List Nte) (q:List Rul) (hw:WfN l) (hr:Wf r) (hq:Sml q):PC Tryz.prog G 40 [swa r l q] (opnA r l q):=by
 have hc:=ZhQ hG hN r l hw hr;have hrl:=hr.1.1;unfold Sml at hq hrl;refine Z7m rfl fun R hG hrd=>?_
 subst hG;have pS:(Yl r l q).pure=true:=(by unfold Yl rfA;split <;> simp[AV.pure,isa,na,ra,rfa]);have kS:(Yl r l q).keys=[]:=by unfold Yl;simp[AV.keys]
 have sS:∀ ok st,Yi ok st 6 (Yl r l q)=some (Yl r l q):=fun ok st=>by
  have h:=pS;unfold Yl at *;simp[Yi,h]
 have eS:Yl r l q = .vptr [.vsl (r.map isa),.vsl (l.map na),.vsl (q.map ra),rfA r] 0:=rfl;unfold opnA;by_cases h0:chN r l=0
 · by_cases h1:16<q.length
   · have h1':(16:Int)<q.length:=by omega
     have e:chS r l q=50:=by
      have:¬q.length≤16:=(by omega);simp[chS,h0,Ze8,this]
     rw[h0]at hc;rw[e];refine Yc Yb 1000 ?_;simp -implicitDefEqProofs[Z7k,Z7l,swa]
     (first|refine Ye.of (hc) (by simp) ?_|refine Yf.of (hc) (by simp) ?_)
     simp -implicitDefEqProofs[h1']
   have h1':¬(16:Int)<q.length:=(by omega);rw[h0]at hc;refine Yc Yb 1000 ?_;simp -implicitDefEqProofs[Z7k,Z7l,swa]
   (first|refine Ye.of (hc) (by simp) ?_|refine Yf.of (hc) (by simp) ?_)
   simp -implicitDefEqProofs[h1'];refine ZaV (opR r l q) (fun _=>True) r.length ?_ trivial ?_ ?_
   · simp only[opR,if_true]
     (refine Yn.sub (by simp[lk,Ya,AV.keys]) ?_;simp only[Wkl,and_true];(try simp[lk,Yd,Ya,AV.keys]))
   · intro i hi _;have tk:=Zj7 hi;have tl:=Zj6 (r:=r) (i:=i) (by omega);have bb:(i+1)*16≤70368744177664:=(by omega);have hri:rfa r[i]=[.int .i64 r[i].d,.int .i64 r[i].l]:=rfl;rw[hri]at tk;refine Yc Yb 1000 ?_
     cases i with
     | zero =>
       have e0:rkT r 0=[]:=rfl;have w1:IntKind.i64.wrap 1=1:=rfl;rw[e0,List.nil_append]at tk;simp -implicitDefEqProofs[opR,hi,isa,w1];refine ⟨rfl,?_⟩;rw[tk]
       (refine Yn.sub (by simp[lk,Ya,AV.keys]) ?_;simp only[Wkl,and_true];(try simp[lk,Yd,Ya,AV.keys]))
     | succ i =>
       have k1:(i:Int)+1<r.length:=(by omega);have k2:((i:Int)+1).toNat=i+1:=(by omega);have k3:(0:Int)≤(i:Int)+1:=(by omega);have w1:IntKind.i64.wrap ((i:Int)+1+1)=(i:Int)+1+1:=Yg (by omega) (by omega);simp -implicitDefEqProofs[opR,hi,isa,w1,k1,k2,k3,tl,bb];refine ⟨rfl,?_⟩;rw[← tk]
       (refine Yn.sub (by simp[lk,Ya,AV.keys]) ?_;simp only[Wkl,Zj8,and_true];(try simp[lk,Yd,Ya,AV.keys]))
   · intro _;have hrt:=fun i hi=>Zj4 (G:=R.G) r l q i hi hq hr.1.1
     refine Yc Yb 1000 ?_;by_cases hl0:r.length=0
     case' pos =>
      have er:r=[]:=List.length_eq_zero_iff.1 hl0;have eA:rfA r = .nils:=(by rw[er];rfl);simp -implicitDefEqProofs[opR,hl0];refine Z2N Yb 2 ?_;simp -implicitDefEqProofs[]
     case' neg =>
      have er:¬r=[]:=fun h=>hl0 (by rw[h];rfl)
      have eT:rkT r r.length=r.map rfa:=(by unfold rkT;rw[List.take_length]);have eA:rfA r = .vsl (r.map rfa):=(by unfold rfA;rw[if_neg er]);simp -implicitDefEqProofs[opR,hl0,eT];refine Z2N Yb 2 ?_;simp -implicitDefEqProofs[]
     all_goals
      refine GO0 (Z2M (st':=⟨[(5,Yl r l q),(1,.ptr 1 0)],[(1,.box [.vsl (r.map isa),.vsl (l.map na),.vsl (q.map ra)])]⟩) (Yn.trans (Yn.frz (fun k=>k == 22||k == 43) _) ?_) ?_)
      · rw[eS,eA]
        ((try simp only[Yj,frzA,frzO,frz,Yi,Yk,St.get,AV.pure,rfa]);refine Yn.sub (by simp[lk,Ya,AV.keys,Yj,frzA,frzO,frz,Yi,Yk,St.get,AV.pure,rfa]) ?_;simp only[Yj,frzA,frzO,frz,Yi,Yk,St.get,AV.pure,rfa,Wkl,and_true];(try simp[lk,Yd,Ya,AV.keys,Yj,frzA,frzO,frz,Yi,Yk,St.get,AV.pure,rfa]))
      refine Yc Yb 1000 ?_;simp -implicitDefEqProofs[];refine ZaV (fun i=>⟨[(50,.int .i64 i),(49,.int .i64 q.length),(8,.int .i64 0),(5,Yl r l q),(1,.ptr 1 0)],[(1,.box [.vsl (r.map isa),.vsl (l.map na),.vsl (q.map ra)])]⟩) (fun i=>∀ j,j<i→ruleB r q j=true) q.length ?_ (fun j hj=>by omega) ?_ ?_
      · ((try simp only[kS]);refine Yn.sub (by simp[lk,Ya,AV.keys,kS]) ?_;simp only[kS,Wkl,and_true];(try simp[lk,Yd,Ya,AV.keys,kS]))
      · intro i hi he;have hrti:=hrt i hi;have w1:IntKind.i64.wrap ((i:Int)+1)=(i:Int)+1:=Yg (by omega) (by omega);refine Yc Yb 1000 ?_;simp -implicitDefEqProofs[hi];refine Ye.of hrti (by simp[pS,AV.pure]) ?_
        cases h:ruleB r q i
        · have e:Ze8 r q=false:=by
           cases h2:Ze8 r q
           · rfl
           · simp only[Ze8,Bool.and_eq_true]at h2;have:=Zbf.1 h2.2 i hi;rw[h]at this;cases this
          have e2:chS r l q=50:=(by simp[chS,h0,e]);simp -implicitDefEqProofs[];refine Z2N Yb 1000 ?_;simp -implicitDefEqProofs[e2];refine Z2N Yb 1000 ?_;simp -implicitDefEqProofs[]
        · simp -implicitDefEqProofs[w1];refine ⟨?_,fun j hj=>?_⟩
          · ((try simp only[kS]);refine Yn.sub (by simp[lk,Ya,AV.keys,kS]) ?_;simp only[kS,Wkl,and_true];(try simp[lk,Yd,Ya,AV.keys,kS]))
          · rcases Nat.lt_or_ge j i with h4|h4
            · exact he j h4
            · obtain rfl:j=i:=(by omega);exact h
      · intro he
        have e:Ze8 r q=true:=by
         simp only[Ze8,Bool.and_eq_true,decide_eq_true_eq];exact ⟨by omega,Zbf.2 he⟩
        have e2:chS r l q=0:=(by simp[chS,h0,e]);rw[e2,if_pos rfl];refine Yc Yb 1000 ?_;simp -implicitDefEqProofs[];refine Z2N Yb 1000 ?_;simp -implicitDefEqProofs[];refine Z2N Yb 1000 ?_;simp -implicitDefEqProofs[sS]
 · have e:chS r l q=chN r l:=(by simp[chS,h0]);rw[e];refine Yc Yb 1000 ?_;simp -implicitDefEqProofs[Z7k,Z7l,swa]
   (first|refine Ye.of (hc) (by simp) ?_|refine Yf.of (hc) (by simp) ?_)
   simp -implicitDefEqProofs[h0]
end
def ntP (F:List Int) (x:Nte):List Stq:=if x.nu∈F then
    (if x.wy % 2=1 then [⟨x.dr,IntKind.i64.wrap (x.lt-1),x.dr,x.lt,x.nu,true⟩] else [])++(if 2≤x.wy % 4 then [⟨x.dr,x.lt,x.dr,IntKind.i64.wrap (x.lt-1),x.nu,true⟩] else [])
 else []
def nsP (F:List Int) (D:List Nte) (i:Nat):List Stq:=(D.take i).flatMap (ntP F)
theorem Zja {F:List Int} {D:List Nte} {i:Nat} (h:i<D.length):nsP F D (i+1)=nsP F D i++ntP F D[i]:=by
 unfold nsP;rw[List.take_succ_eq_append_getElem h,List.flatMap_append];simp
theorem Zjb (F:List Int) (x:Nte):(ntP F x).length≤2:=by unfold ntP;split <;> (try split) <;> (try split) <;> simp
theorem Zjc (F:List Int) (D:List Nte):∀ i,i≤D.length→(nsP F D i).length≤2*i
 |0,_=>by simp[nsP]
 |i+1,h=>by rw[Zja h,List.length_append];have:=Zjc F D i (by omega);have:=Zjb F D[i];omega
section
variable {G:Nat→Option (List AV)}
def bnS (F:List Int) (fV:AV) (D:List Nte) (x:Nat×Nat):St :=
 ⟨[(68,.int .i64 x.1),(67,.int .i64 D.length),(66,.vsl (D.map na)),(7,fV),(9,sqT x.2 (nsP F D x.1))],sqO x.2 (nsP F D x.1)⟩
set_option maxHeartbeats 4000000 in
theorem Zjd (r:List Iss) (F:List Int) (er:Int) (D:List Nte) (T:List Int) (cells:List AV) (m:Int) (hD:D.length≤16) (hw:WfN D) (hF:F.length≤16) (R:Run) (hrd:R.Top) (hm:cells[2]? = some (.int .i64 m)) (hlen:cells.length=4) (hpc:∀ x∈cells,x.keys=[])
  (hf:PC Tryz.prog R.G 79 [.agg [.vsl (r.map isa),Yh (D.map na)],Yh (T.map ia),.int .i64 m] (.tup [Yh (F.map ia),.int .i64 er])) :
  AR Tryz.prog R (dropZ 5 Z7n) ⟨[(1,.ptr 1 0),(3,.vptr [.vsl (r.map isa),Yh (D.map na)] 0),(4,Yh (T.map ia))],[(1,.box cells)]⟩ (Fin Z7o (Yh ((nsP F D D.length).map sa))):=by
 have hh:=fun n=>PC.sub (Zho (G:=R.G) F n (by unfold Sml;omega)) (xs:=[Yh (F.map ia),.int .i64 n]) ⟨.orNil _,.rfl',trivial⟩
 have pF:=Zfc (l:=F.map ia) (by simp[ia,AV.pure]);have kF:=Zfd (F.map ia);have sF:=fun ok st n=>Zfe (F.map ia) ok st n
 have pD:=Zfc (l:=D.map na) (by simp[na,AV.pure]);have pT:=Zfc (l:=T.map ia) (by simp[ia,AV.pure]);generalize Yh (F.map ia)=fV at *;generalize Yh (T.map ia)=tV at *;refine ZeP (S:=⟨[(3,.vptr [.vsl (r.map isa),Yh (D.map na)] 0),(7,fV)],[]⟩) (Yc Yb 1000 ?_) ?_
 · match cells,hlen,hm,hpc with
   | [a,b,c,d],_,hm,hpc =>
     simp only[List.getElem?_cons_succ,List.getElem?_cons_zero,Option.some.injEq]at hm;subst hm;generalize Yh (D.map na)=dV at *;simp -implicitDefEqProofs[];refine Ye.of hf (by simp[AV.pure,pD,pT]) ?_;simp -implicitDefEqProofs[]
     ((try simp only[kF]);refine Yn.sub (by simp[lk,Ya,AV.keys,kF]) ?_;simp only[kF,Wkl,and_true];(try simp[lk,Yd,Ya,AV.keys,kF]))
 refine ZeP (S:=⟨[(3,.vptr [.vsl (r.map isa),Yh (D.map na)] 0),(7,fV),(9,.nils)],[]⟩) (Yc Yb 1000 ?_) ?_
 · simp -implicitDefEqProofs[]
   ((try simp only[kF]);refine Yn.sub (by simp[lk,Ya,AV.keys,kF]) ?_;simp only[kF,Wkl,and_true];(try simp[lk,Yd,Ya,AV.keys,kF]))
 by_cases c:D=[]
 · have ec:Yh (D.map na) = .nils:=(by rw[c];rfl);have en:nsP F D D.length=[]:=(by rw[c];rfl);rw[ec,en];refine Yc Yb 1000 ?_;simp -implicitDefEqProofs[];refine ZaV (fun i=>⟨[(68,.int .i64 i),(67,.int .i64 0),(9,.nils)],[]⟩) (fun _=>True) 0 ?_ trivial (fun i hi=>by omega) ?_
   · ((try simp only[kF]);refine Yn.sub (by simp[lk,Ya,AV.keys,kF]) ?_;simp only[kF,Wkl,and_true];(try simp[lk,Yd,Ya,AV.keys,kF]))
   · intro _;refine Yc Yb 1000 ?_;simp -implicitDefEqProofs[];refine Z2N Yb 1000 ?_;simp -implicitDefEqProofs[Yh,Z7o]
 have cm:¬D.map na=[]:=fun h=>c (List.map_eq_nil_iff.1 h)
 have ev:Yh (D.map na) = .vsl (D.map na):=(by simp[Yh,cm]);rw[ev];refine Yc Yb 1000 ?_;simp -implicitDefEqProofs[];refine Z1Q (bnS F fV D) (fun x=>x.1≤D.length∧KeyOk [102,116] x.2 (nsP F D x.1)) (fun x=>D.length-x.1) (0,0) ?_ ⟨Nat.zero_le _,.inl ⟨rfl,rfl⟩⟩ ?_
 · simp only[bnS,sqT,sqO,if_true]
   ((try simp only[kF]);refine Yn.sub (by simp[lk,Ya,AV.keys,kF]) ?_;simp only[kF,Wkl,and_true];(try simp[lk,Yd,Ya,AV.keys,kF]))
 · rintro ⟨i,κ⟩ ⟨hi0,hK⟩;simp only[bnS]at hi0 hK ⊢;have bl:=Zjc F D i hi0;rcases Nat.lt_or_ge i D.length with hi|hi
   · have sc:=Zja (F:=F) hi;have wi:IntKind.i64.wrap ((i:Int)+1)=((i+1:Nat):Int):=(by rw[Yg (by omega) (by omega)];omega);have hwx:=hw.2 D[i] (List.getElem_mem hi);obtain ⟨x,hxx⟩ : ∃ x,x=D[i]:=⟨_,rfl⟩;have hlx:D[i]=x:=hxx.symm;rw[hlx]at sc hwx;have hh:=hh x.nu;have v1:=bit1 hwx.2.2.1 hwx.2.2.2;have v2:=bit2 hwx.2.2.1 hwx.2.2.2;have hnx:na x=[.int .i64 x.nu,.int .i64 x.dy,.int .u8 x.sg,.int .i64 x.dr,.int .i64 x.lt,.int .i64 x.fr,.int .i64 x.tu,.int .i64 x.ca,.bool x.up,.int .u8 x.wy]:=rfl;have b1:=sixB (nsP F D i).length (by omega);have b2:=sixC (nsP F D i).length (by omega);have hL:nsP F D (i+1)=nsP F D i++ntP F x:=sc;have nxt:∀ κ2,KeyOk [102,116] κ2 (nsP F D (i+1))→∀ st,Yn st (bnS F fV D (i+1,κ2))→∃ x:Nat×Nat,Yn st (bnS F fV D x)∧(x.1≤D.length∧KeyOk [102,116] x.2 (nsP F D x.1))∧D.length-x.1<D.length-i:=fun κ2 h st hw=>⟨(i+1,κ2),hw,⟨hi,h⟩,by show D.length-(i+1)<D.length-i;omega⟩
     have same:∀ κ2,ntP F x=[]→KeyOk [102,116] κ2 (nsP F D i)→KeyOk [102,116] κ2 (nsP F D (i+1))∧nsP F D (i+1)=nsP F D i:=fun κ2 h hk=>by rw[hL,h,List.append_nil];exact ⟨hk,rfl⟩
     have more:∀ κ2,ntP F x≠[]→κ2∈[102,116]→KeyOk [102,116] κ2 (nsP F D (i+1)):=fun κ2 h hk=>.inr ⟨hk,by rw[hL];intro e;exact h (List.append_eq_nil_iff.1 e).2⟩
     generalize hLL:nsP F D i=L at *;generalize hMM:nsP F D (i+1)=M at *;by_cases z1:x.nu∈F
     · by_cases p1:x.wy % 2=1 <;> by_cases p2:2≤x.wy % 4
       · rw [if_pos p1]at v1;rw[if_pos p2]at v2;have e:ntP F x=[⟨x.dr,IntKind.i64.wrap (x.lt-1),x.dr,x.lt,x.nu,true⟩,⟨x.dr,x.lt,x.dr,IntKind.i64.wrap (x.lt-1),x.nu,true⟩]:=(by simp[ntP,z1,p1,p2]);have hne:ntP F x≠[]:=(by rw[e];simp);have e1:M.map sa=L.map sa++[[.int .i64 x.dr,.int .i64 (IntKind.i64.wrap (x.lt-1)),.int .i64 x.dr,.int .i64 x.lt,.int .i64 x.nu,.bool true],[.int .i64 x.dr,.int .i64 x.lt,.int .i64 x.dr,.int .i64 (IntKind.i64.wrap (x.lt-1)),.int .i64 x.nu,.bool true]]:=(by rw[hL,e,List.map_append];rfl);have e2:M.length=L.length+2:=(by rw[hL,e];simp);rcases hK with ⟨rfl,e0⟩ | ⟨hk,ne⟩
         · have t1:=more 102 hne (by simp);refine Yc Yb 1000 ?_;simp only[sqT,sqO,if_true];simp -implicitDefEqProofs[hi,hlx,hnx,wi];refine Ye.of hh (by simp[pF,AV.pure]) ?_;simp -implicitDefEqProofs[wi,z1,hnx,v1,v2];refine nxt 102 t1 _ ?_;rw[e0,List.map_nil,List.nil_append]at e1;rw[e0,List.length_nil]at e2;simp only[bnS,hMM,e1,e2,sqT,sqO,if_false,Nat.reduceEqDiff]
           ((try simp only[kF]);refine Yn.sub (by simp[lk,Ya,AV.keys,kF]) ?_;simp only[kF,Wkl,and_true];(try simp[lk,Yd,Ya,AV.keys,kF]))
         · have t1:=more κ hne hk;have:κ=102∨κ=116:=(by simpa using hk);rcases this with rfl|rfl
           all_goals
            refine Yc Yb 1000 ?_;simp only[sqT,sqO,if_false,Nat.reduceEqDiff];simp -implicitDefEqProofs[hi,hlx,hnx,wi];refine Ye.of hh (by simp[pF,AV.pure]) ?_;simp -implicitDefEqProofs[wi,b1,b2,z1,hnx,v1,v2];refine nxt _ t1 _ ?_;simp only[bnS,hMM,e2,sqT,sqO,if_false,Nat.reduceEqDiff]
            try simp only[List.append_assoc,List.cons_append,List.nil_append]
            rw[← e1]
            ((try simp only[kF]);refine Yn.sub (by simp[lk,Ya,AV.keys,kF]) ?_;simp only[kF,Wkl,ZiL,and_true];(try simp[lk,Yd,Ya,AV.keys,kF]))
       · rw [if_pos p1]at v1;rw[if_neg p2]at v2;have e:ntP F x=[⟨x.dr,IntKind.i64.wrap (x.lt-1),x.dr,x.lt,x.nu,true⟩]:=(by simp[ntP,z1,p1,p2]);have hne:ntP F x≠[]:=(by rw[e];simp);have e1:M.map sa=L.map sa++[[.int .i64 x.dr,.int .i64 (IntKind.i64.wrap (x.lt-1)),.int .i64 x.dr,.int .i64 x.lt,.int .i64 x.nu,.bool true]]:=(by rw[hL,e,List.map_append];rfl);have e2:M.length=L.length+1:=(by rw[hL,e];simp);rcases hK with ⟨rfl,e0⟩ | ⟨hk,ne⟩
         · have t1:=more 102 hne (by simp);refine Yc Yb 1000 ?_;simp only[sqT,sqO,if_true];simp -implicitDefEqProofs[hi,hlx,hnx,wi];refine Ye.of hh (by simp[pF,AV.pure]) ?_;simp -implicitDefEqProofs[wi,z1,hnx,v1,v2];refine nxt 102 t1 _ ?_;rw[e0,List.map_nil,List.nil_append]at e1;rw[e0,List.length_nil]at e2;simp only[bnS,hMM,e1,e2,sqT,sqO,if_false,Nat.reduceEqDiff]
           ((try simp only[kF]);refine Yn.sub (by simp[lk,Ya,AV.keys,kF]) ?_;simp only[kF,Wkl,and_true];(try simp[lk,Yd,Ya,AV.keys,kF]))
         · have t1:=more κ hne hk;have:κ=102∨κ=116:=(by simpa using hk);rcases this with rfl|rfl
           all_goals
            refine Yc Yb 1000 ?_;simp only[sqT,sqO,if_false,Nat.reduceEqDiff];simp -implicitDefEqProofs[hi,hlx,hnx,wi];refine Ye.of hh (by simp[pF,AV.pure]) ?_;simp -implicitDefEqProofs[wi,b1,b2,z1,hnx,v1,v2];refine nxt _ t1 _ ?_;simp only[bnS,hMM,e2,sqT,sqO,if_false,Nat.reduceEqDiff]
            try simp only[List.append_assoc,List.cons_append,List.nil_append]
            rw[← e1]
            ((try simp only[kF]);refine Yn.sub (by simp[lk,Ya,AV.keys,kF]) ?_;simp only[kF,Wkl,ZiL,and_true];(try simp[lk,Yd,Ya,AV.keys,kF]))
       · rw [if_neg p1]at v1;rw[if_pos p2]at v2;have e:ntP F x=[⟨x.dr,x.lt,x.dr,IntKind.i64.wrap (x.lt-1),x.nu,true⟩]:=(by simp[ntP,z1,p1,p2]);have hne:ntP F x≠[]:=(by rw[e];simp);have e1:M.map sa=L.map sa++[[.int .i64 x.dr,.int .i64 x.lt,.int .i64 x.dr,.int .i64 (IntKind.i64.wrap (x.lt-1)),.int .i64 x.nu,.bool true]]:=(by rw[hL,e,List.map_append];rfl);have e2:M.length=L.length+1:=(by rw[hL,e];simp);rcases hK with ⟨rfl,e0⟩ | ⟨hk,ne⟩
         · have t1:=more 116 hne (by simp);refine Yc Yb 1000 ?_;simp only[sqT,sqO,if_true];simp -implicitDefEqProofs[hi,hlx,hnx,wi];refine Ye.of hh (by simp[pF,AV.pure]) ?_;simp -implicitDefEqProofs[wi,z1,hnx,v1,v2];refine nxt 116 t1 _ ?_;rw[e0,List.map_nil,List.nil_append]at e1;rw[e0,List.length_nil]at e2;simp only[bnS,hMM,e1,e2,sqT,sqO,if_false,Nat.reduceEqDiff]
           ((try simp only[kF]);refine Yn.sub (by simp[lk,Ya,AV.keys,kF]) ?_;simp only[kF,Wkl,and_true];(try simp[lk,Yd,Ya,AV.keys,kF]))
         · have t1:=more κ hne hk;have:κ=102∨κ=116:=(by simpa using hk);rcases this with rfl|rfl
           all_goals
            refine Yc Yb 1000 ?_;simp only[sqT,sqO,if_false,Nat.reduceEqDiff];simp -implicitDefEqProofs[hi,hlx,hnx,wi];refine Ye.of hh (by simp[pF,AV.pure]) ?_;simp -implicitDefEqProofs[wi,b1,b2,z1,hnx,v1,v2];refine nxt _ t1 _ ?_;simp only[bnS,hMM,e2,sqT,sqO,if_false,Nat.reduceEqDiff]
            try simp only[List.append_assoc,List.cons_append,List.nil_append]
            rw[← e1]
            ((try simp only[kF]);refine Yn.sub (by simp[lk,Ya,AV.keys,kF]) ?_;simp only[kF,Wkl,ZiL,and_true];(try simp[lk,Yd,Ya,AV.keys,kF]))
       · rw [if_neg p1]at v1;rw[if_neg p2]at v2;have e:ntP F x=[]:=(by simp[ntP,z1,p1,p2]);rcases hK with hz | ⟨hk,ne⟩
         · obtain ⟨t1,t2⟩:=same κ e (.inl hz);obtain ⟨rfl,e0⟩:=hz;refine Yc Yb 1000 ?_;simp only[sqT,sqO,if_true];simp -implicitDefEqProofs[hi,hlx,hnx,wi];refine Ye.of hh (by simp[pF,AV.pure]) ?_;simp -implicitDefEqProofs[wi,z1,hnx,v1,v2];refine nxt 0 t1 _ ?_;simp only[bnS,hMM,sqT,sqO,if_true,if_false]
           ((try simp only[kF]);refine Yn.sub (by simp[lk,Ya,AV.keys,kF]) ?_;simp only[kF,Wkl,and_true];(try simp[lk,Yd,Ya,AV.keys,kF]))
         · obtain ⟨t1,t2⟩:=same κ e (.inr ⟨hk,ne⟩);have:κ=102∨κ=116:=(by simpa using hk);rcases this with rfl|rfl
           all_goals
            refine Yc Yb 1000 ?_;simp only[sqT,sqO,if_false,Nat.reduceEqDiff];simp -implicitDefEqProofs[hi,hlx,hnx,wi];refine Ye.of hh (by simp[pF,AV.pure]) ?_;simp -implicitDefEqProofs[wi,z1,hnx,v1,v2];refine nxt _ t1 _ ?_;simp only[bnS,hMM,t2,sqT,sqO,if_false,Nat.reduceEqDiff]
            ((try simp only[kF]);refine Yn.sub (by simp[lk,Ya,AV.keys,kF]) ?_;simp only[kF,Wkl,ZiL,and_true];(try simp[lk,Yd,Ya,AV.keys,kF]))
     · have e:ntP F x=[]:=(by simp[ntP,z1]);rcases hK with hz | ⟨hk,ne⟩
       · obtain ⟨t1,t2⟩:=same κ e (.inl hz);obtain ⟨rfl,e0⟩:=hz;refine Yc Yb 1000 ?_;simp only[sqT,sqO,if_true];simp -implicitDefEqProofs[hi,hlx,hnx,wi];refine Ye.of hh (by simp[pF,AV.pure]) ?_;simp -implicitDefEqProofs[wi,z1];refine nxt 0 t1 _ ?_;simp only[bnS,hMM,sqT,sqO,if_true,if_false]
         ((try simp only[kF]);refine Yn.sub (by simp[lk,Ya,AV.keys,kF]) ?_;simp only[kF,Wkl,and_true];(try simp[lk,Yd,Ya,AV.keys,kF]))
       · obtain ⟨t1,t2⟩:=same κ e (.inr ⟨hk,ne⟩);have:κ=102∨κ=116:=(by simpa using hk);rcases this with rfl|rfl
         all_goals
          refine Yc Yb 1000 ?_;simp only[sqT,sqO,if_false,Nat.reduceEqDiff];simp -implicitDefEqProofs[hi,hlx,hnx,wi];refine Ye.of hh (by simp[pF,AV.pure]) ?_;simp -implicitDefEqProofs[wi,z1];refine nxt _ t1 _ ?_;simp only[bnS,hMM,t2,sqT,sqO,if_false,Nat.reduceEqDiff]
          ((try simp only[kF]);refine Yn.sub (by simp[lk,Ya,AV.keys,kF]) ?_;simp only[kF,Wkl,ZiL,and_true];(try simp[lk,Yd,Ya,AV.keys,kF]))
   · obtain rfl:i=D.length:=(by omega);rcases hK with ⟨rfl,e0⟩ | ⟨hk,ne⟩
     · refine Yc Yb 1000 ?_;simp only[sqT,sqO,if_true];simp -implicitDefEqProofs[];refine Z2N Yb 1000 ?_;simp -implicitDefEqProofs[Yh,e0,Z7o]
     · have:κ=102∨κ=116:=(by simpa using hk);rcases this with rfl|rfl
       all_goals
        refine Yc Yb 1000 ?_;simp only[sqT,sqO,if_false,Nat.reduceEqDiff];simp -implicitDefEqProofs[];refine Z2N Yb 1000 ?_;simp -implicitDefEqProofs[Yh,ne,Z7o,sa]
end
def tnN (l:List Nte) (s:List Int) (i:Nat):List Int:=((l.take i).filter fun x=>decide (x.nu∈s)).map (·.nu)
theorem Zje {l:List Nte} {s:List Int} {i:Nat} (h:i<l.length):tnN l s (i+1)=if l[i].nu∈s then tnN l s i++[l[i].nu] else tnN l s i:=by
 unfold tnN;rw[List.take_succ_eq_append_getElem h,List.filter_append]
 split
 · rename_i e;rw[List.filter_cons_of_pos (by simpa using e),List.map_append];rfl
 · rename_i e;rw[List.filter_cons_of_neg (by simpa using e)];simp
theorem Zjf (l:List Nte) (s:List Int) (i:Nat):(tnN l s i).length≤i:=by
 unfold tnN;rw[List.length_map];exact Nat.le_trans (List.length_filter_le _ _) (by simp;omega)
def dnT (l:List Nte) (i:Nat):List (List AV):=(l.take i).map na
theorem Zjg {l:List Nte} {i:Nat} (h:i≤l.length):(dnT l i).length=i:=by simp[dnT];omega
theorem Zjh {l:List Nte} {i:Nat} (h:i<l.length):dnT l (i+1)=dnT l i++[na l[i]]:=by unfold dnT;rw[List.take_succ_eq_append_getElem h,List.map_append];rfl
theorem Zji (o:List (Nat×AObj)) (l:List Nte) (i:Nat):Yd o (.row 10 (dnT l i))=true:=Ziz o _
def blO (r:List Iss) (l:List Nte) (s:List Int) (cells:List AV) (i:Nat):List (Nat×AObj) :=
 if i=0 then [(1,.box cells),(3,.box [.vsl (r.map isa),.nils])] else if tnN l s i=[] then [(1,.box cells),(3,.box [.vsl (r.map isa),.osl 42 i]),(42,.row 10 (dnT l i))]
 else [(1,.box cells),(3,.box [.vsl (r.map isa),.osl 42 i]),(42,.row 10 (dnT l i)),(53,.row 1 ((tnN l s i).map ia))]
def blT (l:List Nte) (s:List Int) (i:Nat):AV:=if tnN l s i=[] then .nils else .osl 53 (tnN l s i).length
section
variable {G:Nat→Option (List AV)}
def moC (r:List Iss) (l:List Nte) (q:List Rul) (s:List Int) (m day:Int):List AV:=[Yl r l q,.vsl (s.map ia),.int .i64 m,.int .i64 day]
theorem Zjj (r:List Iss) (q:List Rul) (F:List Int) (er:Int) (l:List Nte) (s:List Int) (i:Nat) (m day:Int) (hi:i≤l.length) (hl:l.length≤12) (hw:WfN l) (hF:F.length≤16) (R:Run) (hrd:R.Top)
  (hf:PC Tryz.prog R.G 79 [.agg [.vsl (r.map isa),Yh ((l.take i).map na)],Yh ((sortI (tnN l s i)).map ia),.int .i64 m] (.tup [Yh (F.map ia),.int .i64 er])) :
  AR Tryz.prog R (dropZ 4 Z7n) ⟨[(1,.ptr 1 0),(3,.ptr 3 0),(4,blT l s i)],blO r l s (moC r l q s m day) i⟩ (Fin Z7o (Yh ((nsP F (l.take i) (l.take i).length).map sa))):=by
 have hwT:WfN (l.take i):=⟨by unfold Sml;simp;omega,fun x hx=>hw.2 x (List.mem_of_mem_take hx)⟩;have pS:(Yl r l q).pure=true:=(by unfold Yl rfA;split <;> simp[AV.pure,isa,na,ra,rfa]);have kS:(Yl r l q).keys=[]:=(by unfold Yl;simp[AV.keys]);have eS:Yl r l q = .vptr [.vsl (r.map isa),.vsl (l.map na),.vsl (q.map ra),rfA r] 0:=rfl;have rest:=Zjd r F er (l.take i) (sortI (tnN l s i)) (moC r l q s m day) m (by simp;omega) hwT hF R hrd rfl rfl (by simp[moC,kS,AV.keys]) hf;have tl:=Zjf l s i;refine ZeP (S:=⟨[(1,.ptr 1 0),(3,.vptr [.vsl (r.map isa),Yh ((l.take i).map na)] 0),(4,Yh ((sortI (tnN l s i)).map ia))],[(1,.box (moC r l q s m day))]⟩) (Yc Yb 1000 ?_) rest;have e0:sortI []=[]:=(by simp[sortI]);unfold blO blT
 cases i with
 | zero =>
   have et:tnN l s 0=[]:=(by simp[tnN]);simp only[et,if_true,e0,List.take_zero,List.map_nil];simp -implicitDefEqProofs[Yh]
   (first|refine Ye.of (Zhe) (by simp) ?_|refine Yf.of (Zhe) (by simp) ?_)
   simp -implicitDefEqProofs[];refine Yn.trans (Yn.frz (fun k=>k == 3||k == 42||k == 53) _) ?_;rw[moC,eS]
   ((try simp only[Yj,frzA,frzO,frz,Yi,Yk,St.get,AV.pure]);refine Yn.sub (by simp[lk,Ya,AV.keys,Yj,frzA,frzO,frz,Yi,Yk,St.get,AV.pure]) ?_;simp only[Yj,frzA,frzO,frz,Yi,Yk,St.get,AV.pure,Wkl,and_true];(try simp[lk,Yd,Ya,AV.keys,Yj,frzA,frzO,frz,Yi,Yk,St.get,AV.pure]))
 | succ i =>
   have hne:¬i+1=0:=by omega
   have hn2:¬(l.take (i+1)).map na=[]:=fun h=>by
    have:=congrArg List.length h;rw[List.length_map,List.length_take,List.length_nil]at this;omega
   have ev:Yh ((l.take (i+1)).map na) = .vsl (dnT l (i+1)):=(by unfold Yh;rw[if_neg hn2];rfl);have dl:=Zjg hi
   have dp:∀ x∈dnT l (i+1),∀ y∈x,y.pure=true:=fun x hx y hy=>by
    obtain ⟨z,-,rfl⟩:=List.mem_map.1 hx;simp only[na,List.mem_cons,List.not_mem_nil,or_false]at hy;rcases hy with rfl|rfl|rfl|rfl|rfl|rfl|rfl|rfl|rfl|rfl <;> simp[AV.pure]
   have dp2:=eq_true dp;rw[ev];by_cases c:tnN l s (i+1)=[]
   · simp only[c,hne,if_true,if_false,e0,List.map_nil];simp -implicitDefEqProofs[Yh]
     (first|refine Ye.of (Zhe) (by simp) ?_|refine Yf.of (Zhe) (by simp) ?_)
     simp -implicitDefEqProofs[];refine Yn.trans (Yn.frz (fun k=>k == 3||k == 42||k == 53) _) ?_;rw[moC,eS]
     ((try simp only[Yj,frzA,frzO,frz,Yi,Yk,St.get,AV.pure,dl,dp2]);refine Yn.sub (by simp[lk,Ya,AV.keys,Yj,frzA,frzO,frz,Yi,Yk,St.get,AV.pure,dl,dp2]) ?_;simp only[Yj,frzA,frzO,frz,Yi,Yk,St.get,AV.pure,dl,dp2,Wkl,and_true];(try simp[lk,Yd,Ya,AV.keys,Yj,frzA,frzO,frz,Yi,Yk,St.get,AV.pure,dl,dp2]))
   · have hsp:=Zhb (G:=R.G) (tnN l s (i+1)) (by omega);have sl:=ZdY (tnN l s (i+1));have sn:¬(sortI (tnN l s (i+1))).map ia=[]:=fun h=>c (List.length_eq_zero_iff.1 (by rw[← sl,List.map_eq_nil_iff.1 h];rfl))
     have et:Yh ((sortI (tnN l s (i+1))).map ia) = .vsl ((sortI (tnN l s (i+1))).map ia):=(by unfold Yh;rw[if_neg sn]);rw[et];simp only[c,hne,if_false];simp -implicitDefEqProofs[];refine Ye.sem (Z1B.byref hsp (fun _=>53) (by simp) (by simp) (by simp[St.get,lk,Zh3]) (by simp[Zh4]) (by simp[Ya,AV.keys,lk]) rfl (by simp[AV.ren]) rfl rfl) ?_;simp -implicitDefEqProofs[Ym,Zh3];refine Yn.trans (Yn.frz (fun k=>k == 3||k == 42||k == 53) _) ?_;rw[moC,eS]
     ((try simp only[Yj,frzA,frzO,frz,Yi,Yk,St.get,AV.pure,dl,dp2,sl,ia]);refine Yn.sub (by simp[lk,Ya,AV.keys,Yj,frzA,frzO,frz,Yi,Yk,St.get,AV.pure,dl,dp2,sl,ia]) ?_;simp only[Yj,frzA,frzO,frz,Yi,Yk,St.get,AV.pure,dl,dp2,sl,ia,Wkl,and_true];(try simp[lk,Yd,Ya,AV.keys,Yj,frzA,frzO,frz,Yi,Yk,St.get,AV.pure,dl,dp2,sl,ia]))
def blS (r:List Iss) (l:List Nte) (q:List Rul) (s:List Int) (m day:Int) (i:Nat):St :=
 ⟨[(29,.int .i64 i),(28,.int .i64 l.length),(27,.vsl (l.map na)),(1,.ptr 1 0),(3,.ptr 3 0),(4,blT l s i)],blO r l s (moC r l q s m day) i⟩
set_option maxHeartbeats 2000000 in
theorem Zjk (hG:GC G) (hN:GN G) (r:List Iss) (l:List Nte) (q:List Rul) (s:List Int) (m day:Int) (hw:WfN l) (hr:Wf r) (hl:l.length≤12) (hs:Sml s) (k:Nat) (hk:k≤l.length) (h1:∀ j (h:j<l.length),j<k→l[j].dy≤day) (h2:∀ h:k<l.length,day<l[k].dy) :
  PC Tryz.prog G 191 [.agg (moC r l q s m day)] (Yh ((nsP (fcE r (l.take k) (sortI (tnN l s k)) m).1 (l.take k) (l.take k).length).map sa)):=by
 have hwD:WfN (l.take k):=⟨by unfold Sml;simp;omega,fun x hx=>hw.2 x (List.mem_of_mem_take hx)⟩;have tl:=Zjf l s k;have hsT:Sml (sortI (tnN l s k)):=(by unfold Sml;rw[ZdY];omega);have hf:=PC.sub (ZhV hG hN r (l.take k) (sortI (tnN l s k)) m hwD hr hsT) (xs:=[.agg [.vsl (r.map isa),Yh ((l.take k).map na)],Yh ((sortI (tnN l s k)).map ia),.int .i64 m]) ⟨.agg ⟨.rfl',.orNil _,trivial⟩,.orNil _,.rfl',trivial⟩;unfold fcA at hf
 have hFl:(fcE r (l.take k) (sortI (tnN l s k)) m).1.length≤16:=by
  unfold fcE
  split
  · have:=ZdT (sortI (tnN l s k)) [] m (l.take k) (l.take k).length;have:(l.take k).length≤12:=(by simp;omega);simp only;omega
  · simp
 generalize (fcE r (l.take k) (sortI (tnN l s k)) m).1=F at *;generalize (fcE r (l.take k) (sortI (tnN l s k)) m).2=er at *;have eS:Yl r l q = .vptr [.vsl (r.map isa),.vsl (l.map na),.vsl (q.map ra),rfA r] 0:=rfl;have kS:(Yl r l q).keys=[]:=(by unfold Yl;simp[AV.keys]);have hcs:=fun n=>Zho (G:=G) s n hs
 refine Z7p rfl fun R hG hrd=>?_
 subst hG;have fin:=Zjj r q F er l s k m day hk hl hw hFl R hrd hf;generalize Yh ((nsP F (l.take k) (l.take k).length).map sa)=RES at *;refine Yc Yb 1000 ?_;simp -implicitDefEqProofs[Z7n,moC,eS];refine Z1Q (blS r l q s m day) (fun i=>i≤k) (fun i=>k-i) 0 ?_ (Nat.zero_le _) ?_
 · have et:tnN l s 0=[]:=(by simp[tnN]);simp only[blS,blO,blT,et,if_true,moC,eS]
   (refine Yn.sub (by simp[lk,Ya,AV.keys]) ?_;simp only[Wkl,and_true];(try simp[lk,Yd,Ya,AV.keys]))
 · intro i hik;rcases Nat.lt_or_ge i k with hi|hi
   · have hli:i<l.length:=(by omega);have hdy:=h1 i hli hi;have ts:=Zje (s:=s) hli;have dc:=Zjh hli;have dl:=Zjg (l:=l) (i:=i) (by omega);have bb:(i+1)*72≤70368744177664:=(by omega);have tl:=Zjf l s i;have b8:((tnN l s i).length+1)*8≤70368744177664:=(by omega);obtain ⟨x,hxx⟩ : ∃ x,x=l[i]:=⟨_,rfl⟩;have hlx:l[i]=x:=hxx.symm;have hnx:na x=[.int .i64 x.nu,.int .i64 x.dy,.int .u8 x.sg,.int .i64 x.dr,.int .i64 x.lt,.int .i64 x.fr,.int .i64 x.tu,.int .i64 x.ca,.bool x.up,.int .u8 x.wy]:=rfl;rw[hlx]at hdy ts dc;rw[hnx]at dc;have hdy:¬day<x.dy:=(by omega);obtain ⟨i1,hi1⟩ : ∃ i1,i1=i+1:=⟨_,rfl⟩;obtain ⟨i0,hi0⟩ : ∃ i0,i0=i:=⟨_,rfl⟩;have hn1:¬i1=0:=(by omega);have ms:k-i1<k-i:=by omega
     cases i with
     | zero =>
       have et:tnN l s 0=[]:=(by simp[tnN]);have d0:dnT l 0=[]:=rfl;rw[d0,List.nil_append]at dc;have wi:IntKind.i64.wrap 1=1:=rfl;have k1:True:=trivial;have k2:True:=trivial;have k3:True:=trivial;by_cases hm:x.nu∈s
       · rw[if_pos hm]at ts;rw[← hi1]at ts dc;have tc:=ts;refine Yc Yb 1000 ?_;simp only[blS,blO,blT,moC,eS,et,if_true];simp -implicitDefEqProofs[hli,hlx,hnx,hdy,dl,bb,k1,k2,k3]
         (first|refine Ye.of (hcs x.nu) (by simp) ?_|refine Yf.of (hcs x.nu) (by simp) ?_)
         simp -implicitDefEqProofs[hm,wi,b8,hlx,hnx];refine ⟨i1,?_,(by omega),ms⟩;have ne1:tnN l s i1≠[]:=(by rw[tc];simp);have e1:(tnN l s i1).map ia=(tnN l s 0).map ia++[[AV.int .i64 x.nu]]:=(by rw[tc,List.map_append];rfl);have e2:(tnN l s i1).length=(tnN l s 0).length+1:=(by rw[tc];simp);simp only[blS,blO,blT,moC,eS,ne1,hn1,if_false];rw[et,List.map_nil,List.nil_append]at e1;rw[et,List.length_nil]at e2;rw[e1,e2];rw[dc];subst hi1
         ((try simp only[hnx]);refine Yn.sub (by simp[lk,Ya,AV.keys,hnx]) ?_;simp only[hnx,Wkl,Zji,Zh4,and_true];(try simp[lk,Yd,Ya,AV.keys,hnx]))
       · rw[if_neg hm]at ts;rw[← hi1]at ts dc;have tc:=ts;refine Yc Yb 1000 ?_;simp only[blS,blO,blT,moC,eS,et,if_true];simp -implicitDefEqProofs[hli,hlx,hnx,hdy,dl,bb,k1,k2,k3]
         (first|refine Ye.of (hcs x.nu) (by simp) ?_|refine Yf.of (hcs x.nu) (by simp) ?_)
         simp -implicitDefEqProofs[hm,wi,b8,hlx,hnx];refine ⟨i1,?_,(by omega),ms⟩;simp only[blS,blO,blT,moC,eS,tc,et,hn1,if_true,if_false];rw[dc];subst hi1
         ((try simp only[hnx]);refine Yn.sub (by simp[lk,Ya,AV.keys,hnx]) ?_;simp only[hnx,Wkl,Zji,Zh4,and_true];(try simp[lk,Yd,Ya,AV.keys,hnx]))
     | succ j =>
       have hne:¬j+1=0:=(by omega);have k1:(j:Int)+1<l.length:=(by omega);have k2:((j:Int)+1).toNat=j+1:=(by omega);have k3:(0:Int)≤(j:Int)+1:=(by omega);have wi:IntKind.i64.wrap ((j:Int)+1+1)=(j:Int)+1+1:=Yg (by omega) (by omega);by_cases hm:x.nu∈s
       · rw[if_pos hm]at ts;by_cases c:tnN l s (j+1)=[]
         · rw[← hi1]at ts dc;have tc:=ts;refine Yc Yb 1000 ?_;simp only[blS,blO,blT,moC,eS,c,hne,if_true,if_false];simp -implicitDefEqProofs[hli,hlx,hnx,hdy,dl,bb,k1,k2,k3]
           (first|refine Ye.of (hcs x.nu) (by simp) ?_|refine Yf.of (hcs x.nu) (by simp) ?_)
           simp -implicitDefEqProofs[hm,wi,b8,hlx,hnx];refine ⟨i1,?_,(by omega),ms⟩;have ne1:tnN l s i1≠[]:=(by rw[tc];simp);have e1:(tnN l s i1).map ia=(tnN l s (j+1)).map ia++[[AV.int .i64 x.nu]]:=(by rw[tc,List.map_append];rfl);have e2:(tnN l s i1).length=(tnN l s (j+1)).length+1:=(by rw[tc];simp);simp only[blS,blO,blT,moC,eS,ne1,hn1,if_false];rw[c,List.map_nil,List.nil_append]at e1;rw[c,List.length_nil]at e2;rw[e1,e2];rw[← dc];subst hi1
           ((try simp only[hnx]);refine Yn.sub (by simp[lk,Ya,AV.keys,hnx]) ?_;simp only[hnx,Wkl,Zji,Zh4,and_true];(try simp[lk,Yd,Ya,AV.keys,hnx]))
         · rw[← hi1]at ts dc;have tc:=ts;refine Yc Yb 1000 ?_;simp only[blS,blO,blT,moC,eS,c,hne,if_false];simp -implicitDefEqProofs[hli,hlx,hnx,hdy,dl,bb,k1,k2,k3]
           (first|refine Ye.of (hcs x.nu) (by simp) ?_|refine Yf.of (hcs x.nu) (by simp) ?_)
           simp -implicitDefEqProofs[hm,wi,b8,hlx,hnx];refine ⟨i1,?_,(by omega),ms⟩;have ne1:tnN l s i1≠[]:=(by rw[tc];simp);have e1:(tnN l s i1).map ia=(tnN l s (j+1)).map ia++[[AV.int .i64 x.nu]]:=(by rw[tc,List.map_append];rfl);have e2:(tnN l s i1).length=(tnN l s (j+1)).length+1:=(by rw[tc];simp);simp only[blS,blO,blT,moC,eS,ne1,hn1,if_false];rw[← e1,e2];rw[← dc];subst hi1
           ((try simp only[hnx]);refine Yn.sub (by simp[lk,Ya,AV.keys,hnx]) ?_;simp only[hnx,Wkl,Zji,Zh4,and_true];(try simp[lk,Yd,Ya,AV.keys,hnx]))
       · rw[if_neg hm]at ts;by_cases c:tnN l s (j+1)=[]
         · rw[← hi1]at ts dc;have tc:=ts;refine Yc Yb 1000 ?_;simp only[blS,blO,blT,moC,eS,c,hne,if_true,if_false];simp -implicitDefEqProofs[hli,hlx,hnx,hdy,dl,bb,k1,k2,k3]
           (first|refine Ye.of (hcs x.nu) (by simp) ?_|refine Yf.of (hcs x.nu) (by simp) ?_)
           simp -implicitDefEqProofs[hm,wi,b8,hlx,hnx];refine ⟨i1,?_,(by omega),ms⟩;simp only[blS,blO,blT,moC,eS,tc,c,hn1,if_true,if_false];rw[← dc];subst hi1
           ((try simp only[hnx]);refine Yn.sub (by simp[lk,Ya,AV.keys,hnx]) ?_;simp only[hnx,Wkl,Zji,Zh4,and_true];(try simp[lk,Yd,Ya,AV.keys,hnx]))
         · rw[← hi1]at ts dc;have tc:=ts;refine Yc Yb 1000 ?_;simp only[blS,blO,blT,moC,eS,c,hne,if_false];simp -implicitDefEqProofs[hli,hlx,hnx,hdy,dl,bb,k1,k2,k3]
           (first|refine Ye.of (hcs x.nu) (by simp) ?_|refine Yf.of (hcs x.nu) (by simp) ?_)
           simp -implicitDefEqProofs[hm,wi,b8,hlx,hnx];refine ⟨i1,?_,(by omega),ms⟩;simp only[blS,blO,blT,moC,eS,tc,c,hn1,if_false];rw[← dc];subst hi1
           ((try simp only[hnx]);refine Yn.sub (by simp[lk,Ya,AV.keys,hnx]) ?_;simp only[hnx,Wkl,Zji,Zh4,and_true];(try simp[lk,Yd,Ya,AV.keys,hnx]))
   · obtain rfl:i=k:=(by omega);rcases Nat.lt_or_ge i l.length with hli|hli
     · have hdy:=h2 hli;obtain ⟨x,hxx⟩ : ∃ x,x=l[i]:=⟨_,rfl⟩;have hlx:l[i]=x:=hxx.symm;rw[hlx]at hdy;have hnx:na x=[.int .i64 x.nu,.int .i64 x.dy,.int .u8 x.sg,.int .i64 x.dr,.int .i64 x.lt,.int .i64 x.fr,.int .i64 x.tu,.int .i64 x.ca,.bool x.up,.int .u8 x.wy]:=rfl
       cases i with
       | zero =>
         have et:tnN l s 0=[]:=(by simp[tnN]);refine Yc Yb 1000 ?_;simp only[blS,blO,blT,moC,eS,et,if_true]at fin ⊢;simp -implicitDefEqProofs[hli,hlx,hnx,hdy];refine Z2N Yb 2 ?_;simp -implicitDefEqProofs[];refine GOz (Z2M ?_ fin)
         (refine Yn.sub (by simp[lk,Ya,AV.keys]) ?_;simp only[Wkl,Zji,Zh4,and_true];(try simp[lk,Yd,Ya,AV.keys]))
       | succ j =>
         have hne:¬j+1=0:=(by omega);have k1:(j:Int)+1<l.length:=(by omega);have k2:((j:Int)+1).toNat=j+1:=(by omega);have k3:(0:Int)≤(j:Int)+1:=(by omega);by_cases c:tnN l s (j+1)=[]
         · refine Yc Yb 1000 ?_;simp only[blS,blO,blT,moC,eS,c,hne,if_true,if_false]at fin ⊢;simp -implicitDefEqProofs[hli,hlx,hnx,hdy,k1,k2,k3];refine Z2N Yb 2 ?_;simp -implicitDefEqProofs[];refine GOz (Z2M ?_ fin)
           (refine Yn.sub (by simp[lk,Ya,AV.keys]) ?_;simp only[Wkl,Zji,Zh4,and_true];(try simp[lk,Yd,Ya,AV.keys]))
         · refine Yc Yb 1000 ?_;simp only[blS,blO,blT,moC,eS,c,hne,if_false]at fin ⊢;simp -implicitDefEqProofs[hli,hlx,hnx,hdy,k1,k2,k3];refine Z2N Yb 2 ?_;simp -implicitDefEqProofs[];refine GOz (Z2M ?_ fin)
           (refine Yn.sub (by simp[lk,Ya,AV.keys]) ?_;simp only[Wkl,Zji,Zh4,and_true];(try simp[lk,Yd,Ya,AV.keys]))
     · cases i with
       | zero =>
         have et:tnN l s 0=[]:=(by simp[tnN]);have z:decide (0<l.length)=false:=decide_eq_false (by omega);have z2:¬0<l.length:=(by omega);refine Yc Yb 1000 ?_;simp only[blS,blO,blT,moC,eS,et,if_true]at fin ⊢;simp -implicitDefEqProofs[z2];refine Z2N Yb 2 ?_;simp -implicitDefEqProofs[];refine GOz (Z2M ?_ fin)
         (refine Yn.sub (by simp[lk,Ya,AV.keys]) ?_;simp only[Wkl,Zji,Zh4,and_true];(try simp[lk,Yd,Ya,AV.keys]))
       | succ j =>
         have hne:¬j+1=0:=(by omega);have z:¬(j:Int)+1<l.length:=(by omega);by_cases c:tnN l s (j+1)=[]
         · refine Yc Yb 1000 ?_;simp only[blS,blO,blT,moC,eS,c,hne,if_true,if_false]at fin ⊢;simp -implicitDefEqProofs[z];refine Z2N Yb 2 ?_;simp -implicitDefEqProofs[];refine GOz (Z2M ?_ fin)
           (refine Yn.sub (by simp[lk,Ya,AV.keys]) ?_;simp only[Wkl,Zji,Zh4,and_true];(try simp[lk,Yd,Ya,AV.keys]))
         · refine Yc Yb 1000 ?_;simp only[blS,blO,blT,moC,eS,c,hne,if_false]at fin ⊢;simp -implicitDefEqProofs[z];refine Z2N Yb 2 ?_;simp -implicitDefEqProofs[];refine GOz (Z2M ?_ fin)
           (refine Yn.sub (by simp[lk,Ya,AV.keys]) ?_;simp only[Wkl,Zji,Zh4,and_true];(try simp[lk,Yd,Ya,AV.keys]))
end
def rlP (b:Bool) (x:Rul):List Stq:=if b=true∧¬(x.fd=x.td∧x.fl=x.tl) then
    [⟨x.fd,x.fl,x.td,x.tl,x.nu,false⟩]++(if x.bo=true then [⟨x.td,x.tl,x.fd,x.fl,x.nu,false⟩] else [])
 else []
def rsP (day:Int) (q:List Rul) (i:Nat):List Stq:=((List.range q.length).take i).flatMap fun j=>rlP (sB day q j) (rAt q j)
theorem Zjl {day:Int} {q:List Rul} {i:Nat} (h:i<q.length):rsP day q (i+1)=rsP day q i++rlP (sB day q i) q[i]:=by
 have h1:i<(List.range q.length).length:=(by simpa using h);unfold rsP;rw[List.take_succ_eq_append_getElem h1,List.flatMap_append,List.getElem_range];simp[Ze7 h]
theorem Zjm (b:Bool) (x:Rul):(rlP b x).length≤2:=by unfold rlP;split <;> (try split) <;> simp
theorem Zjn (day:Int) (q:List Rul):∀ i,i≤q.length→(rsP day q i).length≤2*i
 |0,_=>by simp[rsP]
 |i+1,h=>by rw[Zjl h,List.length_append];have:=Zjn day q i (by omega);have:=Zjm (sB day q i) q[i];omega
section
variable {G:Nat→Option (List AV)}
def brS (r:List Iss) (l:List Nte) (q:List Rul) (s:List Int) (m day:Int) (x:Nat×Nat):St :=
 ⟨[(13,.int .i64 x.1),(12,.int .i64 q.length),(11,.vsl (q.map ra)),(3,sqT x.2 (rsP day q x.1)),(1,.ptr 1 0)],sqO x.2 (rsP day q x.1)++[(1,.box (moC r l q s m day))]⟩
set_option maxHeartbeats 4000000 in
theorem Zjo (r:List Iss) (l:List Nte) (q:List Rul) (s:List Int) (m day:Int) (hq:q.length≤16) :
  PC Tryz.prog G 192 [.agg (moC r l q s m day)] (Yh ((rsP day q q.length).map sa)):=by
 have hst:=fun i hi=>Zj5 (G:=G) r l q day hq q.length i hi (by omega)
 have pS:(Yl r l q).pure=true:=(by unfold Yl rfA;split <;> simp[AV.pure,isa,na,ra,rfa]);have kS:(Yl r l q).keys=[]:=(by unfold Yl;simp[AV.keys]);have eS:Yl r l q = .vptr [.vsl (r.map isa),.vsl (l.map na),.vsl (q.map ra),rfA r] 0:=rfl;refine Z7s rfl fun R hG hrd=>?_
 subst hG;refine Yc Yb 1000 ?_;simp -implicitDefEqProofs[Z7q,Z7r,moC,eS];refine Z1Q (brS r l q s m day) (fun x=>x.1≤q.length∧KeyOk [41,53] x.2 (rsP day q x.1)) (fun x=>q.length-x.1) (0,0) ?_ ⟨Nat.zero_le _,.inl ⟨rfl,rfl⟩⟩ ?_
 · simp only[brS,moC,eS,sqT,sqO,if_true,List.nil_append]
   (refine Yn.sub (by simp[lk,Ya,AV.keys]) ?_;simp only[Wkl,and_true];(try simp[lk,Yd,Ya,AV.keys]))
 · rintro ⟨i, κ⟩ ⟨hi0,hK⟩;simp only[brS,moC]at hi0 hK ⊢;have bl:=Zjn day q i hi0;rcases Nat.lt_or_ge i q.length with hi|hi
   · have sc := Zjl (day:=day) hi;have wi:IntKind.i64.wrap ((i:Int)+1)=((i+1:Nat):Int):=(by rw[Yg (by omega) (by omega)];omega);have hst:=hst i hi;obtain ⟨x,hxx⟩ : ∃ x,x=q[i]:=⟨_,rfl⟩;have hlx:q[i]=x:=hxx.symm;rw[hlx]at sc;have hra:ra x=[.int .i64 x.nu,.int .i64 x.dy,.int .i64 x.fd,.int .i64 x.fl,.int .i64 x.td,.int .i64 x.tl,.bool x.bo,.int .i64 x.br]:=rfl;have b1:=sixB (rsP day q i).length (by omega);have b2:=sixC (rsP day q i).length (by omega);have hL:rsP day q (i+1)=rsP day q i++rlP (sB day q i) x:=sc;have nxt:∀ κ2,KeyOk [41,53] κ2 (rsP day q (i+1))→∀ st,Yn st (brS r l q s m day (i+1,κ2))→∃ x:Nat×Nat,Yn st (brS r l q s m day x)∧(x.1≤q.length∧KeyOk [41,53] x.2 (rsP day q x.1))∧q.length-x.1<q.length-i:=fun κ2 h st hw=>⟨(i+1,κ2),hw,⟨hi,h⟩,by show q.length-(i+1)<q.length-i;omega⟩
     have same:∀ κ2,rlP (sB day q i) x=[]→KeyOk [41,53] κ2 (rsP day q i)→KeyOk [41,53] κ2 (rsP day q (i+1))∧rsP day q (i+1)=rsP day q i:=fun κ2 h hk=>by rw[hL,h,List.append_nil];exact ⟨hk,rfl⟩
     have more:∀ κ2,rlP (sB day q i) x≠[]→κ2∈[41,53]→KeyOk [41,53] κ2 (rsP day q (i+1)):=fun κ2 h hk=>.inr ⟨hk,by rw[hL];intro e;exact h (List.append_eq_nil_iff.1 e).2⟩
     generalize hLL:rsP day q i=L at *;generalize hMM:rsP day q (i+1)=M at *;by_cases z:x.fd=x.td∧x.fl=x.tl
     · have e:rlP (sB day q i) x=[]:=(by simp[rlP,z]);have f1:(decide (x.fd=x.td)&&decide (x.fl=x.tl))=true:=(by simp[z]);rcases hK with hz | ⟨hk,ne⟩
       · obtain ⟨s1,s2⟩:=same κ e (.inl hz);obtain ⟨rfl,e0⟩:=hz;refine Yc Yb 1000 ?_;simp only[sqT,sqO,if_true,List.nil_append];simp -implicitDefEqProofs[hi,hlx,hra,wi,z.1,z.2];refine nxt 0 s1 _ ?_;simp only[brS,hMM,sqT,sqO,if_true,List.nil_append]
         ((try simp only[moC,kS]);refine Yn.sub (by simp[lk,Ya,AV.keys,moC,kS]) ?_;simp only[moC,kS,Wkl,and_true];(try simp[lk,Yd,Ya,AV.keys,moC,kS]))
       · obtain ⟨s1,s2⟩:=same κ e (.inr ⟨hk,ne⟩);have:κ=41∨κ=53:=(by simpa using hk);rcases this with rfl|rfl
         all_goals
          refine Yc Yb 1000 ?_;simp only[sqT,sqO,if_false,List.cons_append,List.nil_append,Nat.reduceEqDiff];simp -implicitDefEqProofs[hi,hlx,hra,wi,z.1,z.2];refine nxt _ s1 _ ?_;simp only[brS,hMM,s2,sqT,sqO,if_false,List.cons_append,List.nil_append,Nat.reduceEqDiff]
          ((try simp only[moC,kS]);refine Yn.sub (by simp[lk,Ya,AV.keys,moC,kS]) ?_;simp only[moC,kS,Wkl,ZiL,and_true];(try simp[lk,Yd,Ya,AV.keys,moC,kS]))
     · have f2:(decide (x.fd=x.td)&&decide (x.fl=x.tl))=false:=by
        cases h:(decide (x.fd=x.td)&&decide (x.fl=x.tl))
        · rfl
        · simp at h;exact absurd h z
       have f3:(!decide (x.fd=x.td) || !decide (x.fl=x.tl))=true:=by
        rw[← Bool.not_and,f2];rfl
       cases hb:sB day q i
       · rw [hb]at hst hL same;have e:rlP false x=[]:=(by simp[rlP]);rcases hK with hz | ⟨hk,ne⟩
         · obtain ⟨s1,s2⟩:=same κ e (.inl hz);obtain ⟨rfl,e0⟩:=hz;refine Yc Yb 1000 ?_;simp only[sqT,sqO,if_true,List.nil_append];simp -implicitDefEqProofs[hi,hlx,hra,wi,f2,f3];refine Ye.of hst (by simp[pS,AV.pure]) ?_;simp -implicitDefEqProofs[wi,hra];refine nxt 0 s1 _ ?_;simp only[brS,hMM,sqT,sqO,if_true,List.nil_append]
           ((try simp only[moC,kS]);refine Yn.sub (by simp[lk,Ya,AV.keys,moC,kS]) ?_;simp only[moC,kS,Wkl,and_true];(try simp[lk,Yd,Ya,AV.keys,moC,kS]))
         · obtain ⟨s1,s2⟩:=same κ e (.inr ⟨hk,ne⟩);have:κ=41∨κ=53:=(by simpa using hk);rcases this with rfl|rfl
           all_goals
            refine Yc Yb 1000 ?_;simp only[sqT,sqO,if_false,List.cons_append,List.nil_append,Nat.reduceEqDiff];simp -implicitDefEqProofs[hi,hlx,hra,wi,f2,f3];refine Ye.of hst (by simp[pS,AV.pure]) ?_;simp -implicitDefEqProofs[wi,hra];refine nxt _ s1 _ ?_;simp only[brS,hMM,s2,sqT,sqO,if_false,List.cons_append,List.nil_append,Nat.reduceEqDiff]
            ((try simp only[moC,kS]);refine Yn.sub (by simp[lk,Ya,AV.keys,moC,kS]) ?_;simp only[moC,kS,Wkl,ZiL,and_true];(try simp[lk,Yd,Ya,AV.keys,moC,kS]))
       · rw [hb]at hst hL same more
         cases hbo:x.bo
         · have e:rlP true x=[⟨x.fd,x.fl,x.td,x.tl,x.nu,false⟩]:=(by simp[rlP,z,hbo]);have hne:rlP true x≠[]:=(by rw[e];simp);rw[e]at hL;have e1:M.map sa=L.map sa++[[.int .i64 x.fd,.int .i64 x.fl,.int .i64 x.td,.int .i64 x.tl,.int .i64 x.nu,.bool false]]:=(by rw[hL,List.map_append];rfl);have e2:M.length=L.length+1:=(by rw[hL];simp);rcases hK with ⟨rfl,e0⟩ | ⟨hk,ne⟩
           · have s1:=more 41 hne (by simp);refine Yc Yb 1000 ?_;simp only[sqT,sqO,if_true,List.nil_append];simp -implicitDefEqProofs[hi,hlx,hra,wi,f2,f3];refine Ye.of hst (by simp[pS,AV.pure]) ?_;simp -implicitDefEqProofs[wi,hra,hbo];refine nxt 41 s1 _ ?_;rw[e0,List.map_nil,List.nil_append]at e1;rw[e0,List.length_nil]at e2;simp only[brS,hMM,e1,e2,sqT,sqO,if_false,List.cons_append,List.nil_append,Nat.reduceEqDiff]
             ((try simp only[moC,kS]);refine Yn.sub (by simp[lk,Ya,AV.keys,moC,kS]) ?_;simp only[moC,kS,Wkl,and_true];(try simp[lk,Yd,Ya,AV.keys,moC,kS]))
           · have s1:=more κ hne hk;have:κ=41∨κ=53:=(by simpa using hk);rcases this with rfl|rfl
             all_goals
              refine Yc Yb 1000 ?_;simp only[sqT,sqO,if_false,List.cons_append,List.nil_append,Nat.reduceEqDiff];simp -implicitDefEqProofs[hi,hlx,hra,wi,f2,f3];refine Ye.of hst (by simp[pS,AV.pure]) ?_;simp -implicitDefEqProofs[wi,hra,hbo,b1,b2];refine nxt _ s1 _ ?_;simp only[brS,hMM,e2,sqT,sqO,if_false,List.cons_append,List.nil_append,Nat.reduceEqDiff]
              try simp only[List.append_assoc,List.cons_append,List.nil_append]
              rw[← e1]
              ((try simp only[moC,kS]);refine Yn.sub (by simp[lk,Ya,AV.keys,moC,kS]) ?_;simp only[moC,kS,Wkl,ZiL,and_true];(try simp[lk,Yd,Ya,AV.keys,moC,kS]))
         · have e:rlP true x=[⟨x.fd,x.fl,x.td,x.tl,x.nu,false⟩,⟨x.td,x.tl,x.fd,x.fl,x.nu,false⟩]:=(by simp[rlP,z,hbo]);have hne:rlP true x≠[]:=(by rw[e];simp);rw[e]at hL;have e1:M.map sa=L.map sa++[[.int .i64 x.fd,.int .i64 x.fl,.int .i64 x.td,.int .i64 x.tl,.int .i64 x.nu,.bool false],[.int .i64 x.td,.int .i64 x.tl,.int .i64 x.fd,.int .i64 x.fl,.int .i64 x.nu,.bool false]]:=(by rw[hL,List.map_append];rfl);have e2:M.length=L.length+2:=(by rw[hL];simp);rcases hK with ⟨rfl,e0⟩ | ⟨hk,ne⟩
           · have s1:=more 41 hne (by simp);refine Yc Yb 1000 ?_;simp only[sqT,sqO,if_true,List.nil_append];simp -implicitDefEqProofs[hi,hlx,hra,wi,f2,f3];refine Ye.of hst (by simp[pS,AV.pure]) ?_;simp -implicitDefEqProofs[wi,hra,hbo];refine nxt 41 s1 _ ?_;rw[e0,List.map_nil,List.nil_append]at e1;rw[e0,List.length_nil]at e2;simp only[brS,hMM,e1,e2,sqT,sqO,if_false,List.cons_append,List.nil_append,Nat.reduceEqDiff]
             ((try simp only[moC,kS]);refine Yn.sub (by simp[lk,Ya,AV.keys,moC,kS]) ?_;simp only[moC,kS,Wkl,and_true];(try simp[lk,Yd,Ya,AV.keys,moC,kS]))
           · have s1:=more κ hne hk;have:κ=41∨κ=53:=(by simpa using hk);rcases this with rfl|rfl
             all_goals
              refine Yc Yb 1000 ?_;simp only[sqT,sqO,if_false,List.cons_append,List.nil_append,Nat.reduceEqDiff];simp -implicitDefEqProofs[hi,hlx,hra,wi,f2,f3];refine Ye.of hst (by simp[pS,AV.pure]) ?_;simp -implicitDefEqProofs[wi,hra,hbo,b1,b2];refine nxt _ s1 _ ?_;simp only[brS,hMM,e2,sqT,sqO,if_false,List.cons_append,List.nil_append,Nat.reduceEqDiff]
              try simp only[List.append_assoc,List.cons_append,List.nil_append]
              rw[← e1]
              ((try simp only[moC,kS]);refine Yn.sub (by simp[lk,Ya,AV.keys,moC,kS]) ?_;simp only[moC,kS,Wkl,ZiL,and_true];(try simp[lk,Yd,Ya,AV.keys,moC,kS]))
   · obtain rfl:i=q.length:=(by omega);refine Yc Yb 1000 ?_;rcases hK with ⟨rfl,e0⟩ | ⟨hk,ne⟩
     · simp only[sqT,sqO,if_true,List.nil_append];simp -implicitDefEqProofs[];refine Z2N Yb 1000 ?_;simp -implicitDefEqProofs[Yh,e0]
     · have:κ=41∨κ=53:=(by simpa using hk);rcases this with rfl|rfl
       all_goals
        simp only[sqT,sqO,if_false,List.cons_append,List.nil_append,Nat.reduceEqDiff];simp -implicitDefEqProofs[];refine Z2N Yb 1000 ?_;simp -implicitDefEqProofs[Yh,ne,sa]
end
theorem Zjp {r:List Iss} {l:List Nte} {s:List Int} (h:chN r l=0):(fcE r l s 1).2=if truB l s=true then 0 else 31:=by
 have e:asN r l s 1=if truB l s=true then 0 else 31:=by
  unfold asN;rw[if_pos h];have:inR 1 1 999=true:=(by decide);rw[this];simp
 unfold fcE;rw[e]
 split <;> simp_all
def moA (r:List Iss) (l:List Nte) (q:List Rul) (s:List Int) (m d e:Int):AV:=.tup [.agg (if aqN r l q s m d e=0 then moC r l q s m d else [.nilp,.nils,.int .i64 0,.int .i64 0]),.int .i64 (aqN r l q s m d e)]
section
variable {G:Nat→Option (List AV)}
theorem Zjq (hG:GC G) (hN:GN G) (r:List Iss) (l:List Nte) (q:List Rul) (s:List Int) (m d e:Int) (hw:WfN l) (hr:Wf r) (hq:Sml q) (hs:Sml s):PC Tryz.prog G 45 [swa r l q,.vsl (s.map ia),.int .i64 m,.int .i64 d,.int .i64 e] (moA r l q s m d e):=by
 have ho:=Zj9 hG hN r l q hw hr hq;have hf:=ZhV hG hN r l s 1 hw hr hs;have h1:=ZiT (G:=G) 1 999 m;have h2:=ZiU (G:=G) 0 14610 d e;have pS:(Yl r l q).pure=true:=(by unfold Yl rfA;split <;> simp[AV.pure,isa,na,ra,rfa]);have kS:(Yl r l q).keys=[]:=by unfold Yl;simp[AV.keys]
 have sS:∀ ok st,Yi ok st 5 (Yl r l q)=some (Yl r l q):=fun ok st=>by
  have h:=pS;unfold Yl at *;simp[Yi,h]
 have sS6:∀ ok st,Yi ok st 6 (Yl r l q)=some (Yl r l q):=fun ok st=>by
  have h:=pS;unfold Yl at *;simp[Yi,h]
 unfold opnA swa at ho;unfold fcA at hf;unfold moA aqN moC;have oS:(Yl r l q).one=true:=(by unfold Yl;simp[AV.one,AV.known]);by_cases h0:chS r l q=0
 · have hz:=Zjp (s:=s) (Zit h0).1;rw[if_pos h0,h0]at ho;rw[hz]at hf;have pL:=Zfc (l:=(fcE r l s 1).1.map ia) (by simp[ia,AV.pure]);generalize Yh ((fcE r l s 1).1.map ia)=fV at *;obtain ⟨cs,eS⟩ : ∃ cs,Yl r l q = .vptr cs 0:=⟨_,rfl⟩;rw[eS]at ho pS kS sS sS6 oS ⊢
   (refine Z7L rfl fun R hG hrd=>Yc Yb 1000 ?_;subst hG)
   simp -implicitDefEqProofs[Z7J,Z7K,swa]
   (first|refine Ye.of (ho) (by simp) ?_|refine Yf.of (ho) (by simp) ?_)
   simp -implicitDefEqProofs[]
   (first|refine Ye.of (hf) (by simp) ?_|refine Yf.of (hf) (by simp) ?_)
   cases ht:truB l s
   · simp -implicitDefEqProofs[h0]
   simp -implicitDefEqProofs[]
   (first|refine Ye.of (h1) (by simp) ?_|refine Yf.of (h1) (by simp) ?_)
   cases q1:inR m 1 999
   · simp -implicitDefEqProofs[h0]
   simp -implicitDefEqProofs[]
   (first|refine Ye.of (h2) (by simp) ?_|refine Yf.of (h2) (by simp) ?_)
   cases q2:inR d 0 14610 <;> cases q3:inR e 0 14610
   · simp -implicitDefEqProofs[h0]
   · simp -implicitDefEqProofs[h0]
   · simp -implicitDefEqProofs[h0]
   · simp -implicitDefEqProofs[h0,pS,sS,sS6,oS]
 · rw[if_neg h0]at ho
   (refine Z7L rfl fun R hG hrd=>Yc Yb 1000 ?_;subst hG)
   simp -implicitDefEqProofs[Z7J,Z7K,swa]
   (first|refine Ye.of (ho) (by simp) ?_|refine Yf.of (ho) (by simp) ?_)
   simp -implicitDefEqProofs[h0]
end
theorem Zjr {r:List Iss} (h:openV r=0) {x:Iss} (hx:x∈r):x.d≠0:=by
 have hL:=Zdb h;unfold Zbi at hL;simp only[Bool.and_eq_true]at hL;have h1:=List.all_eq_true.1 hL.1.1.1.2 x hx;simp only[issB,headB,Bool.and_eq_true]at h1;have h2:=h1.1.1.1.1.1;simp only[inR,decide_eq_true_eq]at h2;omega
theorem Zjs {r:List Iss} (h:openV r=0) {d l:Int} (hk:knB r d l=true):d≠0:=by
 unfold knB at hk;obtain ⟨x,hx⟩:=Option.isSome_iff_exists.1 hk;obtain ⟨h1,h2,h3⟩:=ZbI hx;rw[← h2];exact Zjr h h1
theorem Zjt {α:Type} {f:α→Int} {d:Int}:∀ {l:List α},(l.Pairwise fun a b=>f a≤f b)→l.filter (fun x=>decide (f x≤d))=l.takeWhile fun x=>decide (f x≤d)
 |[],_=>rfl
 | x :: l,h=>by
   rw[List.pairwise_cons]at h;rw[List.filter_cons,List.takeWhile_cons]
   split
   · rw[Zjt h.2]
   · rename_i e;have e:¬f x≤d:=(by simpa using e);rw[List.filter_eq_nil_iff];intro y hy;have:=h.1 y hy;simp;omega
theorem Zju {r:List Iss} {l:List Nte} (h:ZdM r l=true):l.Pairwise fun a b=>a.dy≤b.dy:=by
 simp only[ZdM,Bool.and_eq_true]at h;have h1:=Zbf.1 h.1.2
 have step:∀ j (hj:j+1<l.length),l[j].dy≤l[j+1].dy:=fun j hj=>by
  have h2:=h1 (j+1) hj;simp only[noteB,Bool.and_eq_true]at h2;have h3:=h2.2;rw[ZdJ hj]at h3;simp only[cN8,ZdJ (show j<l.length by omega),Bool.or_eq_true,Bool.and_eq_true,decide_eq_true_eq]at h3;rcases h3 with h3|h3 <;> omega
 rw[List.pairwise_iff_getElem];intro i j hi hj hij;obtain ⟨n,rfl⟩ : ∃ n,j=i+1+n:=⟨j-i-1,by omega⟩;clear hij
 induction n with
 |zero=>exact step i hj
 | succ n ih =>
   have:=ih (by omega);have h4:=step (i+1+n) hj;exact Int.le_trans this h4
theorem tw_le {α:Type} {p:α→Bool}:∀ l:List α,(l.takeWhile p).length≤l.length
 |[]=>Nat.le_refl _
 | x::l=>by
   rw[List.takeWhile_cons]
   split
   · simpa using tw_le l
   · simp
theorem Zjv {α:Type} {p:α→Bool}:∀ l:List α,l.take (l.takeWhile p).length=l.takeWhile p
 |[]=>rfl
 | x::l=>by
   rw[List.takeWhile_cons]
   split
   · simpa using Zjv l
   · simp
theorem Zjw {α:Type} {p:α→Bool}:∀ (l:List α) (h:(l.takeWhile p).length<l.length),p (l[(l.takeWhile p).length])=false
 |[],h=>by simp at h
 | x :: l,h=>by
   by_cases e:p x=true
   · have e2:((x::l).takeWhile p)=x::l.takeWhile p:=(by rw[List.takeWhile_cons,if_pos e]);have h2:(l.takeWhile p).length<l.length:=(by rw[e2]at h;simpa using h);have:=Zjw l h2;simp only[e2,List.length_cons,List.getElem_cons_succ];exact this
   · have e2:((x::l).takeWhile p)=[]:=(by rw[List.takeWhile_cons,if_neg e]);simp only[e2,List.length_nil,List.getElem_cons_zero];simpa using e
def dyK (day:Int) (l:List Nte):Nat:=(l.takeWhile fun x=>decide (x.dy≤day)).length
theorem Zjx (day:Int) (l:List Nte):dyK day l≤l.length:=tw_le l
theorem Zjy {day:Int} {l:List Nte}:l.take (dyK day l)=l.takeWhile fun x=>decide (x.dy≤day):=Zjv l
theorem Zjz {day:Int} {l:List Nte}:∀ j (h:j<l.length),j<dyK day l→l[j].dy≤day:=fun j h hj=>by
 have h1:l[j]∈l.take (dyK day l):=List.mem_take_iff_getElem.2 ⟨j,by omega,rfl⟩;rw[Zjy]at h1;have:=List.all_eq_true.1 (List.all_takeWhile (p:=fun x:Nte=>decide (x.dy≤day)) (l:=l)) _ h1;simpa using this
theorem ZjA {day:Int} {l:List Nte} (h:dyK day l<l.length):day<l[dyK day l].dy:=by
 have:=Zjw (p:=fun x:Nte=>decide (x.dy≤day)) l h;have:=of_decide_eq_false this;exact Int.not_le.1 this
theorem ZjB {r:List Iss} {l:List Nte} {day:Int} (h:ZdM r l=true):l.take (dyK day l)=dyN day l:=by
 rw[Zjy,dyN,Zjt (Zju h)]
theorem ZjC {l:List Nte} {s:List Int} (h:truB l s=true):SrtI s∧s.Nodup:=by
 have ht:=Zhm.1 h;have lt:=Zhk ht;have eg:∀ j,∀ hj:j<s.length,s.getD j 0=s[j]:=fun j hj=>by simp[List.getD_eq_getElem?_getD,hj]
 have key:∀ (i j:Nat) (hi:i<s.length) (hj:j<s.length),i<j→s[i]<s[j]:=fun i j hi hj hij=>by
  have:=lt i j hij hj
  rwa [eg i hi,eg j hj]at this
 refine ⟨List.pairwise_iff_getElem.2 fun i j hi hj hij=>Int.le_of_lt (key i j hi hj hij),List.nodup_iff_pairwise_ne.2 (List.pairwise_iff_getElem.2 fun i j hi hj hij=>?_)⟩;have:=key i j hi hj hij;omega
theorem ZjD {r:List Iss} {l:List Nte} {s:List Int} {k:Nat} (h:ZdM r l=true) (ht:truB l s=true):sortI (tnN l s k)=dyT (l.take k) s:=by
 obtain ⟨h1,h2⟩:=ZjC ht;have sub:(dyT (l.take k) s).Sublist s:=List.filter_sublist;refine ZdX ?_ (List.Pairwise.sublist sub h1);have n1:(dyT (l.take k) s).Nodup:=sub.nodup h2
 have n2:(tnN l s k).Nodup:=by
  unfold tnN;exact List.Sublist.nodup ((List.filter_sublist.trans (List.take_sublist _ _)).map _) (ZhL h)
 refine (List.perm_ext_iff_of_nodup n1 n2).2 fun n=>?_
 simp only[dyT,tnN,List.mem_filter,List.mem_map,List.any_eq_true,decide_eq_true_eq]
 constructor
 · rintro ⟨q1,x,hx,rfl⟩;exact ⟨x,⟨hx,q1⟩,rfl⟩
 · rintro ⟨x,⟨hx,q1⟩,rfl⟩;exact ⟨q1,x,hx,rfl⟩
theorem ZjE {r:List Iss} {l:List Nte} (ho:openV r=0) (h:ZdM r l=true) {x:Nte} (hx:x∈l) (F:List Int):ntP F x=ntR F x:=by
 obtain ⟨j,hj,rfl⟩:=List.getElem_of_mem hx;simp only[ZdM,Bool.and_eq_true]at h;have h2:=Zbf.1 h.1.2 j hj;simp only[noteB,Bool.and_eq_true,ZdJ hj]at h2;have c4:=h2.1.1.1.1.2;have c5:=h2.1.1.1.2;generalize l[j]=x at *;unfold ntP ntR;by_cases hm:x.nu∈F
 · by_cases h3:¬x.dr=0∧¬x.lt<2
   · have h6:x.nu∈F∧¬x.dr=0∧¬x.lt<2:=⟨hm,h3⟩;rw[if_pos hm,if_pos h6]
   · have hw:x.wy=0:=by
      simp only[cN5,Bool.or_eq_true,Bool.and_eq_true,decide_eq_true_eq]at c5;rcases c5 with c5|c5
      · exfalso
        have h4:x.dr=0:=by
         by_cases q:x.dr=0
         · exact q
         · exact absurd ⟨q,by omega⟩ h3
        have h5:¬(x.dr=0∧x.lt=0):=fun q=>by omega
        rw[cN4,if_neg h5]at c4;exact Zjs ho (d:=x.dr) (l:=x.lt) c4 h4
      · exact c5.2
     have h6:¬(x.nu∈F∧¬x.dr=0∧¬x.lt<2):=fun q=>h3 q.2
     rw[if_pos hm,if_neg h6];simp[hw]
 · have h6:¬(x.nu∈F∧¬x.dr=0∧¬x.lt<2):=fun q=>hm q.1
   rw[if_neg hm,if_neg h6]
theorem ZjF {r:List Iss} {q:List Rul} (ho:openV r=0) (h:Ze8 r q=true) {i:Nat} (hi:i<q.length) (b:Bool):rlP b (rAt q i)=rlR b (rAt q i):=by
 simp only[Ze8,Bool.and_eq_true]at h;have h2:=Zbf.1 h.2 i hi;simp only[ruleB,Bool.and_eq_true]at h2;have c2:=h2.1.1.1.2;generalize rAt q i=x at *;unfold rlP rlR
 have key:(x.fd=x.td∧x.fl=x.tl)↔(x.fd=0∧x.fl=0):=by
  unfold cR2 at c2
  split at c2
  · rename_i hz;obtain ⟨z1,z2,z3,z4⟩:=hz;rw[z1,z2,z3,z4]
  · simp only[Bool.and_eq_true,Bool.not_eq_true',decide_eq_false_iff_not]at c2;exact ⟨fun q=>absurd q c2.1.1,fun q=>absurd q.1 (Zjs ho c2.1.2)⟩
 simp only[key]
theorem ZjG {α β:Type} {f g:α→List β}:∀ {l:List α},(∀ x∈l,f x=g x)→l.flatMap f=l.flatMap g
 |[],_=>rfl
 |x::l,h=>by rw[List.flatMap_cons,List.flatMap_cons,h x List.mem_cons_self,ZjG fun y hy=>h y (List.mem_cons_of_mem _ hy)]
theorem ZjH {r:List Iss} {l:List Nte} {q:List Rul} {s:List Int} {m day:Int} (h:chS r l q=0) (ht:truB l s=true) :
  nsP (fcE r (l.take (dyK day l)) (sortI (tnN l s (dyK day l))) m).1 (l.take (dyK day l)) (l.take (dyK day l)).length++rsP day q q.length=st5 r l q s m day:=by
 obtain ⟨hN,hR⟩:=Zit h;have hB:=Zi9 hN
 have ho:openV r=0:=by
  unfold chN at hN
  split at hN
  · assumption
  · exact hN
 rw[ZjD hB ht,ZjB hB];unfold st5 stF
 congr 1
 · unfold nsP nsR;rw[List.take_length];refine ZjG fun x hx=>ZjE ho hB (List.mem_filter.1 hx).1 _
 · unfold rsP rsR;refine ZjG fun j hj=>ZjF ho hR ?_ _
   have:=List.mem_range.1 (List.mem_of_mem_take hj);exact this
abbrev Rf:=Int×Int
def frS (x:Stq):Rf:=(x.fd,x.fl)
def toS (x:Stq):Rf:=(x.td,x.tl)
def edg (L:List Stq):List (Rf×Rf):=L.map fun x=>(frS x,toS x)
def tuE (E:List (Rf×Rf)):List (Rf×Rf):=E.map fun e=>(e.2,e.1)
def pth (E:List (Rf×Rf)) (y:Rf):Nat→Rf→Bool
 |0,x=>decide (x=y)
 |n+1,x=>E.any fun e=>decide (e.1=x)&&pth E y n e.2
def diN (E:List (Rf×Rf)) (y x:Rf):Option Nat:=(List.range (E.length+1)).find? fun n=>pth E y n x
def diV (E:List (Rf×Rf)) (y x:Rf):Int:=match diN E y x with
 |some n=>n
 |none=>1048576
def md (E:List (Rf×Rf)) (y:Rf) (n:Nat) (x:Rf):Prop:=pth E y n x=true∧∀ m,m<n→pth E y m x=false
section
variable {E:List (Rf×Rf)} {x y z:Rf} {n m:Nat}
theorem ZjI:pth E y (n+1) x=true↔∃ e∈E,e.1=x∧pth E y n e.2=true:=by
 simp[pth,List.any_eq_true]
theorem ZjJ (h1:md E y n x) (h2:md E y m x):n=m:=by
 rcases Nat.lt_trichotomy n m with h|h|h
 · have:=h2.2 n h;rw[h1.1]at this;cases this
 · exact h
 · have:=h1.2 m h;rw[h2.1]at this;cases this
theorem md_of:∀ n,pth E y n x=true→∃ m,m≤n∧md E y m x:=by
 intro n
 induction n using Nat.strongRecOn with
 | _ n ih =>
   intro h;by_cases c:∃ m,m<n∧pth E y m x=true
   · obtain ⟨m,h1,h2⟩:=c;obtain ⟨k,h3,h4⟩:=ih m h1 h2;exact ⟨k,by omega,h4⟩
   · refine ⟨n,Nat.le_refl _,h,fun m hm=>?_⟩
     cases q:pth E y m x
     · rfl
     · exact absurd ⟨m,hm,q⟩ c
theorem ZjK (h:md E y (n+1) x):∃ e∈E,e.1=x∧md E y n e.2:=by
 obtain ⟨e,h1,h2,h3⟩:=ZjI.1 h.1;refine ⟨e,h1,h2,h3,fun m hm=>?_⟩
 cases q:pth E y m e.2
 · rfl
 · have:=h.2 (m+1) (by omega);rw[ZjI.2 ⟨e,h1,h2,q⟩]at this;cases this
theorem ZjL:∀ (n:Nat) (x:Rf),md E y n x→∃ ss:List Rf,ss.length=n∧(∀ s∈ss,s∈E.map (·.1)∧∃ k,k≤n∧0<k∧md E y k s)∧ss.Nodup
 |0,x,_=>⟨[],rfl,by simp,.nil⟩
 | n + 1,x,h=>by
   obtain ⟨e,h1,h2,h3⟩:=ZjK h;obtain ⟨ss,l1,l2,l3⟩:=ZjL n e.2 h3;refine ⟨x::ss,by simp[l1],?_,List.nodup_cons.2 ⟨fun hm=>?_,l3⟩⟩
   · intro s hs;rcases List.mem_cons.1 hs with rfl|hs
     · exact ⟨List.mem_map.2 ⟨e,h1,h2⟩,n+1,Nat.le_refl _,by omega,h⟩
     · obtain ⟨q1,k,q2,q3,q4⟩:=l2 s hs;exact ⟨q1,k,by omega,q3,q4⟩
   · obtain ⟨-,k,q2,-,q4⟩:=l2 x hm;have:=ZjJ h q4;omega
theorem md_le (h:md E y n x):n≤E.length:=by
 obtain ⟨ss,l1,l2,l3⟩:=ZjL n x h;have:=List.Nodup.length_le_of_subset l3 (l₂:=E.map (·.1)) fun s hs=>(l2 s hs).1
 simpa [l1] using this
theorem ZjM:diN E y x=some n↔md E y n x:=by
 unfold diN
 constructor
 · intro h;have h1:=List.find?_some h;refine ⟨h1,fun m hm=>?_⟩;obtain ⟨-,us,vs,e,h2⟩:=List.find?_eq_some_iff_append.1 h;have e1:∀ k:Nat,(List.range (E.length+1))[k]? = (us++n::vs)[k]?:=fun k=>by rw[e]
   have hn:us.length=n:=by
    have h3:=e1 us.length;rw[List.getElem?_append_right (Nat.le_refl _),Nat.sub_self,List.getElem?_cons_zero]at h3;obtain ⟨h4,h5⟩:=List.getElem?_eq_some_iff.1 h3;rw[List.getElem_range]at h5;exact h5
   have hm2:m∈us:=by
    have h3:=e1 m;have hl:m<(List.range (E.length+1)).length:=(by rw[e,List.length_append];omega);rw[List.getElem?_append_left (by omega),List.getElem?_eq_getElem hl,List.getElem_range]at h3;exact List.mem_of_getElem? h3.symm
   simpa using h2 m hm2
 · intro h;have hl:=md_le h;rw[List.find?_eq_some_iff_append];refine ⟨h.1,List.range n,(List.range (E.length-n)).map (n+1 + ·),?_,fun m hm=>?_⟩
   · have:E.length+1=n+1+(E.length-n):=(by omega);rw[this,List.range_add,List.range_succ,List.append_assoc];rfl
   · simp[h.2 m (List.mem_range.1 hm)]
theorem ZjN:diN E y x=none↔∀ n,pth E y n x=false:=by
 constructor
 · intro h n
   cases q:pth E y n x
   · rfl
   · obtain ⟨m,-,hm⟩:=md_of n q;rw[ZjM.2 hm]at h;cases h
 · intro h
   cases q:diN E y x with
   |none=>rfl
   | some n =>
     have:=(ZjM.1 q).1;rw[h n]at this;cases this
theorem ZjO (h:diN E y x=some n):n≤E.length:=md_le (ZjM.1 h)
theorem ZjP (hE:E.length≤1000):diV E y x≤1048576:=by
 unfold diV;split
 · rename_i n h;have:=ZjO h;omega
 · omega
theorem ZjQ (hE:E.length≤1000):diV E y x=1048576↔diN E y x=none:=by
 unfold diV;split
 · rename_i n h;have:=ZjO h;simp[h];omega
 · rename_i h;simp[h]
theorem ZjR (hE:E.length≤1000):diV E y x<1048576↔(diN E y x).isSome=true:=by
 have h1:=ZjQ (x:=x) (y:=y) hE;have h2:=ZjP (x:=x) (y:=y) hE
 cases q:diN E y x with
 |none=>have:=h1.2 q;simp;omega
 |some n=>simp only[q,reduceCtorEq,iff_false]at h1;simp;omega
end
def rfs (r:List Iss):List Rf:=r.map fun x=>(x.d,x.l)
theorem ZjS (r:List Iss):(rfs r).map ita=r.map rfa:=by simp[rfs,ita,rfa,Function.comp_def]
def aiP (x:Rf):Rf→Bool:=fun y=>decide (y=x)
theorem ZjT (o:List (Nat×AObj)) (l:List Rf):Yd o (.row 2 (l.map ita))=true:=by
 simp only[Yd,List.all_eq_true,List.mem_map];rintro x ⟨y,-,rfl⟩ v hv;simp only[ita,List.mem_cons,List.not_mem_nil,or_false]at hv;rcases hv with rfl|rfl <;> simp[Ya,AV.keys]
def bfO (n i:Nat):List Int:=List.replicate i 1048576++List.replicate (n-i) 0
section
variable {G:Nat→Option (List AV)}
theorem ZjU (l:List Rf) (d e:Int) (hl:Sml l):PC Tryz.prog G 64 [.vsl (l.map ita),.agg [.int .i64 d,.int .i64 e]] (.int .i64 (fstOf (aiP (d,e)) l)):=by
 (refine Z6p rfl fun R hG hrd=>Yc Yb 1000 ?_;subst hG)
 unfold Sml at hl;simp -implicitDefEqProofs[Z6n,Z6o];refine ZaV (fun i=>⟨[(5,.int .i64 i),(0,.vsl (l.map ita)),(3,.ptr 3 0)],[(3,.box [.int .i64 d,.int .i64 e])]⟩) (fun i=>∀ j (h:j<l.length),j<i→aiP (d,e) l[j]=false) l.length (by (first|exact Yn.tm (by simp[lk])|exact Yn.sub (by simp[lk,Ya,AV.keys]) (by simp[lk,Yd,Ya,AV.keys]))) (by simp) ?_ ?_
 · intro i hi he;refine Yc Yb 1000 ?_;have w1:IntKind.i64.wrap ((i:Int)+1)=(i:Int)+1:=Yg (by omega) (by omega);by_cases h:l[i].1=d∧l[i].2=e
   · have hf:=ZbL (p:=aiP (d,e)) hi (by simp[aiP,Prod.ext_iff,h.1,h.2]) he;simp -implicitDefEqProofs[hi,ita,h.1,h.2];refine ⟨rfl,?_⟩;refine Z2N Yb 1000 ?_;simp -implicitDefEqProofs[hf]
   · have h1:(decide (l[i].1=d)&&decide (l[i].2=e))=false:=by
      cases hh:(decide (l[i].1=d)&&decide (l[i].2=e))
      · rfl
      · simp at hh;exact absurd hh h
     simp -implicitDefEqProofs[hi,ita,h1,w1];refine ⟨rfl,by (first|exact Yn.tm (by simp[lk])|exact Yn.sub (by simp[lk,Ya,AV.keys]) (by simp[lk,Yd,Ya,AV.keys])),fun j q1 q2=>?_⟩;by_cases e':j=i
     · subst e';refine decide_eq_false fun q=>h ?_
       rw[q];exact ⟨rfl,rfl⟩
     · exact he j q1 (by omega)
 · intro he;refine Yc Yb 1000 ?_;have hf:=ZbM (p:=aiP (d,e)) (l:=l) (fun j hj=>he j hj hj);simp -implicitDefEqProofs[];refine Z2N Yb 1000 ?_;simp -implicitDefEqProofs[hf]
theorem ZjV (x:Iss):PC Tryz.prog G 97 [.agg (isa x)] (.agg [.int .i64 x.d,.int .i64 x.l]):=by
 (refine Z6m rfl fun R hG hrd=>Yc Yb 1000 ?_;subst hG)
 simp -implicitDefEqProofs[Z6k,Z6l,isa]
theorem ZjW (r:List Iss) (hr:Sml r):PC Tryz.prog G 62 [.agg [.vsl (r.map isa)]] (rfA r):=by
 (refine Z6s rfl fun R hG hrd=>Yc Yb 1000 ?_;subst hG)
 unfold Sml at hr;simp -implicitDefEqProofs[Z6q,Z6r];refine ZaV (fun i=>if i=0 then ⟨[(4,.int .i64 i),(3,.nils),(1,.ptr 1 0)],[(1,.box [.vsl (r.map isa)])]⟩ else ⟨[(4,.int .i64 i),(3,.osl 20 i),(1,.ptr 1 0)],[(20,.row 2 (rkT r i)),(1,.box [.vsl (r.map isa)])]⟩) (fun _=>True) r.length ?_ trivial ?_ ?_
 · simp only[if_true]
   (refine Yn.sub (by simp[lk,Ya,AV.keys]) ?_;simp only[Wkl,and_true];(try simp[lk,Yd,Ya,AV.keys]))
 · intro i hi _;have tk:=Zj7 hi;have tl:=Zj6 (r:=r) (i:=i) (by omega);have bb:(i+1)*16≤70368744177664:=(by omega);have hri:rfa r[i]=[.int .i64 r[i].d,.int .i64 r[i].l]:=rfl;have hro:=ZjV (G:=R.G) r[i];rw[hri]at tk;unfold isa at hro;refine Yc Yb 1000 ?_
   cases i with
   | zero =>
     have e0:rkT r 0=[]:=rfl;have w1:IntKind.i64.wrap 1=1:=rfl;rw[e0,List.nil_append]at tk;simp -implicitDefEqProofs[hi,isa];refine Ye.of hro (by simp[AV.pure]) ?_;simp -implicitDefEqProofs[w1];rw[tk]
     (refine Yn.sub (by simp[lk,Ya,AV.keys]) ?_;simp only[Wkl,and_true];(try simp[lk,Yd,Ya,AV.keys]))
   | succ i =>
     have k1:(i:Int)+1<r.length:=(by omega);have k2:((i:Int)+1).toNat=i+1:=(by omega);have k3:(0:Int)≤(i:Int)+1:=(by omega);have w1:IntKind.i64.wrap ((i:Int)+1+1)=(i:Int)+1+1:=Yg (by omega) (by omega);simp -implicitDefEqProofs[hi,k1,k2,k3,isa];refine Ye.of hro (by simp[AV.pure]) ?_;simp -implicitDefEqProofs[w1,k1,k2,k3,tl,bb];rw[← tk]
     (refine Yn.sub (by simp[lk,Ya,AV.keys]) ?_;simp only[Wkl,Zj8,and_true];(try simp[lk,Yd,Ya,AV.keys]))
 · intro _;refine Yc Yb 1000 ?_;by_cases hl0:r.length=0
   · have er:r=[]:=List.length_eq_zero_iff.1 hl0;have eA:rfA r = .nils:=(by rw[er];rfl);simp -implicitDefEqProofs[hl0];refine Z2N Yb 1000 ?_;simp -implicitDefEqProofs[eA]
   · have er:¬r=[]:=fun h=>hl0 (by rw[h];rfl)
     have eT:rkT r r.length=r.map rfa:=(by unfold rkT;rw[List.take_length]);have eA:rfA r = .vsl (r.map rfa):=(by unfold rfA;rw[if_neg er]);simp -implicitDefEqProofs[hl0,eT];refine Z2N Yb 1000 ?_;simp -implicitDefEqProofs[eA,rfa]
end
theorem ZjX {l:List Rf} {x:Rf} (h:x∈l):∃ k,k<l.length∧fstOf (aiP x) l=(k:Int)∧l[k]? = some x:=by
 unfold fstOf
 cases q:l.findIdx? (aiP x) with
 | none =>
   rw[List.findIdx?_eq_none_iff]at q;have:=q x h;simp[aiP]at this
 | some k =>
   obtain ⟨h1,h2,-⟩:=List.findIdx?_eq_some_iff_getElem.1 q;have h2:l[k]=x:=of_decide_eq_true h2;exact ⟨k,h1,rfl,by rw[List.getElem?_eq_getElem h1,h2]⟩
theorem ZjY {n i:Nat} (h:i≤n):(bfO n i).length=n:=by simp[bfO];omega
theorem ZjZ {n i:Nat} (h:i<n):(bfO n i)[i]? = some 0:=by
 unfold bfO;rw[List.getElem?_append_right (by simp),List.length_replicate,Nat.sub_self,List.getElem?_replicate,if_pos (by omega)]
theorem Zk0 {n i:Nat} (h:i<n):(bfO n i).set i 1048576=bfO n (i+1):=by
 unfold bfO;rw[List.set_append_right _ _ (by simp),List.length_replicate,Nat.sub_self];obtain ⟨m,hm⟩ : ∃ m,n-i=m+1:=⟨n-i-1,by omega⟩;rw[hm,List.replicate_succ,List.set_cons_zero,List.replicate_succ',List.append_assoc,show n-(i+1)=m by omega];rfl
theorem Zk1 {n:Nat}:(bfO n 0).map ia=List.replicate n [.int .i64 0]:=by simp[bfO,ia]
theorem Zk2 {n:Nat}:bfO n n=List.replicate n 1048576:=by simp[bfO]
def sumN (l:List Int):Nat:=(l.map Int.toNat).sum
theorem Zk3:∀ {l:List Int} {k:Nat} {v w:Int},l[k]? = some w→0≤v→v<w→sumN (l.set k v)<sumN l
 |[],k,v,w,h,_,_=>by simp at h
 | x::l,0,v,w,h,h1,h2=>by
   simp only[List.getElem?_cons_zero,Option.some.injEq]at h;subst h;simp only[sumN,List.set_cons_zero,List.map_cons,List.sum_cons];omega
 | x::l,k+1,v,w,h,h1,h2=>by
   have:=Zk3 (l:=l) (k:=k) (v:=v) (w:=w) (by simpa using h) h1 h2;simp only[sumN,List.set_cons_succ,List.map_cons,List.sum_cons]at *;omega
structure BfI (E:List (Rf×Rf)) (l:List Rf) (y:Rf) (out:List Int):Prop where
 len:out.length=l.length
 ok:∀ (i:Nat) (v:Int) (x:Rf),out[i]? = some v→l[i]? = some x→0≤v∧v≤1048576∧(v=1048576∨pth E y v.toNat x=true)∧(x=y→v=0)
def rlx (l:List Rf) (out:List Int) (e:Rf×Rf):Prop:=∃ (ka kb:Nat) (va vb:Int),l[ka]? = some e.1∧l[kb]? = some e.2∧out[ka]? = some va∧out[kb]? = some vb∧vb+1<va
def NoR (E:List (Rf×Rf)) (l:List Rf) (out:List Int):Prop:=∀ e∈E,¬rlx l out e
def NoI (L:List Stq) (l:List Rf) (out:List Int) (i:Nat):Prop:=∀ j (h:j<L.length),j<i→¬rlx l out (frS L[j],toS L[j])
theorem NoI.all {L:List Stq} {l:List Rf} {out:List Int} (h:NoI L l out L.length):NoR (edg L) l out:=by
 intro e he;obtain ⟨x,hx,rfl⟩:=List.mem_map.1 he;obtain ⟨j,hj,rfl⟩:=List.getElem_of_mem hx;exact h j hj hj
theorem NoI.step {L:List Stq} {l:List Rf} {out:List Int} {i:Nat} (h:NoI L l out i) (hi:i<L.length) (h1:¬rlx l out (frS L[i],toS L[i])):NoI L l out (i+1):=by
 intro j hj hji;rcases Nat.lt_or_ge j i with q|q
 · exact h j hj q
 · obtain rfl:j=i:=(by omega);exact h1
theorem BfI.start {E:List (Rf×Rf)} {l:List Rf} {y:Rf} {k:Nat} (hn:l.Nodup) (hk:l[k]? = some y):BfI E l y ((List.replicate l.length 1048576).set k 0):=by
 refine ⟨by simp,fun i v x hv hx=>?_⟩;have hi:i<l.length:=(List.getElem?_eq_some_iff.1 hx).1;rw[List.getElem?_set]at hv
 split at hv
 · rename_i e;subst e;rw[List.length_replicate,if_pos hi,Option.some.injEq]at hv;rw[hk,Option.some.injEq]at hx;subst hv;subst hx;exact ⟨by omega,by omega,.inr (by simp[pth]),fun _=>rfl⟩
 · rename_i e;rw[List.getElem?_replicate,if_pos hi,Option.some.injEq]at hv;subst hv;refine ⟨by omega,by omega,.inl rfl,?_⟩;rintro rfl;exact absurd ((List.getElem?_inj hi hn).1 (hx.trans hk.symm)) (fun q=>e q.symm)
theorem BfI.step {E:List (Rf×Rf)} {l:List Rf} {y:Rf} {out:List Int} (h:BfI E l y out) (hn:l.Nodup) {e:Rf×Rf} (he:e∈E) {ka kb:Nat} {va vb:Int} (h1:l[ka]? = some e.1) (h2:l[kb]? = some e.2) (h3:out[ka]? = some va) (h4:out[kb]? = some vb) (h5:vb+1<va) :
  BfI E l y (out.set ka (vb+1)):=by
 refine ⟨by simp[h.len],fun i v x hv hx=>?_⟩;rw[List.getElem?_set]at hv
 split at hv
 · rename_i q;subst q;have hi:ka<out.length:=(List.getElem?_eq_some_iff.1 h3).1;rw[if_pos hi,Option.some.injEq]at hv;subst hv;obtain ⟨a1,a2,a3,a4⟩:=h.ok kb vb _ h4 h2;obtain ⟨b1,b2,b3,b4⟩:=h.ok ka va x h3 hx;rw[h1,Option.some.injEq]at hx;subst hx;refine ⟨by omega,by omega,.inr ?_,fun q=>?_⟩
   · rcases a3 with a3|a3
     · omega
     · rw[show (vb+1).toNat=vb.toNat+1 by omega];exact ZjI.2 ⟨e,he,rfl,a3⟩
   · have:=b4 q;omega
 · exact h.ok i v x hv hx
theorem BfI.fin {E:List (Rf×Rf)} {l:List Rf} {y:Rf} {out:List Int} (h:BfI E l y out) (hE:E.length≤1000) (hl:∀ e∈E,e.1∈l∧e.2∈l) (hr:∀ e∈E,¬rlx l out e):out=l.map (diV E y):=by
 have low:∀ (m:Nat) (i:Nat) (v:Int) (x:Rf),out[i]? = some v→l[i]? = some x→pth E y m x=true→v≤m:=by
  intro m
  induction m with
  | zero =>
    intro i v x hv hx hp;have:x=y:=(by simpa [pth] using hp);have:=(h.ok i v x hv hx).2.2.2 this;omega
  | succ m ih =>
    intro i v x hv hx hp;obtain ⟨e,he,rfl,hp2⟩:=ZjI.1 hp;obtain ⟨kb,hkb,hb⟩:=List.getElem_of_mem (hl e he).2;have hb':l[kb]? = some e.2:=(by rw[List.getElem?_eq_getElem hkb,hb]);have hkb2:kb<out.length:=(by rw[h.len];exact hkb);have h2:=ih kb _ _ (List.getElem?_eq_getElem hkb2) hb' hp2;rcases Int.lt_or_le (out[kb]+1) v with h3|h3
    · exact absurd ⟨i,kb,v,out[kb],hx,hb',hv,List.getElem?_eq_getElem hkb2,h3⟩ (hr e he)
    · omega
 refine List.ext_getElem? fun i=>?_
 rw[List.getElem?_map];by_cases hi:i<l.length
 · have hi2:i<out.length:=(by rw[h.len];exact hi);rw[List.getElem?_eq_getElem hi2,List.getElem?_eq_getElem hi,Option.map_some,Option.some.injEq];obtain ⟨a1,a2,a3,-⟩:=h.ok i _ _ (List.getElem?_eq_getElem hi2) (List.getElem?_eq_getElem hi);have hlow:=fun m=>low m i _ _ (List.getElem?_eq_getElem hi2) (List.getElem?_eq_getElem hi)
   unfold diV
   cases q:diN E y l[i] with
   | none =>
     rcases a3 with a3|a3
     · exact a3
     · rw[ZjN.1 q]at a3;cases a3
   | some n =>
     have hm:=ZjM.1 q;have hle:=md_le hm;have h1:=hlow n hm.1;rcases a3 with a3|a3
     · omega
     · have h2:n≤out[i].toNat:=by
        rcases Nat.lt_or_ge out[i].toNat n with h2|h2
        · have:=hm.2 _ h2;rw[a3]at this;cases this
        · exact h2
       simp only;omega
 · rw[List.getElem?_eq_none (by rw[h.len];omega),List.getElem?_eq_none (by omega)];rfl
theorem Zk4 {l:List Rf} {out:List Int} {e:Rf×Rf} {ka kb:Nat} {va vb:Int} (hn:l.Nodup) (h1:l[ka]? = some e.1) (h2:l[kb]? = some e.2) (h3:out[ka]? = some va) (h4:out[kb]? = some vb) (h5:¬vb+1<va):¬rlx l out e:=by
 rintro ⟨a,b,x,y,g1,g2,g3,g4,g5⟩;have ea:a=ka:=(List.getElem?_inj (List.getElem?_eq_some_iff.1 g1).1 hn).1 (g1.trans h1.symm);have eb:b=kb:=(List.getElem?_inj (List.getElem?_eq_some_iff.1 g2).1 hn).1 (g2.trans h2.symm);subst ea;subst eb;rw[h3,Option.some.injEq]at g3;rw[h4,Option.some.injEq]at g4;subst g3;subst g4;exact h5 g5
section
variable {G:Nat→Option (List AV)}
set_option maxHeartbeats 2000000 in
theorem Zk5 (l:List Rf) (L:List Stq) (d e:Int) (hl:l.length≤1000) (hL:L.length≤1000) (hn:l.Nodup) (hy:(d,e)∈l) (hE:∀ x∈edg L,x.1∈l∧x.2∈l) :
  PC Tryz.prog G 63 [.vsl (l.map ita),.vsl (L.map sa),.agg [.int .i64 d,.int .i64 e]] (.vsl ((l.map (diV (edg L) (d,e))).map ia)):=by
 obtain ⟨k0,hk0,hk1,hk2⟩:=ZjX hy;have ha:=fun x1 x2=>ZjU (G:=G) l x1 x2 (by unfold Sml;omega)
 have ha0:=ha d e;rw[hk1]at ha0;refine Z6v rfl fun R hG hrd=>?_
 subst hG;have b1:(l.length:Int)≤16777216:=(by omega);have rep:=Zk1 (n:=l.length);refine Yc Yb 1000 ?_;simp -implicitDefEqProofs[Z6t,Z6u,b1,← rep];refine ZaV (fun i=>⟨[(8,.int .i64 i),(7,.osl 15 l.length),(5,.ptr 5 0),(1,.vsl (L.map sa)),(0,.vsl (l.map ita))],[(15,.row 1 ((bfO l.length i).map ia)),(5,.box [.int .i64 d,.int .i64 e])]⟩) (fun _=>True) l.length ?_ trivial ?_ ?_
 · (refine Yn.sub (by simp[lk,Ya,AV.keys]) ?_;simp only[Wkl,Zh4,and_true];(try simp[lk,Yd,Ya,AV.keys]))
 · intro i hi _;have w1:IntKind.i64.wrap ((i:Int)+1)=(i:Int)+1:=Yg (by omega) (by omega);have ln:=ZjY (n:=l.length) (i:=i) (by omega);have st:=Zk0 hi;obtain ⟨q1,g1⟩:=List.getElem?_eq_some_iff.1 (ZjZ hi);generalize bfO l.length i=Q at *;refine Yc Yb 1000 ?_;simp -implicitDefEqProofs[hi,w1,ln,g1,ia];have e1:[AV.int .i64 1048576]=ia 1048576:=rfl;rw[e1,← List.map_set,st]
   (refine Yn.sub (by simp[lk,Ya,AV.keys]) ?_;simp only[Wkl,Zh4,and_true];(try simp[lk,Yd,Ya,AV.keys]))
 · intro _;refine Yc Yb 1000 ?_;have all:=Zk2 (n:=l.length);have ln:=ZjY (n:=l.length) (i:=l.length) (by omega);simp -implicitDefEqProofs[ln];refine Z2N Yb 1000 ?_;have hst:=BfI.start (E:=edg L) hn hk2;rw[← all]at hst;generalize bfO l.length l.length=Q at *;simp -implicitDefEqProofs[];refine Ye.of ha0 (by simp[AV.pure,ita]) ?_;simp -implicitDefEqProofs[hk0,ln,ia];have e1:[AV.int .i64 0]=ia 0:=rfl;rw[e1,← List.map_set]
   refine Z1Q (fun x:List Int×Bool=>⟨[(9,.bool x.2),(7,.osl 15 l.length),(5,.ptr 5 0),(1,.vsl (L.map sa)),(0,.vsl (l.map ita))],[(15,.row 1 (x.1.map ia)),(5,.box [.int .i64 d,.int .i64 e])]⟩)
    (fun x=>BfI (edg L) l (d,e) x.1∧(x.2=false→NoR (edg L) l x.1)) (fun x=>sumN x.1+if x.2=true then 1 else 0) (Q.set k0 0,true) ?_ ⟨hst,fun h=>by cases h⟩ ?_
   · (refine Yn.sub (by simp[lk,Ya,AV.keys]) ?_;simp only[Wkl,Zh4,and_true];(try simp[lk,Yd,Ya,AV.keys]))
   rintro ⟨out,b⟩ ⟨hB,hF⟩;simp only at hB hF;have lo:=hB.len;refine Yc Yb 1000 ?_
   cases b
   · have hfin:=hB.fin (by simp[edg];omega) hE (hF rfl);simp -implicitDefEqProofs[];refine Z2N Yb 1000 ?_;simp -implicitDefEqProofs[lo,hfin,ia]
   simp -implicitDefEqProofs[]
   refine Z1Q (fun x:Nat×List Int×Bool=>⟨[(10,.int .i64 x.1),(9,.bool x.2.2),(7,.osl 15 l.length),(5,.ptr 5 0),(1,.vsl (L.map sa)),(0,.vsl (l.map ita))],[(15,.row 1 (x.2.1.map ia)),(5,.box [.int .i64 d,.int .i64 e])]⟩)
    (fun x=>x.1≤L.length∧BfI (edg L) l (d,e) x.2.1∧(x.2.2=false→x.2.1=out∧NoI L l out x.1)∧(x.2.2=true→sumN x.2.1<sumN out)) (fun x=>L.length-x.1) (0,out,false) ?_ ⟨Nat.zero_le _,hB,fun _=>⟨rfl,fun j hj hji=>by simp at hji⟩,fun h=>by cases h⟩ ?_
   · (refine Yn.sub (by simp[lk,Ya,AV.keys]) ?_;simp only[Wkl,Zh4,and_true];(try simp[lk,Yd,Ya,AV.keys]))
   rintro ⟨i,o,c⟩ ⟨hi0,hBo,hc1,hc2⟩;simp only at hi0 hBo hc1 hc2;have loo:=hBo.len;refine Yc Yb 1000 ?_;by_cases hi:i<L.length
   case neg =>
    obtain rfl:i=L.length:=(by omega);simp -implicitDefEqProofs[];refine Z2N Yb 1000 ?_;simp -implicitDefEqProofs[];refine ⟨(o,c),by (refine Yn.sub (by simp[lk,Ya,AV.keys]) ?_;simp only[Wkl,Zh4,and_true];(try simp[lk,Yd,Ya,AV.keys])),⟨hBo,fun h=>?_⟩,?_⟩
    · obtain ⟨rfl,h1⟩:=hc1 h;exact h1.all
    · show sumN o+(if c=true then 1 else 0)<sumN out+(if true=true then 1 else 0)
      cases c
      · rw[(hc1 rfl).1];simp
      · have:=hc2 rfl;simp;omega
   have hmem:(frS L[i],toS L[i])∈edg L:=List.mem_map.2 ⟨_,List.getElem_mem hi,rfl⟩;obtain ⟨ka,a1,a2,a3⟩:=ZjX (hE _ hmem).1;obtain ⟨kb,b2,b3,b4⟩:=ZjX (hE _ hmem).2;have hca:=ha L[i].fd L[i].fl;have hcb:=ha L[i].td L[i].tl;have e2:(frS L[i])=(L[i].fd,L[i].fl):=rfl;have e3:(toS L[i])=(L[i].td,L[i].tl):=rfl;simp only[e2]at a2;simp only[e3]at b3;rw[a2]at hca;rw[b3]at hcb;have la:ka<o.length:=(by rw[loo];exact a1);have lb:kb<o.length:=(by rw[loo];exact b2);obtain ⟨va,hva⟩ : ∃ va,va=o[ka]:=⟨_,rfl⟩;obtain ⟨vb,hvb⟩ : ∃ vb,vb=o[kb]:=⟨_,rfl⟩;have gva:o[ka]? = some va:=(by rw[List.getElem?_eq_getElem la,hva]);have gvb:o[kb]? = some vb:=(by rw[List.getElem?_eq_getElem lb,hvb]);obtain ⟨p1,p2,-,-⟩:=hBo.ok ka va _ gva a3;obtain ⟨q1,q2,-,-⟩:=hBo.ok kb vb _ gvb b4;have w1:IntKind.i64.wrap ((i:Int)+1)=(i:Int)+1:=Yg (by omega) (by omega);have w2:IntKind.i64.wrap (vb+1)=vb+1:=Yg (by omega) (by omega);have hsa:sa L[i]=[.int .i64 L[i].fd,.int .i64 L[i].fl,.int .i64 L[i].td,.int .i64 L[i].tl,.int .i64 L[i].nu,.bool L[i].nt]:=rfl;simp -implicitDefEqProofs[hi,hsa];refine Yf.of hca (by simp[AV.pure,ita]) ?_;simp -implicitDefEqProofs[hi,hsa];refine Yf.of hcb (by simp[AV.pure,ita]) ?_;by_cases hv:vb+1<va
   · have hst:=hBo.step hn hmem a3 b4 gva gvb hv;have hsm:=Zk3 (v:=vb+1) gva (by omega) hv;simp -implicitDefEqProofs[hi,hsa,la,lb,loo,a1,b2,← hva,← hvb,ia,w1,w2,hv];refine ⟨rfl,rfl,(i+1,o.set ka (vb+1),true),?_,⟨hi,hst,fun h=>(by cases h),fun _=>?_⟩,?_⟩
     · have e1:[AV.int .i64 (vb+1)]=ia (vb+1):=rfl;rw[e1,← List.map_set]
       (refine Yn.sub (by simp[lk,Ya,AV.keys]) ?_;simp only[Wkl,Zh4,and_true];(try simp[lk,Yd,Ya,AV.keys]))
     · show sumN (o.set ka (vb+1))<sumN out
       cases c
       · have:=(hc1 rfl).1;subst this;exact hsm
       · have:=hc2 rfl;omega
     · show L.length-(i+1)<L.length-i;omega
   · have hno:=Zk4 (e:=(frS L[i],toS L[i])) hn a3 b4 gva gvb hv;simp -implicitDefEqProofs[hi,hsa,la,lb,loo,a1,b2,← hva,← hvb,ia,w1,w2,hv];refine ⟨rfl,rfl,(i+1,o,c),?_,⟨hi,hBo,fun h=>?_,hc2⟩,?_⟩
     · (refine Yn.sub (by simp[lk,Ya,AV.keys]) ?_;simp only[Wkl,Zh4,and_true];(try simp[lk,Yd,Ya,AV.keys]))
     · obtain ⟨rfl,h1⟩:=hc1 h;exact ⟨rfl,h1.step hi hno⟩
     · show L.length-(i+1)<L.length-i;omega
end
section
variable {r:List Iss}
theorem Zk6 (h:Zbi r=true) {i:Nat} (hi:i+1<r.length):r[i].d<r[i+1].d∧r[i+1].l=1∨r[i].d=r[i+1].d∧r[i+1].l=r[i].l+1:=by
 simp only[Zbi,Bool.and_eq_true]at h;have h1:=Zbf.1 h.1.1.2 (i+1) hi;have e1:at' r (i+1)=r[i+1]:=(by simp[at',List.getD_eq_getElem?_getD,hi]);have e2:at' r i=r[i]:=(by simp[at',List.getD_eq_getElem?_getD,show i<r.length by omega]);simp only[ordB,e1,e2]at h1
 split at h1
 · cases h1
 · split at h1
   · exact .inl ⟨‹_›,of_decide_eq_true h1⟩
   · simp only[Bool.and_eq_true,decide_eq_true_eq]at h1;exact .inr ⟨by omega,h1.1⟩
theorem Zk7 (h:Zbi r=true) (hi:0<r.length):r[0].l=1:=by
 simp only[Zbi,Bool.and_eq_true]at h;have h1:=Zbf.1 h.1.1.2 0 hi;have e1:at' r 0=r[0]:=(by simp[at',List.getD_eq_getElem?_getD,hi]);simp only[ordB,e1]at h1;exact of_decide_eq_true h1
theorem Zk8 (h:Zbi r=true):∀ (n i:Nat) (hj:i+1+n<r.length),r[i].d<r[i+1+n].d∨r[i].d=r[i+1+n].d∧r[i].l<r[i+1+n].l
 | 0,i,hj=>by
   have q:=Zk6 h (i:=i) hj;simp only[Nat.add_zero];omega
 | n+1,i,hj=>by
   have h1:=Zk8 h n i (by omega);have h2:=Zk6 h (i:=i+1+n) hj;have e:i+1+(n+1)=i+1+n+1:=(by omega);simp only[e];rcases h1 with q|q <;> rcases h2 with q2|q2 <;> omega
theorem Zk9 (h:Zbi r=true):(rfs r).Nodup:=by
 refine List.nodup_iff_pairwise_ne.2 (List.pairwise_iff_getElem.2 fun i j hi hj hij=>?_);simp only[rfs,List.length_map]at hi hj;obtain ⟨n,rfl⟩ : ∃ n,j=i+1+n:=⟨j-i-1,by omega⟩;have:=Zk8 h n i hj;simp only[rfs,List.getElem_map,ne_eq,Prod.mk.injEq];omega
theorem Zka {d l:Int}:knB r d l=true↔(d,l)∈rfs r:=by
 unfold knB;rw[ZiZ,List.any_eq_true];simp only[rfp,decide_eq_true_eq,rfs,List.mem_map,Prod.mk.injEq]
theorem Zkb (h:Zbi r=true) {d l:Int} (hm:(d,l)∈rfs r) (h2:2≤l):(d,l-1)∈rfs r:=by
 obtain ⟨x,hx,e⟩:=List.mem_map.1 hm;obtain ⟨i,hi,rfl⟩:=List.getElem_of_mem hx;rw[Prod.mk.injEq]at e;obtain ⟨rfl,rfl⟩:=e
 cases i with
 |zero=>have:=Zk7 h hi;omega
 | succ i =>
   rcases Zk6 h hi with q|q
   · omega
   · exact List.mem_map.2 ⟨r[i],List.getElem_mem _,by rw[Prod.mk.injEq];exact ⟨q.1,by omega⟩⟩
theorem Zkc (h:Zbi r=true) {d l:Int} (hm:(d,l)∈rfs r):1≤l∧l≤8:=by
 obtain ⟨x,hx,e⟩:=List.mem_map.1 hm;rw[Prod.mk.injEq]at e;obtain ⟨rfl,rfl⟩:=e;simp only[Zbi,Bool.and_eq_true]at h;have h1:=List.all_eq_true.1 h.1.1.1.2 x hx;simp only[issB,headB,Bool.and_eq_true]at h1;have h2:=h1.1.1.1.1.2;simp only[inR,decide_eq_true_eq]at h2;exact h2
theorem Zkd (h:Zbi r=true):r.length≤60:=by
 simp only[Zbi,Bool.and_eq_true,inR,decide_eq_true_eq]at h;omega
theorem Zke (h:Zbi r=true) {F:List Int} {x:Nte} (hn:cN4 r x=true):∀ s∈ntR F x,frS s∈rfs r∧toS s∈rfs r:=by
 intro s hs;unfold ntR at hs
 split at hs
 · rename_i hc;obtain ⟨-,h1,h2⟩:=hc
   have hk:(x.dr,x.lt)∈rfs r:=by
    simp only[cN4]at hn;rw[if_neg (by omega)]at hn;exact Zka.1 hn
   have hl:=Zkc h hk;have w:IntKind.i64.wrap (x.lt-1)=x.lt-1:=Yg (by omega) (by omega);have hp:=Zkb h hk (by omega);rw[w]at hs;simp only[List.mem_append]at hs;rcases hs with hs|hs
   · split at hs
     · rw[List.mem_singleton]at hs;subst hs;exact ⟨hp,hk⟩
     · cases hs
   · split at hs
     · rw[List.mem_singleton]at hs;subst hs;exact ⟨hk,hp⟩
     · cases hs
 · cases hs
theorem Zkf {b:Bool} {x:Rul} (hn:cR2 r x=true):∀ s∈rlR b x,frS s∈rfs r∧toS s∈rfs r:=by
 intro s hs;unfold rlR at hs
 split at hs
 · rename_i hc;obtain ⟨-,h1⟩:=hc
   have hk:(x.fd,x.fl)∈rfs r∧(x.td,x.tl)∈rfs r:=by
    simp only[cR2]at hn;rw[if_neg (by omega)]at hn;simp only[Bool.and_eq_true]at hn;exact ⟨Zka.1 hn.1.2,Zka.1 hn.2⟩
   simp only[List.mem_append,List.mem_singleton]at hs;rcases hs with rfl|hs
   · exact hk
   · split at hs
     · rw[List.mem_singleton]at hs;subst hs;exact ⟨hk.2,hk.1⟩
     · cases hs
 · cases hs
theorem Zkg {l:List Nte} {q:List Rul} {s:List Int} {m day:Int} (h:chS r l q=0):∀ e∈edg (st5 r l q s m day),e.1∈rfs r∧e.2∈rfs r:=by
 intro e he;obtain ⟨x,hx,rfl⟩:=List.mem_map.1 he;obtain ⟨h1,h2⟩:=Zit h
 have ho:openV r=0:=by
  unfold chN at h1
  split at h1
  · assumption
  · exact absurd h1 ‹_›
 have hL:=Zdb ho;have hB:=Zi9 h1;unfold st5 at hx;rw[List.mem_append]at hx;rcases hx with hx|hx
 · unfold nsR at hx;rw[List.take_length,List.mem_flatMap]at hx;obtain ⟨y,hy,hxy⟩:=hx;have hy2:y∈l:=(List.mem_filter.1 hy).1;obtain ⟨j,hj,rfl⟩:=List.getElem_of_mem hy2;simp only[ZdM,Bool.and_eq_true]at hB;have h3:=Zbf.1 hB.1.2 j hj;simp only[noteB,Bool.and_eq_true,ZdJ hj]at h3;exact Zke hL h3.1.1.1.1.2 x hxy
 · unfold rsR at hx;rw[List.mem_flatMap]at hx;obtain ⟨j,hj,hxy⟩:=hx;have hj2:j<q.length:=(by have:=List.mem_of_mem_take hj;simpa using this);simp only[Ze8,Bool.and_eq_true]at h2;have h3:=Zbf.1 h2.2 j hj2;simp only[ruleB,Bool.and_eq_true]at h3;exact Zkf h3.1.1.1.2 x hxy
theorem Zkh {l:List Nte} {q:List Rul} (h:chS r l q=0):Zbi r=true:=by
 have h1:=(Zit h).1
 have ho:openV r=0:=by
  unfold chN at h1
  split at h1
  · assumption
  · exact absurd h1 ‹_›
 exact Zdb ho
end
def knA (kn:List (Rf×Int)):List (AV×AV):=kn.map fun p=>(.agg [.int .i64 p.1.1,.int .i64 p.1.2],.int .i64 p.2)
def knLk (x:Rf):List (Rf×Int)→Option Int
 |[]=>none
 |p::r=>if x=p.1 then some p.2 else knLk x r
theorem Zki (d e:Int):∀ kn:List (Rf×Int),∃ o:Option Nat,(KK.ag [.i,.i]).find (.agg [.int .i64 d,.int .i64 e]) (knA kn)=some o∧match o with
  |some j=>∃ v,kn[j]? = some ((d,e),v)∧knLk (d,e) kn=some v
  |none=>knLk (d,e) kn=none∧∀ p∈kn,p.1≠(d,e)
 |[]=>⟨none,rfl,rfl,by simp⟩
 | p :: r => by
   obtain ⟨o,h1,h2⟩:=Zki d e r;by_cases c:(d,e)=p.1
   · have c1:d=p.1.1:=congrArg Prod.fst c;have c2:e=p.1.2:=congrArg Prod.snd c;refine ⟨some 0,by simp[knA,KK.find,KK.eq,eqL,eq1,c1,c2],p.2,by simp[c],by simp[knLk,c]⟩
   · refine ⟨o.map (· + 1),?_,?_⟩
     · have hb:(decide (d=p.1.1)&&decide (e=p.1.2))=false:=by
        cases q:(decide (d=p.1.1)&&decide (e=p.1.2))
        · rfl
        · simp only[Bool.and_eq_true,decide_eq_true_eq]at q;exact absurd (Prod.ext q.1 q.2) c
       have he:(KK.ag [.i,.i]).eq (.agg [.int .i64 d,.int .i64 e]) (.agg [.int .i64 p.1.1,.int .i64 p.1.2])=some false:=(by simp only[KK.eq,eqL,eq1,if_true,Bool.and_true,hb]);simp only[knA,List.map_cons,KK.find,he];rw[show r.map (fun p=>(AV.agg [.int .i64 p.1.1,.int .i64 p.1.2],AV.int .i64 p.2))=knA r from rfl,h1];rfl
     · cases o with
       |none=>exact ⟨by simp only[knLk,c,if_false];exact h2.1,fun q hq=>by
        rcases List.mem_cons.1 hq with rfl|hq
        · exact fun h=>c h.symm
        · exact h2.2 q hq⟩
       | some j =>
         obtain ⟨v,h3,h4⟩:=h2;exact ⟨v,by simpa using h3,by simp only[knLk,c,if_false];exact h4⟩
theorem Zkj (d e:Int) (kn:List (Rf×Int)):(KK.ag [.i,.i]).get (.agg [.int .i64 d,.int .i64 e]) (knA kn)=some ((knLk (d,e) kn).map fun v=>.int .i64 v):=by
 obtain ⟨o,h1,h2⟩:=Zki d e kn;have hi:(KK.ag [.i,.i]).is (.agg [.int .i64 d,.int .i64 e])=true:=rfl;unfold KK.get;rw[if_pos hi,h1]
 cases o with
 |none=>simp[h2.1]
 |some j=>obtain ⟨v,h3,h4⟩:=h2;simp[knA,h3,h4]
theorem Zkk {d e:Int} (v:Int) {kn:List (Rf×Int)} (h:knLk (d,e) kn=none):(KK.ag [.i,.i]).put (.agg [.int .i64 d,.int .i64 e]) (.int .i64 v) (knA kn)=some (knA (kn++[((d,e),v)])):=by
 obtain ⟨o,h1,h2⟩:=Zki d e kn;have hi:(KK.ag [.i,.i]).is (.agg [.int .i64 d,.int .i64 e])=true:=rfl;unfold KK.put;rw[if_pos hi,h1]
 cases o with
 |none=>simp[knA]
 | some j =>
   obtain ⟨w,h3,h4⟩:=h2;rw[h]at h4;cases h4
theorem Zkl {x a:Rf} {v:Int}:∀ {kn:List (Rf×Int)},knLk x (kn++[(a,v)])=match knLk x kn with
  |some w=>some w
  |none=>if x=a then some v else none
 |[]=>by simp[knLk]
 | p::r=>by
   simp only[List.cons_append,knLk]
   split
   · rfl
   · exact Zkl
structure LnS where
 left:List Int
 kn:List (Rf×Int)
 nx:List Rf
 deriving Inhabited
def lnS (n:Int) (s:LnS) (i:Nat) (e:Rf×Rf):LnS :=
 if (i:Int)∈s.left then match knLk e.2 s.kn with
  | some k=>if n≤k then s else match knLk e.1 s.kn with
    |some _=>⟨s.left.erase i,s.kn,s.nx⟩
    |none=>⟨s.left.erase i,s.kn++[(e.1,n)],s.nx++[e.1]⟩
  |none=>s
 else s
def lnI (E:List (Rf×Rf)) (n:Int) (s:LnS):Nat→LnS
 |0=>s
 |i+1=>lnS n (lnI E n s i) i (E.getD i default)
def lnO (E:List (Rf×Rf)) (y:Rf):Nat→LnS
 |0=>⟨(List.range E.length).map fun i:Nat=>(i:Int),[(y,0)],[]⟩
 |n+1=>lnI E ((n:Int)+1) ⟨(lnO E y n).left,(lnO E y n).kn,[]⟩ E.length
def knF (E:List (Rf×Rf)) (y:Rf):List (Rf×Int):=(lnO E y (E.length+1)).kn
structure LnV (E:List (Rf×Rf)) (y:Rf) (n:Nat) (s:LnS):Prop where
 a:∀ x d,knLk x s.kn=some d→∃ m:Nat,d=m∧md E y m x∧m≤n
 b:∀ x (m:Nat),md E y m x→m≤n→knLk x s.kn=some (m:Int)
 c:∀ i (h:i<E.length),(i:Int) ∉ s.left→knLk E[i].1 s.kn≠none
structure LnW (E:List (Rf×Rf)) (y:Rf) (n:Nat) (s0 s:LnS) (i:Nat):Prop where
 a:∀ x d,knLk x s.kn=some d→∃ m:Nat,d=m∧md E y m x∧m≤n+1
 b:∀ x (m:Nat),md E y m x→m≤n→knLk x s.kn=some (m:Int)
 c:∀ j (h:j<E.length),(j:Int) ∉ s.left→knLk E[j].1 s.kn≠none
 e:∀ j (h:j<E.length),j<i→∀ m:Nat,md E y m E[j].2→m≤n→knLk E[j].1 s.kn≠none
 f:s.kn=s0.kn++s.nx.map fun x=>(x,(n:Int)+1)
 g:∀ x∈s.nx,md E y (n+1) x
section
variable {E:List (Rf×Rf)} {y:Rf} {n m:Nat} {s0 s:LnS} {i:Nat}
theorem Zkm {x a:Rf} {v:Int} {kn:List (Rf×Int)} (h:knLk x kn≠none):knLk x (kn++[(a,v)])≠none:=by
 rw[Zkl]
 cases q:knLk x kn with
 |none=>exact absurd q h
 |some w=>simp
theorem Zkn {l:List Int} {a b:Int} (h:a ∉ l.erase b):a ∉ l∨a=b:=by
 by_cases q:a=b
 · exact .inr q
 · exact .inl fun hm=>h ((List.mem_erase_of_ne q).2 hm)
theorem LnW.step (h:LnW E y n s0 s i) (hi:i<E.length):LnW E y n s0 (lnS ((n:Int)+1) s i E[i]) (i+1):=by
 have lst:∀ {P:Nat→Prop},(∀ j,j<i→P j)→P i→∀ j,j<i+1→P j:=fun h1 h2 j hj=>by
  rcases Nat.lt_or_ge j i with q|q
  · exact h1 j q
  · obtain rfl:j=i:=(by omega);exact h2
 unfold lnS;by_cases c1:(i:Int)∈s.left
 · rw [if_pos c1]
   cases q:knLk E[i].2 s.kn with
   | none =>
     refine ⟨h.a,h.b,h.c,fun j hj hji m hm hmn=>?_,h.f,h.g⟩;rcases Nat.lt_or_ge j i with p|p
     · exact h.e j hj p m hm hmn
     · obtain rfl:j=i:=(by omega);rw[h.b _ m hm hmn]at q;cases q
   | some k =>
     simp only;obtain ⟨m,hm1,hm2,hm3⟩:=h.a _ _ q;by_cases c2:(n:Int)+1≤k
     · rw[if_pos c2];refine ⟨h.a,h.b,h.c,fun j hj hji m' hm' hmn=>?_,h.f,h.g⟩;rcases Nat.lt_or_ge j i with p|p
       · exact h.e j hj p m' hm' hmn
       · obtain rfl:j=i:=(by omega);have:=ZjJ hm' hm2;omega
     · rw [if_neg c2]
       have c3:∀ j (h:j<E.length),(j:Int) ∉ s.left.erase (i:Int)→j≠i→knLk E[j].1 s.kn≠none:=fun j hj hn hne=>by
        rcases Zkn hn with p|p
        · exact h.c j hj p
        · exact absurd (by omega) hne
       cases r:knLk E[i].1 s.kn with
       | some w =>
         refine ⟨h.a,h.b,fun j hj hn=>?_,fun j hj hji m' hm' hmn=>?_,h.f,h.g⟩
         · by_cases p:j=i
           · subst p;rw[r];simp
           · exact c3 j hj hn p
         · rcases Nat.lt_or_ge j i with p|p
           · exact h.e j hj p m' hm' hmn
           · obtain rfl:j=i:=(by omega);rw[r];simp
       | none =>
         have hp:pth E y (m+1) E[i].1=true:=ZjI.2 ⟨E[i],List.getElem_mem hi,rfl,hm2.1⟩;obtain ⟨m1,g1,g2⟩:=md_of _ hp
         have g3:m1=n+1:=by
          rcases Nat.lt_or_ge n m1 with p|p
          · omega
          · rw[h.b _ m1 g2 p]at r;cases r
         subst g3;refine ⟨fun x d hx=>?_,fun x m' hm' hmn=>?_,fun j hj hn=>?_,fun j hj hji m' hm' hmn=>?_,?_,fun x hx=>?_⟩
         · simp only at hx;rw[Zkl]at hx
           cases p:knLk x s.kn with
           |some w=>rw[p]at hx;simp only[Option.some.injEq]at hx;subst hx;exact h.a x _ p
           | none =>
             rw[p]at hx;simp only at hx
             split at hx
             · rename_i e1;subst e1;simp only[Option.some.injEq]at hx;exact ⟨n+1,by omega,g2,Nat.le_refl _⟩
             · cases hx
         · simp only;rw[Zkl,h.b x m' hm' hmn]
         · simp only;by_cases p:j=i
           · subst p;rw[Zkl,r];simp
           · exact Zkm (c3 j hj hn p)
         · simp only;rcases Nat.lt_or_ge j i with p|p
           · exact Zkm (h.e j hj p m' hm' hmn)
           · obtain rfl:j=i:=(by omega);rw[Zkl,r];simp
         · simp only[List.map_append,List.map_cons,List.map_nil];rw[h.f,List.append_assoc]
         · simp only[List.mem_append,List.mem_singleton]at hx;rcases hx with hx|rfl
           · exact h.g x hx
           · exact g2
 · rw[if_neg c1];refine ⟨h.a,h.b,h.c,fun j hj hji m hm hmn=>?_,h.f,h.g⟩;rcases Nat.lt_or_ge j i with p|p
   · exact h.e j hj p m hm hmn
   · obtain rfl:j=i:=(by omega);exact h.c j hj c1
theorem Zko (h:LnV E y n s) (hs:s.nx=[]):∀ i,i≤E.length→LnW E y n s (lnI E ((n:Int)+1) s i) i
 |0,_=>⟨fun x d hx=>by
  obtain ⟨m,h1,h2,h3⟩:=h.a x d hx;exact ⟨m,h1,h2,by omega⟩,h.b,h.c,fun j hj hji=>by omega,by simp[lnI,hs],by simp[lnI,hs]⟩
 | i+1,hi=>by
   have:=(Zko h hs i (by omega)).step (by omega);rw[lnI,List.getD_eq_getElem?_getD,List.getElem?_eq_getElem (by omega)];exact this
theorem LnW.fin (h:LnW E y n s0 s E.length):LnV E y (n+1) s:=by
 refine ⟨h.a,fun x m hm hmn=>?_,h.c⟩;rcases Nat.lt_or_ge m (n+1) with p|p
 · exact h.b x m hm (by omega)
 · obtain rfl:m=n+1:=(by omega);obtain ⟨e,he,rfl,h2⟩:=ZjK hm;obtain ⟨j,hj,rfl⟩:=List.getElem_of_mem he;have h3:=h.e j hj hj n h2 (Nat.le_refl _)
   cases q:knLk E[j].1 s.kn with
   |none=>exact absurd q h3
   | some d =>
     obtain ⟨m',h4,h5,h6⟩:=h.a _ _ q;have:=ZjJ hm h5;subst this;subst h4;rfl
theorem LnV.reset (h:LnV E y n s) (nx:List Rf):LnV E y n ⟨s.left,s.kn,nx⟩:=⟨h.a,h.b,h.c⟩
theorem Zkp (E:List (Rf×Rf)) (y:Rf):∀ n,LnV E y n (lnO E y n)
 | 0 => by
   refine ⟨fun x d hx=>?_,fun x m hm hmn=>?_,fun i hi hn=>?_⟩
   · simp only[lnO,knLk]at hx
     split at hx
     · rename_i e;subst e;simp only[Option.some.injEq]at hx;exact ⟨0,by omega,⟨by simp[pth],by omega⟩,Nat.le_refl _⟩
     · cases hx
   · obtain rfl:m=0:=(by omega);have:x=y:=(by simpa [pth] using hm.1);subst this;simp[lnO,knLk]
   · exact absurd (List.mem_map.2 ⟨i,List.mem_range.2 hi,rfl⟩) hn
 |n+1=>(Zko ((Zkp E y n).reset []) rfl E.length (Nat.le_refl _)).fin
theorem lnO_w (E:List (Rf×Rf)) (y:Rf) (n:Nat):LnW E y n ⟨(lnO E y n).left,(lnO E y n).kn,[]⟩ (lnO E y (n+1)) E.length:=Zko ((Zkp E y n).reset []) rfl E.length (Nat.le_refl _)
theorem Zkq (h:(lnO E y (n+1)).nx=[]):∀ x,¬md E y (n+1) x:=by
 intro x hx;have h1:=(lnO_w E y n).f;rw[h]at h1;simp only[List.map_nil,List.append_nil]at h1;have h2:=(Zkp E y (n+1)).b x _ hx (Nat.le_refl _);rw[h1]at h2;obtain ⟨m,h3,h4,h5⟩:=(Zkp E y n).a x _ h2;have:=ZjJ hx h4;omega
theorem Zkr (h:∀ x,¬md E y (n+1) x):(lnO E y (n+1)).nx=[]:=by
 have hw:=lnO_w E y n
 cases q:(lnO E y (n+1)).nx with
 |nil=>rfl
 |cons x r=>exact absurd (hw.g x (by rw[q];simp)) (h x)
theorem Zks (h:∀ x,¬md E y (n+1) x):∀ m,n<m→∀ x,¬md E y m x:=by
 intro m hm;obtain ⟨k,rfl⟩ : ∃ k,m=n+1+k:=⟨m-n-1,by omega⟩;clear hm
 induction k with
 |zero=>exact h
 | succ k ih =>
   intro x hx;obtain ⟨e,-,-,h2⟩:=ZjK hx;exact ih _ h2
theorem Zkt (h:∀ x,¬md E y (n+1) x):∀ k,(lnO E y (n+k)).kn=(lnO E y n).kn
 |0=>rfl
 | k+1=>by
   have h1:=(lnO_w E y (n+k)).f;rw[Zkr (fun x=>Zks h (n+k+1) (by omega) x)]at h1;simp only[List.map_nil,List.append_nil]at h1;rw[← Nat.add_assoc,h1];exact Zkt h k
theorem Zku (h:E.length<m) (x:Rf):¬md E y m x:=fun hx=>by have:=md_le hx;omega
theorem Zkv (hn:n≤E.length) (h:(lnO E y (n+1)).nx=[]):(lnO E y (n+1)).kn=knF E y:=by
 have h1:=Zkt (Zkq h);obtain ⟨k,hk⟩ : ∃ k,E.length+1=n+k:=⟨E.length+1-n,by omega⟩;rw[h1 1,knF,hk,h1 k]
theorem Zkw (h:(lnO E y (n+1)).nx≠[]):n+1≤E.length:=by
 rcases Nat.lt_or_ge E.length (n+1) with p|p
 · exact absurd (Zkr fun x=>Zku p x) h
 · exact p
theorem Zkx (x:Rf):knLk x (knF E y)=(diN E y x).map fun m=>(m:Int):=by
 have hv:=Zkp E y (E.length+1);unfold knF
 cases q:diN E y x with
 | none =>
   cases r:knLk x (lnO E y (E.length+1)).kn with
   |none=>rfl
   | some d =>
     obtain ⟨m,-,h2,-⟩:=hv.a x d r;rw[ZjM.2 h2]at q;cases q
 | some m =>
   have hm:=ZjM.1 q;exact hv.b x m hm (by have:=md_le hm;omega)
end
def edT (t:Bool) (L:List Stq):List (Rf×Rf):=if t=true then tuE (edg L) else edg L
theorem Zky (t:Bool) (L:List Stq):(edT t L).length=L.length:=by unfold edT tuE edg;split <;> simp
theorem Zkz {L:List Stq} {i:Nat} (t:Bool) (h:i<L.length):(edT t L).getD i default=if t=true then (toS L[i],frS L[i]) else (frS L[i],toS L[i]):=by
 rw[List.getD_eq_getElem?_getD,List.getElem?_eq_getElem (by rw[Zky];exact h),Option.getD_some];unfold edT tuE edg
 split <;> simp
def rgL (i:Nat):List Int:=(List.range i).map fun i:Nat=>(i:Int)
theorem ZkA (i:Nat):rgL (i+1)=rgL i++[(i:Int)]:=by simp[rgL,List.range_succ]
theorem ZkB (i:Nat):(i:Int) ∉ rgL i:=by simp[rgL];omega
theorem ZkC (o:List (Nat×AObj)) (kn:List (Rf×Int)):Yd o (.mp (knA kn))=true:=by
 simp only[Yd,List.all_eq_true,knA,List.mem_map];rintro p ⟨x,-,rfl⟩;simp[Ya,AV.keys]
theorem ZkD (n:Int) (s:LnS) (i:Nat) (e:Rf×Rf):(lnS n s i e).nx.length≤s.nx.length+1:=by
 unfold lnS
 split
 · split
   · split
     · omega
     · split <;> simp
   · omega
 · omega
theorem ZkE (E:List (Rf×Rf)) (n:Int) (s:LnS):∀ i,(lnI E n s i).nx.length≤s.nx.length+i
 |0=>Nat.le_refl _
 | i+1=>by
   have:=ZkE E n s i;have:=ZkD n (lnI E n s i) i (E.getD i default);rw[lnI];omega
def lnV (x:Rf) (kn:List (Rf×Int)):Int:=match knLk x kn with
 |some v=>v
 |none=>1048576
theorem lnV_F (E:List (Rf×Rf)) (y x:Rf):lnV x (knF E y)=diV E y x:=by
 unfold lnV diV;rw[Zkx]
 cases diN E y x <;> rfl
def lnC (E:List (Rf×Rf)) (y:Rf):AV:=.vptr [.vmap (knA (knF E y))] 0
def lnF (E:List (Rf×Rf)) (y:Rf):AV:=.func (.func 95) [] [lnC E y]
def leT (L:List Stq) (t:Bool) (n:Int):List (Nat×AV):=[(10,.int .i64 n),(9,.ptr 9 0),(7,.mp 20),(2,.bool t),(0,.vsl (L.map sa))]
def leO (s:LnS):List (Nat×AObj):=[(9,.box [.mp 29]),(29,.mp (knA s.kn)),(20,.mp (lfA s.left))]
def leS (L:List Stq) (t:Bool) (y:Rf) (n:Nat):St:=⟨leT L t ((n:Int)+1),leO (lnO (edT t L) y n)⟩
def leI (L:List Stq) (t:Bool) (n:Int) (i:Nat) (s:LnS):St :=
 if s.nx=[] then ⟨(36,.int .i64 i)::(35,.int .i64 L.length)::(34,.vsl (L.map sa))::(11,.nils)::leT L t n,leO s⟩
 else ⟨(36,.int .i64 i)::(35,.int .i64 L.length)::(34,.vsl (L.map sa))::(11,.osl 83 s.nx.length)::leT L t n,(83,.row 2 (s.nx.map ita))::leO s⟩
section
variable {G:Nat→Option (List AV)}
theorem ZkF (kn:List (Rf×Int)) (d e:Int):PC Tryz.prog G 95 [.agg [.int .i64 d,.int .i64 e],.vptr [.vmap (knA kn)] 0] (.int .i64 (lnV (d,e) kn)):=by
 have hg:=Zkj d e kn;unfold lnV
 (refine Z6E rfl fun R hG hrd=>Yc Yb 1000 ?_;subst hG)
 cases q:knLk (d,e) kn with
 | none =>
   rw[q]at hg;simp -implicitDefEqProofs[Z6C,Z6D,hg,mapOf]
 | some v =>
   rw[q]at hg;simp -implicitDefEqProofs[Z6C,Z6D,hg,mapOf]
theorem ZkG (E:List (Rf×Rf)) (y:Rf) (d e:Int):PC Tryz.prog G 95 [.agg [.int .i64 d,.int .i64 e],.vptr [.vmap (knA (knF E y))] 0] (.int .i64 (diV E y (d,e))):=by
 rw[← lnV_F];exact ZkF _ d e
set_option maxRecDepth 4000 in
set_option maxHeartbeats 4000000 in
theorem ZkH (L:List Stq) (t:Bool) (d e:Int) (hL:L.length≤1000) :
  PC Tryz.prog G 59 [.vsl (L.map sa),.agg [.int .i64 d,.int .i64 e],.bool t] (lnF (edT t L) (d,e)):=by
 (refine Z6B rfl fun R hG hrd=>Yc Yb 1000 ?_;subst hG)
 have eL:=Zky t L;simp -implicitDefEqProofs[Z6z,Z6A];refine ZaV (fun i=>⟨[(23,.int .i64 i),(22,.int .i64 L.length),(7,.mp 20),(4,.ptr 4 0),(2,.bool t),(0,.vsl (L.map sa))],[(20,.mp (lfA (rgL i))),(4,.box [.int .i64 d,.int .i64 e])]⟩) (fun _=>True) L.length ?_ trivial ?_ ?_
 · have e0:lfA (rgL 0)=[]:=rfl;rw[e0]
   (refine Yn.sub (by simp[lk,Ya,AV.keys]) ?_;simp only[Wkl,and_true];(try simp[lk,Yd,Ya,AV.keys]))
 · intro i hi _;have w1:IntKind.i64.wrap ((i:Int)+1)=(i:Int)+1:=Yg (by omega) (by omega);have hp:=ZcH (ZkB i);rw[← ZkA]at hp;refine Yc Yb 1000 ?_;simp -implicitDefEqProofs[hi,w1,hp]
   (refine Yn.sub (by simp[lk,Ya,AV.keys]) ?_;simp only[Wkl,Zhr,and_true];(try simp[lk,Yd,Ya,AV.keys]))
 · intro _;have hp:=Zkk (d:=d) (e:=e) 0 (kn:=[]) rfl;have e0:knA []=[]:=rfl;rw[e0,List.nil_append]at hp;refine Yc Yb 1000 ?_;simp -implicitDefEqProofs[];refine Z2N Yb 1000 ?_;simp -implicitDefEqProofs[hp];refine Z1Q (leS L t (d,e)) (fun n=>n≤L.length) (fun n=>L.length-n) 0 ?_ (Nat.zero_le _) ?_
   · have e1:lnO (edT t L) (d,e) 0=⟨rgL L.length,[((d,e),0)],[]⟩:=(by rw[← eL];rfl);simp only[leS,leT,leO,e1]
     ((try simp only[ZkC]);refine Yn.sub (by simp[lk,Ya,AV.keys,ZkC]) ?_;simp only[ZkC,Wkl,Zhr,and_true];(try simp[lk,Yd,Ya,AV.keys,ZkC]))
   · intro n hn;have w1:IntKind.i64.wrap ((n:Int)+1+1)=(n:Int)+1+1:=Yg (by omega) (by omega);obtain ⟨s0,hs0⟩ : ∃ s0:LnS,s0=⟨(lnO (edT t L) (d,e) n).left,(lnO (edT t L) (d,e) n).kn,[]⟩:=⟨_,rfl⟩;have hs1:lnI (edT t L) ((n:Int)+1) s0 L.length=lnO (edT t L) (d,e) (n+1):=(by rw[hs0,← eL];rfl);refine Yc Yb 1000 ?_;simp -implicitDefEqProofs[leS,leT,leO];refine ZaV (fun i=>leI L t ((n:Int)+1) i (lnI (edT t L) ((n:Int)+1) s0 i)) (fun _=>True) L.length ?_ trivial ?_ ?_
     · have e1:lnI (edT t L) ((n:Int)+1) s0 0=s0:=rfl;rw[e1];simp only[leI,leT,leO,hs0,if_true]
       ((try simp only[ZkC]);refine Yn.sub (by simp[lk,Ya,AV.keys,ZkC]) ?_;simp only[ZkC,Wkl,Zhr,and_true];(try simp[lk,Yd,Ya,AV.keys,ZkC]))
     · intro i hi _;have wi:IntKind.i64.wrap ((i:Int)+1)=(i:Int)+1:=Yg (by omega) (by omega);have hat:=Zkz t hi;have hnx:=ZkE (edT t L) ((n:Int)+1) s0 i;rw[show s0.nx.length=0 by rw[hs0];rfl]at hnx;obtain ⟨⟨⟨a1,a2⟩,⟨b1,b2⟩⟩,hab⟩ : ∃ p,p=(edT t L).getD i default:=⟨_,rfl⟩;have hs:lnI (edT t L) ((n:Int)+1) s0 (i+1)=lnS ((n:Int)+1) (lnI (edT t L) ((n:Int)+1) s0 i) i ((a1,a2),(b1,b2)):=(by rw[hab];rfl);rw[← hab]at hat;generalize lnI (edT t L) ((n:Int)+1) s0 i=s at *;have gb:=Zkj b1 b2 s.kn;have ga:=Zkj a1 a2 s.kn;have gl:=ZcG (i:Int) s.left;obtain ⟨x,hx⟩ : ∃ x,x=L[i]:=⟨_,rfl⟩;rw[← hx]at hat
       obtain ⟨nu,nt,hsa⟩ : ∃ (nu:Int) (nt:Bool),sa x=if t=true then [.int .i64 b1,.int .i64 b2,.int .i64 a1,.int .i64 a2,.int .i64 nu,.bool nt] else [.int .i64 a1,.int .i64 a2,.int .i64 b1,.int .i64 b2,.int .i64 nu,.bool nt]:=by
        refine ⟨x.nu,x.nt,?_⟩
        cases t
        · simp only[Bool.false_eq_true,if_false,frS,toS,Prod.mk.injEq]at hat;obtain ⟨⟨rfl,rfl⟩,rfl,rfl⟩:=hat;rfl
        · simp only[if_true,frS,toS,Prod.mk.injEq]at hat;obtain ⟨⟨rfl,rfl⟩,rfl,rfl⟩:=hat;rfl
       clear hat hab;have bb:(s.nx.length+1)*16≤70368744177664:=(by omega);have ln1:(s.nx.map ita).length=s.nx.length:=List.length_map _;refine Yc Yb 1000 ?_;by_cases c1:(i:Int)∈s.left
       case neg =>
        rw[lnS,if_neg c1]at hs;rw[if_neg c1]at gl
        cases q:knLk (b1,b2) s.kn
        all_goals
         rw[q]at gb;simp only[Option.map_none,Option.map_some]at gb;by_cases cx:s.nx=[]
        all_goals
         cases t
        all_goals
         simp only[Bool.false_eq_true,if_false,if_true]at hsa;simp -implicitDefEqProofs[leI,leT,leO,cx,hi,← hx,hsa,gb,gl,hs,wi];refine ⟨rfl,?_⟩
         ((try simp only[ZjT]);refine Yn.sub (by simp[lk,Ya,AV.keys,ZjT]) ?_;simp only[ZjT,Wkl,Zhr,ZkC,and_true];(try simp[lk,Yd,Ya,AV.keys,ZjT]))
       rw[lnS,if_pos c1]at hs;rw[if_pos c1]at gl
       cases q:knLk (b1,b2) s.kn with
       | none =>
         rw[q]at gb hs;simp only[Option.map_none]at gb hs;by_cases cx:s.nx=[]
         all_goals
          cases t
         all_goals
          simp only[Bool.false_eq_true,if_false,if_true]at hsa;simp -implicitDefEqProofs[leI,leT,leO,cx,hi,← hx,hsa,gb,gl,hs,wi];refine ⟨rfl,?_⟩
          ((try simp only[ZjT]);refine Yn.sub (by simp[lk,Ya,AV.keys,ZjT]) ?_;simp only[ZjT,Wkl,Zhr,ZkC,and_true];(try simp[lk,Yd,Ya,AV.keys,ZjT]))
       | some k =>
         rw[q]at gb hs;simp only[Option.map_some]at gb hs;by_cases c2:(n:Int)+1≤k
         · rw[if_pos c2]at hs;by_cases cx:s.nx=[]
           all_goals
            cases t
           all_goals
            simp only[Bool.false_eq_true,if_false,if_true]at hsa;simp -implicitDefEqProofs[leI,leT,leO,cx,hi,← hx,hsa,gb,gl,hs,wi,c2];refine ⟨rfl,?_⟩
            ((try simp only[ZjT]);refine Yn.sub (by simp[lk,Ya,AV.keys,ZjT]) ?_;simp only[ZjT,Wkl,Zhr,ZkC,and_true];(try simp[lk,Yd,Ya,AV.keys,ZjT]))
         rw[if_neg c2]at hs;have dl:=ZcJ c1
         cases r:knLk (a1,a2) s.kn with
         | some w =>
           rw[r]at ga hs;simp only[Option.map_some]at ga hs;by_cases cx:s.nx=[]
           all_goals
            cases t
           all_goals
            simp only[Bool.false_eq_true,if_false,if_true]at hsa;simp -implicitDefEqProofs[leI,leT,leO,cx,hi,← hx,hsa,ga,gb,gl,hs,wi,c2,dl];refine ⟨rfl,?_⟩
            ((try simp only[ZjT]);refine Yn.sub (by simp[lk,Ya,AV.keys,ZjT]) ?_;simp only[ZjT,Wkl,Zhr,ZkC,and_true];(try simp[lk,Yd,Ya,AV.keys,ZjT]))
         | none =>
           have pk:=Zkk ((n:Int)+1) r;rw[r]at ga hs;simp only[Option.map_none]at ga hs;by_cases cx:s.nx=[]
           · rw[cx]at hs
             cases t
             all_goals
              simp only[Bool.false_eq_true,if_false,if_true]at hsa;simp -implicitDefEqProofs[leI,leT,leO,cx,hi,← hx,hsa,ga,gb,gl,hs,wi,c2,dl,pk];refine ⟨rfl,?_⟩
              ((try simp only[ZjT,ita]);refine Yn.sub (by simp[lk,Ya,AV.keys,ZjT,ita]) ?_;simp only[ZjT,ita,Wkl,Zhr,ZkC,and_true];(try simp[lk,Yd,Ya,AV.keys,ZjT,ita]))
           · cases t
             all_goals
              simp only[Bool.false_eq_true,if_false,if_true]at hsa;simp -implicitDefEqProofs[leI,leT,leO,cx,hi,← hx,hsa,ga,gb,gl,hs,wi,c2,dl,pk,bb];refine ⟨rfl,?_⟩
              ((try simp only[ZjT,ita]);refine Yn.sub (by simp[lk,Ya,AV.keys,ZjT,ita]) ?_;simp only[ZjT,ita,Wkl,Zhr,ZkC,and_true];(try simp[lk,Yd,Ya,AV.keys,ZjT,ita]))
     · intro _;have hdry:(lnO (edT t L) (d,e) (n+1)).nx=[]→(lnO (edT t L) (d,e) (n+1)).kn=knF (edT t L) (d,e):=Zkv (by rw[eL];exact hn);have hwet:(lnO (edT t L) (d,e) (n+1)).nx≠[]→n+1≤L.length:=fun h=>by have:=Zkw h;rwa [eL]at this
       rw[hs1];obtain ⟨S,hS⟩ : ∃ S,S=lnO (edT t L) (d,e) (n+1):=⟨_,rfl⟩;rw[← hS]at hdry hwet ⊢;refine Yc Yb 1000 ?_;by_cases cx:S.nx=[]
       · have hk:=hdry cx
         have pk:∀ kn:List (Rf×Int),(knA kn).all (fun p=>p.1.pure&&p.2.pure)=true:=fun kn=>by
          simp only[knA,List.all_eq_true,List.mem_map];rintro p ⟨x,-,rfl⟩;simp[AV.pure]
         have pk2:=pk (knF (edT t L) (d,e));simp -implicitDefEqProofs[leI,leT,leO,cx];refine Z2N Yb 1000 ?_;simp -implicitDefEqProofs[];refine Z2N Yb 1000 ?_;simp -implicitDefEqProofs[hk,pk2,lnF,lnC]
       · have hw:=hwet cx;have hl:¬S.nx.length=0:=fun h=>cx (List.length_eq_zero_iff.1 h)
         have hl2:¬(S.nx.length:Int)=0:=(by omega);have ln1:(S.nx.map ita).length=S.nx.length:=List.length_map _;simp -implicitDefEqProofs[leI,leT,leO,cx];refine Z2N Yb 1000 ?_;simp -implicitDefEqProofs[hl,hl2,ln1,w1];refine ⟨n+1,?_,hw,(by show L.length-(n+1)<L.length-n;omega)⟩;simp only[leS,leT,leO,← hS]
         (refine Yn.sub (by simp[lk,Ya,AV.keys]) ?_;simp only[Wkl,Zhr,ZkC,and_true];(try simp[lk,Yd,Ya,AV.keys]))
end
def dlK {α:Type} (p:α→Bool) (l:List α) (j:Nat):List α:=(l.take j).filter fun x=>!p x
def dlS {α:Type} (p:α→Bool) (l:List α) (j:Nat):List α:=dlK p l j++l.drop (dlK p l j).length
section
variable {α:Type} {p:α→Bool} {l:List α} {j:Nat}
theorem ZkI:(dlK p l j).length≤j:=Nat.le_trans (List.length_filter_le _ _) (by simp;omega)
theorem ZkJ:dlK p l l.length=l.filter fun x=>!p x:=by rw[dlK,List.take_length]
theorem ZkK (h:j<l.length):dlK p l (j+1)=if p l[j]=true then dlK p l j else dlK p l j++[l[j]]:=by
 unfold dlK;rw[List.take_succ_eq_append_getElem h,List.filter_append]
 split
 · rename_i e;rw[List.filter_cons_of_neg (by simp[e]),List.filter_nil,List.append_nil]
 · rename_i e;rw[List.filter_cons_of_pos (by simpa using e)];rfl
theorem ZkL (h:∀ i (hi:i<l.length),i<j→p l[i]=false) (hj:j≤l.length):dlK p l j=l.take j:=by
 unfold dlK;rw[List.filter_eq_self];intro x hx;obtain ⟨i,hi,rfl⟩:=List.mem_take_iff_getElem.1 hx;simp[h i (by omega) (by omega)]
theorem ZkM (h:j≤l.length):(dlS p l j).length=l.length:=by
 have:=ZkI (p:=p) (l:=l) (j:=j);simp[dlS];omega
theorem ZkN (h:j<l.length):(dlS p l j)[j]? = some l[j]:=by
 have:=ZkI (p:=p) (l:=l) (j:=j);unfold dlS;rw[List.getElem?_append_right this,List.getElem?_drop,show (dlK p l j).length+(j-(dlK p l j).length)=j by omega,List.getElem?_eq_getElem h]
theorem ZkO (h:j<l.length) (hp:p l[j]=true):dlS p l (j+1)=dlS p l j:=by unfold dlS;rw[ZkK h,if_pos hp]
theorem ZkP (h:j<l.length) (hp:p l[j]=false):dlS p l (j+1)=(dlS p l j).set (dlK p l j).length l[j]:=by
 have hk:=ZkI (p:=p) (l:=l) (j:=j);unfold dlS;rw[ZkK h,if_neg (by simp[hp]),List.set_append_right _ _ (Nat.le_refl _),Nat.sub_self,List.drop_eq_getElem_cons (by omega:(dlK p l j).length<l.length),List.set_cons_zero,List.length_append,List.append_assoc];rfl
end
def zrF:List AV:=[.int .i64 0,.int .i64 0]
def dlO (p:Rf→Bool) (l:List Rf):List (List AV):=if l.any p=true then (l.filter fun x=>!p x).map ita++List.replicate (l.length-(l.filter fun x=>!p x).length) zrF else l.map ita
def dlV (κ:Nat) (p:Rf→Bool) (l:List Rf):AV:=if l.any p=true then .oss κ l.length 0 (l.filter fun x=>!p x).length else .osl κ l.length
theorem ZkQ (ok:Nat→Bool) (st:St) (l:List Rf):frzO ok st (.row 2 (l.map ita)) = .row 2 (l.map ita):=by
 simp only[frzO,List.map_map]
 congr 2
 funext p;simp[ita,frzA,frz,AV.keys]
theorem ZkR (ok:Nat→Bool) (st:St) (p:Rf→Bool) (l:List Rf):frzO ok st (.row 2 (dlO p l)) = .row 2 (dlO p l):=by
 unfold dlO
 split
 · simp only[frzO,List.map_append,List.map_map,List.map_replicate]
   congr 3
   · funext p;simp[ita,frzA,frz,AV.keys]
   · simp[zrF,frzA,frz,AV.keys]
 · exact ZkQ ok st l
section
variable {G:Nat→Option (List AV)}
theorem ZkS (g:Nat) (caps:List AV) (p:Rf→Bool) (l:List Rf) (hc:caps.all AV.pure=true) (hl:Sml l)
  (hg:∀ x∈l,PC Tryz.prog G g (.agg (ita x)::caps) (.bool (p x))) :
  PC Tryz.prog G 134 [.vsl (l.map ita),.func (.func g) [] caps] (.int .i64 (fstOf p l)):=by
 (refine Z6S rfl fun R hG hrd=>Yc Yb 1000 ?_;subst hG)
 unfold Sml at hl;have hc2:∀ x∈caps,x.pure=true:=List.all_eq_true.1 hc;simp -implicitDefEqProofs[Z6Q,Z6R];refine ZaV (fun i=>⟨[(8,.int .i64 i),(7,.int .i64 l.length),(0,.vsl (l.map ita)),(1,.func (.func g) [] caps)],[]⟩) (fun i=>∀ j (h:j<l.length),j<i→p l[j]=false) l.length (by (first|exact Yn.tm (by simp[lk])|exact Yn.sub (by simp[lk,Ya,AV.keys]) (by simp[lk,Yd,Ya,AV.keys]))) (by simp) ?_ ?_
 · intro i hi he;refine Yc Yb 1000 ?_;have w1:IntKind.i64.wrap ((i:Int)+1)=((i+1:Nat):Int):=Yg (by omega) (by omega);have hgi:=hg _ (List.getElem_mem hi);have hln:(ita l[i]).length=2:=rfl;have htk:(ita l[i]).take 2=ita l[i]:=rfl;simp -implicitDefEqProofs[hi,hln,htk];refine Ye.of hgi (by simpa [AV.pure,ita] using hc2) ?_
   cases h3:p l[i]
   · simp -implicitDefEqProofs[w1];refine ⟨(by (first|exact Yn.tm (by simp[lk])|exact Yn.sub (by simp[lk,Ya,AV.keys]) (by simp[lk,Yd,Ya,AV.keys]))),fun j q1 q2=>?_⟩;by_cases e:j=i
     · subst e;exact h3
     · exact he j q1 (by omega)
   · simp -implicitDefEqProofs;refine Z2N Yb 1000 ?_;simp -implicitDefEqProofs[ZbL hi h3 he]
 · intro he;refine Yc Yb 1000 ?_;simp -implicitDefEqProofs[];refine Z2N Yb 1000 ?_;simp -implicitDefEqProofs[ZbM (p:=p) (l:=l) (fun j hj=>he j hj hj)]
def clK (k:Nat):Bool:=decide (k<1000) && !(k == 5)
theorem ZkT (l:List Rf) (hne:l≠[]) (hl:Sml l):PB Tryz.prog G 99 [] [.vsl (l.map ita)] (.osl 5 l.length) [(5,.row 2 (l.map ita))]:=by
 refine Z5e clK (by intro k hk;simp[clK]at hk;omega) Tryz.func99 rfl (by kernel_rfl) (rc:=Z6L) (by kernel_rfl) (rs:=Z6M) (by kernel_rfl) (Nat.le_of_ble_eq_true rfl) fun R _ hG hrd=>Yc Yb 1000 ?_
 subst hG;unfold Sml at hl;have b1:l.length*16≤70368744177664:=(by omega);have h0:¬l.length=0:=fun e=>hne (List.length_eq_zero_iff.1 e)
 have k1:(l.map ita).all (fun r=>r.length == 2)=true:=(by simp[ita]);have k2:(l.map ita).all (fun r=>r.all AV.one)=true:=(by simp[ita,AV.one]);simp -implicitDefEqProofs[Z6L,Z6M,h0,hne,b1,k1,k2];simp -implicitDefEqProofs[FinO,Yj,clK,ZkQ,frzA,frz,AV.keys]
set_option maxHeartbeats 2000000 in
theorem ZkU (g:Nat) (cs:List AV) (p:Rf→Bool) (l:List Rf) (hc:(AV.vptr cs 0).pure=true) (hk:(AV.vptr cs 0).keys=[]) (hl:l.length≤1000)
  (hg:∀ x∈l,PC Tryz.prog G g [.agg (ita x),.vptr cs 0] (.bool (p x))) :
  PB Tryz.prog G 98 [(1000,.row 2 (l.map ita))] [.osl 1000 l.length,.func (.func g) [] [.vptr cs 0]] (dlV 1000 p l) [(1000,.row 2 (dlO p l))]:=by
 have hx:=ZkS (G:=G) g [.vptr cs 0] p l (by simpa using hc) (by unfold Sml;omega) hg
 (refine Z6P (Nat.le_of_ble_eq_true rfl) fun R hG hrd=>Yc Yb 1000 ?_;subst hG)
 obtain ⟨C,hC⟩ : ∃ C,C=AV.vptr cs 0:=⟨_,rfl⟩;have sC:∀ ok st n,Yi ok st n C=some C:=fun ok st n=>by cases n <;> simp[hC,Yi,hc]
 rw[← hC]at hx hc hk hg ⊢;have k5:(l.map ita).all (fun r=>r.all AV.pure)=true:=(by simp[ita,AV.pure]);simp -implicitDefEqProofs[Z6N,Z6O];refine Ye.flat hx (by simp[AV.flat]) (by simp[Yk,snap,Yi,sC,okAll,St.get,lk,k5,ita,AV.pure]) ?_
 cases q:l.findIdx? p with
 | none =>
   have hf:fstOf p l = -1:=by unfold fstOf;rw[q]
   have ha:l.any p=false:=by
    rw[List.findIdx?_eq_none_iff]at q;rw[List.any_eq_false];intro x hx;simp[q x hx]
   simp -implicitDefEqProofs[hf];refine ⟨[.osl 1000 l.length],?_,?_,?_⟩
   · simp[Z29,evRes,Yj,newK,frzA,frz,AV.keys,lk,St.tmp,Z6O]
   · simp[dlV,ha,tupV]
   · simp[Yj,newK,ZkQ,dlO,ha]
 | some i0 =>
   have hf:fstOf p l=(i0:Int):=(by unfold fstOf;rw[q]);obtain ⟨hi0,hp0,hb0⟩:=List.findIdx?_eq_some_iff_getElem.1 q;have ha:l.any p=true:=List.any_eq_true.2 ⟨_,List.getElem_mem hi0,hp0⟩;have hne:¬(i0:Int) = -1:=(by omega);have w0:IntKind.i64.wrap ((i0:Int)+1)=(i0:Int)+1:=Yg (by omega) (by omega);have k0:dlK p l i0=l.take i0:=ZkL (fun i hi hlt=>by simpa using hb0 i hlt) (by omega);have k1:dlK p l (i0+1)=l.take i0:=(by rw[ZkK hi0,if_pos hp0,k0]);have k2:(dlK p l (i0+1)).length=i0:=(by rw[k1];simp;omega);have s1:dlS p l (i0+1)=l:=(by rw[dlS,k2,k1,List.take_append_drop]);simp -implicitDefEqProofs[hf,hne,w0];refine Z1Q (fun j:Nat=>⟨[(6,.int .i64 (j:Int)),(5,.int .i64 ((dlK p l j).length:Int)),(0,.osl 1000 l.length),(1,.func (.func g) [] [C])],[(1000,.row 2 ((dlS p l j).map ita))]⟩) (fun j=>i0+1≤j∧j≤l.length) (fun j=>l.length-j) (i0+1) ?_ ⟨Nat.le_refl _,hi0⟩ ?_
   · rw[s1,k2]
     ((try simp only[hk]);refine Yn.sub (by simp[lk,Ya,AV.keys,hk]) ?_;simp only[hk,Wkl,ZjT,and_true];(try simp[lk,Yd,Ya,AV.keys,hk]))
   rintro j ⟨hj1,hj2⟩;have kl:=ZkI (p:=p) (l:=l) (j:=j);have sl:=ZkM (p:=p) hj2;refine Yc Yb 1000 ?_;rcases Nat.lt_or_ge j l.length with h5|h5
   · have hgj:=hg _ (List.getElem_mem h5);obtain ⟨q1,g1⟩:=List.getElem?_eq_some_iff.1 (ZkN (p:=p) h5);have hhit:=ZkO (p:=p) h5;have hmis:=ZkP (p:=p) h5;have hks:=ZkK (p:=p) h5;have w1:IntKind.i64.wrap ((j:Int)+1)=(j:Int)+1:=Yg (by omega) (by omega);have w2:IntKind.i64.wrap (((dlK p l j).length:Int)+1)=((dlK p l j).length:Int)+1:=Yg (by omega) (by omega);have kn:(dlK p l j).length<l.length:=(by omega);generalize dlS p l j=Q at *;have e1:∀ x:Rf,ita x=[.int .i64 x.1,.int .i64 x.2]:=fun _=>rfl
     rw[e1]at hgj;simp -implicitDefEqProofs[h5,sl,g1,e1];refine Ye.of hgj (by simpa [AV.pure] using hc) ?_
     cases h3:p l[j]
     · rw[h3]at hks;simp only[Bool.false_eq_true,if_false]at hks;simp -implicitDefEqProofs[w1,w2,sl,kn,e1];refine ⟨j+1,?_,⟨by omega,h5⟩,(by show l.length-(j+1)<l.length-j;omega)⟩;rw[← e1,← List.map_set,← hmis h3];simp only[hks,List.length_append,List.length_cons,List.length_nil,Nat.zero_add,Int.natCast_add,Int.cast_ofNat_Int]
       ((try simp only[hk]);refine Yn.sub (by simp[lk,Ya,AV.keys,hk]) ?_;simp only[hk,Wkl,ZjT,and_true];(try simp[lk,Yd,Ya,AV.keys,hk]))
     · rw[h3]at hks;simp only[if_true]at hks;simp -implicitDefEqProofs[w1];refine ⟨j+1,?_,⟨by omega,h5⟩,(by show l.length-(j+1)<l.length-j;omega)⟩;simp only[hhit h3,hks]
       ((try simp only[hk]);refine Yn.sub (by simp[lk,Ya,AV.keys,hk]) ?_;simp only[hk,Wkl,ZjT,and_true];(try simp[lk,Yd,Ya,AV.keys,hk]))
   · obtain rfl:j=l.length:=(by omega);have n2:(dlK p l l.length).length≤l.length:=(by omega);simp -implicitDefEqProofs[sl];refine Z2N Yb 1000 ?_;simp -implicitDefEqProofs[sl,n2];refine ⟨[.oss 1000 l.length 0 (dlK p l l.length).length],?_,?_,?_⟩
     · simp[Z29,evRes,Yj,newK,frzA,frz,AV.keys,lk,St.tmp]
     · rw[dlV,if_pos ha,← ZkJ];rfl
     · have t1:List.take (dlK p l l.length).length ((dlS p l l.length).map ita)=(dlK p l l.length).map ita:=(by rw[← List.map_take,dlS,List.take_left'];rfl);have t2:List.drop l.length ((dlS p l l.length).map ita)=[]:=List.drop_of_length_le (by simp[sl]);have hz:List.map ita (dlK p l l.length)++List.replicate (l.length-(dlK p l l.length).length) [AV.int .i64 0,AV.int .i64 0]=dlO p l:=(by rw[dlO,if_pos ha,← ZkJ];rfl);rw[t1,t2,List.append_nil,hz];simp[Yj,newK,ZkR]
end
def IterG (P:Program) (G:Nat→Option (List AV)) (gf:Nat) (caps els:List AV):Prop :=
 entB P gf=true∧∀ (n l:Nat) (lb:Array Value) (J:Nat→(Nat→Prop)→World→Prop) (K:World→Prop) (M:Nat→Prop) (W:World),2≤n→(∀ k M A B,J k M A→Ext A B→J k M B)→(∀ A B,K A→Ext A B→K B) →
  (∀ k M A,J k M A→∀ b,M b→b<A.heap.size)→(∀ k M A,J k M A→GR G M A)→CP M W caps lb →
  (∀ (k:Nat) (x:AV) (u:Value) (M:Nat→Prop) (A:World),J k M A→els[k]? = some x→PV M A x u →
   YieldAt Fence.wide (n-1) P l #[u] A fun e A'=>(e = .returned (.bool true)∧∃ M',J (k+1) M' A'∧Since M A M' A')∨(e = .returned (.bool false)∧K A')) →
  J 0 M W→CallsIn Fence.wide n P gf (#[.func (.yield l) #[] #[]]++lb) W fun e W'=>(∃ v,e = .returned v)∧((∃ M,J els.length M W')∨K W')
theorem ZkV {n:Nat} {P:Program} {g:Operand} {p:Nat} {assign body:Code} {Q:Exit→Act→World→Prop} {a:Act} {w:World}
  {gf:Nat} {lb:Array Value} {caps els:List AV} (hg:a.eval g = .func (.func gf) #[] lb) {G:Nat→Option (List AV)} (hit:IterG P G gf caps els) (hn:3≤n)
  (I:Nat→(Nat→Prop)→World→Prop) (K:World→Prop) (M0:Nat→Prop) (hIe:∀ k M A B,I k M A→Ext A B→I k M B) (hKe:∀ A B,K A→Ext A B→K B)
  (hIo:∀ (k l:Nat) (M:Nat→Prop) (W:World) (r r':Loop),w.heap.size≤l→I k M W→W.heap[l]? = some (.loop r)→I k M (W.putObj l (.loop r')))
  (hKo:∀ (l:Nat) (W:World) (r r':Loop),w.heap.size≤l→K W→W.heap[l]? = some (.loop r)→K (W.putObj l (.loop r')))
  (hIM:∀ k M A,I k M A→(∀ b,M b→b<A.heap.size)∧∀ (b:Nat) (o:Obj),w.heap.size≤b→A.heap[b]? = some o→Odd o→¬M b)
  (hIG:∀ k M A,I k M A→GR G M A) (hcaps:CP M0 w caps lb) (h0:I 0 M0 w)
  (hround:∀ (l k m:Nat) (x:AV) (u:Value) (M:Nat→Prop) (W:World) (lr:Loop),w.heap.size≤l→I k M W→W.heap[l]? = some (.loop lr)→els[k]? = some x→PV M W x u →
   assign.wpIn (FW (some l)) m P (Exit.then (fun a1 W1=>(∀ (b:Nat) (o:Obj),W.heap[b]? = some o→Odd o→W1.heap[b]? = some o) ∧
     body.wpIn (FW (some l)) m P (fun e _ W'=>((∀ (b:Nat) (o:Obj),W.heap[b]? = some o→Odd o→b≠l→W'.heap[b]? = some o)∧W'.heap[l]? = some (.loop { lr with state:=.busy })) ∧
      ((e = .normal∧∃ M',I (k+1) M' W'∧W.heap.size≤W'.heap.size∧∀ b,b<W.heap.size→¬M b→¬M' b∧(b≠l→W'.heap[b]? = W.heap[b]?))∨(e = .ret∧K W'))) a1 (W1.putObj l (.loop { lr with state:=.busy }))) (fun _ _ _=>False))
    { tmps:=a.tmps.setIfInBounds p u,defers:=[] } W)
  (hdone:∀ (D:Nat) (M:Nat→Prop) (W:World),w.heap.size≤D→I els.length M W→W.heap[D]? = some (.deferred (some []))→Q .normal { a with defers:=coll D::a.defers } W)
  (hstop:∀ (D:Nat) (W:World),w.heap.size≤D→K W→W.heap[D]? = some (.deferred (some []))→Q .ret { a with defers:=coll D::a.defers } W) :
  (Code.rangeFunc g #[p] assign body).wpIn (FW none) n P Q a w:=by
 refine wpIn_rangeFunc ?_;intro fn hfn;obtain ⟨rec,hrec⟩ : ∃ rec:LoopState→Option Code→Loop,rec=fun st pe=>{ state:=st,pending:=pe,fn,tmps:=a.tmps,params:=#[p],assign,body,defers:=w.heap.size }:=⟨_,rfl⟩
 obtain ⟨W1,hW1⟩ : ∃ W1,(w.alloc (.deferred (some []))).alloc (.loop (rec .ready none))=W1:=⟨_,rfl⟩;have hE1:Ext w W1:=by rw[← hW1];exact (Ext.refl w).al.al
 have hL1:W1.heap[w.heap.size+1]? = some (.loop (rec .ready none)):=by
  rw[← hW1];have:=World.alloc_heap_new (w.alloc (.deferred (some []))) (.loop (rec .ready none));rwa [World.size_alloc]at this
 have hK1:W1.heap[w.heap.size]? = some (.deferred (some [])):=by
  rw[← hW1];exact (Below.heap_alloc _ _ _ (by simp)).trans (World.alloc_heap_new w _)
 have hI1:I 0 M0 W1:=hIe _ _ _ _ h0 hE1;have hC1:CP M0 W1 caps lb:=⟨hcaps.1,fun i x u hx hu=>(hcaps.2 i x u hx hu).mono (fun b hb hM=>⟨hM,hE1.block b hb⟩) hE1.size⟩
 refine ⟨w.heap.size+1,[{ target:=.collected w.heap.size,args:=#[] }],W1,{ target:=.fn (.func gf) lb,args:=#[.func (.yield (w.heap.size+1)) #[] #[]] },W1,gf,
  #[.func (.yield (w.heap.size+1)) #[] #[]]++lb,W1,?_,?_,fun _ _=>trivial,?_,Z24,?_⟩
 · rw[← hW1,hrec];exact run_enterLoop_outer _ _ _ _ _
 · simp only[resolve,hg];simp[go_sem]
 · simp[invoke,go_sem,Z1W hit.1]
 · have stay : ∀ {A B:World} {b:Nat} {o:Obj},Ext A B→A.heap[b]? = some o→B.heap[b]? = some o:=fun h hb=>(h.block _ (Array.getElem?_eq_some_iff.1 hb).1).trans hb
   refine (hit.2 (n-1) (w.heap.size+1) lb
    (fun k M W=>I k M W∧W.heap[w.heap.size+1]? = some (.loop (rec .ready none))∧W.heap[w.heap.size]? = some (.deferred (some [])))
    (fun W=>K W∧W.heap[w.heap.size+1]? = some (.loop (rec .done (some .ret)))∧W.heap[w.heap.size]? = some (.deferred (some [])))
    M0 W1 (by omega) (fun k M A B h e=>⟨hIe k M A B h.1 e,stay e h.2.1,stay e h.2.2⟩) (fun A B h e=>⟨hKe A B h.1 e,stay e h.2.1,stay e h.2.2⟩) (fun k M A h=>(hIM k M A h.1).1) (fun k M A h=>hIG k M A h.1) hC1 ?_ ⟨hI1,hL1,hK1⟩).mono ?_
   · rintro k x u M W ⟨hi,hl,hk⟩ hr hus;have hls:w.heap.size+1<W.heap.size:=(Array.getElem?_eq_some_iff.1 hl).1;have hy:=run_yield (P:=P) (args:=#[u]) hl (by rw[hrec];rfl);rw[hrec]at hy
     have hfold:(#[p].zip #[u]).foldl (fun t (x:Nat×Value)=>match x with|(p,v)=>t.setIfInBounds p v) a.tmps=a.tmps.setIfInBounds p u:=by
      rw[← Array.foldl_toList,Array.toList_zip];rfl
     have hy:(Instr.yield (w.heap.size+1) #[u]).run P W = .ok (.round (w.heap.size+1) fn (a.tmps.setIfInBounds p u) assign body) W:=(by rw[← hfold];exact hy);refine ⟨fn,_,assign,body,hy,roundIn_of_wpIn hfn (wpIn_mono (hround (w.heap.size+1) k _ x u M W _ (by omega) hi hl hr hus) ?_)⟩;rintro e a1 W2 hp
     cases e with
     | normal =>
       obtain ⟨hodd0,hp⟩:=hp;have hl2:=hodd0 _ _ hl trivial;have hk2:=hodd0 _ _ hk trivial;have hls2:w.heap.size+1<W2.heap.size:=(Array.getElem?_eq_some_iff.1 hl2).1;refine ⟨_,run_beginRound hl2 (by rw[hrec]),wpIn_mono hp ?_⟩;rintro e a3 W3 ⟨⟨hodd,hl3⟩,hp3⟩;have hd3:=hodd _ _ hk trivial (by omega);have hls3:=(Array.getElem?_eq_some_iff.1 hl3).1
       have fin:∀ jump:Option Code,(W3.putObj (w.heap.size+1) (.loop (rec (if jump.isNone then .ready else .done) jump))).heap[w.heap.size+1]? = some (.loop (rec (if jump.isNone then .ready else .done) jump)) ∧
         (W3.putObj (w.heap.size+1) (.loop (rec (if jump.isNone then .ready else .done) jump))).heap[w.heap.size]? = some (.deferred (some [])):=fun jump =>
        ⟨World.putObj_heap_same hls3,(World.putObj_heap_other (by omega)).trans hd3⟩
       rcases hp3 with ⟨rfl,M',hi3,hsz3,hs3⟩ | ⟨rfl,hk3⟩
       · have hr3:=run_endRound (P:=P) none hl3;have f1:=fin none;rw[hrec]at hr3 f1;refine ⟨_,_,hr3,.inl ⟨rfl,M',⟨hIo _ _ _ _ _ _ (by omega) hi3 hl3,?_,f1.2⟩,by simpa using hsz3,fun b hb hM=>⟨(hs3 b hb hM).1,?_⟩⟩⟩
         · rw[hrec];exact f1.1
         · by_cases e:b=w.heap.size+1
           · subst e;rw[hl,hrec];exact f1.1
           · rw[World.putObj_heap_other e];exact (hs3 b hb hM).2 e
       · have hr3:=run_endRound (P:=P) (some .ret) hl3;have f1:=fin (some .ret);rw[hrec]at hr3 f1;refine ⟨_,_,hr3,.inr ⟨rfl,hKo _ _ _ _ (by omega) hk3 hl3,?_,f1.2⟩⟩;rw[hrec];exact f1.1
     |_=>exact hp.elim
   · rintro e W2 ⟨⟨v,rfl⟩,⟨M,hi,hl,hk⟩ | ⟨hi,hl,hk⟩⟩
     · exact ⟨none,_,by have:=run_endLoop (P:=P) hl (by rw[hrec];simp);rw[hrec]at this;exact this,hdone _ M _ (Nat.le_refl _) (hIo _ _ _ _ _ _ (by omega) hi hl) ((World.putObj_heap_other (by omega)).trans hk)⟩
     · exact ⟨some .ret,_,by have:=run_endLoop (P:=P) hl (by rw[hrec];simp);rw[hrec]at this;exact this,wpIn_ret (hstop _ _ (Nat.le_refl _) (hKo _ _ _ _ (by omega) hi hl) ((World.putObj_heap_other (by omega)).trans hk))⟩
section
variable {P:Program} {R:Run} {st:St} {a:Act} {W:World} {κ:Nat→Option (Nat×Nat)}
theorem ZkW {g:RA} {p gf:Nat} {assign body:RCode} {Φ:Exit→St→Prop} {caps els:List AV} (hrd:R.Top) (hit:IterG P R.G gf caps els) (hg:evA R.G st g = .func (.func gf) [] caps) (hp:caps.all AV.pure=true)
  (ok:Nat→Bool) (hok:∀ k,ok k=true→k<1000) (ρ:Nat→Nat) (t0:List (Nat×AV)) (objs outs:Nat→List (Nat×AObj)) (Iv:Nat→Prop) (hI0:Iv 0) (hK:∀ k,∀ q∈objs k,1000≤q.1) (hinj:∀ k,((objs k).map fun q=>ρ q.1).Nodup) (hinj2:∀ k,((outs k).map fun q=>ρ q.1).Nodup)
  (hsub:∀ k,∀ q∈objs k,isK (outs k) q.1=true) (hnew:∀ k,∀ q∈outs k,isK (objs k) q.1=true∨(Ym ρ (objs k) st).get (ρ q.1)=none) (hnext:∀ k,Ym ρ (outs k) st=Ym ρ (objs (k+1)) st)
  (h0:Ym ρ (objs 0) st=st) (hin:∀ k,∀ q∈objs k,Yd (objs k) q.2=true)
  (ht0:∀ q∈t0,lk st.t q.1=some (q.2.ren ρ)∧q.1≠p∧∀ j,∀ k∈q.2.keys,isK (objs j) k=true)
  (hround:∀ (k:Nat) (x:AV),els[k]? = some x→Iv k→∀ R':Run,R'.G=R.G→R'.N=R.N→AR P R' assign ⟨(p,x)::t0,objs k⟩ fun e s1=>e = .normal∧∀ R'':Run,R''.G=R.G→R''.N=R.N →
   AR P R'' body s1 (fun e s2=>e = .normal∧(Yj ok s2).o=outs k∧Iv (k+1)))
  (hdone:Iv els.length→Φ .normal (Ym ρ (objs els.length) st)):AR P R (.rngf g [p] assign body) st Φ:=by
 intro c hc m a W hs
 cases c <;> simp only[Z1A,Bool.false_eq_true,Bool.and_eq_true,beq_iff_eq]at hc
 rename_i g' ps' ca cb;obtain ⟨⟨⟨⟨hcg,hps⟩,hpn⟩,hca⟩,hcb⟩:=hc;have hpn:p<R.N:=(by simpa using hpn);obtain rfl:ps' = #[p]:=(by rw[← Array.toList_inj];exact hps);rw[hrd.1];refine wpFW.2 ((wpFW (n:=3)).1 ?_);obtain ⟨κ0,hs⟩:=hs;obtain ⟨S,hS⟩ : ∃ S:Nat→St,S=fun k=>Ym ρ (objs k) st:=⟨_,rfl⟩
 have hSt:∀ k,(S k).t=st.t:=fun k=>by rw[hS];exact Z4Y ρ _ _
 have nod:∀ k,((objs k).map fun p=>ρ p.1).Nodup:=hinj
 have memK:∀ {o:List (Nat×AObj)} {q:Nat},isK o q=true→∃ x,(q,x)∈o:=fun {o q} h=>by
  obtain ⟨x,h1⟩:=Option.isSome_iff_exists.1 h;exact ⟨x,Z4F h1⟩
 have injK:∀ {o:List (Nat×AObj)},(o.map fun p=>ρ p.1).Nodup→∀ q q',isK o q=true→isK o q'=true→ρ q=ρ q'→q=q':=fun {o} hn q q' h1 h2 e=>by
  have m1:=Z51.1 h1;have m2:=Z51.1 h2;have:(o.map (·.1)).map ρ=o.map (fun p=>ρ p.1):=(by simp[List.map_map,Function.comp_def]);rw[← this]at hn;exact Z52 hn m1 m2 e
 have hevg:∀ k,evA R.G (S k) g = .func (.func gf) [] caps:=fun k=>by
  rw[← hg]
  cases g <;> simp only[evA,St.tmp,hSt]
 have hv0:=hs.ev hcg;rw[hg]at hv0;obtain ⟨us0,lb,hav,hus0,hlb0⟩:=hv0.func_inv
 obtain rfl:us0 = #[]:=by
  have:=hus0.1;rw[← Array.toList_inj];exact List.length_eq_zero_iff.1 (by simpa using this)
 have hcaps:∀ k W κ,SK R (S k) a W κ→CP ((S k).env R.M κ).M W caps lb:=fun k W κ h=>by
  have h1:=h.ev hcg;rw[hevg,hav]at h1;obtain ⟨us1,lb1,h2,-,h3⟩:=h1.func_inv;simp only[Value.func.injEq]at h2;obtain ⟨-,-,rfl⟩:=h2;exact ⟨by simpa using h3.1,fun i x u hx hu=>(h3.2 i x u hx (by simpa using hu)).toPV (List.all_eq_true.1 hp x (List.mem_of_getElem? hx))⟩
 obtain ⟨cs0,e0,nd0,hc0,-⟩:=hs.defers
 have marks:∀ (D:Nat) (st1:St) (W1:World) (κ1:Nat→Option (Nat×Nat)),W.heap.size≤D→SK R st1 a W1 κ1→W1.heap[D]? = some (.deferred (some []))→SK R st1 { a with defers:=coll D::a.defers } W1 κ1:=fun D st1 W1 κ1 hD h hd=>by
  obtain ⟨cs1,e1,nd1,hc1,-⟩:=h.defers;obtain rfl:cs1=cs0:=Z54 (List.append_cancel_right (e1.symm.trans e0));refine h.odd ⟨rfl,fun b=>.inl rfl⟩ rfl rfl rfl (fun b _=>rfl) rfl ⟨D::cs1,by simp[e1],List.nodup_cons.2 ⟨fun hm=>?_,nd1⟩,fun c hm=>?_,fun e=>by rw[hrd.2]at e;cases e⟩
  · have:=(Array.getElem?_eq_some_iff.1 (hc0 D hm).2).1;omega
  · rcases List.mem_cons.1 hm with rfl|hm
    · exact ⟨Nat.le_trans hs.kp.size hD,hd⟩
    · exact hc1 c hm
 have put:∀ (l:Nat) (st1:St) (W1:World) (κ1:Nat→Option (Nat×Nat)) (r r':Loop),W.heap.size≤l→SK R st1 a W1 κ1→W1.heap[l]? = some (.loop r)→SK R st1 a (W1.putObj l (.loop r')) κ1:=fun l st1 W1 κ1 r r' hl h hr=>by
  obtain ⟨cs1,e1,nd1,hc1,hz1⟩:=h.defers;have:=hs.kp.size;refine h.odd (.put hr trivial) rfl rfl rfl (fun b hb=>World.putObj_heap_other (by omega)) rfl ⟨cs1,e1,nd1,fun c hm=>⟨(hc1 c hm).1,?_⟩,hz1⟩;rw[World.putObj_heap_other (by rintro rfl;have:=(hc1 _ hm).2;rw[hr]at this;cases this)];exact (hc1 c hm).2
 have hs0:SK R (S 0) a W κ0:=by rw[hS];show SK R (Ym ρ (objs 0) st) a W κ0;rw[h0];exact hs
 refine ZkV (I:=fun k M W'=>∃ κ,(M=((S k).env R.M κ).M∧Iv k)∧SK R (S k) a W' κ) (K:=fun W'=>∃ s κ,Φ .ret s∧SK R s a W' κ) (M0:=((S 0).env R.M κ0).M) (caps:=caps) (els:=els) hav hit (by omega) (fun k M A B h e=>h.imp fun κ h=>⟨h.1,h.2.grow e⟩) (fun A B ⟨s,κ,h1,h2⟩ e=>⟨s,κ,h1,h2.grow e⟩)
  (fun k l M W' r r' hl ⟨κ,hM,h⟩ hr=>⟨κ,hM,put l _ _ _ r r' hl h hr⟩) (fun l W' r r' hl ⟨s,κ,h1,h⟩ hr=>⟨s,κ,h1,put l _ _ _ r r' hl h hr⟩) (fun k M A ⟨κ,⟨hM,_⟩,h⟩=>?_) (fun k M A ⟨κ,⟨hM,_⟩,h⟩=>hM ▸ h.gr) (hcaps 0 W κ0 hs0) ⟨κ0,⟨rfl,hI0⟩,hs0⟩ ?_ ?_ ?_
 · subst hM;refine ⟨fun b hb=>h.owned_lt hb,fun b o hb ho hodd hM=>?_⟩;rcases hM with hM | ⟨q,s,hq⟩
   · have:=h.low b hM;have:=hs.kp.size;omega
   · exact h.notOdd hq ho hodd
 · intro l k m x u M W1 lr hl hI hlr hx hxu;obtain ⟨κ,⟨rfl,hIk⟩,h⟩:=hI
   have enterAt:∀ W',SK R (S k) a W' κ→SK (rC (objs k) ρ R (S k) κ W') (obSt (objs k)) noAct W' (kC (objs k) ρ κ)∧∀ (x:AV) (v:Value),inK (objs k) x→VR ((S k).env R.M κ) W' (x.ren ρ) v→VR ((obSt (objs k)).env (mC (objs k) ρ R (S k) κ) (kC (objs k) ρ κ)) W' x v:=fun W' h =>
    Z4V h (fun q hq=>by obtain ⟨x,hx⟩:=memK hq;exact hK k _ hx) (injK (hinj k)) (fun q o hq=>by rw[hS];exact Z50 ρ _ _ q o (nod k) hq)
     (fun q o hq=>by
      have h2:=hin k (q,o) (Z4F hq);have kept:∀ x,Ya (objs k) x=true→inK (objs k) x:=fun x hx k' hk'=>List.all_eq_true.1 hx k' hk'
      cases o with
      |box cells=>exact fun x hx=>kept x (List.all_eq_true.1 h2 x hx)
      |row sz rows=>exact fun r hr x hx=>kept x (List.all_eq_true.1 (List.all_eq_true.1 h2 r hr) x hx)
      | mp kvs =>
        intro p hp;have:=List.all_eq_true.1 h2 p hp;simp only[Bool.and_eq_true]at this;exact ⟨kept _ this.1,kept _ this.2⟩)
   obtain ⟨h1,conv⟩:=enterAt W1 h
   have hXo:∀ W',SK R (S k) a W' κ→∀ b,(rC (objs k) ρ R (S k) κ W').X b→∀ o,W'.heap[b]? = some o→¬Odd o:=fun W' h b ⟨q,s,hq⟩ o ho hodd=>by
    simp only[kC]at hq
    split at hq
    · exact h.notOdd hq ho hodd
    · cases hq
   have hMM:∀ b,((obSt (objs k)).env (mC (objs k) ρ R (S k) κ) (kC (objs k) ρ κ)).M b→((S k).env R.M κ).M b:=fun b hb=>by
    rcases hb with hb | ⟨q,s,hq⟩
    · exact hb.1
    · simp only[kC]at hq
      split at hq
      · exact .inr ⟨ρ q,s,hq⟩
      · cases hq
   let R1:Run:={ rC (objs k) ρ R (S k) κ W1 with N:=R.N,rd:=some l }
   have hN:R.N=a.tmps.size:=h.size.symm
   have start:SK R1 ⟨(p,x)::t0,objs k⟩ { tmps:=a.tmps.setIfInBounds p u,defers:=[] } W1 (kC (objs k) ρ κ):=by
    refine ⟨.nil _ _ _ _,by show (a.tmps.setIfInBounds p u).size=R.N;simp[hN],fun n y hy=>?_,h1.obj,h1.dom,h1.inj,h1.low,h1.apart,h1.kp,h1.gr,h1.mono,h1.ent⟩;have hy:lk ((p,x)::t0) n=some y:=hy;show VR ((obSt (objs k)).env (mC (objs k) ρ R (S k) κ) (kC (objs k) ρ κ)) W1 y ((a.tmps.setIfInBounds p u).getD n Go.undef);simp only[lk]at hy
    split at hy
    · rename_i e;subst e;obtain rfl:x=y:=(by simpa using hy);have hlt:p<a.tmps.size:=(by rw[← hN];exact hpn);have e:(a.tmps.setIfInBounds p u).getD p Go.undef=u:=(by simp[Array.getD,hlt]);rw[e];exact .pv (hxu.mono (fun b _ hb=>⟨fun hb'=>hb (hMM b hb'),rfl⟩) (Nat.le_refl _))
    · rename_i e
      have e2:(a.tmps.setIfInBounds p u).getD n Go.undef=a.tmps.getD n Go.undef:=by
       simp only[Array.getD_eq_getD_getElem?,Array.getElem?_setIfInBounds,if_neg e]
      rw[e2];obtain ⟨g1,g2,g3⟩:=ht0 (n,y) (Z4F hy);have g4:=h.tm n (y.ren ρ) (by show lk (S k).t n=_;rw[hSt];exact g1);exact conv y _ (fun q hq=>g3 k q hq) g4
   refine wpIn_mono (hround k x hx hIk R1 rfl rfl ca hca m _ W1 ⟨_,start⟩) ?_;rintro e a1 W2 ⟨s1,⟨rfl,hbody⟩,κ1,h2⟩;refine ⟨fun b o hb ho=>h2.keepOdd (hXo W1 h) hb ho,?_⟩;have hl2:W2.heap[l]? = some (.loop lr):=h2.keepOdd (hXo W1 h) hlr trivial;have h3:=SK.both rfl h2 (o':=.loop { lr with state:=.busy }) hl2 hlr;have hb:=put l _ W1 κ lr { lr with state:=.busy } hl h hlr;refine wpIn_mono (hbody { R1 with W0:=W1.putObj l (.loop { lr with state:=.busy }) } rfl rfl cb hcb m _ _ ⟨_,h3⟩) ?_;rintro e a2 W3 ⟨s2,hrnd,hs2⟩
   have hodd:∀ κ2,SK { R1 with W0:=W1.putObj l (.loop { lr with state:=.busy }) } s2 a2 W3 κ2→(∀ (b:Nat) (o:Obj),W1.heap[b]? = some o→Odd o→b≠l→W3.heap[b]? = some o)∧W3.heap[l]? = some (.loop { lr with state:=.busy }):=fun κ2 h4 =>
    ⟨fun b o hb1 ho hne=>h4.keepOdd (hXo _ hb) ((World.putObj_heap_other hne).trans hb1) ho,
     h4.keepOdd (hXo _ hb) (o:=.loop { lr with state:=.busy }) (World.putObj_heap_same (Array.getElem?_eq_some_iff.1 hlr).1) trivial⟩
   have leave:(Yj ok s2).o=outs k→∃ κ3,SK R (Ym ρ (outs k) st) a W3 κ3∧Mono ((S k).env R.M κ) (W1.putObj l (.loop { lr with state:=.busy })) ((Ym ρ (outs k) st).env R.M κ3) W3:=fun he=>by
    obtain ⟨κ2,h4⟩:=Yn.frz ok s2 (fun k hk=>by
     cases e:ok k
     · rfl
     · have:=hok k e;omega) _ a2 W3 hs2
    have g:=h4.sub (t':=[]) (fun n x hx=>by simp[lk]at hx);have e:({ Yj ok s2 with t:=[] }:St)=obSt (outs k):=(by rw[← he];rfl);rw[e]at g
    have g2:SK (rC (objs k) ρ R (S k) κ (W1.putObj l (.loop { lr with state:=.busy }))) (obSt (outs k)) noAct W3 κ2 :=
     ⟨.nil _ _ _ _,rfl,fun n x hx=>by simp[obSt,St.tmp,lk]at hx,g.obj,g.dom,g.inj,g.low,g.apart,g.kp,g.gr,g.mono,g.ent⟩
    obtain ⟨κ3,h5,h6,-⟩:=Z5f hb (objs':=outs k) (st1:=Ym ρ (outs k) st) (injK (hinj2 k)) (fun q o hq=>by rw[hS];exact Z50 ρ _ _ q o (nod k) hq)
     (fun q hq=>by obtain ⟨x,hx⟩:=memK hq;exact hsub k _ hx)
     (fun q h1 h2=>by
      obtain ⟨x,hx⟩:=memK h1;rcases hnew k _ hx with h3|h3
      · rw[h2]at h3;cases h3
      · rw[hS];exact h3) g2 ((Z4Y ρ _ _).trans (hSt k).symm) (fun q o hq=>Z50 ρ _ _ q o (hinj2 k) hq)
     (fun j hj=>by
      have o1:(Ym ρ (outs k) st).get j=st.get j:=Z4Z ρ j _ _ fun q hq=>hj q.1 (Z51.2 (List.mem_map.2 ⟨q,hq,rfl⟩))
      have o2:(Ym ρ (objs k) st).get j=st.get j:=Z4Z ρ j _ _ fun q hq=>hj q.1 (hsub k q hq)
      rw[hS];exact o1.trans o2.symm)
    exact ⟨κ3,h5,h6⟩
   obtain ⟨κ2,h4⟩:=id hs2;refine ⟨hodd κ2 h4,?_⟩;obtain ⟨rfl,hro,hri⟩:=hrnd;obtain ⟨κ3,h5,h6⟩:=leave hro;rw[hnext k]at h5 h6;refine .inl ⟨rfl,_,⟨κ3,⟨rfl,hri⟩,by rw[hS];exact h5⟩,by have:=h6.size;simpa using this,fun b hb1 hM=>?_⟩;obtain ⟨g1,g2⟩:=h6.imm b (by simpa using hb1) hM;exact ⟨by rw[hS];exact g1,fun hne=>g2.trans (World.putObj_heap_other hne)⟩
 · rintro D M W1 hD ⟨κ,⟨-,hIk⟩,h⟩ hd;refine ⟨_,?_,κ,marks D _ _ _ hD h hd⟩;rw[hS];exact hdone hIk
 · rintro D W1 hD ⟨s,κ,h1,h⟩ hd;exact ⟨s,h1,κ,marks D _ _ _ hD h hd⟩
end
def aqR (k:Nat):Nat:=if 1000≤k then k-1000 else k
def slT (L:List Stq) (k:Nat):List (List AV):=(L.take k).map sa
def aqB (L:List Stq) (k:Nat):List (Nat×AObj):=if k=0 then [(1002,.box [.nils])] else [(1002,.box [.osl 1011 k]),(1011,.row 6 (slT L k))]
def aqU (L:List Stq) (k:Nat):List (Nat×AObj):=if k=0 then [(1002,.box [.osl 11 1]),(11,.row 6 (slT L 1))] else [(1002,.box [.osl 1011 (k+1)]),(1011,.row 6 (slT L (k+1)))]
theorem ZkX (ρ:Nat→Nat) (L:List Stq):(AObj.row 6 (L.map sa)).ren ρ = .row 6 (L.map sa):=by
 simp only[AObj.ren,List.map_map]
 congr 2
 funext p;simp[sa,AV.ren]
theorem ZkY (ρ:Nat→Nat) (xs:List AV):(AObj.box xs).ren ρ = .box (xs.map (AV.ren ρ)):=rfl
theorem ZkZ (ok:Nat→Bool) (st:St) (L:List Stq):frzO ok st (.row 6 (L.map sa)) = .row 6 (L.map sa):=by
 simp only[frzO,List.map_map]
 congr 2
 funext p;simp[sa,frzA,frz,AV.keys]
theorem Zl0 (ρ:Nat→Nat) (L:List Stq) (k:Nat):(AObj.row 6 (slT L k)).ren ρ = .row 6 (slT L k):=ZkX ρ _
theorem Zl1 (ok:Nat→Bool) (st:St) (L:List Stq) (k:Nat):frzO ok st (.row 6 (slT L k)) = .row 6 (slT L k):=ZkZ ok st _
theorem Zl2 (o:List (Nat×AObj)) (L:List Stq) (k:Nat):Yd o (.row 6 (slT L k))=true:=ZiL o _
theorem Zl3 {L:List Stq} {k:Nat} (h:k≤L.length):(slT L k).length=k:=by simp[slT];omega
section
variable {G:Nat→Option (List AV)}
set_option maxHeartbeats 1000000 in
theorem Zl4 (gf:Nat) (caps:List AV) (L:List Stq) (hp:caps.all AV.pure=true) (hit:IterG Tryz.prog G gf caps (L.map fun x=>.agg (sa x))) (hl:L.length≤100) :
  PC Tryz.prog G 80 [.nils,.func (.func gf) [] caps] (Yh (L.map sa)):=by
 refine Z7I rfl fun R hG hrd=>?_
 subst hG;refine Yc Yb 1000 ?_;simp -implicitDefEqProofs[Z7G,Z7H];have tl:∀ k,k≤L.length→(L.take k).length=k:=fun k h=>by simp;omega
 refine ZkW hrd hit (by simp[evA,St.tmp,lk]) hp (fun k=>k == 5) (by intro k hk;simp at hk;omega) aqR [(2,.ptr 1002 0)] (aqB L) (aqU L) (fun k=>k≤L.length) (Nat.zero_le _)
  ?_ ?_ ?_ ?_ ?_ ?_ ?_ ?_ ?_ ?_ ?_
 · intro k q hq;unfold aqB at hq
   split at hq <;> simp at hq <;> (try rcases hq with rfl|rfl) <;> simp_all
 · intro k;unfold aqB
   split <;> simp[aqR]
 · intro k;unfold aqU
   split <;> simp[aqR]
 · intro k q hq;unfold aqB at hq;unfold aqU;by_cases c:k=0
   · rw[if_pos c]at hq ⊢;simp at hq;subst hq;simp[isK,lk]
   · rw[if_neg c]at hq ⊢;simp at hq;rcases hq with rfl|rfl <;> simp[isK,lk]
 · intro k q hq;unfold aqU at hq;unfold aqB;by_cases c:k=0
   · rw[if_pos c]at hq ⊢;simp at hq;rcases hq with rfl|rfl
     · exact .inl (by simp[isK,lk])
     · exact .inr (by simp[Ym,aqR,St.get,St.set,putO,lk])
   · rw[if_neg c]at hq ⊢;simp at hq;rcases hq with rfl|rfl <;> exact .inl (by simp[isK,lk])
 · intro k;unfold aqU aqB;by_cases c:k=0
   · subst c;simp[Ym,aqR,ZkY,Zl0,AV.ren]
   · rw[if_neg c,if_neg (by omega)]
 · simp[aqB,Ym,aqR,St.set,putO,AObj.ren,AV.ren]
 · intro k q hq;unfold aqB at hq ⊢;by_cases c:k=0
   · rw[if_pos c]at hq ⊢;simp at hq;subst hq;simp[Yd,Ya,AV.keys]
   · rw[if_neg c]at hq ⊢;simp at hq;rcases hq with rfl|rfl
     · simp[Yd,Ya,AV.keys,lk]
     · exact Zl2 _ _ _
 · intro q hq;simp at hq;subst hq;refine ⟨by simp[lk,AV.ren,aqR],by simp,fun j k hk=>?_⟩;simp[AV.keys]at hk;subst hk;unfold aqB
   split <;> simp[isK,lk]
 · intro k x hx hk R' hG hN;obtain ⟨hkl,hxe⟩:=List.getElem?_eq_some_iff.1 hx;have hkl:k<L.length:=(by simpa using hkl);have hxe:x = .agg (sa L[k]):=(by rw[← hxe];simp);subst hxe;have tk:=List.take_succ_eq_append_getElem hkl;have tlk:=Zl3 (L:=L) (k:=k) (by omega);have bb:=sixB k (by omega);have hsa:sa L[k]=[.int .i64 L[k].fd,.int .i64 L[k].fl,.int .i64 L[k].td,.int .i64 L[k].tl,.int .i64 L[k].nu,.bool L[k].nt]:=rfl;have e1:slT L (k+1)=slT L k++[[.int .i64 L[k].fd,.int .i64 L[k].fl,.int .i64 L[k].td,.int .i64 L[k].tl,.int .i64 L[k].nu,.bool L[k].nt]]:=(by unfold slT;rw[tk,List.map_append];rfl);refine Yc Yb 1000 ?_;by_cases c:k=0
   · subst c;simp only[aqB,aqU,if_true];simp -implicitDefEqProofs[hsa];intro R'' hG'' hN'';refine Yc Yb 1000 ?_;simp -implicitDefEqProofs[hsa];have e0:slT L 1=[[.int .i64 L[0].fd,.int .i64 L[0].fl,.int .i64 L[0].td,.int .i64 L[0].tl,.int .i64 L[0].nu,.bool L[0].nt]]:=(by rw[show slT L 0=[] from rfl,List.nil_append]at e1;exact e1);refine ⟨?_,by omega⟩;rw[e0];simp[Yj,frzO,frzA,frz,AV.keys]
   · simp only[aqB,aqU,c,if_false];simp -implicitDefEqProofs[hsa];intro R'' hG'' hN'';refine Yc Yb 1000 ?_;simp -implicitDefEqProofs[hsa,tlk,bb];refine ⟨?_,by omega⟩;rw[← e1];simp[Yj,ZhI,Zl1,frzA,frz,AV.keys]
 · intro _;have hll:(List.map (fun x=>AV.agg (sa x)) L).length=L.length:=(by simp);rw[hll];unfold aqB;by_cases c:L.length=0
   · have e:L=[]:=List.length_eq_zero_iff.1 c;rw[if_pos c];simp -implicitDefEqProofs[Ym,AObj.ren,AV.ren,aqR];refine Z2N Yb 1000 ?_;simp -implicitDefEqProofs[e,Yh]
   · have e:¬L=[]:=fun h=>c (by rw[h];rfl)
     have eL:slT L L.length=L.map sa:=(by unfold slT;rw[List.take_length]);rw[if_neg c,eL];simp -implicitDefEqProofs[Ym,ZkX,ZkY,AV.ren,aqR];refine Z2N Yb 1000 ?_;simp -implicitDefEqProofs[e,Yh,sa]
end
section
variable {G:Nat→Option (List AV)}
theorem Zl5 (gf:Nat) (caps:List AV) (L:List Stq) (hp:caps.all AV.pure=true) (hit:IterG Tryz.prog G gf caps (L.map fun x=>.agg (sa x))) (hl:L.length≤100) :
  PC Tryz.prog G 46 [.func (.func gf) [] caps] (Yh (L.map sa)):=by
 have ha:=Zl4 (G:=G) gf caps L hp hit hl;have pL:=Zfc (l:=L.map sa) (by simp[sa,AV.pure]);have sL:=fun ok st n=>Zfe (L.map sa) ok st n
 generalize Yh (L.map sa)=V at *
 (refine Z7F rfl fun R hG hrd=>Yc Yb 1000 ?_;subst hG)
 have hp2:∀ x∈caps,x.pure=true:=List.all_eq_true.1 hp;simp -implicitDefEqProofs[Z7D,Z7E];refine Ye.of ha (by simpa [AV.pure] using hp2) ?_;simp -implicitDefEqProofs[pL,sL]
theorem Zl6 (r:List Iss) (l:List Nte) (q:List Rul) (s:List Int) (m day:Int):PC Tryz.prog G 47 [.agg (moC r l q s m day)] (.func (.func 81) [] [.vptr (moC r l q s m day) 0]):=by
 have pS:(Yl r l q).pure=true:=(by unfold Yl rfA;split <;> simp[AV.pure,isa,na,ra,rfa]);obtain ⟨cs,eS⟩ : ∃ cs,Yl r l q = .vptr cs 0:=⟨_,rfl⟩;rw[eS]at pS;unfold moC;rw[eS]
 (refine Z7v rfl fun R hG hrd=>Yc Yb 1000 ?_;subst hG)
 simp -implicitDefEqProofs[Z7t,Z7u,pS]
end
def Zl7 (G:Nat→Option (List AV)) (M:Nat→Prop) (W:World) (N:Nat) (rd:Option Nat):Run :=
 { G:=G,M:=M,X:=fun _=>False,W0:=W,N:=N,E0:={ M:=M,loc:=fun _=>none,row:=fun _=>none },rd:=rd,nm:=true }
theorem Zl8 {G:Nat→Option (List AV)} {M:Nat→Prop} {W:World} {N:Nat} {rd:Option Nat} {t:List (Nat×AV)} {a:Act} (hgr:GR G M W) (hM:∀ b,M b→b<W.heap.size) (hd:a.defers=[]) (hN:a.tmps.size=N) (ht:TT' M W t a):SR (Zl7 G M W N rd) ⟨t,[]⟩ a W:=by
 have hGM:∀ b,b<W.heap.size→¬M b→¬((⟨t,[]⟩ : St).env M (fun _=>none)).M b∧W.heap[b]? = W.heap[b]?:=fun b _ h1=>⟨(by rintro (h2 | ⟨k,s,h2⟩) <;> first|exact h1 h2|cases h2),rfl⟩
 refine ⟨fun _=>none,⟨[],by simp[hd,Zl7],.nil,by simp,fun _=>rfl⟩,hN,fun n x hx=>.pv ((ht n x hx).mono hGM (Nat.le_refl _)),(fun k o ho=>by simp[St.get,lk]at ho),(fun k p hk=>by cases hk),(fun k k' b s s' hk=>by cases hk),hM,fun _ _ h=>h,Kp.refl _ _,(hgr.mono hGM (Nat.le_refl _)),⟨Nat.le_refl _,hGM,fun k p hk=>(by cases hk),fun k sz m hk=>(by cases hk)⟩,fun _ _=>⟨rfl,rfl⟩⟩
theorem endG {G:Nat→Option (List AV)} {M:Nat→Prop} {W W':World} {N:Nat} {rd:Option Nat} {st:St} {a:Act} (h:SR (Zl7 G M W N rd) st a W') {t:List (Nat×AV)} (hw:Yn st ⟨t,[]⟩) (hp:∀ q∈t,q.2.pure=true) :
  a.defers=[]∧a.tmps.size=N∧TT' M W' t a∧Ext W W':=by
 obtain ⟨κ,hk⟩:=hw _ _ _ h;obtain ⟨cs,e,-,-,hz⟩:=hk.defers
 have hκ:∀ k,κ k=none:=fun k=>by
  cases e:κ k with
  |none=>rfl
  |some p=>obtain ⟨o,ho⟩:=hk.dom k p e;simp[St.get,lk]at ho
 refine ⟨by rw[e,hz rfl];rfl,hk.size,fun n x hx=>?_,⟨hk.kp.os,hk.kp.tape,hk.kp.output,hk.kp.size,fun i hi=>hk.kp.block i hi (fun h=>h)⟩⟩;refine ((hk.tm n x hx).toPV (hp (n,x) (Z4F hx))).mono (fun b _ hb=>⟨fun h=>hb (.inl h),rfl⟩) (Nat.le_refl _)
def lpB:RCode→RCode
 |.loop b=>b
 |c=>c
def K2s:List AV:=[.func (.func 191) [] [],.func (.func 192) [] []]
def GQ (G:Nat→Option (List AV)):Prop:=G 0=some K2s
def ouT (mo:List AV) (l i:Nat):List (Nat×AV):=[(8,.int .i64 i),(7,.agg K2s),(1,.vptr mo 0),(0,.func (.yield l) [] [])]
def inT (mo:List AV) (L:List Stq) (l i j:Nat):List (Nat×AV):=(16,.int .i64 j)::(15,.int .i64 L.length)::(14,Yh (L.map sa))::ouT mo l i
def rcO:RCode:=lpB (issBk (Zcu Z7w))
def rcO3:RCode:=Zcu (Zcu rcO)
def rcB1:RCode:=issBk (issA rcO3)
def rcI:RCode:=lpB (issBk (Zcu (Zcu rcB1)))
def rcI3:RCode:=Zcu (Zcu rcI)
def rcB3:RCode:=issBk (issA rcI3)
section
variable {G:Nat→Option (List AV)}
set_option maxHeartbeats 2000000 in
theorem Zl9 (hQ:GQ G) (mo:List AV) (hmo:∀ x∈mo,x.pure=true) (hml:mo.length=4) (Ls:Nat→List Stq) (hl:∀ i,(Ls i).length≤100)
  (h0:PC Tryz.prog G 191 [.agg mo] (Yh ((Ls 0).map sa))) (h1:PC Tryz.prog G 192 [.agg mo] (Yh ((Ls 1).map sa))) :
  IterG Tryz.prog G 81 [.vptr mo 0] ((Ls 0++Ls 1).map fun x=>.agg (sa x)):=by
 refine ⟨by kernel_rfl,?_⟩;intro n' l lb J K M W hn hJe hKe hJM hJG hC hY hJ0;obtain ⟨off,hoff⟩ : ∃ off:Nat→Nat,off=fun i=>if i=0 then 0 else if i=1 then (Ls 0).length else (Ls 0).length+(Ls 1).length:=⟨_,rfl⟩
 obtain ⟨c,hc,hok⟩ : ∃ c,Tryz.f81.body=some c∧Z1A Tryz.prog Tryz.f81.ntmps c Z7w=true:=⟨_,rfl,by kernel_rfl⟩;obtain ⟨N,hN⟩ : ∃ N,N=Tryz.f81.ntmps:=⟨_,rfl⟩;have hN3:3≤N:=(by rw[hN];decide);rw[← hN]at hok;refine callsIn_of_wp (F:=Fence.wide) Tryz.func81 hc trivial ?_ rfl
 have hres:∀ (tm:Array Value) (W':World),(results Tryz.f81 tm).run Tryz.prog W' = .ok (.tuple #[]) W':=fun tm W'=>by
  have e:Tryz.f81.results = #[]:=rfl;simp[results,e,Sem.run_bind]
 obtain ⟨tot,htot⟩ : ∃ tot,tot=((Ls 0++Ls 1).map fun x=>AV.agg (sa x)).length:=⟨_,rfl⟩;rw[← htot];have htot2:tot=(Ls 0).length+(Ls 1).length:=(by rw[htot];simp);obtain ⟨Q,hQd⟩ : ∃ Q,Q=bodyPost Tryz.prog Tryz.f81 (fun e W'=>(∃ v,e = .returned v)∧((∃ M,J tot M W')∨K W')):=⟨_,rfl⟩
 have hfin:∀ (a:Act) (W':World),a.defers=[]→((∃ M,J tot M W')∨K W')→Q .ret a W'∧Q .normal a W':=fun a W' hd h=>by
  rw[hQd];exact ⟨⟨hd,_,hres _ _,⟨_,rfl⟩,h⟩,⟨hd,_,hres _ _,⟨_,rfl⟩,h⟩⟩
 rw[← hQd];have hwide:Fence.wide=FW none:=rfl;rw[hwide];obtain ⟨cA,c1,rfl,okA',ok1⟩:=Zcg (a:=issA Z7w) (b:=Zcu Z7w) hok;obtain ⟨c3,rfl,ok3⟩:=Zch (id:=0) (a:=issBk (Zcu Z7w)) ok1;obtain ⟨c4,rfl,ok4⟩:=Zci (a:=rcO) ok3
 have hv:∃ v1,lb = #[v1]∧PV M W (.vptr mo 0) v1:=by
  obtain ⟨q1,q2⟩:=hC
  match lb,q1,q2 with
  | ⟨[v1]⟩,_,q2=>exact ⟨v1,rfl,q2 0 _ v1 rfl rfl⟩
 obtain ⟨v1,rfl,hv1⟩:=hv
 have start:SR (Zl7 G M W N none) ⟨[(1,.vptr mo 0),(0,.func (.yield l) [] [])],[]⟩ { tmps:=(#[.func (.yield l) #[] #[]] ++ #[v1]:Array Value)++Array.replicate (N-2) Go.undef,defers:=[] } W:=by
  refine Zl8 (hJG 0 M W hJ0) (hJM 0 M W hJ0) rfl (by simp;omega) fun k x hx=>?_
  have g0:((#[.func (.yield l) #[] #[]] ++ #[v1]:Array Value)++Array.replicate (N-2) Go.undef).getD 0 Go.undef = .func (.yield l) #[] #[]:=(by simp[Array.getD]);have g1:((#[.func (.yield l) #[] #[]] ++ #[v1]:Array Value)++Array.replicate (N-2) Go.undef).getD 1 Go.undef=v1:=(by simp[Array.getD];omega);simp only[lk]at hx
  split at hx
  · rename_i e;subst e;cases hx;rw[g1];exact hv1
  · split at hx
    · rename_i e;subst e;cases hx;rw[g0];exact .func _ [] [] #[] #[] rfl rfl (by simp) (by simp)
    · cases hx
 have hact:({ tmps:=(#[.func (.yield l) #[] #[]] ++ #[v1]:Array Value)++Array.replicate (Tryz.f81.ntmps-(#[.func (.yield l) #[] #[]] ++ #[v1]:Array Value).size) Go.undef,defers:=[] }:Act)={ tmps:=(#[.func (.yield l) #[] #[]] ++ #[v1]:Array Value)++Array.replicate (N-2) Go.undef,defers:=[] }:=(by rw[hN];rfl);rw[hact];have pm:(AV.vptr mo 0).pure=true:=by simp[AV.pure]
 have arA:AR Tryz.prog (Zl7 G M W N none) (issA Z7w) ⟨[(1,.vptr mo 0),(0,.func (.yield l) [] [])],[]⟩ (fun e s=>e = .normal∧Yn s ⟨ouT mo l 0,[]⟩):=by
  refine Yc Yb 1000 ?_;unfold GQ at hQ;simp -implicitDefEqProofs[issA,Z7w,Zl7,hQ,K2s,ouT];exact (by (first|exact Yn.tm (by simp[lk])|exact Yn.sub (by simp[lk,Ya,AV.keys]) (by simp[lk,Yd,Ya,AV.keys])))
 refine wpIn_seq (wpIn_mono (arA cA okA' _ _ W start) ?_);rintro e a2 W2 ⟨s2,⟨rfl,hw2⟩,hs2⟩;obtain ⟨d2,n2,t2,e2⟩:=endG hs2 hw2 (by simp[ouT,K2s,AV.pure]);have hJ2:=hJe _ _ _ _ hJ0 e2;refine wpIn_block ?_;refine wpIn_loop_ghost (fun m a A=>∃ i M,i≤2∧m=2-i∧J (off i) M A∧a.defers=[]∧a.tmps.size=N∧TT' M A (ouT mo l i) a) 2 ⟨0,M,by omega,rfl,by rw[hoff];exact hJ2,d2,n2,t2⟩ ?_;rintro m a A ⟨i,M,hi,rfl,hJ,hd,hn2,ht⟩;have hfr:SR (Zl7 G M A N none) ⟨ouT mo l i,[]⟩ a A:=Zl8 (hJG _ M A hJ) (hJM _ M A hJ) hd hn2 ht;have kO:off 2=tot:=(by rw[hoff,htot2];simp);by_cases hlt:i<2
 case neg =>
  obtain rfl:i=2:=by omega
  have ar:AR Tryz.prog (Zl7 G M A N none) rcO ⟨ouT mo l 2,[]⟩ (fun e s=>e = .exit 0∧Yn s ⟨[],[]⟩):=by
   refine Yc Yb 1000 ?_;simp -implicitDefEqProofs[rcO,lpB,issBk,Zcu,Z7w,ouT];exact (by (first|exact Yn.tm (by simp[lk])|exact Yn.sub (by simp[lk,Ya,AV.keys]) (by simp[lk,Yd,Ya,AV.keys])))
  refine wpIn_mono (ar c4 ok4 _ a A hfr) ?_;rintro e a3 A3 ⟨s3,⟨rfl,hw3⟩,hs3⟩;obtain ⟨d3,-,-,e3⟩:=endG hs3 hw3 (by simp);refine (hfin a3 A3 d3 (.inl ⟨M,?_⟩)).2;rw[← kO];exact hJe _ _ _ _ hJ e3
 obtain ⟨r1,q1,rfl,okr1,okq1⟩:=Zcg (a:=issA rcO) (b:=Zcu rcO) ok4;obtain ⟨k1,q2,rfl,okk1,okq2⟩:=Zcg (a:=issA (Zcu rcO)) (b:=rcO3) okq1;obtain ⟨q3,r8,rfl,okq3,okr8⟩:=Zcg (a:=issA rcO3) (b:=Zcu rcO3) okq2;obtain ⟨q4,rfl,okq4⟩:=Zch (id:=1) (a:=rcB1) okq3;obtain ⟨r2,q5,rfl,okr2,okq5⟩:=Zcg (a:=issA rcB1) (b:=Zcu rcB1) okq4;obtain ⟨r3,q6,rfl,okr3,okq6⟩:=Zcg (a:=issA (Zcu rcB1)) (b:=Zcu (Zcu rcB1)) okq5;obtain ⟨q7,rfl,okq7⟩:=Zch (id:=2) (a:=issBk (Zcu (Zcu rcB1))) okq6;obtain ⟨cI,rfl,okI⟩:=Zci (a:=rcI) okq7;have i01:i=0∨i=1:=by omega
 have ar1:AR Tryz.prog (Zl7 G M A N none) (issA rcO) ⟨ouT mo l i,[]⟩ (fun e s=>e = .normal∧Yn s ⟨(9,.bool true)::ouT mo l i,[]⟩):=by
  have:(i:Int)<2:=(by omega);refine Yc Yb 1000 ?_;simp -implicitDefEqProofs[rcO,lpB,issA,issBk,Zcu,Z7w,ouT,this];exact (by (first|exact Yn.tm (by simp[lk,K2s])|exact Yn.sub (by simp[lk,Ya,AV.keys,K2s]) (by simp[lk,Yd,Ya,AV.keys,K2s])))
 refine wpIn_seq (wpIn_mono (ar1 r1 okr1 _ a A hfr) ?_);rintro e b1 B1 ⟨s1,⟨rfl,w1⟩,hs1⟩
 have ark:AR Tryz.prog (Zl7 G M A N none) (issA (Zcu rcO)) ⟨(9,.bool true)::ouT mo l i,[]⟩ (fun e s=>e = .normal∧Yn s ⟨ouT mo l i,[]⟩):=by
  refine Yc Yb 1000 ?_;simp -implicitDefEqProofs[rcO,lpB,issA,issBk,Zcu,Z7w,ouT];exact (by (first|exact Yn.tm (by simp[lk,K2s])|exact Yn.sub (by simp[lk,Ya,AV.keys,K2s]) (by simp[lk,Yd,Ya,AV.keys,K2s])))
 refine wpIn_seq (wpIn_mono (ark k1 okk1 _ b1 B1 (w1 _ _ _ hs1)) ?_);rintro e b2 B2 ⟨s2,⟨rfl,w2⟩,hs2⟩;refine wpIn_seq (wpIn_block ?_)
 have ar2:AR Tryz.prog (Zl7 G M A N none) (issA rcB1) ⟨ouT mo l i,[]⟩ (fun e s=>e = .normal∧Yn s ⟨(4,.ptr 4 0)::ouT mo l i,[(4,.box [K2s.getD i .nilf])]⟩):=by
  refine Yc Yb 1000 ?_;rcases i01 with rfl|rfl
  all_goals
   simp -implicitDefEqProofs[rcB1,rcO3,rcO,lpB,issA,issBk,Zcu,Z7w,ouT,K2s];exact (by (first|exact Yn.tm (by simp[lk])|exact Yn.sub (by simp[lk,Ya,AV.keys]) (by simp[lk,Yd,Ya,AV.keys])))
 refine wpIn_seq (wpIn_mono (ar2 r2 okr2 _ b2 B2 (w2 _ _ _ hs2)) ?_);rintro e b3 B3 ⟨s3,⟨rfl,w3⟩,hs3⟩
 have ar3:AR Tryz.prog (Zl7 G M A N none) (issA (Zcu rcB1)) ⟨(4,.ptr 4 0)::ouT mo l i,[(4,.box [K2s.getD i .nilf])]⟩ (fun e s=>e = .normal∧Yn s ⟨inT mo (Ls i) l i 0,[]⟩):=by
  have pL:=Zfc (l:=(Ls i).map sa) (by simp[sa,AV.pure]);have kL:=Zfd ((Ls i).map sa);refine Yc Yb 1000 ?_
  match mo,hml,hmo with
  | [x1,x2,x3,x4],_,hmo =>
    rcases i01 with rfl|rfl
    · simp -implicitDefEqProofs[rcB1,rcO3,rcO,lpB,issA,issBk,Zcu,Z7w,ouT,K2s,Zl7];refine Ye.of h0 (by simpa [AV.pure] using hmo) ?_;by_cases c:Ls 0=[]
      · simp -implicitDefEqProofs[Yh,c];simp only[inT,ouT,Yh,c]
        ((try simp only[K2s]);refine Yn.sub (by simp[lk,Ya,AV.keys,K2s]) ?_;simp only[K2s,Wkl,and_true];(try simp[lk,Yd,Ya,AV.keys,K2s]))
      · have ev:Yh ((Ls 0).map sa) = .vsl ((Ls 0).map sa):=(by simp[Yh,c]);simp -implicitDefEqProofs[ev];simp only[inT,ouT,ev]
        ((try simp only[K2s]);refine Yn.sub (by simp[lk,Ya,AV.keys,K2s]) ?_;simp only[K2s,Wkl,and_true];(try simp[lk,Yd,Ya,AV.keys,K2s]))
    · simp -implicitDefEqProofs[rcB1,rcO3,rcO,lpB,issA,issBk,Zcu,Z7w,ouT,K2s,Zl7];refine Ye.of h1 (by simpa [AV.pure] using hmo) ?_;by_cases c:Ls 1=[]
      · simp -implicitDefEqProofs[Yh,c];simp only[inT,ouT,Yh,c]
        ((try simp only[K2s]);refine Yn.sub (by simp[lk,Ya,AV.keys,K2s]) ?_;simp only[K2s,Wkl,and_true];(try simp[lk,Yd,Ya,AV.keys,K2s]))
      · have ev:Yh ((Ls 1).map sa) = .vsl ((Ls 1).map sa):=(by simp[Yh,c]);simp -implicitDefEqProofs[ev];simp only[inT,ouT,ev]
        ((try simp only[K2s]);refine Yn.sub (by simp[lk,Ya,AV.keys,K2s]) ?_;simp only[K2s,Wkl,and_true];(try simp[lk,Yd,Ya,AV.keys,K2s]))
 refine wpIn_seq (wpIn_mono (ar3 r3 okr3 _ b3 B3 (w3 _ _ _ hs3)) ?_);rintro e b4 B4 ⟨s4,⟨rfl,w4⟩,hs4⟩
 have pI:∀ j,∀ p∈inT mo (Ls i) l i j,p.2.pure=true:=fun j p hp=>by
  have pL:=Zfc (l:=(Ls i).map sa) (by simp[sa,AV.pure]);simp only[inT,ouT,List.mem_cons,List.not_mem_nil,or_false]at hp;rcases hp with rfl|rfl|rfl|rfl|rfl|rfl|rfl <;> simp[AV.pure,pL,K2s]
 obtain ⟨d4,n4,t4,e4⟩:=endG hs4 w4 (pI 0);have hJ4:=hJe _ _ _ _ hJ e4;clear hs1 hs2 hs3 hs4 w1 w2 w3 w4 ar1 ar2 ar3 ark start hact;refine wpIn_block ?_;refine wpIn_loop_ghost (fun m a A=>∃ j M,j≤(Ls i).length∧m=(Ls i).length-j∧J (off i+j) M A∧a.defers=[]∧a.tmps.size=N∧TT' M A (inT mo (Ls i) l i j) a) (Ls i).length ⟨0,M,Nat.zero_le _,rfl,hJ4,d4,n4,t4⟩ ?_;clear hJ4 d4 n4 t4 e4;rintro m5 a5 A5 ⟨j,M5,hj,rfl,hJ5,hd5,hn5,ht5⟩;have hfr5:SR (Zl7 G M5 A5 N none) ⟨inT mo (Ls i) l i j,[]⟩ a5 A5:=Zl8 (hJG _ M5 A5 hJ5) (hJM _ M5 A5 hJ5) hd5 hn5 ht5;have kN:off i+(Ls i).length=off (i+1):=by rw[hoff];rcases i01 with rfl|rfl <;> simp
 by_cases hj2:j<(Ls i).length
 case neg =>
  obtain rfl:j=(Ls i).length:=by omega
  have ar:AR Tryz.prog (Zl7 G M5 A5 N none) rcI ⟨inT mo (Ls i) l i (Ls i).length,[]⟩ (fun e s=>e = .exit 2∧Yn s ⟨ouT mo l i,[]⟩):=by
   refine Yc Yb 1000 ?_;simp -implicitDefEqProofs[rcI,rcB1,rcO3,rcO,lpB,issA,issBk,Zcu,Z7w,inT,ouT];exact (by (first|exact Yn.tm (by simp[lk,K2s])|exact Yn.sub (by simp[lk,Ya,AV.keys,K2s]) (by simp[lk,Yd,Ya,AV.keys,K2s])))
  refine wpIn_mono (ar cI okI _ a5 A5 hfr5) ?_;rintro e a6 A6 ⟨s6,⟨rfl,w6⟩,hs6⟩
  have ar8:AR Tryz.prog (Zl7 G M5 A5 N none) (Zcu rcO3) ⟨ouT mo l i,[]⟩ (fun e s=>e = .normal∧Yn s ⟨ouT mo l (i+1),[]⟩):=by
   have w1:IntKind.i64.wrap ((i:Int)+1)=((i+1:Nat):Int):=Yg (by omega) (by omega);refine Yc Yb 1000 ?_;simp -implicitDefEqProofs[rcO3,rcO,lpB,issA,issBk,Zcu,Z7w,ouT,w1];exact (by (first|exact Yn.tm (by simp[lk,K2s])|exact Yn.sub (by simp[lk,Ya,AV.keys,K2s]) (by simp[lk,Yd,Ya,AV.keys,K2s])))
  refine wpIn_mono (ar8 r8 okr8 _ a6 A6 (w6 _ _ _ hs6)) ?_;rintro e a7 A7 ⟨s7,⟨rfl,w7⟩,hs7⟩;obtain ⟨d7,n7,t7,e7⟩:=endG hs7 w7 (by simp[ouT,K2s,AV.pure]);rw[kN]at hJ5;exact ⟨2-(i+1),by omega,i+1,M5,by omega,rfl,hJe _ _ _ _ hJ5 e7,d7,n7,t7⟩
 obtain ⟨x,hx⟩ : ∃ x,x=(Ls i)[j]:=⟨_,rfl⟩;have hLj:(Ls i)[j]=x:=hx.symm;have hne:¬Ls i=[]:=fun h=>by rw[h]at hj2;simp at hj2
 have ev:Yh ((Ls i).map sa) = .vsl ((Ls i).map sa):=(by simp[Yh,hne]);have hsa:sa x=[.int .i64 x.fd,.int .i64 x.fl,.int .i64 x.td,.int .i64 x.tl,.int .i64 x.nu,.bool x.nt]:=rfl
 have helt:((Ls 0++Ls 1).map fun x=>AV.agg (sa x))[off i+j]? = some (.agg (sa x)):=by
  rw[hoff];rcases i01 with rfl|rfl
  · simp only[if_true,Nat.zero_add,List.getElem?_map];rw[List.getElem?_append_left hj2,List.getElem?_eq_getElem hj2,hLj];rfl
  · have eo:(if (1:Nat)=0 then 0 else if (1:Nat)=1 then (Ls 0).length else (Ls 0).length+(Ls 1).length)=(Ls 0).length:=rfl;show (List.map (fun x=>AV.agg (sa x)) (Ls 0++Ls 1))[(if (1:Nat)=0 then 0 else if (1:Nat)=1 then (Ls 0).length else (Ls 0).length+(Ls 1).length)+j]? = _;rw[eo,List.getElem?_map,List.getElem?_append_right (by omega),Nat.add_sub_cancel_left,List.getElem?_eq_getElem hj2,hLj];rfl
 obtain ⟨p1,u1,rfl,okp1,oku1⟩:=Zcg (a:=issA rcI) (b:=Zcu rcI) okI;obtain ⟨kk,u2,rfl,okkk,oku2⟩:=Zcg (a:=issA (Zcu rcI)) (b:=rcI3) oku1;obtain ⟨u3,r7,rfl,oku3,okr7⟩:=Zcg (a:=issA rcI3) (b:=Zcu rcI3) oku2;obtain ⟨u4,rfl,oku4⟩:=Zch (id:=3) (a:=rcB3) oku3;obtain ⟨r5,u5,rfl,okr5,oku5⟩:=Zcg (a:=issA rcB3) (b:=Zcu rcB3) oku4;obtain ⟨r6,k2,rfl,okr6,okk2⟩:=Zcg (a:=issA (Zcu rcB3)) (b:=Zcu (Zcu rcB3)) oku5;obtain ⟨ops,rfl,hops⟩:=Zcj (id:=6) (rs:=Zcv (issA (Zcu rcB3))) okr6;obtain ⟨hol,hoo⟩:=Zc hops;have hol:ops.size=4:=hol
 have ar4:AR Tryz.prog (Zl7 G M5 A5 N none) (issA rcI) ⟨inT mo (Ls i) l i j,[]⟩ (fun e s=>e = .normal∧Yn s ⟨(17,.bool true)::inT mo (Ls i) l i j,[]⟩):=by
  refine Yc Yb 1000 ?_;simp -implicitDefEqProofs[rcB3,rcI3,rcI,rcB1,rcO3,rcO,lpB,issA,issBk,Zcu,Z7w,inT,ouT,ev,hj2];exact (by (first|exact Yn.tm (by simp[lk,K2s])|exact Yn.sub (by simp[lk,Ya,AV.keys,K2s]) (by simp[lk,Yd,Ya,AV.keys,K2s])))
 refine wpIn_seq (wpIn_mono (ar4 p1 okp1 _ a5 A5 hfr5) ?_);rintro e b1 B1 ⟨s1,⟨rfl,w1⟩,hs1⟩
 have ark:AR Tryz.prog (Zl7 G M5 A5 N none) (issA (Zcu rcI)) ⟨(17,.bool true)::inT mo (Ls i) l i j,[]⟩ (fun e s=>e = .normal∧Yn s ⟨inT mo (Ls i) l i j,[]⟩):=by
  refine Yc Yb 1000 ?_;simp -implicitDefEqProofs[rcB3,rcI3,rcI,rcB1,rcO3,rcO,lpB,issA,issBk,Zcu,Z7w,inT,ouT,ev];exact (by (first|exact Yn.tm (by simp[lk,K2s])|exact Yn.sub (by simp[lk,Ya,AV.keys,K2s]) (by simp[lk,Yd,Ya,AV.keys,K2s])))
 refine wpIn_seq (wpIn_mono (ark kk okkk _ b1 B1 (w1 _ _ _ hs1)) ?_);rintro e b2 B2 ⟨s2,⟨rfl,w2⟩,hs2⟩;refine wpIn_seq (wpIn_block ?_)
 have ar5:AR Tryz.prog (Zl7 G M5 A5 N none) (issA rcB3) ⟨inT mo (Ls i) l i j,[]⟩ (fun e s=>e = .normal∧Yn s ⟨(6,.ptr 6 0)::inT mo (Ls i) l i j,[(6,.box (sa x))]⟩):=by
  refine Yc Yb 1000 ?_;simp -implicitDefEqProofs[rcB3,rcI3,rcI,rcB1,rcO3,rcO,lpB,issA,issBk,Zcu,Z7w,inT,ouT,ev,hj2,hLj,hsa];exact (by (first|exact Yn.tm (by simp[lk,K2s])|exact Yn.sub (by simp[lk,Ya,AV.keys,K2s]) (by simp[lk,Yd,Ya,AV.keys,K2s])))
 refine wpIn_seq (wpIn_mono (ar5 r5 okr5 _ b2 B2 (w2 _ _ _ hs2)) ?_);rintro e b3 B3 ⟨s3,⟨rfl,w3⟩,hs3⟩;have hs3:=w3 _ _ _ hs3;clear hs1 hs2 w1 w2 w3 ar4 ark ar5;refine wpIn_seq (wpIn_region ?_);have hrg:List.range ops.size=[0,1]++[2,3]:=(by rw[hol];rfl);rw[hrg]
 have okAt:∀ (k:Nat) (r:ROper),(Zcv (issA (Zcu rcB3)))[k]? = some r→∃ o,ops[k]? = some o∧Z1z Tryz.prog N ops o r=true:=fun k r hk=>by
  have hlt:k<ops.size:=by
   have:=(List.getElem?_eq_some_iff.1 hk).1;rw[hol];exact this
  exact ⟨ops[k],by simp[hlt],hoo k _ r (by simp[hlt]) hk⟩
 refine Zck (R:=Zl7 G M5 A5 N none) [2,3] _ ((Zcv (issA (Zcu rcB3))).take 2) ⟨(6,.ptr 6 0)::inT mo (Ls i) l i j,[(6,.box (sa x))]⟩
  (fun s=>Yn s ⟨(21,.agg (sa x))::(20,.func (.yield l) [] [])::inT mo (Ls i) l i j,[]⟩) b3 B3 ?_ rfl ?_ ?_ hs3
 · intro k r hk;rw[List.getElem?_take]at hk
   split at hk
   · rename_i h7;obtain ⟨o,h1,h2⟩:=okAt k r hk;refine ⟨k,o,?_,h1,h2⟩
     match k,h7 with
     |0,_|1,_=>rfl
   · cases hk
 · intro s4 b4 B4 w4 hs4;obtain ⟨κ4,hk4⟩:=w4 _ _ _ hs4
   obtain ⟨d4,n4,t4,e4⟩:=endG hs4 w4 (fun p hp=>by
    rcases List.mem_cons.1 hp with rfl|hp
    · simp[AV.pure,sa]
    · rcases List.mem_cons.1 hp with rfl|hp
      · simp[AV.pure]
      · exact pI j p hp)
   obtain ⟨o2,ho2,hk2⟩:=okAt 2 _ rfl;rw[wpOpsIn_cons];refine Zco (R:=Zl7 G M5 A5 N none) (l:=l) (f:=.t 20) (y:=.t 21) rfl (by simp[evA,St.tmp,lk]) (by simp[wants]) ho2 hk2 hk4 fun u hu=>?_
   have hpu:PV M5 B4 (.agg (sa x)) u:=by
    have h21:evA (Zl7 G M5 A5 N none).G ⟨(21,.agg (sa x))::(20,.func (.yield l) [] [])::inT mo (Ls i) l i j,[]⟩ (.t 21) = .agg (sa x):=(by simp[evA,St.tmp,lk]);rw[h21]at hu;exact (hu.toPV (by simp[AV.pure,sa])).mono (fun b _ hb=>⟨fun h=>hb (.inl h),rfl⟩) (Nat.le_refl _)
   have hdst:o2.dst=some 22:=by
    simp only[Z1z,Bool.and_eq_true,decide_eq_true_eq]at hk2;exact hk2.1.1.1
   have suffix:∀ (b:Bool) (T:List (Nat×AV)) (G':Nat→Option (List AV)) (M':Nat→Prop) (A':World),GR G' M' A'→(T=inT mo (Ls i) l i j∨T=[])→(∀ x,M' x→x<A'.heap.size)→TT' M' A' T b4→∀ (Qx:Exit→Act→World→Prop),
     (∀ a5 A5,SR (Zl7 G' M' A' N none) ⟨(23,.bool (!b))::T,[]⟩ a5 A5→Qx .normal a5 A5)→wpOpsIn (FW none) n' Tryz.prog ops Qx [3] (b4.put (some 22) (.bool b)) A':=by
    intro b T G' M' A' hGR hTT hM' hT Qx hQx;have n22:22<N:=by rw[hN];decide
    have hsr:SR (Zl7 G' M' A' N none) ⟨(22,.bool b)::T,[]⟩ (b4.put (some 22) (.bool b)) A':=by
     refine Zl8 hGR hM' d4 (by simpa [Act.put] using n4) fun k x hx=>?_
     show PV M' A' x ((b4.tmps.setIfInBounds 22 (.bool b)).getD k Go.undef);simp only[lk]at hx
     split at hx
     · rename_i e;subst e
       cases hx
       have:(b4.tmps.setIfInBounds 22 (.bool b)).getD 22 Go.undef = .bool b:=(by simp[Array.getD,n4,n22]);rw[this];exact .bool b
     · rename_i e
       have h3:(b4.tmps.setIfInBounds 22 (.bool b)).getD k Go.undef=b4.tmps.getD k Go.undef:=by
        simp only[Array.getD_eq_getD_getElem?,Array.getElem?_setIfInBounds,if_neg e]
       rw[h3];exact hT k x hx
    refine Z27 (R:=Zl7 G' M' A' N none) [3] ((Zcv (issA (Zcu rcB3))).drop 3) ⟨(22,.bool b)::T,[]⟩
     (fun e s=>e = .normal∧Yn s ⟨(23,.bool (!b))::T,[]⟩) Qx _ A' ?_ rfl ?_ ?_ hsr
    · intro k r hk;rw[List.getElem?_drop]at hk;obtain ⟨o,h1,h2⟩:=okAt (3+k) r hk
      have h7:k<1:=by
       have:=(List.getElem?_eq_some_iff.1 hk).1;have e:(Zcv (issA (Zcu rcB3))).length=4:=rfl;omega
      refine ⟨3+k,o,?_,h1,h2⟩
      match k,h7 with
      |0,_=>rfl
    · rintro e s5 a5 A5 ⟨rfl,w5⟩ hs5;exact hQx a5 A5 (w5 _ _ _ hs5)
    · rcases hTT with rfl|rfl <;> cases b
      all_goals
       simp -implicitDefEqProofs[rcB3,rcI3,rcI,rcB1,rcO3,rcO,lpB,issA,issBk,Zcu,Z7w,inT,ouT,Zcv,ev];exact (by (first|exact Yn.tm (by simp[lk,K2s])|exact Yn.sub (by simp[lk,Ya,AV.keys,K2s]) (by simp[lk,Yd,Ya,AV.keys,K2s])))
   obtain ⟨fn,tm,asg,bo,y1,y2⟩:=hY (off i+j) _ u M5 B4 (hJe _ _ _ _ hJ5 e4) helt hpu;refine ⟨fn,tm,asg,bo,y1,y2.mono ?_⟩;rintro e A' (⟨rfl,M',hJ',hSi⟩ | ⟨rfl,hK'⟩)
   · show wpOpsIn (FW none) n' Tryz.prog ops _ [3] (b4.put o2.dst (.bool true)) A';rw[hdst]
     have hT':TT' M' A' (inT mo (Ls i) l i j) b4:=fun k x hx=>by
      refine (t4 k x ?_).mono hSi.2 hSi.1;simp only[lk];rw[if_neg (by rintro rfl;simp[inT,ouT,lk]at hx),if_neg (by rintro rfl;simp[inT,ouT,lk]at hx)];exact hx
     refine suffix true _ G M' A' (hJG _ _ _ hJ') (.inl rfl) (hJM _ _ _ hJ') hT' _ fun a5 A5 h5=>?_
     have ark2:AR Tryz.prog (Zl7 G M' A' N none) (Zcu (Zcu rcB3)) ⟨(23,.bool (!true))::inT mo (Ls i) l i j,[]⟩ (fun e s=>e = .normal∧Yn s ⟨inT mo (Ls i) l i j,[]⟩):=by
      refine Yc Yb 1000 ?_;simp -implicitDefEqProofs[rcB3,rcI3,rcI,rcB1,rcO3,rcO,lpB,issA,issBk,Zcu,Z7w,inT,ouT,ev];exact (by (first|exact Yn.tm (by simp[lk,K2s])|exact Yn.sub (by simp[lk,Ya,AV.keys,K2s]) (by simp[lk,Yd,Ya,AV.keys,K2s])))
     refine wpIn_mono (ark2 k2 okk2 _ a5 A5 h5) ?_;rintro e b6 B6 ⟨s6,⟨rfl,w6⟩,hs6⟩
     have ar7:AR Tryz.prog (Zl7 G M' A' N none) (Zcu rcI3) ⟨inT mo (Ls i) l i j,[]⟩ (fun e s=>e = .normal∧Yn s ⟨inT mo (Ls i) l i (j+1),[]⟩):=by
      have hli:=hl i;have w1:IntKind.i64.wrap ((j:Int)+1)=((j+1:Nat):Int):=Yg (by omega) (by omega);refine Yc Yb 1000 ?_;simp -implicitDefEqProofs[rcB3,rcI3,rcI,rcB1,rcO3,rcO,lpB,issA,issBk,Zcu,Z7w,inT,ouT,ev,w1];exact (by (first|exact Yn.tm (by simp[lk,K2s])|exact Yn.sub (by simp[lk,Ya,AV.keys,K2s]) (by simp[lk,Yd,Ya,AV.keys,K2s])))
     refine wpIn_mono (ar7 r7 okr7 _ b6 B6 (w6 _ _ _ hs6)) ?_;rintro e b7 B7 ⟨s7,⟨rfl,w7⟩,hs7⟩;obtain ⟨d7,n7,t7,e7⟩:=endG hs7 w7 (pI (j+1));exact ⟨(Ls i).length-(j+1),by omega,j+1,M',by omega,rfl,hJe _ _ _ _ hJ' e7,d7,n7,t7⟩
   · show wpOpsIn (FW none) n' Tryz.prog ops _ [3] (b4.put o2.dst (.bool false)) A';rw[hdst];refine suffix false [] (fun _=>none) (fun _=>False) A' (fun g cs hg=>by cases hg) (.inr rfl) (fun _ h=>h.elim) (fun k x hx=>by simp[lk]at hx) _ fun a5 A5 h5=>?_
     have ark2:AR Tryz.prog (Zl7 (fun _=>none) (fun _=>False) A' N none) (Zcu (Zcu rcB3)) ⟨[(23,.bool (!false))],[]⟩ (fun e s=>e = .ret∧Yn s ⟨[],[]⟩):=by
      refine Yc Yb 1000 ?_;simp -implicitDefEqProofs[rcB3,rcI3,rcI,rcB1,rcO3,rcO,lpB,issA,issBk,Zcu,Z7w,inT,ouT];exact (by (first|exact Yn.tm (by simp[lk])|exact Yn.sub (by simp[lk,Ya,AV.keys]) (by simp[lk,Yd,Ya,AV.keys])))
     refine wpIn_mono (ark2 k2 okk2 _ a5 A5 h5) ?_;rintro e b6 B6 ⟨s6,⟨rfl,w6⟩,hs6⟩;obtain ⟨d6,-,-,e6⟩:=endG hs6 w6 (by simp);exact (hfin b6 B6 d6 (.inr (hKe _ _ hK' e6))).1
 · simp -implicitDefEqProofs[rcB3,rcI3,rcI,rcB1,rcO3,rcO,lpB,issA,issBk,Zcu,Z7w,inT,ouT,Zcv,ev,hsa];exact (by (first|exact Yn.tm (by simp[lk,K2s])|exact Yn.sub (by simp[lk,Ya,AV.keys,K2s]) (by simp[lk,Yd,Ya,AV.keys,K2s])))
end
theorem Zla {r:List Iss} {l:List Nte} {q:List Rul} {s:List Int} {m day:Int} (h:chS r l q=0):(st5 r l q s m day).length≤100:=by
 obtain ⟨hN,hR⟩:=Zit h;have h1:=Zib (Zi9 hN);have h2:=Ziu hR;have h3:=ZiJ (stF r l s m day) (dyN day l) (dyN day l).length (Nat.le_refl _);have h4:=ZiK day q q.length (Nat.le_refl _);have h5:=Ziw day l;unfold st5;rw[List.length_append];omega
section
variable {G:Nat→Option (List AV)}
end
theorem Zlb (E:List (Rf×Rf)) (y:Rf):(lnC E y).pure=true:=by simp[lnC,AV.pure,knA]
theorem Zlc (E:List (Rf×Rf)) (y:Rf):(lnC E y).keys=[]:=by simp[lnC,AV.keys]
def rcL (r:List Iss) (L:List Stq) (t:Bool) (x:Rf):List Rf:=(rfs r).filter fun y=>!decide (diV (edT t L) x y=1048576)
theorem dlO_V (κ:Nat) (p:Rf→Bool) (l:List Rf) (ok:Nat→Bool) (st:St) (hg:st.get κ=some (.row 2 (dlO p l))) (hk:ok κ=true):Yi ok st 6 (dlV κ p l)=some (.vsl ((l.filter fun x=>!p x).map ita)):=by
 have hp:∀ l:List Rf,(l.map ita).all (fun r=>r.all AV.pure)=true:=fun l=>by simp[ita,AV.pure]
 have hfl:(l.filter fun x=>!p x).length≤l.length:=List.length_filter_le _ _;unfold dlV dlO at *
 cases ha:l.any p with
 | true =>
   rw[ha]at hg;simp only[if_true]at hg ⊢;have hlen:((l.filter fun x=>!p x).map ita++List.replicate (l.length-(l.filter fun x=>!p x).length) zrF).length=l.length:=(by simp;omega);have ht:List.take (l.filter fun x=>!p x).length ((l.filter fun x=>!p x).map ita++List.replicate (l.length-(l.filter fun x=>!p x).length) zrF)=(l.filter fun x=>!p x).map ita:=List.take_left' (by simp);simp only[Yi,hg,hk,hlen,and_self,if_true,ht,List.drop_zero,hp]
 | false =>
   rw[ha]at hg;simp only[Bool.false_eq_true,if_false]at hg ⊢
   have e:(l.filter fun x=>!p x)=l:=by
    rw[List.filter_eq_self];intro x hx;rw[List.any_eq_false]at ha;simpa using ha x hx
   simp only[Yi,hg,hk,List.length_map,and_self,if_true,hp,e]
section
variable {G:Nat→Option (List AV)}
theorem Zld (hG:GC G) (hN:GN G) (hQ:GQ G) (r:List Iss) (l:List Nte) (q:List Rul) (s:List Int) (m day:Int) (hw:WfN l) (hr:Wf r) (hq:Sml q) (hs:Sml s) (h:chS r l q=0) (ht:truB l s=true) :
  IterG Tryz.prog G 81 [.vptr (moC r l q s m day) 0] ((st5 r l q s m day).map fun x=>.agg (sa x)):=by
 obtain ⟨hN0,hR⟩:=Zit h;have hB:=Zi9 hN0;have h12:=Zib hB;have h16:=Ziu hR;have pS:(Yl r l q).pure=true:=(by unfold Yl rfA;split <;> simp[AV.pure,isa,na,ra,rfa]);have hn:=Zjk hG hN r l q s m day hw hr h12 hs (dyK day l) (Zjx day l) Zjz (fun h=>ZjA h);have hru:=Zjo (G:=G) r l q s m day h16;have e:=ZjH (m:=m) (day:=day) h ht;have l1:=Zjc (fcE r (l.take (dyK day l)) (sortI (tnN l s (dyK day l))) m).1 (l.take (dyK day l)) (l.take (dyK day l)).length (Nat.le_refl _);have l2:=Zjn day q q.length (Nat.le_refl _);have l3:(l.take (dyK day l)).length≤12:=(by simp;omega);rw[← e];generalize nsP (fcE r (l.take (dyK day l)) (sortI (tnN l s (dyK day l))) m).1 (l.take (dyK day l)) (l.take (dyK day l)).length=A at *;generalize rsP day q q.length=B at *;exact Zl9 hQ (moC r l q s m day) (by simp[moC,pS,AV.pure]) rfl (fun i=>if i=0 then A else B) (fun i=>by show (if i=0 then A else B).length≤100;split <;> omega) hn hru
theorem Zle (E:List (Rf×Rf)) (x:Rf) (d e:Int):PC Tryz.prog G 100 [.agg [.int .i64 d,.int .i64 e],.vptr [lnF E x] 0] (.bool (decide (diV E x (d,e)=1048576))):=by
 have hv:=ZkG (G:=G) E x d e;have pC:=Zlb E x;replace hv:PC Tryz.prog G 95 [.agg [.int .i64 d,.int .i64 e],lnC E x] _:=hv;unfold lnF;generalize lnC E x=C at *;generalize diV E x (d,e)=D at *
 (refine Z6K rfl fun R hG hrd=>Yc Yb 1000 ?_;subst hG)
 simp -implicitDefEqProofs[Z6I,Z6J];refine Ye.of hv (by simp[pC,AV.pure]) ?_;simp -implicitDefEqProofs[]
end
theorem Zlf {r:List Iss} (h:r≠[]):rfA r = .vsl ((rfs r).map ita):=by rw[rfA,if_neg h,ZjS]
theorem Zlg (ρ:Nat→Nat) (p:Rf→Bool) (l:List Rf):(AObj.row 2 (dlO p l)).ren ρ = .row 2 (dlO p l):=by
 refine AObj.ren_pure ?_;unfold dlO
 split <;> simp[ita,zrF,AV.pure]
theorem Zlh (κ:Nat) (p:Rf→Bool) (l:List Rf):(dlV 1000 p l).ren (fun _=>κ)=dlV κ p l:=by
 unfold dlV
 split <;> simp[AV.ren]
def rcD (E:List (Rf×Rf)) (x:Rf):Rf→Bool:=fun y=>decide (diV E x y=1048576)
section
variable {G:Nat→Option (List AV)}
set_option maxHeartbeats 1000000 in
theorem Zli (hG:GC G) (hN:GN G) (hQ:GQ G) (r:List Iss) (l:List Nte) (q:List Rul) (s:List Int) (m day x1 x2:Int) (t:Bool) (hw:WfN l) (hr:Wf r) (hq:Sml q) (hs:Sml s) (h:chS r l q=0) (ht:truB l s=true) (hne:r≠[]) (h80:r.length≤1000) :
  PC Tryz.prog G 65 [.agg (moC r l q s m day),.agg [.int .i64 x1,.int .i64 x2],.bool t] (.vsl ((rcL r (st5 r l q s m day) t (x1,x2)).map ita)):=by
 have pS:(Yl r l q).pure=true:=(by unfold Yl rfA;split <;> simp[AV.pure,isa,na,ra,rfa]);have pM:(AV.vptr (moC r l q s m day) 0).pure=true:=(by simp[AV.pure,moC,pS]);have hlen:=Zla (s:=s) (m:=m) (day:=day) h;have hf:=Zl6 (G:=G) r l q s m day;have hc:=Zl5 _ _ _ (by simpa using pM) (Zld hG hN hQ r l q s m day hw hr hq hs h ht) hlen;have hln:=PC.sub (ZkH (G:=G) (st5 r l q s m day) t x1 x2 (by omega)) (xs:=[Yh ((st5 r l q s m day).map sa),.agg [.int .i64 x1,.int .i64 x2],.bool t]) ⟨.orNil _,.rfl',.rfl',trivial⟩;have hv:=fun d e=>Zle (G:=G) (edT t (st5 r l q s m day)) (x1,x2) d e
 have pV:=Zfc (l:=(st5 r l q s m day).map sa) (by simp[sa,AV.pure]);have kV:=Zfd ((st5 r l q s m day).map sa);have hres:rcL r (st5 r l q s m day) t (x1,x2)=(rfs r).filter fun y=>!rcD (edT t (st5 r l q s m day)) (x1,x2) y:=rfl
 rw[hres];have hD:∀ d e,rcD (edT t (st5 r l q s m day)) (x1,x2) (d,e)=decide (diV (edT t (st5 r l q s m day)) (x1,x2) (d,e)=1048576):=fun d e=>rfl
 simp only[← hD]at hv;have eF:lnF (edT t (st5 r l q s m day)) (x1,x2) = .func (.func 95) [] [lnC (edT t (st5 r l q s m day)) (x1,x2)]:=rfl;rw[eF]at hln hv;have pC:=Zlb (edT t (st5 r l q s m day)) (x1,x2);have kC:=Zlc (edT t (st5 r l q s m day)) (x1,x2)
 have sC:∀ ok st n,Yi ok st n (lnC (edT t (st5 r l q s m day)) (x1,x2))=some (lnC (edT t (st5 r l q s m day)) (x1,x2)):=fun ok st n=>by
  have:=pC;unfold lnC at *
  cases n <;> simp[Yi,this]
 have rC:=fun ρ=>AV.ren_pure (ρ:=ρ) _ pC
 generalize lnC (edT t (st5 r l q s m day)) (x1,x2)=C at *;generalize Yh ((st5 r l q s m day).map sa)=V at *;generalize hp:rcD (edT t (st5 r l q s m day)) (x1,x2)=p at *;have hcl:=ZkT (G:=G) (rfs r) (by simpa [rfs] using hne) (by unfold Sml;simp[rfs];omega);have hdl:=ZkU (G:=G) 100 [.func (.func 95) [] [C]] p (rfs r) (by simp[AV.pure,pC]) (by simp[AV.keys,kC]) (by simpa [rfs] using h80) (fun y _=>hv y.1 y.2);have pRF:(AV.vsl ((rfs r).map ita)).pure=true:=(by simp[AV.pure,ita]);have lRF:(rfs r).length=r.length:=(by simp[rfs]);obtain ⟨cs,eS⟩ : ∃ cs,Yl r l q = .vptr cs 0:=⟨_,rfl⟩
 have eC:cs=[.vsl (r.map isa),.vsl (l.map na),.vsl (q.map ra),.vsl ((rfs r).map ita)]:=by
  unfold Yl at eS;rw[Zlf hne]at eS;injection eS with e1 _
  exact e1.symm
 refine Z6H rfl fun R hG hrd=>Yc Yb 6 ?_
 subst hG;unfold moC at *;rw[eS]at hf hc pS pM ⊢;simp -implicitDefEqProofs[Z6F,Z6G];refine Yf.of hf (by simp[AV.pure]at pS ⊢;try simp[pS]) ?_;simp -implicitDefEqProofs[];refine Yf.of hc (by simp[AV.pure]at pS ⊢;try simp[pS]) ?_;simp -implicitDefEqProofs[];refine Yf.of hln (by simp[pV,AV.pure]) ?_;simp -implicitDefEqProofs[kC,kV];refine ⟨rfl,GO0 (Z2M (st':=⟨[(7,.vptr [.func (.func 95) [] [C]] 0),(3,.ptr 3 0)],[(3,.box [.vptr cs 0,.vsl (s.map ia),.int .i64 m,.int .i64 day])]⟩) (Yn.trans (Yn.frz (fun k=>k == 7) _) ?_) ?_)⟩
 · ((try simp only[Yj,frzA,frzO,frz,Yi,Yk,St.get,AV.pure,sC,pC,kC]);refine Yn.sub (by simp[lk,Ya,AV.keys,Yj,frzA,frzO,frz,Yi,Yk,St.get,AV.pure,sC,pC,kC]) ?_;simp only[Yj,frzA,frzO,frz,Yi,Yk,St.get,AV.pure,sC,pC,kC,Wkl,and_true];(try simp[lk,Yd,Ya,AV.keys,Yj,frzA,frzO,frz,Yi,Yk,St.get,AV.pure,sC,pC,kC]))
 subst eC;refine Yc Yb 1000 ?_;simp -implicitDefEqProofs[];refine Ye.sem (Z1B.objs hcl (fun _=>19) (by simp) (by simp[St.get,lk]) (by simp[AV.pure,ita]) rfl rfl) ?_;simp -implicitDefEqProofs[AV.ren,Ym,Zdi];refine Ye.sem (Z1B.byref hdl (fun _=>19) (by simp) (by simp) (by simp[St.get,lk,Zdi]) (by simp[ZjT]) (by simp[Ya,AV.keys,lk,kC]) rfl (by simp[AV.ren,rC]) rfl rfl) ?_;have hsn:=fun ok st hg hk=>dlO_V 19 p (rfs r) ok st hg hk
 simp -implicitDefEqProofs[Ym,Zlg,Zlh];refine Z2N Yb 1000 ?_;simp -implicitDefEqProofs[];rw[hsn _ _ (by simp[St.get,lk]) rfl];exact ⟨_,rfl,rfl⟩
end
theorem Zlj {r:List Iss} {l:List Nte} {q:List Rul} (h:chS r l q=0):r.length≤60∧l.length≤16∧(l.map (·.nu)).Nodup∧q.length≤16:=by
 obtain ⟨h1,h2⟩:=Zit h;have hB:=Zi9 h1;exact ⟨Zkd (Zkh h),by have:=Zib hB;omega,ZhL hB,Ziu h2⟩
theorem Zlk (r:List Iss):(rfs r).length=r.length:=by simp[rfs]
section
variable {G:Nat→Option (List AV)}
theorem Zll (r:List Iss) (l:List Nte) (q:List Rul) (s:List Int) (m day y1 y2:Int) (h:chS r l q=0) (hy:(y1,y2)∈rfs r) :
  PC Tryz.prog G 63 [.vsl ((rfs r).map ita),Yh ((st5 r l q s m day).map sa),.agg [.int .i64 y1,.int .i64 y2]] (.vsl (((rfs r).map (diV (edg (st5 r l q s m day)) (y1,y2))).map ia)):=by
 have hl:=Zlj h;have hn:=Zlk r;have hlen:=Zla (s:=s) (m:=m) (day:=day) h;exact PC.sub (Zk5 (G:=G) (rfs r) (st5 r l q s m day) y1 y2 (by omega) (by omega) (Zk9 (Zkh h)) hy (Zkg h)) ⟨.rfl',.orNil _,.rfl',trivial⟩
def acM (l:List Rf):List (List AV):=l.map ita
theorem Zlm (l:List Rf) (x:Rf):acM (l++[x])=acM l++[[.int .i64 x.1,.int .i64 x.2]]:=by simp[acM,ita]
theorem Zln (l:List Rf):(acM l).length=l.length:=List.length_map _
theorem Zlo (o:List (Nat×AObj)) (l:List Rf):Yd o (.row 2 (acM l))=true:=ZjT o l
theorem Zlp (l:List Rf):(acM l).all (fun r=>r.all AV.pure)=true:=by simp[acM,ita,AV.pure]
def pcS (sw:AV) (y:Rf) (l:List Rf) (NL:List Int) (acc:List Rf) (i:Nat):St :=
 if acc=[] then ⟨[(14,.int .i64 i),(13,.vsl (NL.map ia)),(12,.vsl (l.map ita)),(11,.nils)],[]⟩
 else ⟨[(14,.int .i64 i),(13,.vsl (NL.map ia)),(12,.vsl (l.map ita)),(11,.osl 44 acc.length)],[(44,.row 2 (acM acc))]⟩
set_option maxHeartbeats 1000000 in
theorem Zlq (r:List Iss) (l:List Nte) (q:List Rul) (s:List Int) (m day b1 b2:Int) (hw:WfN l) (hr:Wf r) (hs:Sml s) (h:chS r l q=0) (hB:(b1,b2)∈rfs r) :
  PC Tryz.prog G 66 [swa r l q,.vsl (s.map ia),.int .i64 m,.int .i64 day,.agg [.int .i64 b1,.int .i64 b2]] (Yh ((rcL r (st5 r l q s m day) false (b1,b2)).map ita)):=by
 obtain ⟨h1,h2,h3,h4⟩:=Zlj h;have hn:=Zlk r;have hne:r≠[]:=(by rintro rfl;simp[rfs]at hB);have hR:=ZjW (G:=G) r hr.1.1;have hS:=ZiP (G:=G) r l q s m day hw hr h4 hs h3 h2;have hL:=Zll (G:=G) r l q s m day b1 b2 h hB;rw[Zlf hne]at hR;have pV:=Zfc (l:=(st5 r l q s m day).map sa) (by simp[sa,AV.pure]);have kV:=Zfd ((st5 r l q s m day).map sa);have hlen:=Zla (s:=s) (m:=m) (day:=day) h;have hE:(edg (st5 r l q s m day)).length≤1000:=(by simp[edg];omega);have hfin:rcL r (st5 r l q s m day) false (b1,b2)=dlK (rcD (edg (st5 r l q s m day)) (b1,b2)) (rfs r) (rfs r).length:=(by rw[ZkJ];rfl);rw[hfin];generalize Yh ((st5 r l q s m day).map sa)=V at *;generalize edg (st5 r l q s m day)=E at *;have e1:∀ i (h:i<(rfs r).length),((rfs r).map (diV E (b1,b2)))[i]? = some (diV E (b1,b2) (rfs r)[i]):=fun i h=>by rw[List.getElem?_map,List.getElem?_eq_getElem h];rfl
 have lN:((rfs r).map (diV E (b1,b2))).length=(rfs r).length:=(by simp);generalize (rfs r).map (diV E (b1,b2))=NL at *;generalize rfs r=l0 at *;unfold swa at *
 (refine Z6y rfl fun R hG hrd=>Yc Yb 1000 ?_;subst hG)
 simp -implicitDefEqProofs[Z6w,Z6x]
 (first|refine Ye.of (hR) (by simp) ?_|refine Yf.of (hR) (by simp) ?_)
 simp -implicitDefEqProofs[];refine Yf.of hS (by simp[AV.pure,isa,na,ra]) ?_;simp -implicitDefEqProofs[];refine Yf.of hL (by simp[AV.pure,ita,pV]) ?_;simp -implicitDefEqProofs[kV];refine ⟨rfl,?_⟩;refine ZaV (fun i=>pcS .nils (b1,b2) l0 NL (dlK (rcD E (b1,b2)) l0 i) i) (fun _=>True) l0.length ?_ trivial ?_ ?_
 · have e0:dlK (rcD E (b1,b2)) l0 0=[]:=rfl;simp only[e0,pcS,if_true]
   (refine Yn.sub (by simp[lk,Ya,AV.keys]) ?_;simp only[Wkl,and_true];(try simp[lk,Yd,Ya,AV.keys]))
 · intro i hi _;have hs:=ZkK (p:=rcD E (b1,b2)) hi;have w1:IntKind.i64.wrap ((i:Int)+1)=(i:Int)+1:=Yg (by omega) (by omega);obtain ⟨q1,g1⟩:=List.getElem?_eq_some_iff.1 (e1 i hi);have hle:=ZjP (y:=(b1,b2)) (x:=l0[i]) hE;have al:=ZkI (p:=rcD E (b1,b2)) (l:=l0) (j:=i);have hp:rcD E (b1,b2) l0[i]=decide (diV E (b1,b2) l0[i]=1048576):=rfl;rw[hp]at hs;generalize diV E (b1,b2) l0[i]=D at *;generalize dlK (rcD E (b1,b2)) l0 i=acc at *;have bb:(acc.length+1)*16≤70368744177664:=(by omega);have lnm:=Zln acc;have tk:=Zlm acc l0[i];refine Yc Yb 1000 ?_;by_cases hD:D=1048576
   · have hlt:¬D<1048576:=(by omega);simp only[hD,decide_true,if_true]at hs;by_cases cx:acc=[]
     · simp -implicitDefEqProofs[pcS,cx,hi,lN,g1,ia,hlt,w1,hs]
       (refine Yn.sub (by simp[lk,Ya,AV.keys]) ?_;simp only[Wkl,ZjT,and_true];(try simp[lk,Yd,Ya,AV.keys]))
     · simp -implicitDefEqProofs[pcS,cx,hi,lN,g1,ia,hlt,w1,hs]
       (refine Yn.sub (by simp[lk,Ya,AV.keys]) ?_;simp only[Wkl,Zlo,and_true];(try simp[lk,Yd,Ya,AV.keys]))
   · have hlt:D<1048576:=(by omega);simp only[hD,decide_false,Bool.false_eq_true,if_false]at hs;by_cases cx:acc=[]
     · rw[cx,List.nil_append]at hs;have tk0:acM [l0[i]]=[[.int .i64 l0[i].1,.int .i64 l0[i].2]]:=rfl;simp -implicitDefEqProofs[pcS,cx,hi,lN,g1,ia,hlt,w1,hs,ita];rw[← tk0]
       (refine Yn.sub (by simp[lk,Ya,AV.keys]) ?_;simp only[Wkl,Zlo,and_true];(try simp[lk,Yd,Ya,AV.keys]))
     · simp -implicitDefEqProofs[pcS,cx,hi,lN,g1,ia,hlt,w1,hs,ita,bb,lnm];rw[← tk]
       (refine Yn.sub (by simp[lk,Ya,AV.keys]) ?_;simp only[Wkl,Zlo,and_true];(try simp[lk,Yd,Ya,AV.keys]))
 · intro _;generalize dlK (rcD E (b1,b2)) l0 l0.length=acc at *;have k5:=Zlp acc;have k6:acc.map ita=acM acc:=rfl;have k7:=Zln acc;rw[k6];refine Yc Yb 1000 ?_;by_cases cx:acc=[]
   · simp -implicitDefEqProofs[pcS,cx];refine Z2N Yb 1000 ?_;have e0:acM []=[]:=rfl;simp -implicitDefEqProofs[cx,Yh,e0]
   · have e0:¬acM acc=[]:=fun h=>cx (by simpa [acM] using h)
     simp -implicitDefEqProofs[pcS,cx];refine Z2N Yb 1000 ?_;simp -implicitDefEqProofs[cx,Yh,k5,k7,e0]
end
end Go.Proofs.YtpkfmfkccbnnjaaGreatDoor
