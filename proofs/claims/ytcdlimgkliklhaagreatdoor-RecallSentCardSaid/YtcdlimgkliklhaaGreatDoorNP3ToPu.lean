/-
  What the program's copied computes where there are no prints.
-/
import Derived.Test.YtcdlimgkliklhaaGreatDoorNQzToP2
set_option linter.all false
set_option maxHeartbeats 8000000
namespace Go.Proofs.YtcdlimgkliklhaaGreatDoor
open Go.Proofs.Tryz (prog)
open IntKind (i64)
open Go.RowKit
variable {G:Jg}
def cpS (O F:AV) (B:List (List AV)) (r:Jr) (i:Nat):St :=
 ⟨[(31,.int .i64 i),(30,.int .i64 r.length),(29,.vsl (r.map isa)),(3,.ptr 3 0),(2,.ptr 2 0),(0,O)],coO r i++[(3,.box [coV i,.vsl B,.nils,F]),(2,.box [.nils,.nils,.nils,.nils])]⟩
def cpT (O F:AV) (B:List (List AV)) (r:Jr) (hs H:Jh) (i:Nat):St :=
 ⟨[(60,.int .i64 i),(59,.int .i64 hs.length),(58,.vsl (hs.map hoa)),(3,.ptr 3 0),(2,.ptr 2 0),(0,O)],[(3,.box [.vsl (r.map isa),.vsl B,hlV 72 H,F]),(2,.box [.nils,.nils,.nils,.nils])]++hlO 72 H⟩
def ZnP:PC prog G 155 [.vsl []] (.vsl []):=by
 refine Za9 Tryz.func155 rfl (by kernel_rfl) (rc:=ZfD) (by kernel_rfl) (rs:=ZfE) (by kernel_rfl) (W0C rfl) λR _ hG hrd=>Qga ?_
 simp -implicitDefEqProofs[ZfD,ZfE,FinZ,nz]
def ZnQ (r:Jr) (l:Jl) (hs:Jh) (F:AV) (hF:F = .nils∨F = .vsl []) (cP:PC prog G 155 [F] F) (hr:Wf r) (hl:Sml l) (hw:WfP hs []) (hne:r≠[]) (h80:r.length<=80) :
  PC prog G 101 [ofE r l hs F] (.agg [.vsl (r.map isa),.vsl (l.map na),Yg (hs.map hoa),F]):=by
 have pF:F.pure=true:=by rcases hF with e|e <;> rw[e] <;> simp[AV.pure]
 have kF:F.keys=[]:=AV.pure_keys _ pF;have hhl:=hw.hl;have hdl:=hw.dl;have cN:=ZnJ (G:=G) l hl;have hI:=λx (hx:x∈r)=>hr.1.2 x hx
 obtain ⟨B,hB⟩:=Qex (l.map na);obtain ⟨N,hN⟩:=Qex (AV.vsl B);have pN:N.pure=true:=(by rw[hN,hB];simp[AV.pure,na]);have kN:=AV.pure_keys _ pN;obtain ⟨cs,hO,hc0,hc1,hc2,hc3⟩ : ∃ cs,ofE r l hs F = .vptr cs 0/\cs[0]? = some (.vsl (r.map isa))/\cs[1]? = some (.vsl B)/\cs[2]? = some (.vsl (hs.map hoa))/\cs[3]? = some F:=⟨_,rfl,rfl,by rw[hB];rfl,rfl,rfl⟩;have pO:=ZnM r l hs F pF;rw[hO]at pO ⊢;have kO:=AV.pure_keys _ pO;have rN:=λρ=>AV.ren_pure (ρ:=ρ) N pN
 rw[<- hB]at cN ⊢;rw[hN]at pN kN rN
 (refine Znb rfl λR hG hrd=>Qga ?_;subst hG)
 simp -implicitDefEqProofs[Zn9,Zna,hc0,hc1,hc2,hc3];refine Qco (cN) ?_;simp -implicitDefEqProofs[hc0,hc1,hc2,hc3];rcases hF with eF|eF
 all_goals
  refine Ye.of cP (by simp[pF]) ?_;simp -implicitDefEqProofs[eF,hc0,hc1,hc2,hc3];refine ⟨rfl,?_⟩;refine Z8a (cpS (.vptr cs 0) F B r) (λ_=>True) r.length ?_ trivial ?_ ?_
  . simp only[eF,cpS,coV,coO,if_true,W18]
    ((try simp only[kF,eF]);refine Ym.sub (by simp[lk,Ya,AV.keys,kF,eF]) ?_;simp only[kF,eF,Wkl,and_true];(try simp[lk,Yc,Ya,AV.keys,kF,eF]))
  . intro i hi _;have wi:i64.wrap ((i:Int)+1)=(i:Int)+1:=Yf;have sc:=ZnF hi;have hx2:=hI _ (W0e hi);obtain ⟨x,hx⟩:=Qex (r[i]);have hax:isa r[i]=[.int .i64 x.d,.int .i64 x.l,.int .u8 x.k,.vsl (x.its.map ita),.vsl (x.dms.map dma)]:=(by rw[<- hx];rfl);rw[<- hx]at hx2;rw[hax]at sc;have c1:=ZnD (G:=R.G) x.its hx2.1;have c2:=ZnE (G:=R.G) x.dms hx2.2;refine Qga ?_;unfold cpS;simp only[eF];by_cases h0i:i=0
    . subst h0i;have e0:rwI r 0=[]:=rfl;have w1:i64.wrap 1=1:=rfl;rw[e0,W18]at sc;replace sc:rwI r 1=[[.int .i64 x.d,.int .i64 x.l,.int .u8 x.k,.vsl (x.its.map ita),.vsl (x.dms.map dma)]]:=sc;simp only[coV,coO,if_true,W18];simp -implicitDefEqProofs[eF,hi,hax,w1];refine Qco (c1) ?_;simp -implicitDefEqProofs[eF];refine Qco (c2) ?_;simp -implicitDefEqProofs[eF,w1];refine ⟨rfl,?_⟩;rw[sc]
      ((try simp only[kF,eF]);refine Ym.sub (by simp[lk,Ya,AV.keys,kF,eF]) ?_;simp only[kF,eF,Wkl,and_true];(try simp[lk,Yc,Ya,AV.keys,kF,eF]))
    . have b1:(i+1)*72<=70368744177664:=(by omega);have hln:=ZnG (r:=r) (i:=i) (by omega);simp only[coV,coO,h0i,if_false,W1e,W18];simp -implicitDefEqProofs[eF,hi,hax];refine Qco (c1) ?_;simp -implicitDefEqProofs[eF];refine Qco (c2) ?_;simp -implicitDefEqProofs[eF,b1,wi,hln];refine ⟨rfl,?_⟩;rw[<- sc]
      ((try simp only[kF,eF]);refine Ym.sub (by simp[lk,Ya,AV.keys,kF,eF]) ?_;simp only[kF,eF,Wkl,ZnH,and_true,and_true];(try simp[lk,Yc,Ya,AV.keys,kF,eF]))
  . intro _;have hr0:r.length≠0:=λe=>hne (W0l.1 e)
    have hrw:rwI r r.length=r.map isa:=(by unfold rwI;rw[W0v]);have pr:((r.map isa).all λr=>r.all AV.pure)=true:=(by simp[isa,AV.pure]);refine Qga ?_;unfold cpS;simp only[eF];rw[show coO r r.length=[(49,.row 5 (r.map isa))] by unfold coO;rw[if_neg hr0,hrw],show coV r.length = .osl 49 r.length by unfold coV;rw[if_neg hr0]];simp -implicitDefEqProofs[eF];refine Qgr ?_;simp -implicitDefEqProofs[eF,hc2];refine Z8a (λi=>cpT (.vptr cs 0) F B r hs (hs.take i) i) (λ_=>True) hs.length ?_ trivial ?_ ?_
    . refine Ym.trans (Ym.frz (λk=>k == 49) _) ?_;simp only[eF,cpT,hlV,hlO,W1g,if_true,W1G]
      ((try simp only[Yi,frzA,frzO,frz,Yh,Yj,St.get,AV.pure,pr,kF,eF]);refine Ym.sub (by simp[lk,Ya,AV.keys,Yi,frzA,frzO,frz,Yh,Yj,St.get,AV.pure,pr,kF,eF]) ?_;simp only[Yi,frzA,frzO,frz,Yh,Yj,St.get,AV.pure,pr,kF,eF,Wkl,and_true];(try simp[lk,Yc,Ya,AV.keys,Yi,frzA,frzO,frz,Yh,Yj,St.get,AV.pure,pr,kF,eF]))
    . intro i hi _;have hdi:=hdl _ (W0e hi);obtain ⟨h,hhe⟩:=Qex (hs[i]);rw[<- hhe]at hdi;have hlx:hs[i]=h:=hhe.symm;have hho:hoa h=[.int .i64 h.id,.int .i64 h.fr,.int .i64 h.to,.vsl (h.ds.map ia)]:=rfl;have c3:=ZnL (G:=R.G) h.ds (by unfold Sml;omega);have wi:i64.wrap ((i:Int)+1)=(i:Int)+1:=Yf;have tk:hs.take (i+1)=hs.take i++[h]:=(by rw[W08 hi,hlx]);have tl:(hs.take i).length=i:=(by simp;omega);have bb:(i+1)*48<=70368744177664:=(by omega);obtain ⟨H,hH⟩:=Qex (hs.take i);rw[<- hH]at tk tl;have em:(H++[h]).map hoa=H.map hoa++[hoa h]:=(by simp);have hne:¬H++[h]=[]:=(by simp);have hV2:hlV 72 (H++[h]) = .osl 72 (i+1):=(by unfold hlV;rw[if_neg hne];simp[tl]);have hO2:hlO 72 (H++[h])=[(72,.row 4 (H.map hoa++[hoa h]))]:=(by unfold hlO;rw[if_neg hne,em]);refine Qga ?_;by_cases cH:H=[]
      case' pos =>
       have hV:hlV 72 H = .nils:=(by simp[hlV,cH]);have hQ:hlO 72 H=[]:=by simp[hlO,cH]
      case' neg =>
       have hV:hlV 72 H = .osl 72 i:=(by simp[hlV,cH,tl]);have hQ:hlO 72 H=[(72,.row 4 (H.map hoa))]:=by simp[hlO,cH]
      all_goals
       simp -implicitDefEqProofs[eF,cpT,<- hH,hV,hQ,hi,hlx,hho,wi,bb,tl];refine Qco (c3) ?_;simp -implicitDefEqProofs[eF,cpT,<- hH,hV,hQ,hi,hlx,hho,wi,bb,tl];simp only[tk,hV2,hO2,hho];rw[<- hho,<- em]
       ((try simp only[hho,kF,eF]);refine Ym.sub (by simp[lk,Ya,AV.keys,hho,kF,eF]) ?_;simp only[hho,kF,eF,Wkl,ZkP,and_true];(try simp[lk,Yc,Ya,AV.keys,hho,kF,eF]))
       all_goals exact ⟨by rw[<- tl,cH];rfl,cH⟩
    . intro _;have tl:hs.take hs.length=hs:=W0v;refine Qga ?_;by_cases cH:hs=[]
      . have hV:hlV 72 hs = .nils:=(by simp[hlV,cH]);have hQ:hlO 72 hs=[]:=(by simp[hlO,cH]);simp -implicitDefEqProofs[eF,cpT,tl,hV,hQ];refine Qgr ?_;simp -implicitDefEqProofs[eF];simp -implicitDefEqProofs[eF,Yg,cH,hoa,AV.pure,pr,Yh,Yj,pF]
      . have hV:hlV 72 hs = .osl 72 hs.length:=(by simp[hlV,cH]);have hQ:hlO 72 hs=[(72,.row 4 (hs.map hoa))]:=(by simp[hlO,cH]);simp -implicitDefEqProofs[eF,cpT,tl,hV,hQ];refine Qgr ?_;simp -implicitDefEqProofs[eF];simp -implicitDefEqProofs[eF,Yg,cH,hoa,AV.pure,pr,Yh,Yj,pF]
def ZnR (r:Jr) (l:Jl) (hs:Jh) (hr:Wf r) (hl:Sml l) (hw:WfP hs []) (hne:r≠[]) (h80:r.length<=80) :
  PC prog G 101 [ofA r l hs []] (.agg [.vsl (r.map isa),.vsl (l.map na),Yg (hs.map hoa),.vsl []]) :=
 ZnQ r l hs (.vsl []) (.inr rfl) ZnP hr hl hw hne h80
def toN (hs:Jh) (A:List Int):Nat:=A.foldl (λt id=>t ||| 2 ^ (hoI hs id).toNat) 0
def ZnS (hs:Jh) (A:List Int) (id:Int):toN hs (A++[id])=toN hs A ||| 2 ^ (hoI hs id).toNat:=by simp[toN]
def ZnT (hs:Jh) (k:Nat):∀ (A:List Int) (t:Nat),(A.foldl (λt id=>t ||| 2 ^ (hoI hs id).toNat) t).testBit k=(t.testBit k||A.any λid=>decide ((hoI hs id).toNat=k))
 |[],t=>by simp
 |id::A,t=>by rw[W2e,ZnT hs k A,Nat.testBit_or,Nat.testBit_two_pow,List.any_cons,Bool.or_assoc]
def ZnU (hs:Jh) (k:Nat) (A:List Int):(toN hs A).testBit k=A.any λid=>decide ((hoI hs id).toNat=k):=by
 unfold toN;rw[ZnT];simp
def ZnV (hs:Jh):∀ (A:List Int) (t:Nat),t<256->(∀ id∈A,(hoI hs id).toNat<8)->A.foldl (λt id=>t ||| 2 ^ (hoI hs id).toNat) t<256
 |[],_,h,_=>h
 | id::A,t,h,hA=>by
   refine ZnV hs A _ ?_ λx hx=>hA x (W0z _ hx)
   have h2:2 ^ (hoI hs id).toNat<2 ^ 8:=Nat.pow_lt_pow_right (by omega) (hA id (W0H ..));exact Nat.or_lt_two_pow (n:=8) h h2
def ZnW (hs:Jh) (A:List Int) (h:∀ id∈A,(hoI hs id).toNat<8):toN hs A<256:=ZnV hs A 0 (by omega) h
def ZnX {hs:Jh} {id:Int} (h:0<=hoI hs id):∃ (k:Nat) (hk:k<hs.length),hoI hs id=k/\hs[k].id=id:=by
 obtain ⟨k,hk,e,f⟩:=ZkW h;exact ⟨k,hk,e,(Zi6 f).2⟩
def ZnY {hs:Jh} {A:List Int} {y:Int} (hA:∀ id∈A,0<=hoI hs id) (hy:0<=hoI hs y):(toN hs A).testBit (hoI hs y).toNat=A.contains y:=by
 rw[ZnU,W2h,W14,W0w]
 constructor
 . rintro ⟨id,h1,h2⟩;have h2:=W0X h2;obtain ⟨k,hk,e,f⟩:=ZnX (hA id h1);obtain ⟨j,hj,e2,f2⟩:=ZnX hy;have:k=j:=(by omega);subst this;rw[<- f2,f];exact h1
 . intro h;exact ⟨y,h,by simp⟩
def ZnZ {hs:Jh} {A:List Int} (hA:∀ id∈A,0<=hoI hs id):toN hs A=0↔A=[]:=by
 constructor
 . intro h
   cases A with
   |nil=>rfl
   | cons id t =>
     have h2:=ZnY (y:=id) hA (hA id (W0H ..));rw[h]at h2;simp at h2
 . rintro rfl;rfl
def Zo0:∀ T:Nat,T<256->∀ k:Nat,k<8->IntKind.u64.wrap ((T % 2 ^ IntKind.u64.bits ||| ((IntKind.u64.wrap ((2:Int) ^ min k IntKind.u64.bits)) % 2 ^ IntKind.u64.bits).toNat:Nat):Int)=((T ||| 2 ^ k:Nat):Int):=by decide +kernel
def Zo1:∀ T:Nat,T<256->∀ k:Nat,k<8->IntKind.u64.wrap (((((T:Int).fdiv (2 ^ min k IntKind.u64.bits)) % 2 ^ IntKind.u64.bits).toNat &&& 1 % 2 ^ IntKind.u64.bits:Nat):Int)=if T.testBit k=true then 1 else 0:=by decide +kernel
def rowC (ps S:Jp) (A B:List Int) (day:Int):List Prt:=ps.map λx=>if (decide (x∈S)&&rchB A B x)=true then { x with bk:=day,lo:=0 } else x
section
variable {ps S:Jp} {A B:List Int} {day:Int} {y:Prt}
def Zo2:rowC ps [] A B day=ps:=by simp[rowC]
def Zo3:(rowC ps S A B day).length=ps.length:=by simp[rowC]
def Zo4 {j:Nat} (h:j<(rowC ps S A B day).length):(rowC ps S A B day)[j]=if (decide (ps[j]'(by rw[Zo3]at h;exact h)∈S)&&rchB A B (ps[j]'(by rw[Zo3]at h;exact h)))=true then { ps[j]'(by rw[Zo3]at h;exact h) with bk:=day,lo:=0 } else ps[j]'(by rw[Zo3]at h;exact h):=by simp[rowC]
def Zo5 (h:rchB A B y=false):rowC ps (S++[y]) A B day=rowC ps S A B day:=by
 unfold rowC;refine W0K λx _=>?_
 by_cases e:x=y
 . subst e;rw[h];simp
 . have:(x∈S++[y])↔x∈S:=(by simp[e]);rw[decide_eq_decide.2 this]
def Zo6 (hp:riP ps) (h:rchB A B y=true) (hy:y ∉ S) {k:Nat} (hk:k<ps.length) (e:ps[k]=y) :
  (rowC ps S A B day)[k]'(by rw[Zo3];exact hk)=y/\(rowC ps S A B day).set k { y with bk:=day,lo:=0 }=rowC ps (S++[y]) A B day:=by
 constructor
 . rw[Zo4,e,W0S hy];rfl
 . refine W1I (by simp[Zo3]) λj h1 h2=>?_
   have hj:j<ps.length:=(by simpa [Zo3] using h1);rw[List.getElem_set,Zo4,Zo4]
   split
   . rename_i q;subst q;rw[e,h,if_pos (by simp)]
   . rename_i q
     have:ps[j]≠y:=λq2=>by
      rcases W0R j k with c|c|c
      . have:=W0Y.1 hp j k hj hk c;rw[q2,e]at this;omega
      . exact q c.symm
      . have:=W0Y.1 hp k j hk hj c;rw[q2,e]at this;omega
     have:(ps[j]∈S++[y])↔ps[j]∈S:=(by simp[this]);rw[decide_eq_decide.2 this]
def Zo7 {l:Jl} {hs:Jh}:rowC ps (staL l hs ps day) A B day=ps.map (calP l hs day A B):=by
 unfold rowC calP;refine W0K λx hx=>?_
 have:(x∈staL l hs ps day)↔stB l hs day x=true:=(by unfold staL;rw[W0G];exact ⟨λh=>h.2,λh=>⟨hx,h⟩⟩);have hd:decide (x∈staL l hs ps day)=stB l hs day x:=(by rw[W2h,decide_eq_true_iff];exact this);rw[hd]
def Zo8 (h:riP ps):ps.Nodup:=h.imp λ{a b} q e=>by rw[e]at q;omega
end
def clE (r:Jr) (l:Jl) (hs:Jh) (ps:Jp) (day:Int) (A B:List Int):Int :=
 if as7 r l hs ps day 1=0 then (if (A.all λid=>decide (0<=hoI hs id))&&B.all λd=>decide (d∈nums r) then 0 else 6) else as7 r l hs ps day 1
def clA (r:Jr) (l:Jl) (hs:Jh) (ps:Jp) (day:Int) (A B:List Int):AV :=
 .tup [if clE r l hs ps day A B=0 then prA r l hs (ps.map (calP l hs day A B)) else .agg [.nils,.nils,.nils,.nils],.int .i64 (clE r l hs ps day A B)]
def cl1 (O:AV) (hs:Jh) (day:Int) (A B:List Int) (i:Nat):St :=
 ⟨[(32,.int .i64 i),(31,.int .i64 A.length),(30,.vsl (A.map ia)),(12,.int .u64 (toN hs (A.take i):Nat)),(10,.ptr 10 0),(8,.ptr 8 0),(3,.vsl (B.map ia)),(1,.int .i64 day)],[(10,.box [O]),(8,.box [.nils,.nils,.nils,.nils])]⟩
def cl2 (O:AV) (IR NL HL:List (List AV)) (T:Nat) (ps S:Jp) (A B:List Int) (day:Int) (i:Nat):St :=
 ⟨[(64,.int .i64 i),(63,.int .i64 S.length),(62,.vsl (S.map ptA)),(16,.ptr 16 0),(12,.int .u64 (T:Nat)),(10,.ptr 10 0),(8,.ptr 8 0),(3,.vsl (B.map ia)),(1,.int .i64 day)],[(16,.box [.vsl IR,.vsl NL,.vsl HL,.osl 921 ps.length]),(921,.row 7 ((rowC ps (S.take i) A B day).map ptA)),(10,.box [O]),(8,.box [.nils,.nils,.nils,.nils])]⟩
def Zo9 (hG:GC G) (hN:GN G) (hP:GP G) (r:Jr) (l:Jl) (hs:Jh) (ps:Jp) (day:Int) (A B:List Int) (hl:WfN l) (hr:Wf r) (hne:r≠[]) (h80:r.length<=80) (hd:Sml (nums r)) (hw:WfP hs ps) (hA:Sml A) (hB:Sml B) :
  PC prog G 40 [prA r l hs ps,.int .i64 day,.vsl (A.map ia),.vsl (B.map ia)] (clA r l hs ps day A B):=by
 have ha:=Zj3 hG hN hP r l hs ps day 1 hl hr hd hw;have pO:=Zi9 r l hs ps;have kO:=Zia r l hs ps;unfold asP at ha;unfold clA clE;by_cases h0:as7 r l hs ps day 1=0
 case neg =>
  rw[if_neg h0]at ha;simp only[if_neg h0];unfold prA at *
  (refine Zne rfl λR hG hrd=>Qga ?_;subst hG)
  simp -implicitDefEqProofs[Znc,Znd];refine Qco (ha) ?_;simp -implicitDefEqProofs[h0]
 have k0:=(Zkr h0).1;have cS:=ZlG hG hN r l hs ps day hl hr hd hw k0;have cS:=PC.out cS (Nsub.orNil _);have hhl:=hw.hl;have cH:=λid=>Ziu (G:=G) r l hs ps id (by unfold Sml;omega)
 rw[if_pos h0,h0]at ha;simp only[if_pos h0];have d1:ck7 r l hs ps=0:=k0;have c1:=Znr (G:=G) r l hs ps;obtain ⟨cs,hO,hc3⟩ : ∃ cs,ofA r l hs ps = .vptr cs 0/\cs[3]? = some (.vsl (ps.map ptA)):=⟨_,rfl,rfl⟩;rw[hO]at ha pO kO cS;simp only[hO]at cH c1;unfold Sml at hA hB;obtain ⟨V,hV⟩:=Qex (AV.tup [if (if ((A.all λid=>decide (0<=hoI hs id))&&B.all λd=>decide (d∈nums r))=true then (0:Int) else 6)=0 then prA r l hs (ps.map (calP l hs day A B)) else .agg [.nils,.nils,.nils,.nils],.int .i64 (if ((A.all λid=>decide (0<=hoI hs id))&&B.all λd=>decide (d∈nums r))=true then 0 else 6)]);rw[<- hV];have eP:prA r l hs ps = .agg [.vsl (r.map isa),.vsl (l.map na),.vsl (hs.map hoa),.vsl (ps.map ptA)]:=rfl;rw[eP]at ha ⊢
 (refine Zne rfl λR hG hrd=>Qga ?_;subst hG)
 simp -implicitDefEqProofs[Znc,Znd];refine Qco (ha) ?_;simp -implicitDefEqProofs;refine Z8a (cl1 (.vptr cs 0) hs day A B) (λi=>∀ id∈A.take i,0<=hoI hs id) A.length ?_ (by simp) ?_ ?_
 . unfold cl1
   ((try simp only[kO,toN]);refine Ym.sub (by simp[lk,Ya,AV.keys,kO,toN]) ?_;simp only[kO,toN,Wkl,and_true];(try simp[lk,Yc,Ya,AV.keys,kO,toN]))
 . intro i hi he;obtain ⟨id,hid⟩:=Qex (A[i]);have hlx:A[i]=id:=hid.symm;have cI:=cH id;have tk:A.take (i+1)=A.take i++[id]:=(by rw[W08 hi,hlx]);have wi:i64.wrap ((i:Int)+1)=(i:Int)+1:=Yf;refine Qga ?_;by_cases hc:0<=hoI hs id
   . obtain ⟨k,hk,e,f⟩:=ZnX hc;rw[e]at cI
     have hT:toN hs (A.take i)<256:=ZnW hs _ λx hx=>by
      obtain ⟨k,hk,e,f⟩:=ZnX (he x hx);omega
     have sh:=Zo0 _ hT k (by omega);have tn:toN hs (A.take (i+1))=toN hs (A.take i) ||| 2 ^ k:=by rw[tk,ZnS,e];rfl
     obtain ⟨T,hTe⟩:=Qex (toN hs (A.take i));rw[<- hTe]at sh tn hT;have hw1:cl1 (.vptr cs 0) hs day A B i=⟨[(32,.int .i64 i),(31,.int .i64 A.length),(30,.vsl (A.map ia)),(12,.int .u64 (T:Nat)),(10,.ptr 10 0),(8,.ptr 8 0),(3,.vsl (B.map ia)),(1,.int .i64 day)],[(10,.box [.vptr cs 0]),(8,.box [.nils,.nils,.nils,.nils])]⟩:=(by unfold cl1;rw[hTe]);have hw2:cl1 (.vptr cs 0) hs day A B (i+1)=⟨[(32,.int .i64 (i+1:Nat)),(31,.int .i64 A.length),(30,.vsl (A.map ia)),(12,.int .u64 ((T ||| 2 ^ k:Nat):Int)),(10,.ptr 10 0),(8,.ptr 8 0),(3,.vsl (B.map ia)),(1,.int .i64 day)],[(10,.box [.vptr cs 0]),(8,.box [.nils,.nils,.nils,.nils])]⟩:=(by unfold cl1;rw[tn]);rw[hw1];simp -implicitDefEqProofs[hi,hlx,ia];refine Yd.of cI (by simp[pO,AV.pure]) ?_;have hk0:¬((k:Int)<0):=(by omega);simp -implicitDefEqProofs[wi,sh,hk0];refine ⟨?_,λx hx=>?_⟩
     . rw[hw2]
       ((try simp only[kO]);refine Ym.sub (by simp[lk,Ya,AV.keys,kO]) ?_;simp only[kO,Wkl,and_true];(try simp[lk,Yc,Ya,AV.keys,kO]))
     . rw[tk]at hx;rcases W0h.1 hx with q|q
       . exact he x q
       . rw[W0B.1 q];exact hc
   . have hV2:V = .tup [.agg [.nils,.nils,.nils,.nils],.int .i64 6]:=by
      have:(A.all λid=>decide (0<=hoI hs id))=false:=by
       rw[List.all_eq_false];exact ⟨id,by rw[hid];exact W0e hi,by simpa using hc⟩
      rw[hV,this];rfl
     have hc2:hoI hs id<0:=(by omega);unfold cl1;simp -implicitDefEqProofs[hi,hlx,ia];refine Yd.of cI (by simp[pO,AV.pure]) ?_;simp -implicitDefEqProofs[hc2];refine Qgr ?_;simp -implicitDefEqProofs[hV2]
 . intro he;rw[W0v]at he
   have hT:toN hs A<256:=ZnW hs _ λx hx=>by
    obtain ⟨k,hk,e,f⟩:=ZnX (he x hx);omega
   refine Qga ?_;unfold cl1;rw[W0v];have tz:=ZnZ he;have th:=λy hy=>ZnY (y:=y) he hy
   generalize toN hs A=T at *;simp -implicitDefEqProofs;refine Qgr ?_;simp -implicitDefEqProofs;have cB:=Z91 (G:=R.G) 100 [.vptr [.vptr cs 0] 0] (λd=>!decide (d∈nums r)) B (by simp[AV.pure]) hB (λd _=>c1 d hd)
   (first|refine Yd.flat (cB) (by simp[AV.flat]) (by simp) ?_|refine Ye.flat (cB) (by simp[AV.flat]) (by simp) ?_)
   have hA':(A.all λid=>decide (0<=hoI hs id))=true:=W03.2 λx hx=>by simpa using he x hx
   rw[hA',W1k]at hV
   cases hBB:B.any λd=>!decide (d∈nums r) with
   | true =>
     have hB':(B.all λd=>decide (d∈nums r))=false:=by
      rw[W14]at hBB;obtain ⟨d,h1,h2⟩:=hBB;rw[List.all_eq_false];exact ⟨d,h1,by simpa using h2⟩
     rw[hB']at hV;simp -implicitDefEqProofs[hV]
   |false =>
   have hB':(B.all λd=>decide (d∈nums r))=true:=by
    rw[W26]at hBB;exact W03.2 λd h1=>by simpa using hBB d h1
   rw[hB']at hV;simp only[if_true]at hV;have co:=Zny (G:=R.G) T hT;have oz:=Znw T hT;have oB:=Znx T hT;have ws:i64.wrap (ocF T+(B.length:Int))=ocF T+(B.length:Int):=Yf;obtain ⟨IR,hIR⟩:=Qex (r.map isa);obtain ⟨NL,hNL⟩:=Qex (l.map na);obtain ⟨HL,hHL⟩:=Qex (hs.map hoa);have pIR:(IR.all λr=>r.all AV.pure)=true:=(by rw[hIR];simp[isa,AV.pure]);have pNL:(NL.all λr=>r.all AV.pure)=true:=(by rw[hNL];simp[na,AV.pure]);have pHL:(HL.all λr=>r.all AV.pure)=true:=(by rw[hHL];simp[hoa,ia,AV.pure]);by_cases hps:ps=[]
   . subst hps;have cc:=ZnR (G:=R.G) r l hs hr hl.1 hw hne h80;have cc:=PC.out (w:=.agg [.vsl (r.map isa),.vsl (l.map na),.vsl (hs.map hoa),.vsl []]) cc (Nsub.agg ⟨.rfl',.rfl',.orNil _,.rfl',trivial⟩);rw[hO,<- hIR,<- hNL,<- hHL]at cc;have hV:V = .tup [.agg [.vsl IR,.vsl NL,.vsl HL,.vsl []],.int .i64 0]:=(by rw[hV,hIR,hNL,hHL];rfl);have cS:PC prog R.G 91 [.vptr cs 0,.int .i64 day] (.vsl []):=cS;simp -implicitDefEqProofs;refine Yd.of cc (by simp[pO,AV.pure]) ?_;simp -implicitDefEqProofs;refine Yd.of co (by simp[AV.pure]) ?_;simp -implicitDefEqProofs[ws];by_cases z:ocF T+(B.length:Int)=0
     . rw[W0M z];simp -implicitDefEqProofs[hV,pIR,pNL,pHL]
     . rw[W0S z];simp -implicitDefEqProofs;refine Yd.of cS (by simp[pO,AV.pure]) ?_;simp -implicitDefEqProofs;refine Z8a (λi=>⟨[(64,.int .i64 i),(63,.int .i64 0),(16,.ptr 16 0),(8,.ptr 8 0)],[(16,.box [.vsl IR,.vsl NL,.vsl HL,.vsl []]),(8,.box [.nils,.nils,.nils,.nils])]⟩) (λ_=>True) 0 ?_ trivial (λi hi=>absurd hi (by omega)) ?_
       . (refine Wkc ?_;simp only[Wkl,and_true];(try simp[lk,Yc,Ya,AV.keys]))
       . intro _;refine Qga ?_;simp -implicitDefEqProofs;refine Qgr ?_;simp -implicitDefEqProofs[hV,pIR,pNL,pHL]
   . have hhs:hs≠[]:=λe=>by
      cases ps with
      |nil=>exact hps rfl
      | cons x t =>
        have:=(Zlb k0 (W0H ..)).1;rw[e]at this;exact absurd this (by simp[hoI,fstOf])
     have cc:=ZnO (G:=R.G) r l hs ps hr hl.1 hw hne h80 hps;have eh:Yg (hs.map hoa) = .vsl (hs.map hoa):=(by unfold Yg;rw[if_neg (by simpa using hhs)]);rw[eh,hO,<- hIR,<- hNL,<- hHL]at cc;have hV:V = .tup [.agg [.vsl IR,.vsl NL,.vsl HL,.vsl ((ps.map (calP l hs day A B)).map ptA)],.int .i64 0]:=(by rw[hV,hIR,hNL,hHL];rfl);have rIR:=λρ=>AV.ren_pure (ρ:=ρ) (.vsl IR) (by simpa [AV.pure] using pIR)
     have rNL:=λρ=>AV.ren_pure (ρ:=ρ) (.vsl NL) (by simpa [AV.pure] using pNL)
     have rHL:=λρ=>AV.ren_pure (ρ:=ρ) (.vsl HL) (by simpa [AV.pure] using pHL)
     have kIR:=AV.pure_keys (.vsl IR) (by simpa [AV.pure] using pIR);have kNL:=AV.pure_keys (.vsl NL) (by simpa [AV.pure] using pNL);have kHL:=AV.pure_keys (.vsl HL) (by simpa [AV.pure] using pHL);simp -implicitDefEqProofs;refine Yd.sem (Z1B.objs cc (λk=>k+300) (by simp) (by simp[St.get,lk]) (by simp[AV.pure,pO]) rfl rfl) ?_;simp -implicitDefEqProofs[Yl,ZlD,AV.ren,rIR,rNL,rHL];refine Yd.of co (by simp[AV.pure]) ?_;simp -implicitDefEqProofs[ws];by_cases z:ocF T+(B.length:Int)=0
     . have hA0:A=[]:=tz.1 (oz.1 (by omega));have hB0:B=[]:=W0l.1 (by omega)
       have hm:ps.map (calP l hs day A B)=ps:=by
        refine (W0K λx _=>?_).trans (W23 _);unfold calP rchB;rw[hA0,hB0];simp
       rw[W0M z];rw[hm]at hV;have pP:((ps.map ptA).all λr=>r.all AV.pure)=true:=(by simp[ptA,AV.pure]);simp -implicitDefEqProofs[hV,pIR,pNL,pHL,pP]
     . rw [W0S z];simp -implicitDefEqProofs;refine Yd.of cS (by simp[pO,AV.pure]) ?_;simp -implicitDefEqProofs;refine Z8a (cl2 (.vptr cs 0) IR NL HL T ps (staL l hs ps day) A B day) (λ_=>True) (staL l hs ps day).length ?_ trivial ?_ ?_
       . unfold cl2;rw[W1g,Zo2]
         ((try simp only[kO,kIR,kNL,kHL]);refine Ym.sub (by simp[lk,Ya,AV.keys,kO,kIR,kNL,kHL]) ?_;simp only[kO,kIR,kNL,kHL,Wkl,ZkQ,and_true];(try simp[lk,Yc,Ya,AV.keys,kO,kIR,kNL,kHL]))
       . intro i hi _;have hsub:∀ y∈staL l hs ps day,y∈ps:=λy hy=>(W0G.1 hy).1
         have hrp:riP ps:=(Zi5.1 (ZiZ.1 k0).2).2.2.1;have hSn:(staL l hs ps day).Nodup:=(Zo8 hrp).filter _;have hSl:(staL l hs ps day).length<=ps.length:=W0D ..;generalize staL l hs ps day=S at *;obtain ⟨y,hy⟩:=Qex (S[i]);have hly:S[i]=y:=hy.symm;have hyp:y∈ps:=hsub y (by rw[hy];exact W0e hi);have tk:S.take (i+1)=S.take i++[y]:=by rw[W08 hi,hly]
         have hyn:y ∉ S.take i:=λh=>by
          obtain ⟨j,hj,e⟩:=W0k h;rw[W1V]at e;have hji:j<i:=(by simp at hj;omega);have:=(List.getElem_inj hSn).1 (e.trans hy);omega
         have wi:i64.wrap ((i:Int)+1)=((i+1:Nat):Int):=Yf (by omega) (by have:=hw.pl;omega);have hpy:ptA y=[.int .i64 y.no,.int .i64 y.dy,.int .i64 y.ho,.int .i64 y.dw,.int .i64 y.lt,.int .i64 y.bk,.int .u8 y.lo]:=rfl;have cI:=cH y.ho;obtain ⟨k,hk,e,f⟩:=ZnX (Zlb k0 hyp).1;have thy:=th y.ho (Zlb k0 hyp).1;rw[e]at cI thy;have thy:T.testBit k=A.contains y.ho:=thy;have sr:=Zo1 T hT k (by omega);rw[thy]at sr;have cD:=Ze3 (G:=R.G) B y.dw hB;have hw1:∀ X,(rowC ps (S.take i) A B day).map ptA=X->cl2 (.vptr cs 0) IR NL HL T ps S A B day i=⟨[(64,.int .i64 i),(63,.int .i64 S.length),(62,.vsl (S.map ptA)),(16,.ptr 16 0),(12,.int .u64 (T:Nat)),(10,.ptr 10 0),(8,.ptr 8 0),(3,.vsl (B.map ia)),(1,.int .i64 day)],[(16,.box [.vsl IR,.vsl NL,.vsl HL,.osl 921 ps.length]),(921,.row 7 X),(10,.box [.vptr cs 0]),(8,.box [.nils,.nils,.nils,.nils])]⟩:=λX hX=>by unfold cl2;rw[hX]
         have hw2:∀ X,(rowC ps (S.take (i+1)) A B day).map ptA=X->cl2 (.vptr cs 0) IR NL HL T ps S A B day (i+1)=⟨[(64,.int .i64 (i+1:Nat)),(63,.int .i64 S.length),(62,.vsl (S.map ptA)),(16,.ptr 16 0),(12,.int .u64 (T:Nat)),(10,.ptr 10 0),(8,.ptr 8 0),(3,.vsl (B.map ia)),(1,.int .i64 day)],[(16,.box [.vsl IR,.vsl NL,.vsl HL,.osl 921 ps.length]),(921,.row 7 X),(10,.box [.vptr cs 0]),(8,.box [.nils,.nils,.nils,.nils])]⟩:=λX hX=>by unfold cl2;rw[hX]
         obtain ⟨j,hj,ej⟩:=W0k hyp;have cX:=Znp (G:=R.G) y ps (by have:=hw.pl;unfold Sml;omega)
         rw[Z8X hj (by simp[ej]) (λm hm hmj=>W0S λq=>by
          have:=Zns hrp hmj hj;rw[ej,<- q]at this;omega),hpy]at cX
         have hset:=λh=>Zo6 (S:=S.take i) (A:=A) (B:=B) (day:=day) hrp (y:=y) h hyn hj ej
         have hXl:((rowC ps (S.take i) A B day).map ptA).length=ps.length:=(by rw[W0N,Zo3]);have hXj:∀ h:rchB A B y=true,((rowC ps (S.take i) A B day).map ptA)[j]'(by rw[hXl];exact hj)=[.int .i64 y.no,.int .i64 y.dy,.int .i64 y.ho,.int .i64 y.dw,.int .i64 y.lt,.int .i64 y.bk,.int .u8 y.lo]:=λh=>by rw[W1w,(hset h).1,hpy]
         have hXs:∀ h:rchB A B y=true,((rowC ps (S.take i) A B day).map ptA).set j [.int .i64 y.no,.int .i64 y.dy,.int .i64 y.ho,.int .i64 y.dw,.int .i64 y.lt,.int .i64 day,.int .u8 0]=(rowC ps (S.take (i+1)) A B day).map ptA:=λh=>by
          rw[tk,<- (hset h).2,W2r];rfl
         obtain ⟨X,hX⟩:=Qex ((rowC ps (S.take i) A B day).map ptA);simp only[<- hX]at hXl hXj hXs;refine Qga ?_;by_cases c1:A.contains y.ho=true
         . have hR:rchB A B y=true:=(by unfold rchB;rw[c1];rfl);rw[hw1 X hX.symm];rw[c1]at sr;simp -implicitDefEqProofs[hi,hly,hpy];refine Yd.of cI (by simp[pO,AV.pure]) ?_;rw[if_pos rfl]at sr;have hXj:=hXj hR;have hXs:=hXs hR;simp -implicitDefEqProofs[sr,hc3];refine Qco (cX) ?_;simp -implicitDefEqProofs[hXl,hj,hXj,wi];refine ⟨rfl,rfl,?_⟩;rw[hXs,hw2 _ rfl]
           ((try simp only[kO,kIR,kNL,kHL]);refine Ym.sub (by simp[lk,Ya,AV.keys,kO,kIR,kNL,kHL]) ?_;simp only[kO,kIR,kNL,kHL,Wkl,ZkQ,and_true];(try simp[lk,Yc,Ya,AV.keys,kO,kIR,kNL,kHL]))
         . have c1:A.contains y.ho=false:=(by simpa using c1);rw[hw1 X hX.symm];rw[c1]at sr;simp -implicitDefEqProofs[hi,hly,hpy];refine Yd.of cI (by simp[pO,AV.pure]) ?_;rw[if_neg (by simp)]at sr;simp -implicitDefEqProofs[sr];refine Yd.of cD (by simp[AV.pure,ia]) ?_;by_cases c2:y.dw∈B
           . have hR:rchB A B y=true:=(by unfold rchB;rw[c1,W1O,W0w];exact c2);have hXj:=hXj hR;have hXs:=hXs hR;simp -implicitDefEqProofs[c2,hc3];refine Qco (cX) ?_;simp -implicitDefEqProofs[hXl,hj,hXj,wi];refine ⟨rfl,rfl,?_⟩;rw[hXs,hw2 _ rfl]
             ((try simp only[kO,kIR,kNL,kHL]);refine Ym.sub (by simp[lk,Ya,AV.keys,kO,kIR,kNL,kHL]) ?_;simp only[kO,kIR,kNL,kHL,Wkl,ZkQ,and_true];(try simp[lk,Yc,Ya,AV.keys,kO,kIR,kNL,kHL]))
           . have hR:rchB A B y=false:=(by unfold rchB;rw[c1,W1O,Bool.eq_false_iff,ne_eq,W0w];exact c2);simp -implicitDefEqProofs[c2,wi];rw[hw2 _ rfl,tk,Zo5 hR,hX]
             ((try simp only[kO,kIR,kNL,kHL]);refine Ym.sub (by simp[lk,Ya,AV.keys,kO,kIR,kNL,kHL]) ?_;simp only[kO,kIR,kNL,kHL,Wkl,ZkQ,and_true];(try simp[lk,Yc,Ya,AV.keys,kO,kIR,kNL,kHL]))
       . intro _;refine Qga ?_;unfold cl2;rw[W0v,Zo7];have hQl:(ps.map (calP l hs day A B)).length=ps.length:=(by simp);generalize ps.map (calP l hs day A B)=Q at *;simp -implicitDefEqProofs;refine Qgr ?_;have pP:((Q.map ptA).all λr=>r.all AV.pure)=true:=(by simp[ptA,AV.pure]);simp -implicitDefEqProofs[hV,pIR,pNL,pHL,pP,hQl]
def snE (r:Jr) (l:Jl) (hs:Jh) (ps:Jp) (x:Prt):Int :=
 if ck7 r l hs ps=0 then (if ps.length=30 then 9 else if ck7 r l hs (putP ps x (plP ps x))=0 then 0 else 70) else ck7 r l hs ps
def snA (r:Jr) (l:Jl) (hs:Jh) (ps:Jp) (x:Prt):AV :=
 .tup [if snE r l hs ps x=0 then prA r l hs (putP ps x (plP ps x)) else .agg [.nils,.nils,.nils,.nils],.int .i64 (snE r l hs ps x)]
def Zoa (l:Jp) (x:Prt):putP l x l.length=l++[x]:=by unfold putP;simp
def Zob (l:Jp) (x:Prt) (hl:l.length<=41) :
  PB prog G 108 [(1000,.row 7 (l.map ptA))] [.osl 1000 l.length,.int .i64 l.length,.vsl [ptA x]] (.osl 1000 (l.length+1)) [(1000,.row 7 ((putP l x l.length).map ptA))]:=by
 rw[Zoa];have b1:(l.length+1)*56<=70368744177664:=(by omega);have hpx:ptA x=[.int .i64 x.no,.int .i64 x.dy,.int .i64 x.ho,.int .i64 x.dw,.int .i64 x.lt,.int .i64 x.bk,.int .u8 x.lo]:=rfl
 (refine ZmK (W0C rfl) λR hG hrd=>Qga ?_;subst hG)
 simp -implicitDefEqProofs[ZmI,ZmJ,hpx,b1];have e:l.map ptA++[[.int .i64 x.no,.int .i64 x.dy,.int .i64 x.ho,.int .i64 x.dw,.int .i64 x.lt,.int .i64 x.bk,.int .u8 x.lo]]=(l++[x]).map ptA:=(by rw[W0r];rfl);rw[e]
 have fP:∀ ok st,((l++[x]).map ptA).map (λr=>r.map (frzA ok st))=(l++[x]).map ptA:=λok st=>by
  rw[W10];refine W0K λp _=>?_
  simp[ptA,frzA,frz,AV.keys]
 generalize (l++[x]).map ptA=X at *;simp -implicitDefEqProofs[FinB,Yi,newK,frzA,frzO,frz,AV.keys,fP]
def Zoc (l:Jp) (x:Prt) (i:Nat) (hi:i<=l.length) (hl:l.length<=41) :
  PB prog G 108 [(1000,.row 7 (l.map ptA))] [.osl 1000 l.length,.int .i64 i,.vsl [ptA x]] (.osl 1000 (l.length+1)) [(1000,.row 7 ((putP l x i).map ptA))]:=by
 by_cases h:i<l.length
 . exact ZmW l x i h hl
 . obtain rfl:i=l.length:=(by omega);exact Zob l x hl
def Zod (hG:GC G) (hN:GN G) (hP:GP G) (r:Jr) (l:Jl) (hs:Jh) (ps:Jp) (x:Prt) (hl:WfN l) (hr:Wf r) (hne:r≠[]) (h80:r.length<=80) (hd:Sml (nums r)) (hw:WfP hs ps) (hx:POk x) (hps:ps≠[]) :
  PC prog G 42 [prA r l hs ps,.agg (ptA x)] (snA r l hs ps x):=by
 have ho:=Zj1 hG hN hP r l hs ps hl hr hd hw;have pO:=Zi9 r l hs ps;have kO:=Zia r l hs ps;have hpx:ptA x=[.int .i64 x.no,.int .i64 x.dy,.int .i64 x.ho,.int .i64 x.dw,.int .i64 x.lt,.int .i64 x.bk,.int .u8 x.lo]:=rfl;have eP:prA r l hs ps = .agg [.vsl (r.map isa),.vsl (l.map na),.vsl (hs.map hoa),.vsl (ps.map ptA)]:=rfl;unfold opP at ho;unfold snA snE;by_cases h0:ck7 r l hs ps=0
 case neg =>
  rw[if_neg h0]at ho;simp only[if_neg h0];rw[eP]at ho ⊢
  (refine Znn rfl λR hG hrd=>Qga ?_;subst hG)
  simp -implicitDefEqProofs[Znl,Znm,hpx];refine Qco (ho) ?_;simp -implicitDefEqProofs[h0]
 rw[if_pos h0,h0]at ho;simp only[if_pos h0];by_cases h30:ps.length=30
 . simp only[if_pos h30];rw[eP]at ho ⊢
   (refine Znn rfl λR hG hrd=>Qga ?_;subst hG)
   simp -implicitDefEqProofs[Znl,Znm,hpx];refine Qco (ho) ?_;simp -implicitDefEqProofs[h30]
 simp only[if_neg h30];have hB:=Zi5.1 (ZiZ.1 h0).2;have hrp:riP ps:=hB.2.2.1;have hpl:plP ps x<=ps.length:=List.countP_le_length;have hQl:(putP ps x (plP ps x)).length=ps.length+1:=Zfh
 have hw':WfP hs (putP ps x (plP ps x)):=⟨hw.hl,by omega,hw.dl,λy hy=>by
  rcases Zfg.1 hy with rfl|hy
  . exact hx
  . exact hw.po y hy⟩
 have cK:=Zj2 hG hN hP r l hs (putP ps x (plP ps x)) hl hr hd hw'
 have hhs:hs≠[]:=λe=>by
  cases ps with
  |nil=>exact hps rfl
  | cons y t =>
    have:=(Zlb h0 (W0H ..)).1;rw[e]at this;exact absurd this (by simp[hoI,fstOf])
 have eh:Yg (hs.map hoa) = .vsl (hs.map hoa):=(by unfold Yg;rw[if_neg (by simpa using hhs)]);have cc:=ZnO (G:=G) r l hs ps hr hl.1 hw hne h80 hps;have cb:=Znv (G:=G) 106 x ps (by unfold Sml;omega) hrp (λz _=>Znq z x.no);have ci:=Zoc (G:=G) ps x (plP ps x) hpl (by omega);obtain ⟨cs,hO⟩ : ∃ cs,ofA r l hs ps = .vptr cs 0:=⟨_,rfl⟩;have eQ:prA r l hs (putP ps x (plP ps x)) = .agg [.vsl (r.map isa),.vsl (l.map na),.vsl (hs.map hoa),.vsl ((putP ps x (plP ps x)).map ptA)]:=rfl;rw[eP]at ho ⊢;rw[eQ]at cK ⊢;rw[eh]at cc;rw[hO]at ho pO kO cc;obtain ⟨IR,hIR⟩:=Qex (r.map isa);obtain ⟨NL,hNL⟩:=Qex (l.map na);obtain ⟨HL,hHL⟩:=Qex (hs.map hoa);have pIR:(IR.all λr=>r.all AV.pure)=true:=(by rw[hIR];simp[isa,AV.pure]);have pNL:(NL.all λr=>r.all AV.pure)=true:=(by rw[hNL];simp[na,AV.pure]);have pHL:(HL.all λr=>r.all AV.pure)=true:=(by rw[hHL];simp[hoa,ia,AV.pure]);rw[<- hIR,<- hNL,<- hHL]at ho cK cc ⊢;have pP:((ps.map ptA).all λr=>r.all AV.pure)=true:=(by simp[ptA,AV.pure]);have pQ:(((putP ps x (plP ps x)).map ptA).all λr=>r.all AV.pure)=true:=(by simp[ptA,AV.pure]);have rIR:=λρ=>AV.ren_pure (ρ:=ρ) (.vsl IR) (by simpa [AV.pure] using pIR)
 have rNL:=λρ=>AV.ren_pure (ρ:=ρ) (.vsl NL) (by simpa [AV.pure] using pNL)
 have rHL:=λρ=>AV.ren_pure (ρ:=ρ) (.vsl HL) (by simpa [AV.pure] using pHL)
 have rPs:=λρ=>AObj.ren_pure (ρ:=ρ) (sz:=7) pP
 have rQs:=λρ=>AObj.ren_pure (ρ:=ρ) (sz:=7) pQ
 have kPs:=λo=>ZkQ o ps
 generalize hX:ps.map ptA=X at *;generalize hY:(putP ps x (plP ps x)).map ptA=Y at *
 (refine Znn rfl λR hG hrd=>Qga ?_;subst hG)
 simp -implicitDefEqProofs[Znl,Znm,hpx];refine Qco (ho) ?_;have hXl:X.length=ps.length:=(by rw[<- hX];simp);have hYl:Y.length=ps.length+1:=(by rw[<- hY];simp[hQl]);have h30i:¬((ps.length:Int)=30):=(by omega);simp -implicitDefEqProofs[h30i,hXl];refine Yd.sem (Z1B.objs cc (λk=>k+300) (by simp) (by simp[St.get,lk]) (by simp[AV.pure,pO]) rfl rfl) ?_;simp -implicitDefEqProofs[Yl,rPs,AV.ren,rIR,rNL,rHL];refine Yd.flat cb (by simp[AV.flat]) (by simp[Yj,snap,Yh,okAll,St.get,lk,hXl,pP,AV.pure]) ?_;simp -implicitDefEqProofs;refine Yd.sem (Z1B.byref ci (λ_=>921) (by simp) (by simp) (by simp[St.get,lk,rPs]) (by simp only[W0g,W0Q,or_false,forall_eq];exact kPs _) (by simp[Ya,AV.keys,lk,ptA]) rfl (by simp[AV.ren,ptA]) rfl rfl) ?_;simp -implicitDefEqProofs[Yl,rQs,AV.ren];refine Yd.flat cK (by simp[AV.flat]) (by simp[Yj,snap,Yh,okAll,St.get,lk,hYl,pQ,pIR,pNL,pHL,AV.pure]) ?_;by_cases hk:ck7 r l hs (putP ps x (plP ps x))=0
 . simp -implicitDefEqProofs[hk,hYl,pQ,pIR,pNL,pHL]
 . simp -implicitDefEqProofs[hk]
def NsubR:List (List AV)->List (List AV)->Prop
 |[],[]=>True
 |x::xs,y::ys=>NsubL x y/\NsubR xs ys
 |_,_=>False
def NsubR.len:∀ {xs ys:List (List AV)},NsubR xs ys->xs.length=ys.length
 |[],[],_=>rfl
 |_::_,_::_,h=>by simp only[W1p,NsubR.len h.2]
 |[],_::_,h=>h.elim
 |_::_,[],h=>h.elim
def NsubR.at:∀ {xs ys:List (List AV)},NsubR xs ys->∀ (i:Nat) (y:List AV),ys[i]? = some y->∃ x,xs[i]? = some x/\NsubL x y
 |[],[],_,i,y,h=>by simp at h
 | x::xs,y::ys,h,0,z,e=>by
   simp only[W2i,W00]at e;subst e;exact ⟨x,rfl,h.1⟩
 | x::xs,y::ys,h,i+1,z,e=>by
   simp only[List.getElem?_cons_succ]at e;obtain ⟨w,h1,h2⟩:=NsubR.at h.2 i z e;exact ⟨w,by simpa using h1,h2⟩
 |[],_::_,h,_,_,_=>h.elim
 |_::_,[],h,_,_,_=>h.elim
def Nsub.vsl {xs ys:List (List AV)} (h:NsubR xs ys):Nsub (.vsl xs) (.vsl ys):=λM W u hu=>by
 have hl:=h.len
 cases hu with
 | vsl _ a cap sz b o f hcap hmax ha hn hs hc hr =>
   rw[hl];refine .vsl ys a cap sz b o f (by omega) hmax (λe=>ha λe2=>e ?_) (λe=>⟨?_,(hn e).2⟩) (λr hr=>?_) (λi j hi hj=>hc i j (by omega) hj) λi j ρ x hρ hx=>?_
   . rw[e2]at hl;exact List.eq_nil_of_length_eq_zero hl.symm
   . have:=(hn e).1;rw[this]at hl;exact List.eq_nil_of_length_eq_zero hl.symm
   . obtain ⟨i,hi,rfl⟩:=W0k hr;obtain ⟨x,hx,h2⟩:=h.at i _ (W07 hi);rw[<- h2.len];exact hs x (W0d hx)
   . obtain ⟨y,hy,h2⟩:=h.at i ρ hρ;obtain ⟨z,hz,h3⟩:=h2.at j x hx;exact h3 _ _ _ (hr i j y z hy hz)
def exG:List Iss:=[
 ⟨10,1,1,[(20,2),(30,1)],[]⟩,⟨10,2,1,[(20,1),(30,2),(40,2)],[]⟩,⟨20,1,1,[(30,3),(50,1)],[]⟩,
 ⟨30,1,2,[],[⟨150,100,200⟩]⟩,⟨30,2,2,[],[⟨150,120,200⟩]⟩,⟨40,1,2,[],[]⟩,⟨50,1,3,[],[]⟩]
def exP2:List Prt:=[⟨1,10,1,30,1,300,0⟩,⟨2,120,1,30,2,-1,0⟩,⟨3,10,2,30,1,-1,0⟩,⟨4,10,3,30,1,-1,1⟩,⟨5,10,3,10,1,-1,0⟩,⟨6,210,1,10,2,-1,0⟩,⟨7,10,1,10,1,205,0⟩]
def exX:Prt:=⟨8,300,1,10,1,-1,0⟩
def exP3:List Prt:=exP1++[exX]
def ex_wr:Wf exG:=by
 refine ⟨⟨by unfold Sml;decide,?_⟩,by decide⟩;unfold Sml;decide
def ex_wl:WfN exN:=⟨by unfold Sml;decide,by decide⟩
def ex_nu:nums exG=[10,20,30,40,50]:=by decide +kernel
def ex_sn:Sml (nums exG):=by rw[ex_nu];unfold Sml;decide
def ex_w1:WfP exH exP1:=⟨by decide,by decide,by decide,by unfold POk;decide⟩
def ex_w2:WfP exH exP2:=⟨by decide,by decide,by decide,by unfold POk;decide⟩
def ex_w3:WfP exH exP3:=⟨by decide,by decide,by decide,by unfold POk;decide⟩
def ex_c1:ck7 exG exN exH exP1=0:=by decide +kernel
def ex_c3:ck7 exG exN exH exP3=0:=by decide +kernel
def ex_a1:as7 exG exN exH exP1 300 1=0:=by decide +kernel
def ex_a2:as7 exG exN exH exP2 300 1=0:=by decide +kernel
def ex_he:heE exG exN exH exP1 300 3=([5],[4],0):=by decide +kernel
def ex_ne:neE exG exN exH exP1 1 10=[1,2]:=by
 have h:ab7 exG exN exH exP1 0 1 1 [10]=0:=(by decide +kernel);have e:hoF exH 1=some ⟨1,6,9,[10,30]⟩:=rfl;rw[neE,if_pos h,ndI,e];exact ex_nd
def ex_ms:msE exG exN exH exP1 300 1=[(10,1)]:=by
 have h:ab7 exG exN exH exP1 300 1 1 []=0:=(by decide +kernel);have e:hoF exH 1=some ⟨1,6,9,[10,30]⟩:=rfl;rw[msE,if_pos h,misI,e];show misL _ _ _ _=_;unfold misL;simp only[Zfp,Zfn]
 decide +kernel
def Zoe:msE exG exN exH exP3 300 1=[]:=by
 have h:ab7 exG exN exH exP3 300 1 1 []=0:=(by decide +kernel);have e:hoF exH 1=some ⟨1,6,9,[10,30]⟩:=rfl;rw[msE,if_pos h,misI,e];show misL _ _ _ _=_;unfold misL;simp only[Zfp,Zfn]
 decide +kernel
def Zof:sta7E exG exN exH exP1 300=[1,3,4]:=by rw[sta7E,if_pos ex_a1,Zfr];rfl
def Zog:exP1.map (calP exN exH 300 [1] [])=exP2:=by
 have e:calP exN exH 300 [1] []=λx=>if ((outB x 300&&match hoF exH x.ho with
   |some h=>h.ds.contains x.dw && !(ndsU [102] exN h x.dw).contains x.lt
   |none=>false)&&rchB [1] [] x)=true then { x with bk:=300,lo:=0 } else x:=by
  funext x
  unfold calP stB;simp only[Zfp,Zfn]
  cases hoF exH x.ho <;> rfl
 rw[e];decide +kernel
def Zoh:sta7E exG exN exH exP2 300=[3,4]:=by
 rw[sta7E,if_pos ex_a2,Zfq,Zfn];decide +kernel
def Zoi:exH.map (·.id)=[1,2,3]:=rfl
def Zoj:ca7E exG exN exH exP1 300=([],[30]):=by rw[ca7E,if_pos ex_a1,Zoi,ex_nu];exact ex_ca
def Zok:pr7E exG exN exH exP1 300=[1]:=by
 have e:=ex_ca;rw[exDl]at e;rw[pr7E,if_pos ex_a1,Zoi,ex_nu,e,Zfr];rfl
def ex_pl:plP exP1 exX=7:=by decide +kernel
def Zol:putP exP1 exX 7=exP3:=rfl
def Zom:snE exG exN exH exP1 exX=0:=by
 have h:¬exP1.length=30:=(by decide);rw[snE,if_pos ex_c1,if_neg h,ex_pl,Zol,if_pos ex_c3]
def Zon:wgE exG exN exH exP1 300 2 30 418=2:=by
 have h:ab7 exG exN exH exP1 300 418 2 [30]=0:=(by decide +kernel);rw[wgE,if_pos h,ex_po];decide +kernel
def Zoo:wgE exG exN exH exP1 300 1 10 9=1:=by
 have h:ab7 exG exN exH exP1 300 9 1 [10]=0:=(by decide +kernel);rw[wgE,if_pos h,Zfs];decide +kernel
def Zop:wgE exG exN exH exP1 300 1 30 6=0:=by
 have h:ab7 exG exN exH exP1 300 6 1 [30]=0:=(by decide +kernel);rw[wgE,if_pos h,Zft];decide +kernel
def Zoq (d l:Int):PC prog G 47 [.int .i64 d,.int .i64 l] (.agg [.int .i64 d,.int .i64 l]):=by
 (refine Z5v rfl λR hG hrd=>Qga ?_;subst hG)
 simp -implicitDefEqProofs[Z5t,Z5u]
def Zor (n d h a b:Int):PC prog G 48 [.int .i64 n,.int .i64 d,.int .i64 h,.agg [.int .i64 a,.int .i64 b]] (.agg [.int .i64 n,.int .i64 d,.int .i64 h,.int .i64 a,.int .i64 b,.int .i64 (-1),.int .u8 0]):=by
 (refine Z5y rfl λR hG hrd=>Qga ?_;subst hG)
 simp -implicitDefEqProofs[Z5w,Z5x]
def Zos:PC prog G 110 [] (.agg [.vsl (exG.map isa),.vsl (exN.map na)]):=by
 refine PC.out (v:=.agg [.vsl [[.int .i64 10,.int .i64 1,.int .u8 1,.vsl [[.int .i64 20,.int .i64 2],[.int .i64 30,.int .i64 1]],.nils],
  [.int .i64 10,.int .i64 2,.int .u8 1,.vsl [[.int .i64 20,.int .i64 1],[.int .i64 30,.int .i64 2],[.int .i64 40,.int .i64 2]],.nils],
  [.int .i64 20,.int .i64 1,.int .u8 1,.vsl [[.int .i64 30,.int .i64 3],[.int .i64 50,.int .i64 1]],.nils],
  [.int .i64 30,.int .i64 1,.int .u8 2,.nils,.vsl [[.int .i64 150,.int .i64 100,.int .i64 200]]],
  [.int .i64 30,.int .i64 2,.int .u8 2,.nils,.vsl [[.int .i64 150,.int .i64 120,.int .i64 200]]],
  [.int .i64 40,.int .i64 1,.int .u8 2,.nils,.nils],[.int .i64 50,.int .i64 1,.int .u8 3,.nils,.nils]],.vsl (exN.map na)]) ?_ ?_
 . have r2:List.range 2=[0,1]:=rfl;have r3:List.range 3=[0,1,2]:=rfl;have r4:List.range 4=[0,1,2,3]:=rfl;have r7:List.range 7=[0,1,2,3,4,5,6]:=rfl
   (refine Z5B rfl λR hG hrd=>Qga ?_;subst hG)
   simp -implicitDefEqProofs[Z5z,Z5A,r2,r3,r4,r7]
   try rfl
 . refine .agg ⟨.vsl ?_,.rfl',trivial⟩;have n:=@Nsub.rfl';exact ⟨⟨n,n,n,n,.nils,trivial⟩,⟨n,n,n,n,.nils,trivial⟩,⟨n,n,n,n,.nils,trivial⟩,⟨n,n,n,.nils,n,trivial⟩,⟨n,n,n,.nils,n,trivial⟩,⟨n,n,n,.nils,.nils,trivial⟩,⟨n,n,n,.nils,.nils,trivial⟩,trivial⟩
set_option maxRecDepth 100000 in
def Zot:PC prog G 45 [] (prA exG exN exH exP1):=by
 have hN:=Zos (G:=G);have r2:List.range 2=[0,1]:=rfl;have r3:List.range 3=[0,1,2]:=rfl;have r7:List.range 7=[0,1,2,3,4,5,6]:=rfl;unfold prA
 (refine Z5E rfl λR hG hrd=>Qga ?_;subst hG)
 simp -implicitDefEqProofs[Z5C,Z5D,r2,r3,r7]
 repeat
  first
   |refine Qco (Zoq _ _) ?_
   |refine Qco (Zor _ _ _ _ _) ?_
   |refine Qco (hN) ?_
  simp -implicitDefEqProofs[r2,r3,r7]
 exact ⟨rfl,rfl,rfl⟩
def Zou (a w:List Int) (e:Int) (ha:Sml a):PC prog G 46 [.vsl (a.map ia),.int .i64 e,.vsl (w.map ia)] (.bool (decide (e=0)&&decide (a=w))):=by
 have c:=Z8h (G:=G) a w ha;by_cases h:e=0
 . subst h
   (refine Z5H rfl λR hG hrd=>Qga ?_;subst hG)
   simp -implicitDefEqProofs[Z5F,Z5G];refine Qco (c) ?_;simp -implicitDefEqProofs
 . (refine Z5H rfl λR hG hrd=>Qga ?_;subst hG)
   simp -implicitDefEqProofs[Z5F,Z5G,h]
def Zov (hG:GC G) (hN:GN G) (hP:GP G) (h d m w:Int) (hv:wgA exG exN exH exP1 300 h d m = .tup [.int .u8 w,.int .i64 0]) :
  PC prog G 109 [.int .i64 h,.int .i64 d,.int .i64 m,.int .u8 w] (.bool true):=by
 have hp:=Zot (G:=G);have c:=Zli hG hN hP exG exN exH exP1 300 h d m ex_wl ex_wr ex_sn ex_w1;rw[hv]at c;unfold prA at hp c
 (refine Z5K rfl λR hG hrd=>Qga ?_;subst hG)
 simp -implicitDefEqProofs[Z5I,Z5J];refine Qco (hp) ?_;simp -implicitDefEqProofs;refine Qco (c) ?_;simp -implicitDefEqProofs
set_option maxRecDepth 100000 in
def Zow (hG:GC G) (hN:GN G) (hP:GP G):PC prog G 44 [] (.bool true):=by
 have hp:=Zot (G:=G);have hb:ck7 exG exN exH exP1=0->(∀ x∈exP1,0<=x.lt/\x.lt<=8)/\∀ x∈exP1,0<=x.lo/\x.lo<=2:=λ_=>⟨by decide,by decide⟩
 have cHe:=Zky hG hN hP exG exN exH exP1 300 3 ex_wl ex_wr ex_sn ex_w1 (λh=>(hb h).2);have cWk:=Zkx hG hN hP exG exN exH exP1 300 3 30 ex_wl ex_wr ex_sn ex_w1 hb;have cNe:=Zla hG hN hP exG exN exH exP1 1 10 ex_wl ex_wr ex_sn ex_w1;have cMs:=ZmH hG hN hP exG exN exH exP1 300 1 ex_wl ex_wr ex_sn ex_w1;have cM3:=ZmH hG hN hP exG exN exH exP3 300 1 ex_wl ex_wr ex_sn ex_w3;have cSt:=ZlL hG hN hP exG exN exH exP1 300 ex_wl ex_wr ex_sn ex_w1;have cS2:=ZlL hG hN hP exG exN exH exP2 300 ex_wl ex_wr ex_sn ex_w2;have cCa:=ZmB hG hN hP exG exN exH exP1 300 ex_wl ex_wr ex_sn ex_w1;have cPr:=ZmC hG hN hP exG exN exH exP1 300 ex_wl ex_wr ex_sn ex_w1;have cCl:=Zo9 hG hN hP exG exN exH exP1 300 [1] [] ex_wl ex_wr (by decide) (by decide) ex_sn ex_w1 (by unfold Sml;decide) (by unfold Sml;decide);have cSd:=Zod hG hN hP exG exN exH exP1 exX ex_wl ex_wr (by decide) (by decide) ex_sn ex_w1 (by unfold POk;decide) (by decide);have a0:ab7 exG exN exH exP1 300 1 3 [30]=0:=(by decide +kernel);have a1:ab7 exG exN exH exP1 0 1 1 [10]=0:=(by decide +kernel);have a2:ab7 exG exN exH exP1 300 1 1 []=0:=(by decide +kernel);have a3:ab7 exG exN exH exP3 300 1 1 []=0:=by decide +kernel
 have e1:clE exG exN exH exP1 300 [1] []=0:=by
  have h:((([1]:List Int).all λid=>decide (0<=hoI exH id))&&([]:List Int).all λd=>decide (d∈nums exG))=true:=(by decide +kernel);rw[clE,if_pos ex_a1,if_pos h]
 rw[heA,ex_he]at cHe;rw[if_pos a0,ex_wk]at cWk;rw[neA,ex_ne,a1]at cNe;rw[msA,ex_ms,a2]at cMs;rw[msA,Zoe,a3]at cM3;rw[stA7,Zof,ex_a1]at cSt;rw[stA7,Zoh,ex_a2]at cS2;rw[ca7A,Zoj,ex_a1]at cCa;rw[pr7A,Zok,ex_a1]at cPr;rw[clA,e1,if_pos rfl,Zog]at cCl;rw[snA,Zom,if_pos rfl,ex_pl,Zol]at cSd;have cHe:=PC.out (w:=.tup [.vsl (([5]:List Int).map ia),.vsl (([4]:List Int).map ia),.int .i64 0]) cHe (Nsub.tup ⟨.orNil _,.orNil _,.rfl',trivial⟩);have cNe:=PC.out (w:=.tup [.vsl (([1,2]:List Int).map ia),.int .i64 0]) cNe (Nsub.tup ⟨.orNil _,.rfl',trivial⟩);have cMs:=PC.out (w:=.tup [.vsl (([(10,1)]:List Rf).map ita),.int .i64 0]) cMs (Nsub.tup ⟨.orNil _,.rfl',trivial⟩);have cM3:=PC.out (w:=.tup [.vsl (([]:List Rf).map ita),.int .i64 0]) cM3 (Nsub.tup ⟨.orNil _,.rfl',trivial⟩);have cSt:=PC.out (w:=.tup [.vsl (([1,3,4]:List Int).map ia),.int .i64 0]) cSt (Nsub.tup ⟨.orNil _,.rfl',trivial⟩);have cS2:=PC.out (w:=.tup [.vsl (([3,4]:List Int).map ia),.int .i64 0]) cS2 (Nsub.tup ⟨.orNil _,.rfl',trivial⟩);have cCa:=PC.out (w:=.tup [.vsl (([]:List Int).map ia),.vsl (([30]:List Int).map ia),.int .i64 0]) cCa (Nsub.tup ⟨.orNil _,.orNil _,.rfl',trivial⟩);have cPr:=PC.out (w:=.tup [.vsl (([1]:List Int).map ia),.int .i64 0]) cPr (Nsub.tup ⟨.orNil _,.rfl',trivial⟩);have cCl:=PC.sub cCl (xs:=[prA exG exN exH exP1,.int .i64 300,.vsl (([1]:List Int).map ia),.nils]) ⟨.rfl',.rfl',.rfl',.nils,trivial⟩;have s1:=Zou (G:=G) [5] [5] 0 (by unfold Sml;decide);have s2:=Zou (G:=G) [4] [4] 0 (by unfold Sml;decide);have s3:=Zou (G:=G) [0,1] [0,1] 0 (by unfold Sml;decide);have s4:=Zou (G:=G) [1,2] [1,2] 0 (by unfold Sml;decide);have s5:=Zou (G:=G) [1,3,4] [1,3,4] 0 (by unfold Sml;decide);have s6:=PC.sub (Zou (G:=G) [] [] 0 (by unfold Sml;decide)) (xs:=[.vsl [],.int .i64 0,.nils]) ⟨.rfl',.rfl',.nils,trivial⟩;have s7:=Zou (G:=G) [30] [30] 0 (by unfold Sml;decide);have s8:=Zou (G:=G) [1] [1] 0 (by unfold Sml;decide);have s9:=Zou (G:=G) [3,4] [3,4] 0 (by unfold Sml;decide);have sr:=Zeb (G:=G) [(10,1)] [(10,1)] (by unfold Sml;decide);have b0:ab7 exG exN exH exP1 300 418 2 [30]=0:=(by decide +kernel);have b1:ab7 exG exN exH exP1 300 9 1 [10]=0:=(by decide +kernel);have b2:ab7 exG exN exH exP1 300 6 1 [30]=0:=(by decide +kernel);have w1:=Zov hG hN hP 2 30 418 2 (by rw[wgA,Zon,b0]);have w2:=Zov hG hN hP 1 10 9 1 (by rw[wgA,Zoo,b1]);have w3:=Zov hG hN hP 1 30 6 0 (by rw[wgA,Zop,b2]);simp only[W1i,Bool.and_self,W0F,W1d,ia,ita]at cHe cWk cNe cMs cM3 cSt cS2 cCa cPr cCl s1 s2 s3 s4 s5 s6 s7 s8 s9 sr;have hX:ptA exX=[.int .i64 8,.int .i64 300,.int .i64 1,.int .i64 10,.int .i64 1,.int .i64 (-1),.int .u8 0]:=rfl;rw[hX]at cSd;unfold prA at hp cHe cWk cNe cMs cM3 cSt cS2 cCa cPr cCl cSd
 (refine Z5N rfl λR hG hrd=>Qga ?_;subst hG)
 simp -implicitDefEqProofs[Z5L,Z5M]
 repeat
  first
   |refine Qco (Zoq _ _) ?_
   |refine Qco (Zor _ _ _ _ _) ?_
   |refine Qco (hp) ?_
   |refine Qco (cHe) ?_
   |refine Qco (cWk) ?_
   |refine Qco (cNe) ?_
   |refine Qco (cMs) ?_
   |refine Qco (cSt) ?_
   |refine Qco (cCa) ?_
   |refine Qco (cPr) ?_
   |refine Qco (cCl) ?_
   |refine Qco (cS2) ?_
   |refine Qco (cSd) ?_
   |refine Qco (cM3) ?_
   |refine Qco (s1) ?_
   |refine Qco (s2) ?_
   |refine Qco (s3) ?_
   |refine Qco (s4) ?_
   |refine Qco (s5) ?_
   |refine Qco (s6) ?_
   |refine Qco (s7) ?_
   |refine Qco (s8) ?_
   |refine Qco (s9) ?_
   |refine Qco (sr) ?_
   |refine Qco (w1) ?_
   |refine Qco (w2) ?_
   |refine Qco (w3) ?_
  simp -implicitDefEqProofs
section
open Qq Go.Proofs.Tryz
def Zox:RCode :=
 S [r 0 [b 1 0,n 2 (.bool false)],r 1 [L 3 4 1,c 4 17 [3],t 5 4,m 6 5,g 6 true (L 7 4 1),g 6 true (c 8 24 [7]),g 6 true (k 9 .eql 8 O),v 10 6 9,m 2 10],.ret]
def Zoy:List RRes:=[.t 2]
def Zoz:PCt prog 49 f49 Zox Zoy:=pcT func49 rfl
def ZoA:RCode :=
 S [r 0 [n 2 O],r 1 [m 3 0,w 4 (.conv .i64 (.t 3)),k 5 .rem 4 (.int .i64 14611),m 2 5],.ret]
def ZoB:List RRes:=[.t 2]
def ZoC:PCt prog 50 f50 ZoA ZoB:=pcT func50 rfl
def ZoD:RCode :=
 S [r 0 [n 4 (.bool false)],S [r 1 [m 7 0,e 8 7,n 9 O],.block 0 (.loop (S [r 2 [o 10 .lss 9 8],.cond (.t 10) .skip (.exit 0),.block 1 (S [r 3 [i 11 1 7 9,l 12 11,m 6 12],r 4 [m 13 6,m 14 1,o 15 .eql 13 14],K 15 5 [n 4 (.bool true)]]),r 6 [k 16 .add 9 I,m 9 16]]))],r 7 [n 4 (.bool false)],.ret]
def ZoE:List RRes:=[.t 4]
def ZoF:PCt prog 52 f52 ZoD ZoE:=pcT func52 rfl
end
def dy7 (n:Int):Int:=n.tmod 14611
def ZoG {n:Int} (h:0<=n):0<=dy7 n/\dy7 n<=14610:=by
 have h1:=Int.tmod_nonneg 14611 h;have h2:=Int.tmod_lt_of_pos n (b:=14611) (by omega);unfold dy7;omega
def ZoH (n:Int) (h0:0<=n) (h1:n<=65535):PC prog G 50 [.int .u16 n] (.int .i64 (dy7 n)):=by
 have w1:i64.wrap n=n:=Yf
 (refine ZoC rfl λR hG hrd=>Qga ?_;subst hG)
 simp -implicitDefEqProofs[ZoA,ZoB,w1,dy7]
def ZoI (r:Jr) (l:Jl) (hs:Jh) (ps:Jp) (hl:∀ x∈l,NOk7 x) (hr:∀ x∈r,KOk x) (hp:∀ x∈ps,POk x) :
  PC prog G 49 [prA r l hs ps] (.bool (!gr7 r l hs ps&&decide (ck7 r l hs ps=0))):=by
 have cg:=ZkS (G:=G) r l hs ps
 cases hg:gr7 r l hs ps with
 | true =>
   rw[hg]at cg;unfold prA at *
   (refine Zoz rfl λR hG hrd=>Qga ?_;subst hG)
   simp -implicitDefEqProofs[Zox,Zoy];refine Qco (cg) ?_;simp -implicitDefEqProofs
 | false =>
   obtain ⟨wl,wr,wd,wp⟩:=ZkV hg hr hl hp;have cc:=Zkq (G:=G) r l hs ps wl wr wd wp;rw[hg]at cg;unfold prA at *
   (refine Zoz rfl λR hG hrd=>Qga ?_;subst hG)
   simp -implicitDefEqProofs[Zox,Zoy];refine Qco (cg) ?_;simp -implicitDefEqProofs;refine Qco (cc) ?_;simp -implicitDefEqProofs
def ZoJ (l:List Int) (n:Int) (hl:Sml l):PC prog G 52 [.vsl (l.map ia),.int .i64 n] (.bool (decide (n∈l))):=by
 unfold Sml at hl
 (refine ZoF rfl λR hG hrd=>Qga ?_;subst hG)
 simp -implicitDefEqProofs[ZoD,ZoE];refine Z8a (λi=>⟨[(9,.int .i64 i),(8,.int .i64 l.length),(7,.vsl (l.map ia)),(1,.int .i64 n)],[]⟩) (λi=>∀ j (h:j<l.length),j<i->l[j]≠n) l.length (by (first|exact Wka|exact Wkb)) (by simp) ?_ ?_
 . intro i hi he;have w1:i64.wrap ((i:Int)+1)=((i+1:Nat):Int):=Yf;refine Qga ?_;by_cases h:l[i]=n
   . have hm:n∈l:=h ▸ W0e hi;simp -implicitDefEqProofs[hi,ia,h];refine Qgr ?_;simp -implicitDefEqProofs[hm]
   . simp -implicitDefEqProofs[hi,ia,h,w1];refine ⟨(by (first|exact Wka|exact Wkb)),λj q1 q2=>?_⟩;by_cases e:j=i
     . subst e;exact h
     . exact he j q1 (by omega)
 . intro he
   have hm:n ∉ l:=λh=>by
    obtain ⟨j,hj,e⟩:=W0k h;exact he j hj hj e
   refine Qga ?_;simp -implicitDefEqProofs;refine Qgr ?_;simp -implicitDefEqProofs[hm]
section
open Qq Go.Proofs.Tryz
end
def ZoK {ps:Jp} (h:ps.Pairwise λx y=>x.no<y.no) (p:Prt->Bool) {x:Prt} (hx:x∈ps):x.no∈(ps.filter p).map (·.no)↔p x=true:=by
 rw[W0i]
 constructor
 . rintro ⟨y,hy,e⟩;obtain ⟨h1,h2⟩:=W0G.1 hy
   have:y=x:=by
    obtain ⟨i,hi,rfl⟩:=W0k h1;obtain ⟨j,hj,rfl⟩:=W0k hx;rcases W0R i j with c|c|c
    . have:=W0Y.1 h i j hi hj c;omega
    . subst c;rfl
    . have:=W0Y.1 h j i hj hi c;omega
   rw[<- this];exact h2
 . intro q;exact ⟨x,W0G.2 ⟨hx,q⟩,rfl⟩
def Nsub.nes:Nsub .nes (.vsl []):=λM W u hu=>by
 cases hu with
 |nes a cap hmax=>exact .vsl [] (some a) cap 0 0 0 (λ_ _=>Go.undef) (W1f _) hmax (λh=>absurd rfl h) (λh=>by cases h) (by simp) (by simp) (by simp)
def PC.emp {P:Program} {G:Jg} {f:FuncId} {A B C X v:AV} (h1:PC P G f [.agg [A,B,C,.nils],X] v) (h2:PC P G f [.agg [A,B,C,.nes],X] v):PC P G f [.agg [A,B,C,.vsl []],X] v:=by
 refine ⟨h1.1,λM W vs hM hG hz hv=>?_⟩;have hz2:vs.size=2:=hz;have hu0:vs[0]? = some vs[0]:=W0n (by omega);have p0:=hv 0 _ _ rfl hu0;generalize vs[0]=u0 at hu0 p0
 cases p0 with
 | agg _ us hsz hx =>
   have hsz2:us.size=4:=hsz;have hu3:us[3]? = some us[3]:=W0n (by omega);have p3:=hx 3 _ _ rfl hu3;generalize us[3]=u3 at hu3 p3
   have key:∀ E:AV,PV M W E u3->∀ (i:Nat) (x:AV) (u:Value),[AV.agg [A,B,C,E],X][i]? = some x->vs[i]? = some u->PV M W x u:=λE hE i x u hi hu=>by
    match i,hi with
    | 0,hi =>
      simp only[W2i,W00]at hi;subst hi;rw[hu0]at hu
      cases hu
      refine .agg _ us hsz λj y w hj hw=>?_
      match j,hj with
      |0,hj=>exact hx 0 y w hj hw
      |1,hj=>exact hx 1 y w hj hw
      |2,hj=>exact hx 2 y w hj hw
      | 3,hj =>
        simp only[List.getElem?_cons_succ,W2i,W00]at hj;subst hj;rw[hu3]at hw
        cases hw
        exact hE
      |j+4,hj=>simp at hj
    |1,hi=>exact hv 1 x u hi hu
    |i+2,hi=>simp at hi
   cases p3 with
   | vsl _ a cap sz b o f hcap hmax ha hn hs hc hr =>
     cases a with
     | none =>
       obtain ⟨-,rfl⟩:=hn rfl;exact h1.2 M W vs hM hG hz (key _ .nils)
     |some ad=>exact h2.2 M W vs hM hG hz (key _ (.nes ad cap hmax))
def ZoL (hG:GC G) (hN:GN G) (hP:GP G) (r:Jr) (l:Jl) (hs:Jh) (E:AV) (hE:E = .nils∨E = .nes) (hl:WfN l) (hr:Wf r) (hd:Sml (nums r)) (hw:WfP hs []) :
  PC prog G 76 [.agg [.vsl (r.map isa),.vsl (l.map na),.vsl (hs.map hoa),E]] (.tup [if ck7 r l hs []=0 then ofE r l hs E else .nilp,.int .i64 (ck7 r l hs [])]):=by
 have hc:=ZeC hG hN r l hl hr;have hD:=Zav hG r hr;rw[rega]at hD;have hR0:=ZiY hP r l hs [] hr.1.1 hd hw;have sE:Nsub E (.vsl []):=by rcases hE with rfl|rfl;exact .nils;exact .nes
 have hR:=PC.sub hR0 (xs:=[ofE r l hs E]) ⟨.vptr ⟨.rfl',.rfl',.rfl',sE,.rfl',trivial⟩,trivial⟩;have eO:ofE r l hs E = .vptr [.vsl (r.map isa),.vsl (l.map na),.vsl (hs.map hoa),E,.vsl ((nums r).map ia)] 0:=rfl;have pO:=ZnM r l hs E (by rcases hE with rfl|rfl <;> simp[AV.pure]);have kO:=AV.pure_keys _ pO;have sO:∀ ok st,Yh ok st 6 (ofE r l hs E)=some (ofE r l hs E):=λok st=>by rw[eO];rw[eO]at pO;simp[Yh,pO]
 by_cases h0:chN r l=0
 case neg =>
  have e:ck7 r l hs []=chN r l:=(by rw[ck7,if_neg h0]);rw[e,if_neg h0];rcases hE with rfl|rfl <;>
  . (refine Zhe rfl λR hG hrd=>Qga ?_;subst hG)
    simp -implicitDefEqProofs[Zhc,Zhd];refine Qco (hc) ?_;simp -implicitDefEqProofs[h0]
 have ho:=Zj0 h0;rw[if_pos ho,ho]at hD;rw[h0]at hc;rw[eO]at hR;rcases hE with rfl|rfl <;>
 . refine Zhe rfl λR hG hrd=>?_
   subst hG;refine Qga ?_;simp -implicitDefEqProofs[Zhc,Zhd];refine Qco (hc) ?_;simp -implicitDefEqProofs;refine Qco (hD) ?_;simp -implicitDefEqProofs
   (first|refine Yd.flat (hR) (by simp[AV.flat]) (by simp) ?_|refine Ye.flat (hR) (by simp[AV.flat]) (by simp) ?_)
   cases q:ptsB r hs []
   . have e:ck7 r l hs []=70:=(by rw[ck7,if_pos h0,q];rfl);simp -implicitDefEqProofs[e]
   . have e:ck7 r l hs []=0:=(by rw[ck7,if_pos h0,q];rfl);simp -implicitDefEqProofs[e,eO]
def ZoM:PB prog G 155 [] [.nes] (.osl 5 ([]:Jp).length) [(5,.row 7 (([]:Jp).map ptA))]:=by
 refine Z5i (λk=>decide (k<1000) && !(k == 5)) (by intro k hk;simp at hk;omega) Tryz.func155 rfl (by kernel_rfl) (rc:=ZfD) (by kernel_rfl) (rs:=ZfE) (by kernel_rfl) (W0C rfl) λR _ hG hrd=>Qga ?_
 subst hG;simp -implicitDefEqProofs[ZfD,ZfE];simp -implicitDefEqProofs[FinO,Yi,frzO,frzA,frz,AV.keys]
def ZoN (x:Prt):PC prog G 108 [.nils,.int .i64 0,.vsl [ptA x]] (.vsl [ptA x]):=by
 have hpx:ptA x=[.int .i64 x.no,.int .i64 x.dy,.int .i64 x.ho,.int .i64 x.dw,.int .i64 x.lt,.int .i64 x.bk,.int .u8 x.lo]:=rfl;refine PC_of Tryz.func108 rfl (by kernel_rfl) (rc:=ZmI) (by kernel_rfl) (rs:=ZmJ) (by kernel_rfl) (W0C rfl) λR _ hG hrd=>Qga ?_
 simp -implicitDefEqProofs[ZmI,ZmJ,hpx]
section
variable {r:Jr} {l:Jl} {hs:Jh} {x:Prt}
def ZoO (hw:WfP hs []) (hx:POk x):WfP hs [x]:=⟨hw.hl,by simp,hw.dl,λy hy=>by
 rw[W0B]at hy;subst hy;exact hx⟩
def ZoP (hk:ck7 r l hs [x]=0):hs≠[]:=λe=>by
 have:=(Zlb hk (W0H ..)).1;rw[e]at this;exact absurd this (by simp[hoI,fstOf])
end
def ZoQ (hG:GC G) (hN:GN G) (hP:GP G) (r:Jr) (l:Jl) (hs:Jh) (x:Prt) (hl:WfN l) (hr:Wf r) (hne:r≠[]) (h80:r.length<=80) (hd:Sml (nums r)) (hw:WfP hs []) (hx:POk x) :
  PC prog G 42 [.agg [.vsl (r.map isa),.vsl (l.map na),.vsl (hs.map hoa),.nils],.agg (ptA x)] (snA r l hs [] x):=by
 have ho:=ZoL hG hN hP r l hs .nils (.inl rfl) hl hr hd hw;have hpx:ptA x=[.int .i64 x.no,.int .i64 x.dy,.int .i64 x.ho,.int .i64 x.dw,.int .i64 x.lt,.int .i64 x.bk,.int .u8 x.lo]:=rfl;have pO:=ZnM r l hs .nils (by simp[AV.pure]);have kO:=AV.pure_keys _ pO;have e1:putP [] x (plP [] x)=[x]:=rfl;have h30:¬([]:Jp).length=30:=(by decide);unfold snA snE;by_cases h0:ck7 r l hs []=0
 case neg =>
  rw[if_neg h0]at ho;simp only[if_neg h0]
  (refine Znn rfl λR hG hrd=>Qga ?_;subst hG)
  simp -implicitDefEqProofs[Znl,Znm,hpx];refine Qco (ho) ?_;simp -implicitDefEqProofs[h0]
 rw[if_pos h0,h0]at ho;simp only[if_pos h0,if_neg h30,e1];have eQ:prA r l hs [x] = .agg [.vsl (r.map isa),.vsl (l.map na),.vsl (hs.map hoa),.vsl [ptA x]]:=rfl;have cK:=Zj2 hG hN hP r l hs [x] hl hr hd (ZoO hw hx);rw[eQ]at cK ⊢;have cK:=PC.sub cK (xs:=[.agg [.vsl (r.map isa),.vsl (l.map na),Yg (hs.map hoa),.vsl [ptA x]]]) ⟨.agg ⟨.rfl',.rfl',.orNil _,.rfl',trivial⟩,trivial⟩;have cc:=ZnQ (G:=G) r l hs .nils (.inl rfl) Zmw hr hl.1 hw hne h80;have cb:=PC.sub (Znv (G:=G) 106 x [] (by unfold Sml;simp) List.Pairwise.nil (λz h=>by cases h)) (xs:=[.nils,.int .i64 x.no,.func (.func 106) [] []]) ⟨.nils,.rfl',.rfl',trivial⟩;have e0:plP [] x=0:=rfl;rw[e0]at cb;have ci:=ZoN (G:=G) x;obtain ⟨IR,hIR⟩:=Qex (r.map isa);obtain ⟨NL,hNL⟩:=Qex (l.map na);obtain ⟨HL,hHL⟩:=Qex (hs.map hoa);have pIR:(IR.all λr=>r.all AV.pure)=true:=(by rw[hIR];simp[isa,AV.pure]);have pNL:(NL.all λr=>r.all AV.pure)=true:=(by rw[hNL];simp[na,AV.pure]);have pHL:(HL.all λr=>r.all AV.pure)=true:=(by rw[hHL];simp[hoa,ia,AV.pure]);have hHe:ck7 r l hs [x]=0->Yg HL = .vsl HL:=λhk=>by rw[hHL,Yg,if_neg (by simpa using ZoP hk)]
 have hV:Yg HL = .nils∨Yg HL = .vsl HL:=(by unfold Yg;split <;> simp);obtain ⟨cs,hO⟩ : ∃ cs,ofE r l hs .nils = .vptr cs 0:=⟨_,rfl⟩;rw[hO]at ho pO kO cc;rw[<- hIR,<- hNL,<- hHL]at cc cK ho ⊢;generalize Yg HL=HV at *;rw[hpx]at cK ci ⊢;generalize hck:ck7 r l hs [x]=c at *;rcases hV with rfl|rfl
 all_goals
  (refine Znn rfl λR hG hrd=>Qga ?_;subst hG)
  simp -implicitDefEqProofs[Znl,Znm];refine Yd.of ho (by simp[AV.pure,pIR,pNL,pHL]) ?_;simp -implicitDefEqProofs;refine Yd.of cc (by simp[pO]) ?_;simp -implicitDefEqProofs;refine Qco (cb) ?_;simp -implicitDefEqProofs;refine Qco (ci) ?_;simp -implicitDefEqProofs;refine Yd.of cK (by simp[AV.pure,pIR,pNL,pHL]) ?_;by_cases hk:c=0
  . first
    |cases hHe hk;done
    | rw[if_pos hk,hk]
      simp -implicitDefEqProofs[pIR,pNL,pHL,AV.pure]
  . rw[if_neg hk];simp -implicitDefEqProofs[hk]
def ZoR (hG:GC G) (hN:GN G) (hP:GP G) (r:Jr) (l:Jl) (hs:Jh) (x:Prt) (hl:WfN l) (hr:Wf r) (hne:r≠[]) (h80:r.length<=80) (hd:Sml (nums r)) (hw:WfP hs []) (hx:POk x) :
  PC prog G 42 [.agg [.vsl (r.map isa),.vsl (l.map na),.vsl (hs.map hoa),.nes],.agg (ptA x)] (snA r l hs [] x):=by
 have ho:=ZoL hG hN hP r l hs .nes (.inr rfl) hl hr hd hw;have hpx:ptA x=[.int .i64 x.no,.int .i64 x.dy,.int .i64 x.ho,.int .i64 x.dw,.int .i64 x.lt,.int .i64 x.bk,.int .u8 x.lo]:=rfl;have pO:=ZnM r l hs .nes (by simp[AV.pure]);have kO:=AV.pure_keys _ pO;have e1:putP [] x (plP [] x)=[x]:=rfl;have h30:¬([]:Jp).length=30:=(by decide);unfold snA snE;by_cases h0:ck7 r l hs []=0
 case neg =>
  rw[if_neg h0]at ho;simp only[if_neg h0]
  (refine Znn rfl λR hG hrd=>Qga ?_;subst hG)
  simp -implicitDefEqProofs[Znl,Znm,hpx];refine Qco (ho) ?_;simp -implicitDefEqProofs[h0]
 rw[if_pos h0,h0]at ho;simp only[if_pos h0,if_neg h30,e1];have eQ:prA r l hs [x] = .agg [.vsl (r.map isa),.vsl (l.map na),.vsl (hs.map hoa),.vsl [ptA x]]:=rfl;have cK:=Zj2 hG hN hP r l hs [x] hl hr hd (ZoO hw hx);rw[eQ]at cK ⊢;have cK:=PC.sub cK (xs:=[.agg [.vsl (r.map isa),.vsl (l.map na),Yg (hs.map hoa),.vsl [ptA x]]]) ⟨.agg ⟨.rfl',.rfl',.orNil _,.rfl',trivial⟩,trivial⟩;have cc:=ZnN (G:=G) r l hs [] .nes (by simp[AV.pure]) ZoM hr hl.1 hw hne h80;have cb:=Znv (G:=G) 106 x [] (by unfold Sml;simp) List.Pairwise.nil (λz h=>by cases h);have e0:plP [] x=0:=rfl;rw[e0,W1d]at cb;have ci:=Zoc (G:=G) [] x 0 (W0f _) (by simp);have e2:putP [] x 0=[x]:=rfl;rw[e2]at ci;simp only[W1d,W1U,W0F]at cc ci;obtain ⟨IR,hIR⟩:=Qex (r.map isa);obtain ⟨NL,hNL⟩:=Qex (l.map na);obtain ⟨HL,hHL⟩:=Qex (hs.map hoa);have pIR:(IR.all λr=>r.all AV.pure)=true:=(by rw[hIR];simp[isa,AV.pure]);have pNL:(NL.all λr=>r.all AV.pure)=true:=(by rw[hNL];simp[na,AV.pure]);have pHL:(HL.all λr=>r.all AV.pure)=true:=(by rw[hHL];simp[hoa,ia,AV.pure]);have rIR:=λρ=>AV.ren_pure (ρ:=ρ) (.vsl IR) (by simpa [AV.pure] using pIR)
 have rNL:=λρ=>AV.ren_pure (ρ:=ρ) (.vsl NL) (by simpa [AV.pure] using pNL)
 have rHL:=λρ=>AV.ren_pure (ρ:=ρ) (.vsl HL) (by simpa [AV.pure] using pHL)
 have kIR:=AV.pure_keys (.vsl IR) (by simpa [AV.pure] using pIR);have kNL:=AV.pure_keys (.vsl NL) (by simpa [AV.pure] using pNL);have kHL:=AV.pure_keys (.vsl HL) (by simpa [AV.pure] using pHL);have hHe:ck7 r l hs [x]=0->Yg HL = .vsl HL:=λhk=>by rw[hHL,Yg,if_neg (by simpa using ZoP hk)]
 have hV:Yg HL = .nils∨Yg HL = .vsl HL:=(by unfold Yg;split <;> simp);obtain ⟨cs,hO⟩ : ∃ cs,ofE r l hs .nes = .vptr cs 0:=⟨_,rfl⟩;rw[hO]at ho pO kO cc;rw[<- hIR,<- hNL,<- hHL]at cc cK ho ⊢;generalize Yg HL=HV at *;rw[hpx]at cK ci ⊢;generalize hck:ck7 r l hs [x]=c at *;rcases hV with rfl|rfl
 all_goals
  (refine Znn rfl λR hG hrd=>Qga ?_;subst hG)
  simp -implicitDefEqProofs[Znl,Znm];refine Yd.of ho (by simp[AV.pure,pIR,pNL,pHL]) ?_;simp -implicitDefEqProofs;refine Yd.sem (Z1B.objs cc (λk=>k+300) (by simp) (by simp[St.get,lk]) (by simp[AV.pure,pO]) rfl rfl) ?_;simp -implicitDefEqProofs[Yl,AObj.ren,AV.ren,rIR,rNL,rHL];refine Yd.flat cb (by simp[AV.flat]) (by simp[Yj,snap,Yh,okAll,St.get,lk,AV.pure]) ?_;simp -implicitDefEqProofs;refine Yd.sem (Z1B.byref ci (λ_=>921) (by simp) (by simp) (by simp[St.get,lk,AObj.ren]) (by simp[Yc,Ya]) (by simp[Ya,AV.keys,lk]) rfl (by simp[AV.ren]) rfl rfl) ?_;simp -implicitDefEqProofs[Yl,AObj.ren,AV.ren];refine Yd.flat cK (by simp[AV.flat]) (by simp[Yj,snap,Yh,okAll,St.get,lk,pIR,pNL,AV.pure]) ?_;by_cases hk:c=0
  . first
    |cases hHe hk;done
    | rw[if_pos hk,hk]
      simp -implicitDefEqProofs[pIR,pNL,pHL,AV.pure]
  . rw[if_neg hk];simp -implicitDefEqProofs[hk]
def ZoS (hG:GC G) (hN:GN G) (hP:GP G) (r:Jr) (l:Jl) (hs:Jh) (ps:Jp) (x:Prt) (hl:WfN l) (hr:Wf r) (hne:r≠[]) (h80:r.length<=80) (hd:Sml (nums r)) (hw:WfP hs ps) (hx:POk x) :
  PC prog G 42 [prA r l hs ps,.agg (ptA x)] (snA r l hs ps x):=by
 by_cases hps:ps=[]
 . subst hps;exact PC.emp (ZoQ hG hN hP r l hs x hl hr hne h80 hd hw hx) (ZoR hG hN hP r l hs x hl hr hne h80 hd hw hx)
 . exact Zod hG hN hP r l hs ps x hl hr hne h80 hd hw hx hps
section
variable {r:Jr} {l:Jl} {hs:Jh} {ps:Jp} {day:Int}
def noF (ps:Jp) (n:Int):Option Prt:=ps.find? λx=>decide (x.no=n)
def ZoT (h:riP ps) {x:Prt} (hx:x∈ps):noF ps x.no=some x:=by
 unfold noF
 cases q:ps.find? λy=>decide (y.no=x.no) with
 | none =>
   have:=List.find?_eq_none.1 q x hx;simp at this
 | some y =>
   have h1:=List.mem_of_find?_eq_some q;have h2:y.no=x.no:=(by simpa using List.find?_some q);rw[Zfi h h1 hx h2]
def ZoU {x:Prt} (h:∀ y∈ps,y.no<x.no):putP ps x (plP ps x)=ps++[x]:=by
 have e:plP ps x=ps.length:=List.countP_eq_length.2 λy hy=>by simpa using h y hy
 rw[e,putP,W0v,List.drop_length]
def ZoV {x:Prt} (hv:ptsB r hs (putP ps x (plP ps x))=true) (hp:riP ps) {z:Prt} (hz:z∈ps) :
  (z.no∈(staL l hs ps day).map (·.no)↔z.no∈(staL l hs (putP ps x (plP ps x)) day).map (·.no))/\noF (putP ps x (plP ps x)) z.no=some z:=by
 have h3:=(Zi5.1 hv).2.2.1;have hz2:z∈putP ps x (plP ps x):=Zfg.2 (.inr hz);refine ⟨?_,ZoT h3 hz2⟩;unfold staL;rw[ZoK hp _ hz,ZoK h3 _ hz2]
def ZoW {x:Prt} (hv:ptsB r hs (putP ps x (plP ps x))=true) (hd:day<x.dy):x.no ∉ (staL l hs (putP ps x (plP ps x)) day).map (·.no):=by
 unfold staL;rw[ZoK (Zi5.1 hv).2.2.1 _ (Zfg.2 (.inl rfl))];simp[stB,outB]
 intros
 omega
def newP (h:Hld) (day last:Int) (i:Nat) (x:Int×Int):Prt:=⟨last+1+i,day,h.id,x.1,x.2,-1,0⟩
def newL (h:Hld) (day last:Int) (L:List (Int×Int)) (k:Nat):List Prt:=(L.take k).mapIdx λi x=>newP h day last i x
def ZoX {h:Hld} {day last:Int} {L:List (Int×Int)} {k:Nat} (hk:k<L.length):newL h day last L (k+1)=newL h day last L k++[newP h day last k L[k]]:=by
 unfold newL;rw[W08 hk,List.mapIdx_append];simp[Nat.min_eq_left (Nat.le_of_lt hk)]
def ZoY {h:Hld} {day last:Int} {L:List (Int×Int)} {k:Nat} {y:Prt} (hy:y∈newL h day last L k):∃ i,∃ _:i<L.length,i<k/\y=newP h day last i L[i]:=by
 unfold newL at hy;obtain ⟨i,hi,rfl⟩:=W0k hy;simp only[List.length_mapIdx,W15]at hi;refine ⟨i,by omega,by omega,?_⟩;simp
def ZoZ {h:Hld} {last:Int} {L:List (Int×Int)} {k:Nat} (hk:k<L.length) (hl:∀ y∈ps,y.no<=last) :
  putP (ps++newL h day last L k) (newP h day last k L[k]) (plP (ps++newL h day last L k) (newP h day last k L[k]))=ps++newL h day last L (k+1):=by
 rw[ZoU,ZoX hk,W0U];intro y hy;rcases W0h.1 hy with hy|hy
 . have:=hl y hy;simp only[newP];omega
 . obtain ⟨i,hi,hik,rfl⟩:=ZoY hy;simp only[newP];omega
def Zp0 (hr:openV r=0) (hB:Zb2 r l=true) (hH:OkH r hs) {h:Hld} (hh:h∈hs) (hd:0<=day/\day<=14610) (hv:ptsB r hs ps=true) {last:Int} (hl:∀ y∈ps,y.no<=last) (h0:0<=last)
  (hm:ps.length+(misL l h ps day).length<=30) (hi:last+(misL l h ps day).length<=9999):∀ k,k<=(misL l h ps day).length->ptsB r hs (ps++newL h day last (misL l h ps day) k)=true
 |0,_=>by simpa [newL] using hv
 | k + 1,hk=>by
   have ih:=Zp0 hr hB hH hh hd hv hl h0 hm hi k (by omega);have hk':k<(misL l h ps day).length:=hk;rw[<- ZoZ hk' hl];have ll:(newL h day last (misL l h ps day) k).length=k:=(by unfold newL;simp;omega);refine (Zi8 ih (by rw[W0s,ll];omega)).2 ⟨?_,λy hy=>?_⟩
   . obtain ⟨g1,g2,-⟩:=Zfe.1 (W0e hk');have g3:=(hH.ds h hh).2.1 _ g1;have g4:=ZhY hr hB g3 g2;have g5:=Zi7 hH.lt hh;simp only[prB,newP,W01,W0T,W0b];refine ⟨⟨⟨⟨⟨Zf1.2 ⟨by omega,by omega⟩,Zf1.2 hd⟩,by rw[g5];rfl⟩,by first|trivial|decide|omega⟩,g4⟩,.inl trivial⟩
   . rcases W0h.1 hy with hy|hy
     . have:=hl y hy;simp only[newP];omega
     . obtain ⟨i,hi,hik,rfl⟩:=ZoY hy;simp only[newP];omega
def Zp1 {h:Hld} {last:Int}:misL l h (ps++newL h day last (misL l h ps day) (misL l h ps day).length) day=[]:=by
 refine Zff λx hx=>?_
 obtain ⟨i,hi,rfl⟩:=W0k hx;refine ⟨newP h day last i (misL l h ps day)[i],?_,rfl,rfl,rfl,rfl,by simp[outB,newP]⟩;unfold newL;rw[W0v,List.mem_iff_getElem];exact ⟨i,by simpa using hi,by simp⟩
end
def Zpc {xs:List AV} (h:TVs [.int .i64] xs):∃ n:Int,xs=ia n:=by
 obtain ⟨x0,_,rfl,h0,h⟩:=h.cons_inv;obtain rfl:=h.nil_inv;obtain ⟨n,rfl,-⟩:=h0.int_inv;exact ⟨n,rfl⟩
open Go.ChangeShapes Go.WideShapes Go.ChangeAt Go.WideMaps Go.WideElems Go.RowKit Go.Deep
def laid7:List (String×DataW Unit):=[("blueline/sheet.checks",Rows.laid_blueline_sheet_checks),("blueline/note.checks",Rows.laid_blueline_note_checks),("blueline/recall.checks",Rows.laid_blueline_recall_checks)]
def Zpd (os:Os) (args:Array Value):laidMetH prog laid7 ((World.doorLaid prog 41 os).forCall (λ_ _=>0) ⟨#[],args,[]⟩).memory :=
 laidMetH_of_parts3 (fuel:=8) (laidMet_of_run' 8 (by kernel_rfl) (by kernel_rfl)) (by kernel_rfl) (by kernel_rfl)
def cellF {W:World} {fuel:Nat} {c:Value} {y:DataW (List UInt8)×List MemPlace} {tE:Nat} {fld:Field} {ps rs:Array TypeId} {vd:Bool} {b:UInt8} {s:List UInt8} {f0:FuncId}
  (uE:prog.underlying tE=some (.struct #[fld])) (hfo:fld.offset=0) (uF:prog.underlying fld.type=some (.func ps rs vd)) (cF:prog.cellsOf fld.type=1)
  (hone:((List.range prog.funcs.size).filter λf=>(prog.funcs[f]?).any (·.name.toUTF8.data.toList == b::s))=[f0])
  (h:DataW.trod (funcToken prog) prog W 0 (λ_=>true) true fuel tE [c]=some y) (hy:y.1 = .agg [.held (b::s)]):c = .func (.func f0) #[] #[]:=by
 obtain ⟨y0,n,rfl,-,h0⟩:=trod_struct1 uE h;rw[hfo,W1P,cF]at h0;simp only[DataW.agg.injEq,W2f,and_true]at hy;exact func_of_trod (q:=y0.2) uF hone (by rw[<- hy];simpa using h0)
def Zpe {W:World} {laid:List (String×DataW Unit)} {nm:String} {d:DataW Unit} {g tA tE:Nat} {fld:Field} {ps rs:Array TypeId} {vd:Bool} {n:Nat} (toks:List (List UInt8)) (fs:List FuncId)
  (h:laidMetH prog laid W) (hm:(nm,DataW.iface "func table" d)∈laid) (hg:prog.globalNamed nm=some g) (ht:(prog.globals[g]?).map (·.type)=some tA)
  (uA:prog.underlying tA=some (.array n tE)) (uE:prog.underlying tE=some (.struct #[fld])) (hfo:fld.offset=0) (uF:prog.underlying fld.type=some (.func ps rs vd))
  (cA:prog.cellsOf tA=n) (cE:prog.cellsOf tE=1) (cF:prog.cellsOf fld.type=1) (hl1:toks.length=n) (hl2:fs.length=n)
  (hd0:(d.funcsOut:DataW (List UInt8)) = .agg (toks.map λs=>.agg [.held s]))
  (hone:∀ (i:Nat) (s:List UInt8) (f:FuncId),toks[i]? = some s->fs[i]? = some f->∃ b r,s=b::r/\((List.range prog.funcs.size).filter λf=>(prog.funcs[f]?).any (·.name.toUTF8.data.toList == b::r))=[f]) :
  ∃ t fr,W.heap[g]? = some (.cells ((fs.map λf=>Value.func (.func f) #[] #[]).toArray) t fr):=by
 obtain ⟨g',t,cs,fuel,p,hg',ht',hv,hd⟩:=h.funcs hm;obtain rfl:=W1L (hg.symm.trans hg');obtain rfl:=W1L (ht.symm.trans ht');obtain ⟨xs,m,rfl,hx,hlen,hn,hel⟩:=DataW.trod_array uA hd;rw[cA]at hlen;rw[cE]at hel;rw[hd0,W06,DataW.agg.injEq]at hx;have hx:=hx.1
 have hcs:cs.toList=fs.map λf=>Value.func (.func f) #[] #[]:=by
  refine List.ext_getElem? λi=>?_
  by_cases hi:i<n
  . have e:=hel i hi;have h1:i<xs.length:=(by omega);have h2:i<toks.length:=(by omega);have h3:i<fs.length:=(by omega);have h4:i<cs.toList.length:=(by omega);obtain ⟨b,r,hb,ho⟩:=hone i _ _ (W07 h2) (W07 h3);rw[Nat.mul_one,W0x h4,W1Z,W1g,W07 h1]at e;have ey:=congrArg (λl=>l[i]?) hx;simp only[W09,W07 h2,W07 h1,W0m,W00]at ey;rw[hb]at ey;have:=cellF uE hfo uF cF ho e ey.symm;rw[W07 h4,W09,W07 h3,this];rfl
  . rw[W25 (by omega),W25 (by simp;omega)]
 simp only[World.var?,hg,W1o]at hv
 split at hv
 . rename_i cs' t fr heq;injection hv with hv
   have e:cs=(fs.map λf=>Value.func (.func f) #[] #[]).toArray:=(by rw[<- hcs]);exact ⟨t,fr,by rw[heq,hv,e]⟩
 . cases hv
def TabB (W:World) (g:Nat) (fs:List FuncId):Prop:=∃ t fr,W.heap[g]? = some (.cells ((fs.map λf=>Value.func (.func f) #[] #[]).toArray) t fr)
def tabA (fs:List FuncId):List AV:=fs.map λf=>.func (.func f) [] []
def Zpf {W:World} {g:Nat} {fs:List FuncId} (h:TabB W g fs):PV noM W (.vptr (tabA fs) 0) (.pointer (some ⟨g,0,none⟩)):=by
 obtain ⟨t,fr,hb⟩:=h;refine .vptr _ 0 g 0 (λj=>(((fs.map λf=>Value.func (.func f) #[] #[]).toArray)[j]?).getD undef) (W0c.1 hb).1 id ?_ ?_
 . intro j hj;have hj':j<fs.length:=(by simpa [tabA] using hj);simp[World.cell?,hb,hj']
 . intro j x hx;unfold tabA at hx;rw[W09,W04]at hx;obtain ⟨f,hf,rfl⟩:=hx;have hj':=(W02.1 hf).1;have e:((fs.map λf=>Value.func (.func f) #[] #[]).toArray)[j]? = some (.func (.func f) #[] #[]):=(by simp[hf]);rw[e];exact .func _ [] [] #[] #[] rfl rfl (by simp) (by simp)
def fsC:List FuncId:=[260,261,262,263]
def fsN:List FuncId:=[237,238,239,240,242,243,246,248]
def fsR:List FuncId:=[252,253,254,257,258]
set_option maxRecDepth 100000 in
def Zpg {W:World} (h:laidMetH prog laid7 W):TabB W 0 fsN :=
 Zpe [[98,108,117,101,108,105,110,101,47,110,111,116,101,46,99,104,101,99,107,115,36,49],[98,108,117,101,108,105,110,101,47,110,111,116,101,46,99,104,101,99,107,115,36,50],[98,108,117,101,108,105,110,101,47,110,111,116,101,46,99,104,101,99,107,115,36,51],[98,108,117,101,108,105,110,101,47,110,111,116,101,46,99,104,101,99,107,115,36,52],[98,108,117,101,108,105,110,101,47,110,111,116,101,46,99,104,101,99,107,115,36,53],[98,108,117,101,108,105,110,101,47,110,111,116,101,46,99,104,101,99,107,115,36,54],[98,108,117,101,108,105,110,101,47,110,111,116,101,46,99,104,101,99,107,115,36,55],[98,108,117,101,108,105,110,101,47,110,111,116,101,46,99,104,101,99,107,115,36,56]] fsN h (W0z _ (W0H ..)) (by kernel_rfl) (by kernel_rfl) Tryz.underlying235 (fld:=_) Tryz.underlying234 rfl Tryz.underlying208 (by kernel_rfl) (by kernel_rfl) (by kernel_rfl) rfl rfl rfl
 (λi s f hs hf=>by
  match i,hs,hf with
  |0,hs,hf=>cases hs;cases hf;exact ⟨_,_,rfl,by kernel_rfl⟩
  |1,hs,hf=>cases hs;cases hf;exact ⟨_,_,rfl,by kernel_rfl⟩
  |2,hs,hf=>cases hs;cases hf;exact ⟨_,_,rfl,by kernel_rfl⟩
  |3,hs,hf=>cases hs;cases hf;exact ⟨_,_,rfl,by kernel_rfl⟩
  |4,hs,hf=>cases hs;cases hf;exact ⟨_,_,rfl,by kernel_rfl⟩
  |5,hs,hf=>cases hs;cases hf;exact ⟨_,_,rfl,by kernel_rfl⟩
  |6,hs,hf=>cases hs;cases hf;exact ⟨_,_,rfl,by kernel_rfl⟩
  |7,hs,hf=>cases hs;cases hf;exact ⟨_,_,rfl,by kernel_rfl⟩
  |i+8,hs,_=>simp at hs)
set_option maxRecDepth 100000 in
def Zph {W:World} (h:laidMetH prog laid7 W):TabB W 2 fsC :=
 Zpe [[98,108,117,101,108,105,110,101,47,115,104,101,101,116,46,99,104,101,99,107,115,36,49],[98,108,117,101,108,105,110,101,47,115,104,101,101,116,46,99,104,101,99,107,115,36,50],[98,108,117,101,108,105,110,101,47,115,104,101,101,116,46,99,104,101,99,107,115,36,51],[98,108,117,101,108,105,110,101,47,115,104,101,101,116,46,99,104,101,99,107,115,36,52]] fsC h (W0H ..) (by kernel_rfl) (by kernel_rfl) Tryz.underlying264 (fld:=_) Tryz.underlying263 rfl Tryz.underlying262 (by kernel_rfl) (by kernel_rfl) (by kernel_rfl) rfl rfl rfl
 (λi s f hs hf=>by
  match i,hs,hf with
  |0,hs,hf=>cases hs;cases hf;exact ⟨_,_,rfl,by kernel_rfl⟩
  |1,hs,hf=>cases hs;cases hf;exact ⟨_,_,rfl,by kernel_rfl⟩
  |2,hs,hf=>cases hs;cases hf;exact ⟨_,_,rfl,by kernel_rfl⟩
  |3,hs,hf=>cases hs;cases hf;exact ⟨_,_,rfl,by kernel_rfl⟩
  |i+4,hs,_=>simp at hs)
set_option maxRecDepth 100000 in
def Zpi {W:World} (h:laidMetH prog laid7 W):TabB W 1 fsR :=
 Zpe [[98,108,117,101,108,105,110,101,47,114,101,99,97,108,108,46,99,104,101,99,107,115,36,49],[98,108,117,101,108,105,110,101,47,114,101,99,97,108,108,46,99,104,101,99,107,115,36,50],[98,108,117,101,108,105,110,101,47,114,101,99,97,108,108,46,99,104,101,99,107,115,36,51],[98,108,117,101,108,105,110,101,47,114,101,99,97,108,108,46,99,104,101,99,107,115,36,52],[98,108,117,101,108,105,110,101,47,114,101,99,97,108,108,46,99,104,101,99,107,115,36,53]] fsR h (W0z _ (W0z _ (W0H ..))) (by kernel_rfl) (by kernel_rfl) Tryz.underlying245 (fld:=_) Tryz.underlying244 rfl Tryz.underlying242 (by kernel_rfl) (by kernel_rfl) (by kernel_rfl) rfl rfl rfl
 (λi s f hs hf=>by
  match i,hs,hf with
  |0,hs,hf=>cases hs;cases hf;exact ⟨_,_,rfl,by kernel_rfl⟩
  |1,hs,hf=>cases hs;cases hf;exact ⟨_,_,rfl,by kernel_rfl⟩
  |2,hs,hf=>cases hs;cases hf;exact ⟨_,_,rfl,by kernel_rfl⟩
  |3,hs,hf=>cases hs;cases hf;exact ⟨_,_,rfl,by kernel_rfl⟩
  |4,hs,hf=>cases hs;cases hf;exact ⟨_,_,rfl,by kernel_rfl⟩
  |i+5,hs,_=>simp at hs)
def G7:Nat->Option (List AV):=λg=>if g=2 then some (tabA fsC) else if g=0 then some (tabA fsN) else if g=1 then some (tabA fsR) else none
def Zpj:GC G7:=rfl
def Zpk:GN G7:=rfl
def Zpl:GP G7:=rfl
def Zpm {W:World} (h:laidMetH prog laid7 W):GR G7 noM W:=by
 intro g cs hg;simp only[G7]at hg
 split at hg
 . rename_i e;subst e;cases hg;exact Zpf (Zph h)
 . split at hg
   . rename_i e;subst e;cases hg;exact Zpf (Zpg h)
   . split at hg
     . rename_i e;subst e;cases hg;exact Zpf (Zpi h)
     . cases hg
def nteK:List TY:=[.int .i64,.int .i64,.int .u8,.int .i64,.int .i64,.int .i64,.int .i64,.int .i64,.bool,.int .u8]
def hldK:List TY:=[.int .i64,.int .i64,.int .i64,.sl [.int .i64]]
def prtK:List TY:=[.int .i64,.int .i64,.int .i64,.int .i64,.int .i64,.int .i64,.int .u8]
def prsK:List TY:=[.sl isK2,.sl nteK,.sl hldK,.sl prtK]
def Zpn {xs:List AV} (h:TVs nteK xs):∃ x:Nte,xs=na x/\NOk7 x:=by
 obtain ⟨x0,_,rfl,h0,h⟩:=h.cons_inv;obtain ⟨x1,_,rfl,h1,h⟩:=h.cons_inv;obtain ⟨x2,_,rfl,h2,h⟩:=h.cons_inv;obtain ⟨x3,_,rfl,h3,h⟩:=h.cons_inv;obtain ⟨x4,_,rfl,h4,h⟩:=h.cons_inv;obtain ⟨x5,_,rfl,h5,h⟩:=h.cons_inv;obtain ⟨x6,_,rfl,h6,h⟩:=h.cons_inv;obtain ⟨x7,_,rfl,h7,h⟩:=h.cons_inv;obtain ⟨x8,_,rfl,h8,h⟩:=h.cons_inv;obtain ⟨x9,_,rfl,h9,h⟩:=h.cons_inv;obtain rfl:=h.nil_inv;obtain ⟨v0,rfl,-⟩:=h0.int_inv;obtain ⟨v1,rfl,-⟩:=h1.int_inv;obtain ⟨v2,rfl,k2⟩:=h2.int_inv;obtain ⟨v3,rfl,-⟩:=h3.int_inv;obtain ⟨v4,rfl,-⟩:=h4.int_inv;obtain ⟨v5,rfl,-⟩:=h5.int_inv;obtain ⟨v6,rfl,-⟩:=h6.int_inv;obtain ⟨v7,rfl,-⟩:=h7.int_inv;obtain ⟨v8,rfl⟩:=h8.bool_inv;obtain ⟨v9,rfl,k9⟩:=h9.int_inv;obtain ⟨a2,b2⟩:=bounds_u8 k2;obtain ⟨a9,b9⟩:=bounds_u8 k9;exact ⟨⟨v0,v1,v2,v3,v4,v5,v6,v7,v8,v9⟩,rfl,a2,b2,a9,b9⟩
def Zpo {xs:List AV} (h:TVs hldK xs):∃ x:Hld,xs=hoa x:=by
 obtain ⟨x0,_,rfl,h0,h⟩:=h.cons_inv;obtain ⟨x1,_,rfl,h1,h⟩:=h.cons_inv;obtain ⟨x2,_,rfl,h2,h⟩:=h.cons_inv;obtain ⟨x3,_,rfl,h3,h⟩:=h.cons_inv;obtain rfl:=h.nil_inv;obtain ⟨v0,rfl,-⟩:=h0.int_inv;obtain ⟨v1,rfl,-⟩:=h1.int_inv;obtain ⟨v2,rfl,-⟩:=h2.int_inv;obtain ⟨rows,rfl,-,g⟩:=h3.sl_inv;obtain ⟨ds,rfl⟩:=ZkE (f:=ia) λr hr=>Zpc (g r hr)
 exact ⟨⟨v0,v1,v2,ds⟩,rfl⟩
def Zpp {xs:List AV} (h:TVs prtK xs):∃ x:Prt,xs=ptA x/\POk x:=by
 obtain ⟨x0,_,rfl,h0,h⟩:=h.cons_inv;obtain ⟨x1,_,rfl,h1,h⟩:=h.cons_inv;obtain ⟨x2,_,rfl,h2,h⟩:=h.cons_inv;obtain ⟨x3,_,rfl,h3,h⟩:=h.cons_inv;obtain ⟨x4,_,rfl,h4,h⟩:=h.cons_inv;obtain ⟨x5,_,rfl,h5,h⟩:=h.cons_inv;obtain ⟨x6,_,rfl,h6,h⟩:=h.cons_inv;obtain rfl:=h.nil_inv;obtain ⟨v0,rfl,-⟩:=h0.int_inv;obtain ⟨v1,rfl,-⟩:=h1.int_inv;obtain ⟨v2,rfl,-⟩:=h2.int_inv;obtain ⟨v3,rfl,-⟩:=h3.int_inv;obtain ⟨v4,rfl,-⟩:=h4.int_inv;obtain ⟨v5,rfl,-⟩:=h5.int_inv;obtain ⟨v6,rfl,k6⟩:=h6.int_inv;exact ⟨⟨v0,v1,v2,v3,v4,v5,v6⟩,rfl,bounds_u8 k6⟩
def Zpq {xs:List AV} (h:TVs prsK xs):∃ (r:Jr) (l:Jl) (hs:Jh) (ps:Jp),AV.agg xs=prA r l hs ps/\(∀ x∈r,KOk x)/\(∀ x∈l,NOk7 x)/\∀ x∈ps,POk x:=by
 obtain ⟨x0,_,rfl,h0,h⟩:=h.cons_inv;obtain ⟨x1,_,rfl,h1,h⟩:=h.cons_inv;obtain ⟨x2,_,rfl,h2,h⟩:=h.cons_inv;obtain ⟨x3,_,rfl,h3,h⟩:=h.cons_inv;obtain rfl:=h.nil_inv;obtain ⟨rows,rfl,-,g⟩:=h0.sl_inv;obtain ⟨r,rfl,hr⟩:=ZkM (f:=isa) (p:=KOk) λr hr=>ZkL (g r hr)
 obtain ⟨rows,rfl,-,g⟩:=h1.sl_inv;obtain ⟨l,rfl,hl⟩:=ZkM (f:=na) (p:=NOk7) λr hr=>Zpn (g r hr)
 obtain ⟨rows,rfl,-,g⟩:=h2.sl_inv;obtain ⟨hs,rfl⟩:=ZkE (f:=hoa) λr hr=>Zpo (g r hr)
 obtain ⟨rows,rfl,-,g⟩:=h3.sl_inv;obtain ⟨ps,rfl,hp⟩:=ZkM (f:=ptA) (p:=POk) λr hr=>Zpp (g r hr)
 exact ⟨r,l,hs,ps,rfl,hr,hl,hp⟩
end Go.Proofs.YtcdlimgkliklhaaGreatDoor
