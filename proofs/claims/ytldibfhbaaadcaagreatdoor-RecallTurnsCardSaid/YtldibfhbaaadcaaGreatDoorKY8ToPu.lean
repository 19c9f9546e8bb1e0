/-
  What Call computes, holders and their drawings in lists of their own.
-/
import Derived.Shelf.Spec.SlicesInsert
import Derived.Test.YtldibfhbaaadcaaGreatDoorKQaToY7
import Derived.WalkKit
import Derived.Lib.Walk
import Derived.Lib.SliceRun
import Derived.Lib.JoinLaws
import Derived.Lib.AppendZerosOnto
import Derived.Lib.Overlaps
import Derived.Laws.Externs
import Derived.Laws.IdiomCopy
import Derived.Laws.NewBlocks
import Derived.Deep.RegionLaw
set_option linter.all false
set_option maxHeartbeats 8000000
namespace Go.Proofs.YtldibfhbaaadcaaGreatDoor
open Go.Proofs.Tryz (prog)
open IntKind (i64)
open Go.RowKit
variable {G:Jg}
def ptV (k:Nat) (ps:Jp):AV:=if ps=[] then .vsl [] else .osl k ps.length
def ptR (k:Nat) (ps:Jp):List (Nat×AObj):=if ps=[] then [] else [(k,.row 7 (ps.map ptA))]
def coLT {k:Nat} (h:k<700) (h1:¬k=621) (h2:¬k=72):coL k=true:=by simp[coL,h,h1,h2]
def cm1 (O:AV) (hs:Jh) (day:Int) (A B:List Int) (i:Nat):St :=
 ⟨[(32,.int .i64 i),(31,.int .i64 A.length),(30,.vsl (A.map ia)),(12,.int .u64 (toN hs (A.take i):Nat)),(10,.ptr 10 0),(8,.ptr 8 0),(3,.vsl (B.map ia)),(1,.int .i64 day)],[(10,.box [O]),(8,.box [.nils,.nils,.nils,.nils])]⟩
def cm2 (O:AV) (IR NL:List (List AV)) (n T:Nat) (F:List (Nat×AObj)) (Y:List (List AV)) (ps S:Jp) (A B:List Int) (day:Int) (i:Nat):St :=
 ⟨[(64,.int .i64 i),(63,.int .i64 S.length),(62,.vsl (S.map ptA)),(16,.ptr 16 0),(12,.int .u64 (T:Nat)),(10,.ptr 10 0),(8,.ptr 8 0),(3,.vsl (B.map ia)),(1,.int .i64 day)],F++[(16,.box [.vsl IR,.vsl NL,.osl 72 n,.osl 621 ps.length]),(621,.row 7 ((rowC ps (S.take i) A B day).map ptA)),(10,.box [O]),(8,.box [.nils,.nils,.nils,.nils]),(72,.row 4 Y)]⟩
def Zn8 (hG:GC G) (hN:GN G) (hP:GP G) (r:Jr) (l:Jl) (hs:Jh) (ps:Jp) (day:Int) (A B:List Int) (hl:WfN l) (hr:Wf r) (hne:r≠[]) (h80:r.length<=80) (hd:Sml (nums r)) (hw:WfP hs ps) (hA:Sml A) (hB:Sml B)
  (hE:clE r l hs ps day A B=0) :
  PB prog G 6 [] [prA r l hs ps,.int .i64 day,.vsl (A.map ia),.vsl (B.map ia)] (.tup [.agg [.vsl (r.map isa),.vsl (l.map na),hlV 72 hs,ptV 621 ps],.int .i64 0]) (drF 700 hs++(ptR 621 (ps.map (calP l hs day A B))++hrO 72 700 hs)):=by
 have ha:=Zj5 hG hN hP r l hs ps day 1 hl hr hd hw;have pO:=Zih r l hs ps;have kO:=Zii r l hs ps;unfold asP at ha;unfold clE at hE
 have h0:as7 r l hs ps day 1=0:=by
  by_cases c:as7 r l hs ps day 1=0
  . exact c
  . rw[if_neg c]at hE;exact hE
 rw[if_pos h0]at hE
 have hAB:((A.all λid=>decide (0<=hoI hs id))&&B.all λd=>decide (d∈nums r))=true:=by
  cases c:((A.all λid=>decide (0<=hoI hs id))&&B.all λd=>decide (d∈nums r))
  . rw[c]at hE;simp at hE
  . rfl
 rw[W01]at hAB;obtain ⟨hA',hB'⟩:=hAB;have he:∀ id∈A,0<=hoI hs id:=λid h=>by simpa using W03.1 hA' id h
 have k0:=(Zkv h0).1;have cS:=ZlG hG hN r l hs ps day hl hr hd hw k0;have cS:=PC.out cS (Nsub.orNil _);have hhl:=hw.hl;have cH:=λid=>Ziy (G:=G) r l hs ps id (by unfold Sml;omega)
 rw[if_pos h0,h0]at ha;have d1:ck7 r l hs ps=0:=k0;have c1:=ZlK (G:=G) r l hs ps;obtain ⟨cs,hO,hc3⟩ : ∃ cs,ofA r l hs ps = .vptr cs 0/\cs[3]? = some (.vsl (ps.map ptA)):=⟨_,rfl,rfl⟩;rw[hO]at ha pO kO cS;simp only[hO]at cH c1;unfold Sml at hA hB;have eP:prA r l hs ps = .agg [.vsl (r.map isa),.vsl (l.map na),.vsl (hs.map hoa),.vsl (ps.map ptA)]:=rfl;rw[eP]at ha ⊢;have tT:=ZmM (l:=hs) (by omega) 700 (by omega) (by omega);have kY:=λC=>ZmP C hs 700
 have fY:=λok st hok=>ZmQ ok st 700 hok hs 700 (W0f _)
 have rY:=ZmR hs 700;obtain ⟨IR,hIR⟩:=Qex (r.map isa);obtain ⟨NL,hNL⟩:=Qex (l.map na);have pIR:(IR.all λr=>r.all AV.pure)=true:=(by rw[hIR];simp[isa,AV.pure]);have pNL:(NL.all λr=>r.all AV.pure)=true:=(by rw[hNL];simp[na,AV.pure]);rw[<- hIR,<- hNL]at ha ⊢;have rIR:=λρ=>AV.ren_pure (ρ:=ρ) (.vsl IR) (by simpa [AV.pure] using pIR)
 have rNL:=λρ=>AV.ren_pure (ρ:=ρ) (.vsl NL) (by simpa [AV.pure] using pNL)
 have kIR:=AV.pure_keys (.vsl IR) (by simpa [AV.pure] using pIR);have kNL:=AV.pure_keys (.vsl NL) (by simpa [AV.pure] using pNL);have l1:=λC k (hk:k<700)=>tT.lk C hk
 have p1:=λC k y (hk:k<700)=>tT.put C y hk
 obtain ⟨Q,hQ⟩:=Qex (ps.map (calP l hs day A B));rw[<- hQ];have fin:=λt C=>tT.fin (ok:=coL) (λk hk=>by simp[coL];omega) t C
 have fY2:=λst=>fY coL st (λk hk=>by simp[coL];omega)
 have fP:∀ (L:Jp) ok st,frzO ok st (.row 7 (L.map ptA)) = .row 7 (L.map ptA):=λL ok st=>by
  simp only[frzO,W10]
  congr 2
  funext p;simp[ptA,frzA,frz,AV.keys]
 refine Z5j coL (by intro k hk;simp[coL]at hk;omega) Tryz.func6 rfl (by kernel_rfl) (rc:=Z5D) (by kernel_rfl) (rs:=Z5E) (by kernel_rfl) (W0C rfl) λR _ hG' hrd=>Qga ?_
 subst hG';simp -implicitDefEqProofs[Z5D,Z5E];refine Qco (ha) ?_;simp -implicitDefEqProofs;refine Z9H (cm1 (.vptr cs 0) hs day A B) (λi=>True) A.length ?_ trivial ?_ ?_
 . unfold cm1
   ((try simp only[kO,toN]);refine Ym.sub (by simp[lk,Ya,AV.keys,kO,toN]) ?_;simp only[kO,toN,Wkl,and_true];(try simp[lk,Yc,Ya,AV.keys,kO,toN]))
 . intro i hi _;obtain ⟨id,hid⟩:=Qex (A[i]);have hlx:A[i]=id:=hid.symm;have cI:=cH id;have tk:A.take (i+1)=A.take i++[id]:=(by rw[W08 hi,hlx]);have wi:i64.wrap ((i:Int)+1)=(i:Int)+1:=Yf;have hc:0<=hoI hs id:=he id (by rw[hid];exact W0e hi);refine Qga ?_;obtain ⟨k,hk,e,f⟩:=Zmk hc;rw[e]at cI
   have hT:toN hs (A.take i)<256:=Zmj hs _ λx hx=>by
    obtain ⟨k,hk,e,f⟩:=Zmk (he x (W1r hx));omega
   have sh:=Zmn _ hT k (by omega);have tn:toN hs (A.take (i+1))=toN hs (A.take i) ||| 2 ^ k:=by rw[tk,Zmf,e];rfl
   obtain ⟨T,hTe⟩:=Qex (toN hs (A.take i));rw[<- hTe]at sh tn hT;have hw1:cm1 (.vptr cs 0) hs day A B i=⟨[(32,.int .i64 i),(31,.int .i64 A.length),(30,.vsl (A.map ia)),(12,.int .u64 (T:Nat)),(10,.ptr 10 0),(8,.ptr 8 0),(3,.vsl (B.map ia)),(1,.int .i64 day)],[(10,.box [.vptr cs 0]),(8,.box [.nils,.nils,.nils,.nils])]⟩:=(by unfold cm1;rw[hTe]);have hw2:cm1 (.vptr cs 0) hs day A B (i+1)=⟨[(32,.int .i64 (i+1:Nat)),(31,.int .i64 A.length),(30,.vsl (A.map ia)),(12,.int .u64 ((T ||| 2 ^ k:Nat):Int)),(10,.ptr 10 0),(8,.ptr 8 0),(3,.vsl (B.map ia)),(1,.int .i64 day)],[(10,.box [.vptr cs 0]),(8,.box [.nils,.nils,.nils,.nils])]⟩:=(by unfold cm1;rw[tn]);rw[hw1];simp -implicitDefEqProofs[hi,hlx,ia];refine Yd.of cI (by simp[pO,AV.pure]) ?_;have hk0:¬((k:Int)<0):=(by omega);simp -implicitDefEqProofs[wi,sh,hk0];rw[hw2]
   ((try simp only[kO]);refine Ym.sub (by simp[lk,Ya,AV.keys,kO]) ?_;simp only[kO,Wkl,and_true];(try simp[lk,Yc,Ya,AV.keys,kO]))
 . intro _
   have hT:toN hs A<256:=Zmj hs _ λx hx=>by
    obtain ⟨k,hk,e,f⟩:=Zmk (he x hx);omega
   refine Qga ?_;unfold cm1;rw[W0v];have tz:=Zmm he;have th:=λy hy=>Zml (y:=y) he hy
   generalize toN hs A=T at *;simp -implicitDefEqProofs;refine Qgr ?_;simp -implicitDefEqProofs;have cB:=ZaC (G:=R.G) 17 [.vptr [.vptr cs 0] 0] (λd=>!decide (d∈nums r)) B (by simp[AV.pure]) hB (λd _=>c1 d hd)
   (first|refine Yd.flat (cB) (by simp[AV.flat]) (by simp) ?_|refine Ye.flat (cB) (by simp[AV.flat]) (by simp) ?_)
   have hBB:(B.any λd=>!decide (d∈nums r))=false:=by
    rw[W25];exact λd h1=>by simpa using W03.1 hB' d h1
   have co:=ZlR (G:=R.G) T hT;have oz:=ZlP T hT;have oB:=ZlQ T hT;have ws:i64.wrap (ocF T+(B.length:Int))=ocF T+(B.length:Int):=Yf;simp -implicitDefEqProofs[hBB];by_cases hps:ps=[]
   . subst hps;have hQ:Q=[]:=hQ;subst hQ;have cc:=Zn7 (G:=R.G) r l hs (.vsl []) (.inr rfl) Zmc hr hl.1 hw hne h80;have eA:ofE r l hs (.vsl [])=ofA r l hs []:=rfl;rw[eA,hO,<- hIR,<- hNL]at cc;have cS:PC prog R.G 21 [.vptr cs 0,.int .i64 day] (.vsl []):=cS;have eV:ptV 621 [] = .vsl []:=rfl;have eR:ptR 621 []=[]:=rfl;rw[eV,eR,W18];by_cases cH:hs=[]
     case' pos =>
      have hV:hlV 72 hs = .nils:=(by simp[hlV,cH]);have hW:hrO 72 700 hs=[]:=by simp[hrO,cH]
     case' neg =>
      have hV:hlV 72 hs = .osl 72 hs.length:=(by simp[hlV,cH]);have hW:hrO 72 700 hs=[(72,.row 4 (hoW 700 hs))]:=by simp[hrO,cH]
     all_goals
      rw[hV,hW]at cc ⊢;refine Yd.sem (Z1B.fam cc tT (by simp[AV.ren,rIR,rNL]) (by simp[rY]) (by simp[lk]) (by simp) (by simp) (by simp[AV.pure,pO])) ?_;simp -implicitDefEqProofs[l1,p1];refine Yd.of co (by simp[AV.pure]) ?_;simp -implicitDefEqProofs[ws,l1,p1];by_cases z:ocF T+(B.length:Int)=0
      case' pos=>rw[W0M z]
      case' neg =>
       rw[W0S z];simp -implicitDefEqProofs[l1,p1];refine Yd.of cS (by simp[pO,AV.pure]) ?_;simp -implicitDefEqProofs[l1,p1];refine Z9H (λi=>⟨[(64,.int .i64 i),(63,.int .i64 0),(16,.ptr 16 0),(8,.ptr 8 0)],drF 700 hs++([(16,.box [.vsl IR,.vsl NL,hlV 72 hs,.vsl []]),(8,.box [.nils,.nils,.nils,.nils])]++hrO 72 700 hs)⟩) (λ_=>True) 0 ?_ trivial (λi hi=>absurd hi (by omega)) ?_
       . rw [hV,hW];refine Ym.fam1 tT (by simp[lk,Ya,AV.keys,l1]) ?_;intro p hp;simp only[W1e,W18,W0g,W0Q,or_false]at hp
         first
         | (rcases hp with rfl|rfl|rfl
            . exact ⟨by simp[lk,l1],by simp[Yc,Ya,AV.keys,l1,lk]⟩
            . exact ⟨by simp[lk,l1],by simp[Yc,Ya,AV.keys]⟩
            . exact ⟨by simp[lk,l1],kY _⟩)
         | (rcases hp with rfl|rfl
            . exact ⟨by simp[lk,l1],by simp[Yc,Ya,AV.keys,l1,lk]⟩
            . exact ⟨by simp[lk,l1],by simp[Yc,Ya,AV.keys]⟩)
       . intro _;refine Qga ?_;rw[hV,hW];simp -implicitDefEqProofs[l1,p1];refine Qgr ?_;simp -implicitDefEqProofs[l1,p1];simp -implicitDefEqProofs[FinO,l1,fin,coLT,coL72,Zn4,fY2,frzA,frz,AV.keys,kIR,kNL]
      all_goals
       simp -implicitDefEqProofs[l1,p1];simp -implicitDefEqProofs[FinO,l1,fin,coLT,coL72,Zn4,fY2,frzA,frz,AV.keys,kIR,kNL]
   . have hhs:hs≠[]:=λe=>by
      cases ps with
      |nil=>exact hps rfl
      | cons x t =>
        have:=(Zlr k0 (W0H ..)).1;rw[e]at this;exact absurd this (by simp[hoI,fstOf])
     have cc:=Zn6 (G:=R.G) r l hs ps (.vsl (ps.map ptA)) (by simp[AV.pure,ptA]) (ZlU ps hps (by have:=hw.pl;unfold Sml;omega)) hr hl.1 hw hne h80;have eA:ofE r l hs (.vsl (ps.map ptA))=ofA r l hs ps:=rfl;rw[eA]at cc;rw[hO]at cc;have hV72:hlV 72 hs = .osl 72 hs.length:=(by simp[hlV,hhs]);have hO72:hrO 72 700 hs=[(72,.row 4 (hoW 700 hs))]:=(by simp[hrO,hhs]);have qV:ptV 621 ps = .osl 621 ps.length:=by simp[ptV,hps]
     have qR:ptR 621 Q=[(621,.row 7 (Q.map ptA))]:=by
      have:Q≠[]:=(by rw[hQ];simpa using hps);simp[ptR,this]
     rw[hV72,hO72,<- hIR,<- hNL]at cc;rw[hV72,hO72,qV,qR];simp only[W1e,W18];generalize hoW 700 hs=Y at *;generalize drF 700 hs=F at *;refine Yd.sem (Z1B.fam cc tT (by simp[AV.ren,rIR,rNL]) (by simp[ZlD,rY]) (by simp[lk]) (by simp) (by simp) (by simp[AV.pure,pO])) ?_;simp -implicitDefEqProofs[l1,p1];refine Yd.of co (by simp[AV.pure]) ?_;simp -implicitDefEqProofs[ws,l1,p1];by_cases z:ocF T+(B.length:Int)=0
     . have hA0:A=[]:=tz.1 (oz.1 (by omega));have hB0:B=[]:=W0l.1 (by omega)
       have hm:ps.map (calP l hs day A B)=ps:=by
        refine (W0K λx _=>?_).trans (W22 _);unfold calP rchB;rw[hA0,hB0];simp
       rw[W0M z];rw[hm]at hQ;subst hQ;simp -implicitDefEqProofs[l1,p1];simp -implicitDefEqProofs[FinO,l1,fin,coLT,coL72,Zn4,fP,fY2,frzA,frz,AV.keys,kIR,kNL]
     . rw [W0S z];simp -implicitDefEqProofs[l1,p1];refine Yd.of cS (by simp[pO,AV.pure]) ?_;simp -implicitDefEqProofs[l1,p1];refine Z9H (cm2 (.vptr cs 0) IR NL hs.length T F Y ps (staL l hs ps day) A B day) (λ_=>True) (staL l hs ps day).length ?_ trivial ?_ ?_
       . unfold cm2;rw[W1g,Zmp];refine Ym.fam1 tT ?_ ?_
         . simp only[W0g,W0Q,or_false,W1M,forall_eq];simp[lk,Ya,AV.keys,l1,kO]
         . simp only[W0g,W0Q,or_false,W1M,forall_eq];refine ⟨⟨by simp[lk,l1],by simp[Yc,Ya,AV.keys,l1,lk]⟩,⟨by simp[lk,l1],Zl1 _ _⟩,⟨by simp[lk,l1],by simp[Yc,Ya,kO]⟩,⟨by simp[lk,l1],by simp[Yc,Ya,AV.keys]⟩,⟨by simp[lk,l1],kY _⟩⟩
       . intro i hi _;have hsub:∀ y∈staL l hs ps day,y∈ps:=λy hy=>(W0G.1 hy).1
         have hrp:riP ps:=(Zif.1 (Zj1.1 k0).2).2.2.1;have hSn:(staL l hs ps day).Nodup:=(Zmv hrp).filter _;have hSl:(staL l hs ps day).length<=ps.length:=W0D ..;generalize staL l hs ps day=S at *;obtain ⟨y,hy⟩:=Qex (S[i]);have hly:S[i]=y:=hy.symm;have hyp:y∈ps:=hsub y (by rw[hy];exact W0e hi);have tk:S.take (i+1)=S.take i++[y]:=by rw[W08 hi,hly]
         have hyn:y ∉ S.take i:=λh=>by
          obtain ⟨j,hj,e⟩:=W0k h;rw[W1V]at e;have hji:j<i:=(by simp at hj;omega);have:=(List.getElem_inj hSn).1 (e.trans hy);omega
         have wi:i64.wrap ((i:Int)+1)=((i+1:Nat):Int):=Yf (by omega) (by have:=hw.pl;omega);have hpy:ptA y=[.int .i64 y.no,.int .i64 y.dy,.int .i64 y.ho,.int .i64 y.dw,.int .i64 y.lt,.int .i64 y.bk,.int .u8 y.lo]:=rfl;have cI:=cH y.ho;obtain ⟨k,hk,e,f⟩:=Zmk (Zlr k0 hyp).1;have thy:=th y.ho (Zlr k0 hyp).1;rw[e]at cI thy;have thy:T.testBit k=A.contains y.ho:=thy;have sr:=Zmo T hT k (by omega);rw[thy]at sr;have cD:=Zfo (G:=R.G) B y.dw hB;have hw1:∀ X,(rowC ps (S.take i) A B day).map ptA=X->cm2 (.vptr cs 0) IR NL hs.length T F Y ps S A B day i=⟨[(64,.int .i64 i),(63,.int .i64 S.length),(62,.vsl (S.map ptA)),(16,.ptr 16 0),(12,.int .u64 (T:Nat)),(10,.ptr 10 0),(8,.ptr 8 0),(3,.vsl (B.map ia)),(1,.int .i64 day)],F++[(16,.box [.vsl IR,.vsl NL,.osl 72 hs.length,.osl 621 ps.length]),(621,.row 7 X),(10,.box [.vptr cs 0]),(8,.box [.nils,.nils,.nils,.nils]),(72,.row 4 Y)]⟩:=λX hX=>by unfold cm2;rw[hX]
         have hw2:∀ X,(rowC ps (S.take (i+1)) A B day).map ptA=X->cm2 (.vptr cs 0) IR NL hs.length T F Y ps S A B day (i+1)=⟨[(64,.int .i64 (i+1:Nat)),(63,.int .i64 S.length),(62,.vsl (S.map ptA)),(16,.ptr 16 0),(12,.int .u64 (T:Nat)),(10,.ptr 10 0),(8,.ptr 8 0),(3,.vsl (B.map ia)),(1,.int .i64 day)],F++[(16,.box [.vsl IR,.vsl NL,.osl 72 hs.length,.osl 621 ps.length]),(621,.row 7 X),(10,.box [.vptr cs 0]),(8,.box [.nils,.nils,.nils,.nils]),(72,.row 4 Y)]⟩:=λX hX=>by unfold cm2;rw[hX]
         obtain ⟨j,hj,ej⟩:=W0k hyp;have cX:=ZlI (G:=R.G) y ps (by have:=hw.pl;unfold Sml;omega)
         rw[Zay hj (by simp[ej]) (λm hm hmj=>W0S λq=>by
          have:=ZlL hrp hmj hj;rw[ej,<- q]at this;omega),hpy]at cX
         have hset:=λh=>Zmt (S:=S.take i) (A:=A) (B:=B) (day:=day) hrp (y:=y) h hyn hj ej
         have hXl:((rowC ps (S.take i) A B day).map ptA).length=ps.length:=(by rw[W0N,Zmq]);have hXj:∀ h:rchB A B y=true,((rowC ps (S.take i) A B day).map ptA)[j]'(by rw[hXl];exact hj)=[.int .i64 y.no,.int .i64 y.dy,.int .i64 y.ho,.int .i64 y.dw,.int .i64 y.lt,.int .i64 y.bk,.int .u8 y.lo]:=λh=>by rw[W1w,(hset h).1,hpy]
         have hXs:∀ h:rchB A B y=true,((rowC ps (S.take i) A B day).map ptA).set j [.int .i64 y.no,.int .i64 y.dy,.int .i64 y.ho,.int .i64 y.dw,.int .i64 y.lt,.int .i64 day,.int .u8 0]=(rowC ps (S.take (i+1)) A B day).map ptA:=λh=>by
          rw[tk,<- (hset h).2,W2q];rfl
         obtain ⟨X,hX⟩:=Qex ((rowC ps (S.take i) A B day).map ptA);simp only[<- hX]at hXl hXj hXs;refine Qga ?_;by_cases c1:A.contains y.ho=true
         . have hR:rchB A B y=true:=(by unfold rchB;rw[c1];rfl);rw[hw1 X hX.symm];rw[c1]at sr;simp -implicitDefEqProofs[l1,p1,hi,hly,hpy];refine Yd.of cI (by simp[pO,AV.pure]) ?_;rw[if_pos rfl]at sr;have hXj:=hXj hR;have hXs:=hXs hR;simp -implicitDefEqProofs[l1,p1,sr,hc3];refine Qco (cX) ?_;simp -implicitDefEqProofs[l1,p1,hXl,hj,hXj,wi];refine ⟨rfl,rfl,?_⟩;rw[hXs,hw2 _ rfl];refine Ym.fam1 tT ?_ ?_
           . simp only[W0g,W0Q,or_false,W1M,forall_eq];simp[lk,Ya,AV.keys,l1,kO]
           . simp only[W0g,W0Q,or_false,W1M,forall_eq];refine ⟨⟨by simp[lk,l1],by simp[Yc,Ya,AV.keys,l1,lk]⟩,⟨by simp[lk,l1],Zl1 _ _⟩,⟨by simp[lk,l1],by simp[Yc,Ya,kO]⟩,⟨by simp[lk,l1],by simp[Yc,Ya,AV.keys]⟩,⟨by simp[lk,l1],kY _⟩⟩
         . have c1:A.contains y.ho=false:=(by simpa using c1);rw[hw1 X hX.symm];rw[c1]at sr;simp -implicitDefEqProofs[l1,p1,hi,hly,hpy];refine Yd.of cI (by simp[pO,AV.pure]) ?_;rw[if_neg (by simp)]at sr;simp -implicitDefEqProofs[l1,p1,sr];refine Yd.of cD (by simp[AV.pure,ia]) ?_;by_cases c2:y.dw∈B
           . have hR:rchB A B y=true:=(by unfold rchB;rw[c1,W1O,W0w];exact c2);have hXj:=hXj hR;have hXs:=hXs hR;simp -implicitDefEqProofs[l1,p1,c2,hc3];refine Qco (cX) ?_;simp -implicitDefEqProofs[l1,p1,hXl,hj,hXj,wi];refine ⟨rfl,rfl,?_⟩;rw[hXs,hw2 _ rfl];refine Ym.fam1 tT ?_ ?_
             . simp only[W0g,W0Q,or_false,W1M,forall_eq];simp[lk,Ya,AV.keys,l1,kO]
             . simp only[W0g,W0Q,or_false,W1M,forall_eq];refine ⟨⟨by simp[lk,l1],by simp[Yc,Ya,AV.keys,l1,lk]⟩,⟨by simp[lk,l1],Zl1 _ _⟩,⟨by simp[lk,l1],by simp[Yc,Ya,kO]⟩,⟨by simp[lk,l1],by simp[Yc,Ya,AV.keys]⟩,⟨by simp[lk,l1],kY _⟩⟩
           . have hR:rchB A B y=false:=(by unfold rchB;rw[c1,W1O,Bool.eq_false_iff,ne_eq,W0w];exact c2);simp -implicitDefEqProofs[l1,p1,c2,wi];rw[hw2 _ rfl,tk,Zms hR,hX];refine Ym.fam1 tT ?_ ?_
             . simp only[W0g,W0Q,or_false,W1M,forall_eq];simp[lk,Ya,AV.keys,l1,kO]
             . simp only[W0g,W0Q,or_false,W1M,forall_eq];refine ⟨⟨by simp[lk,l1],by simp[Yc,Ya,AV.keys,l1,lk]⟩,⟨by simp[lk,l1],Zl1 _ _⟩,⟨by simp[lk,l1],by simp[Yc,Ya,kO]⟩,⟨by simp[lk,l1],by simp[Yc,Ya,AV.keys]⟩,⟨by simp[lk,l1],kY _⟩⟩
       . intro _;refine Qga ?_;unfold cm2;rw[W0v,Zmu];rw[<- hQ];simp -implicitDefEqProofs[l1,p1];refine Qgr ?_;simp -implicitDefEqProofs[l1,p1];simp -implicitDefEqProofs[FinO,l1,fin,coLT,coL72,Zn4,fP,fY2,frzA,frz,AV.keys,kIR,kNL]
section
open Qq Go.Proofs.Tryz
noncomputable def Zn9:RCode :=
 S [r 0 [n 6 .nils],r 1 [m 10 0,m 11 1,w 12 (.slc 7 (.t 10) (some (.t 11)) none)],r 2 [m 13 2,e 14 13,m 7 14],S [r 3 [m 15 7,k 16 .eql 15 O],K 16 4 [m 17 0,m 6 17]],r 5 [m 18 0,e 19 18,m 8 19],S [r 6 [m 20 1,m 21 8,o 22 .eql 20 21],K 22 7 [m 23 0,m 24 2,w 25 (.app 7 56 (.t 23) (.t 24)),m 6 25]],S [(.raw (λ_ _=>true)),.cond (.t 31) (S [(.raw (λ_ _=>true)),(.raw (λ_ _=>true)),(.raw (λ_ _=>true)),r 12 [m 55 9,m 6 55],.ret]) .skip],r 13 [m 56 0,m 57 8,m 58 7,o 59 .add 57 58,w 60 (.slc 7 (.t 56) none (some (.t 59))),m 0 60],S [r 14 [m 61 2,m 62 0,m 63 1,m 64 7,o 65 .add 63 64,w 66 (.slc 7 (.t 62) (some (.t 65)) none),c 67 58 [61,66],t 68 67],.cond (.t 68) (S [(.raw (λ_ _=>true)),(.raw (λ_ _=>true)),r 17 [m 83 0,m 6 83],.ret]) .skip],(.raw (λ_ _=>true)),r 19 [m 89 0,m 90 1,w 91 (.slc 7 (.t 89) (some (.t 90)) none),m 92 7,c 93 59 [91,92]],r 20 [m 94 0,m 6 94],.ret]
def Zna:List RRes:=[.t 6]
def Znb {G:Jg} {objs objs':List (Nat×AObj)} {args:List AV} {v:AV} (hn:args.length<=f32.ntmps) (h:∀ R:Run,R.G=G->R.Top->AR prog R Zn9 ⟨iniT 0 args,objs⟩ (FinB Zna v objs')):PB prog G 32 objs args v objs' :=
 PB_of func32 rfl (by kernel_rfl) (rc:=Zn9) (by kernel_rfl) (rs:=Zna) (by kernel_rfl) hn (λR _ hG hr=>h R hG hr)
end
open Go.RowKit Go.Lib
def Znc {P:Program} (w:World) (dT sT ty elem:TypeId) (b o dLen dCap:Nat) (a:Addr) (sLen sCap sz:Nat) (cs:List Value)
  (hu:P.underlying dT=some (.slice elem)) (hs:(P.info? elem).map (·.size)=some sz) (hn:cs.length=Nat.min sLen dLen*sz)
  (hsrc:∀ j v,cs[j]? = some v->w.cell? (a.add j)=some v) (hc:∀ j,j<cs.length->(w.cell? ⟨b,o+j,none⟩).isSome=true) (hf:∀ j,j<cs.length->w.frozen? ⟨b,o+j,none⟩=false) (h1:∀ v∈cs,v.oneCell'=true) :
  (Builtin.copy_ #[dT,sT] ty #[.slice (some ⟨b,o,none⟩) dLen dCap,.slice (some a) sLen sCap]).run P w = .ok (goInt (Nat.min sLen dLen)) (w.setCells b o cs):=by
 have hl:=run_loadCells_list (P:=P) w a cs hsrc;have hst:=run_storeCells_cells (P:=P) b o cs 0 w (by simpa using hc) (by simpa using hf) h1
 cases hq:P.info? elem with
 |none=>simp[hq]at hs
 | some i =>
   have hi:i.size=sz:=(by simpa [hq] using hs);simp[Builtin.copy_,run_underlying hu,Builtin.lenOf,Builtin.firstCells,sizeOf,typeInfo,hq,hi,<- hn,hl,hst]
def Znh {P:Program} (w:World) (tS tR e:TypeId) (ht:P.underlying tS=some (.slice e)) (size:Nat) (hz:∀ w,(Go.sizeOf e).run P w = .ok size w)
  (a b:Addr) (la ca lb cb:Nat) (hne:a.block≠b.block) (tA tB:TypeId) (kA kB:Nat)
  (hsa:w.shape? a.block=some (tA,kA)) (hkA:kA≠0) (hsb:w.shape? b.block=some (tB,kB)) (hfb:w.frozen? b=false) (hfe:w.frozen? { block:=b.block,off:=kB }=false) :
  (Extern.SlicesOverlaps.overlaps #[tS,tS] #[tR] #[.slice (some a) la ca,.slice (some b) lb cb]).run P w = .ok (.bool false) w:=by
 have hnb:(a.block != b.block)=true:=(by simpa using hne);have hnb':(a.block == b.block)=false:=by simpa using hne
 change Sem.run P (underlying tS>>=_) w=_
 by_cases h0:la=0∨lb=0∨size=0
 . simp[run_underlying ht,hz,h0]
 . cases kA with
   |zero=>exact absurd rfl hkA
   | succ kA =>
     cases q1:w.frozen? a <;> cases q2:w.frozen? { block:=a.block,off:=kA+1 } <;>
      simp[run_underlying ht,hz,h0,hnb,hnb',frozen,noView,viewAt,mayBeOne,stringish,shape,Sem.run,hsa,hsb,hfb,hfe,q1,q2]
set_option maxRecDepth 100000 in
def Zni (b off n c i vb voff vc:Nat) (cs vs:List Value) (w:World) (hi:i<n) (hroom:n+1<=c) (hc63:c<=9223372036854775807) (hvb:vb≠b)
  (hcl:cs.length=n*7) (hvl:vs.length=7)
  (hcs:∀ j v,cs[j]? = some v->w.cell? ⟨b,off+j,none⟩=some v) (hsp:∀ j,j<(n+1)*7->(w.cell? ⟨b,off+j,none⟩).isSome=true) (hfz:∀ j,j<(n+1)*7->w.frozen? ⟨b,off+j,none⟩=false)
  (hvs:∀ j v,vs[j]? = some v->w.cell? ⟨vb,voff+j,none⟩=some v) (h1c:∀ v∈cs,v.oneCell'=true) (h1v:∀ v∈vs,v.oneCell'=true)
  (tA tB:TypeId) (kA kB:Nat) (hsa:w.shape? vb=some (tA,kA)) (hkA:kA≠0) (hsb:w.shape? b=some (tB,kB)) (hfb:∀ j,w.frozen? ⟨b,j,none⟩=false) :
  Calls prog 32 #[.slice (some ⟨b,off,none⟩) n c,.int .i64 i,.slice (some ⟨vb,voff,none⟩) 1 vc] w λe w' =>
   e = .returned (.slice (some ⟨b,off,none⟩) (n+1) c)/\w'=(w.drew.setCells b (off+(i+1)*7) (cs.drop (i*7))).setCells b (off+i*7) vs:=by
 have hz2:¬((i:Int)=(n:Int)):=(by omega);obtain ⟨ie,hie⟩ : ∃ ie,prog.info? 36=some ie:=⟨_,rfl⟩;have hsz7:ie.size=7:=(by revert hie;rintro ⟨⟩;rfl);have hsz:(prog.info? 36).map (·.size)=some 7:=(by rw[hie];simp[hsz7]);have hso:∀ w,(Go.sizeOf 36).run prog w = .ok 7 w:=λw=>by simp[sizeOf,typeInfo,hie,hsz7]
 have hov:∀ lb cb,(callFunc 58 #[.slice (some ⟨vb,voff,none⟩) 1 vc,.slice (some ⟨b,off+(i+1)*7,none⟩) lb cb]).run prog w = .ok (.value (.bool false)) w:=λlb cb=>by
  rw[run_callFunc_extern Tryz.func58 (by kernel_rfl) (by kernel_rfl) (by kernel_rfl) (e:=Extern.SlicesOverlaps.overlaps #[29,29] #[4]) (by kernel_rfl),
   Znh w 29 4 36 Tryz.underlying29 7 hso ⟨vb,voff,none⟩ ⟨b,off+(i+1)*7,none⟩ 1 vc lb cb hvb tA tB kA kB hsa hkA hsb (hfb _) (hfb _)]
  rfl
 have hdl:(cs.drop (i*7)).length=(n-i)*7:=(by rw[List.length_drop,hcl,Nat.sub_mul]);have hw1:i64.wrap ((i:Int)+1)=(i:Int)+1:=(by rw[IntKind.wrap_i64];omega);have hw2:i64.wrap ((n:Int)+1)=(n:Int)+1:=(by rw[IntKind.wrap_i64];omega);have hb1:(0:Int)<=(i:Int)+1:=(by omega);have hin:i<=n:=(by omega);have htn:((i:Int)+1).toNat=i+1:=(by omega);have htn2:((n:Int)+1).toNat=n+1:=(by omega);have hb2:¬(c=i+1):=(by omega);have hb3:(i:Int)<=(n:Int)+1:=(by omega);have hb4:¬(c=i):=(by omega);have hcn2:¬((c:Int)<(n:Int)+1):=(by omega);have hsp0:∀ j,j<(n+1)*7->(w.drew.cell? ⟨b,off+j,none⟩).isSome=true:=hsp;have e1:n-i+1+i=n+1:=(by omega);have m1:(n+1)*7=n*7+7:=(by omega);have m2:(i+1)*7=i*7+7:=(by omega);have m3:i*7+(n-i)*7=n*7:=by rw[<- W0Z];congr 1;omega
 have hcp1:∀ ty dc sc,(Builtin.copy_ #[29,29] ty #[.slice (some ⟨b,off+(i+1)*7,none⟩) (n-i) dc,.slice (some ⟨b,off+i*7,none⟩) (n+1-i) sc]).run prog w.drew = .ok (goInt ((n-i:Nat):Int)) (w.drew.setCells b (off+(i+1)*7) (cs.drop (i*7))):=λty dc sc=>by
  have hmin:Nat.min (n+1-i) (n-i)=n-i:=by simp only[Nat.min_def];split <;> omega
  have h:=Znc w.drew 29 29 ty 36 b (off+(i+1)*7) (n-i) dc ⟨b,off+i*7,none⟩ (n+1-i) sc 7 (cs.drop (i*7)) Tryz.underlying29 hsz (by rw[hmin,hdl])
   (λj v hj=>by rw[Addr.add_lit,W1v];exact hcs (i*7+j) v (by rwa [W13]at hj))
   (λj hj=>by rw[W1v];exact hsp0 _ (by omega)) (λj hj=>by rw[W1v];exact hfz _ (by omega)) (λv hv=>h1c v (W1S hv))
  rwa [hmin]at h
 obtain ⟨W1,hW1⟩:=Qex (w.drew.setCells b (off+(i+1)*7) (cs.drop (i*7)))
 have hsp1:∀ k,k<(n+1)*7->(W1.cell? ⟨b,off+k,none⟩).isSome=true:=λk hk=>by
  rw[hW1];exact isSome_setCells b _ _ _ (λj hj=>by rw[W1v];exact hsp0 _ (by omega)) _ (hsp0 k hk)
 have hcp2:∀ ty dc,(Builtin.copy_ #[29,29] ty #[.slice (some ⟨b,off+i*7,none⟩) (n+1-i) dc,.slice (some ⟨vb,voff,none⟩) 1 vc]).run prog W1 = .ok (goInt 1) (W1.setCells b (off+i*7) vs):=λty dc=>by
  have hmin:Nat.min 1 (n+1-i)=1:=by simp only[Nat.min_def];split <;> omega
  have h:=Znc W1 29 29 ty 36 b (off+i*7) (n+1-i) dc ⟨vb,voff,none⟩ 1 vc 7 vs Tryz.underlying29 hsz (by rw[hmin,hvl])
   (λj v hj=>by
    rw[Addr.add_lit,hW1,World.cell?_setCells_out b _ _ _ _ (λh _=>absurd h hvb)];exact hvs j v hj)
   (λj hj=>by rw[W1v];exact hsp1 _ (by omega)) (λj hj=>by rw[hW1,World.frozen?_setCells,W1v];exact hfz _ (by omega)) h1v
  rwa [hmin]at h
 rw[hW1]at hcp2;clear e1 m1 m2 m3
 go_enter Tryz.func32,Tryz.ntmps32
 go_wp2_with (simp only[hov])
 go_region_law (refine step_copy_runI rfl _ _ 29 29 rfl _ _ (by simp[Act.eval,Act.put]) (by simp[Act.eval,Act.put]) (hcp1 _ _ _) ?_)
 go_wp2_with (simp only[hcp2])
 go_ret
 first|exact ⟨rfl,rfl⟩|exact ⟨rfl,by rw[hW1]⟩
set_option maxRecDepth 100000 in
def Znj (b off n c i vb voff vc:Nat) (cs vs:List Value) (w:World) (hi:i<n) (hnc:n<=c) (hroom:c<n+1) (hbig:(n+1)*56<=140737488355328)
  (hcl:cs.length=n*7) (hvl:vs.length=7)
  (hcs:∀ j v,cs[j]? = some v->w.cell? ⟨b,off+j,none⟩=some v)
  (hvs:∀ j v,vs[j]? = some v->w.cell? ⟨vb,voff+j,none⟩=some v) (h1c:∀ v∈cs,v.oneCell'=true) (h1v:∀ v∈vs,v.oneCell'=true)
  (ie:TypeInfo) (z:Value) (hie:prog.info? 36=some ie) (hz:ie.zero=some z) (hsz7:ie.size=7) (hzb:ie.bytes=56) (hzs:z.cells.size=7) :
  Calls prog 32 #[.slice (some ⟨b,off,none⟩) n c,.int .i64 i,.slice (some ⟨vb,voff,none⟩) 1 vc] w λe w' =>
   e = .returned (.slice (some ⟨w.heap.size,0,none⟩) (n+1) (grownCap w (n+1) c 36)) /\
   w'=(((w.drew.alloc (.cells ((cs.take (i*7)).toArray++Builtin.zeroCells z.cells (n+1-i)++Builtin.zeroCells z.cells (grownCap w (n+1) c 36-(n+1))) 36)).setCells w.heap.size (i*7) vs).drew).setCells w.heap.size ((i+1)*7) (cs.drop (i*7)):=by
 have hz2:¬((i:Int)=(n:Int)):=(by omega);have hz3:(c:Int)<(n:Int)+1:=(by omega);have hsz:(prog.info? 36).map (·.size)=some 7:=(by rw[hie];simp[hsz7]);have hbw:b<w.heap.size:=block_lt_of_cell (hcs 0 _ (W07 (by omega)));have hvw:vb<w.heap.size:=block_lt_of_cell (hvs 0 _ (W07 (by omega)));have hkk:(n:Int)+1-(i:Int)=((n+1-i:Nat):Int):=(by omega);have hik:i+(n+1-i)=n+1:=(by omega);have m0:i*7+(n-i)*7=n*7:=(by rw[<- W0Z];congr 1;omega);have m2:(i+1)*7=i*7+7:=(by omega);have m1:(n+1)*7=n*7+7:=(by omega);have m3:(n+1-i)*7=(n-i)*7+7:=(by rw[show n+1-i=(n-i)+1 by omega];omega);have htl:(cs.take (i*7)).length=i*7:=by rw[W15];omega
 have hold:(Builtin.firstCells ie.size i (.slice (some ⟨b,off,none⟩) i c)).run prog w.drew = .ok (cs.take (i*7)).toArray w.drew:=by
  rw[hsz7]
  exact run_firstCells_some (w:=w.drew) 7 i ⟨b,off,none⟩ i c (cs.take (i*7)) htl (λj v hj=>by
   rw[Addr.add_lit];rw[W1m]at hj
   split at hj
   . exact hcs j v hj
   . cases hj)
 have hrz:∀ ty,(Builtin.append_ #[29,3] ty #[.slice (some ⟨b,off,none⟩) i c,.int .i64 ((n:Int)+1-(i:Int))]).run prog w =
   .ok (.slice (some ⟨w.heap.size,0,none⟩) (n+1) (grownCap w (n+1) c 36)) (w.drew.alloc (.cells ((cs.take (i*7)).toArray++Builtin.zeroCells z.cells (n+1-i)++Builtin.zeroCells z.cells (grownCap w (n+1) c 36-(n+1))) 36)):=λty=>by
  have h:=Lib.run_append_grow_zeros w 29 3 ty 36 ie z .i64 .i64 Tryz.underlying29 Tryz.underlying3 hie hz (some ⟨b,off,none⟩) i c (cs.take (i*7)) hold (n+1-i) (by omega) (by omega) (by omega) (by omega) (by rw[hzb];omega) (by rw[hzb,hik];exact growslice_fits hroom hbig);rw[hik]at h;rw[hkk];exact h
 obtain ⟨G,hG⟩:=Qex (grownCap w (n+1) c 36);obtain ⟨ROW,hROW⟩ : ∃ ROW:Array Value,ROW=(cs.take (i*7)).toArray++Builtin.zeroCells z.cells (n+1-i)++Builtin.zeroCells z.cells (G-(n+1)):=⟨_,rfl⟩;rw[<- hG]at hrz ⊢;rw[<- hROW]at hrz ⊢
 have hRl:(n+1)*7<=ROW.size:=by
  rw[hROW];simp only[Array.size_append,List.size_toArray,htl,size_zeroCells,hzs];omega
 obtain ⟨W1,hW1⟩:=Qex (w.drew.alloc (.cells ROW 36));rw[<- hW1]at hrz
 have hN:∀ j,j<(n+1)*7->(W1.cell? ⟨w.heap.size,j,none⟩).isSome=true:=λj hj=>by
  rw[hW1,World.cell?_alloc_at (w:=w.drew) ROW _ w.heap.size j rfl,W0n (by omega)];rfl
 have hNf:∀ j,W1.frozen? ⟨w.heap.size,j,none⟩=false:=λj=>by rw[hW1];exact World.frozen?_alloc_at (w:=w.drew) ROW _ w.heap.size j rfl
 have hOb:∀ j v,w.cell? ⟨b,j,none⟩=some v->W1.cell? ⟨b,j,none⟩=some v:=λj v h=>by rw[hW1,World.cell?_alloc_past (w:=w.drew) _ b j hbw];exact h
 have hOv:∀ j v,w.cell? ⟨vb,j,none⟩=some v->W1.cell? ⟨vb,j,none⟩=some v:=λj v h=>by rw[hW1,World.cell?_alloc_past (w:=w.drew) _ vb j hvw];exact h
 have hdl:(cs.drop (i*7)).length=(n-i)*7:=(by rw[List.length_drop,hcl];omega);have hbN:b≠w.heap.size:=by omega
 have hcpA:∀ ty dc,(Builtin.copy_ #[29,29] ty #[.slice (some ⟨w.heap.size,i*7,none⟩) (n+1-i) dc,.slice (some ⟨vb,voff,none⟩) 1 vc]).run prog W1 = .ok (goInt 1) (W1.setCells w.heap.size (i*7) vs):=λty dc=>by
  have hmin:Nat.min 1 (n+1-i)=1:=by simp only[Nat.min_def];split <;> omega
  have h:=Znc W1 29 29 ty 36 w.heap.size (i*7) (n+1-i) dc ⟨vb,voff,none⟩ 1 vc 7 vs Tryz.underlying29 hsz (by rw[hmin,hvl])
   (λj v hj=>by rw[Addr.add_lit];exact hOv _ v (hvs j v hj))
   (λj hj=>hN _ (by omega)) (λj hj=>hNf _) h1v
  rwa [hmin]at h
 have hcpB:∀ ty dc sc,(Builtin.copy_ #[29,29] ty #[.slice (some ⟨w.heap.size,(i+1)*7,none⟩) (n-i) dc,.slice (some ⟨b,off+i*7,none⟩) (n-i) sc]).run prog (W1.setCells w.heap.size (i*7) vs).drew = .ok (goInt ((n-i:Nat):Int)) ((W1.setCells w.heap.size (i*7) vs).drew.setCells w.heap.size ((i+1)*7) (cs.drop (i*7))):=λty dc sc=>by
  have hmin:Nat.min (n-i) (n-i)=n-i:=by simp
  have h:=Znc (W1.setCells w.heap.size (i*7) vs).drew 29 29 ty 36 w.heap.size ((i+1)*7) (n-i) dc ⟨b,off+i*7,none⟩ (n-i) sc 7 (cs.drop (i*7)) Tryz.underlying29 hsz (by rw[hmin,hdl])
   (λj v hj=>by
    rw[Addr.add_lit];show (W1.setCells w.heap.size (i*7) vs).cell? _=some v;rw[World.cell?_setCells_out _ _ _ _ _ (λh _=>absurd h hbN),W1v];exact hOb _ v (hcs (i*7+j) v (by rwa [W13]at hj)))
   (λj hj=>by
    show ((W1.setCells w.heap.size (i*7) vs).cell? _).isSome=true;exact isSome_setCells _ _ _ _ (λt ht=>hN _ (by omega)) _ (hN _ (by omega)))
   (λj hj=>by
    show (W1.setCells w.heap.size (i*7) vs).frozen? _=false;rw[World.frozen?_setCells];exact hNf _) (λv hv=>h1c v (W1S hv))
  rwa [hmin]at h
 have hGn:n+1<=G:=by rw[hG];exact grownCap_ge w _ _ _
 have hG63:G<=9223372036854775807:=by
  have:=grownCap_le_maxLen w (n+1) c 36 (by unfold maxLen;omega);rw[<- hG]at this;unfold maxLen at this;omega
 have hGi:¬(G=i):=(by omega);have hGim:¬(G=i+1):=(by omega);have hci:¬(c=i):=(by omega);rw[<- hW1];have hw1:i64.wrap ((i:Int)+1)=(i:Int)+1:=(by rw[IntKind.wrap_i64];omega);have hw2:i64.wrap ((n:Int)+1)=(n:Int)+1:=(by rw[IntKind.wrap_i64];omega);have hw3:i64.wrap ((n:Int)+1-(i:Int))=(n:Int)+1-(i:Int):=(by rw[IntKind.wrap_i64];omega);have hb1:(0:Int)<=(i:Int)+1:=(by omega);have hin:i<=n:=(by omega);have htn:((i:Int)+1).toNat=i+1:=(by omega);have hb3:(i:Int)<=(n:Int):=(by omega);clear hkk hik hold hROW hG hRl m0 m1 m2 m3 htl hdl hN hNf hOb hOv;clear hW1
 go_enter Tryz.func32,Tryz.ntmps32
 go_wp2_with (first
  |(at_builtin;refine Lib.wpList_append_run _ rfl _ _ _ _ rfl _ _ rfl rfl _ _ (hrz _) ?_)
  |(at_builtin;refine wpList_copy_runI _ rfl _ _ 29 29 rfl _ _ rfl rfl (hcpA _ _) ?_))
 go_region_law (refine step_copy_runI rfl _ _ 29 29 rfl _ _ (by simp[Act.eval,Act.put]) (by simp[Act.eval,Act.put]) (hcpB _ _ _) ?_)
 go_wp2
 go_ret
 exact ⟨rfl,rfl⟩
open Go.RowKit Go.Lib
def Znk {x:Prt} {y:AV} (h:y∈ptA x):∃ (k:IntKind) (n:Int),y = .int k n:=by
 simp only[ptA,W0g,W0Q,or_false]at h;rcases h with rfl|rfl|rfl|rfl|rfl|rfl|rfl <;> exact ⟨_,_,rfl⟩
def Znl (x:Prt):(ptA x).length=7:=rfl
def Znm {l:Jp} {x:Prt} {i:Nat} (hi:i<l.length) {m j:Nat} {r:List AV} {y:AV} (hm:((putP l x i).map ptA)[m]? = some r) (hj:r[j]? = some y) :
  j<7/\((m<i/\(l.map ptA)[m]? = some r)∨(m=i/\r=ptA x)∨(i<m/\(l.map ptA)[m-1]? = some r)):=by
 rw[W09,W04]at hm;obtain ⟨p,hp,rfl⟩:=hm;refine ⟨(W02.1 hj).1,?_⟩;unfold putP at hp;rw[W1s]at hp;have htl:(l.take i).length=i:=by simp;omega
 split at hp
 . rename_i q;rw[htl]at q;rw[List.getElem?_take_of_lt q]at hp;exact .inl ⟨q,by rw[W09,hp];rfl⟩
 . rename_i q;rw[htl]at q hp;by_cases e:m=i
   . subst e;rw[W2p,W2h,W00]at hp;exact .inr (.inl ⟨rfl,by rw[hp]⟩)
   . rw[show m-i=(m-i-1)+1 by omega,List.getElem?_cons_succ,W13,show i+(m-i-1)=m-1 by omega]at hp;exact .inr (.inr ⟨by omega,by rw[W09,hp];rfl⟩)
set_option maxRecDepth 100000 in
def Znn (l:Jp) (x:Prt) (i:Nat) (hi:i<l.length) (hl:l.length<=41) :
  PB prog G 32 [(1000,.row 7 (l.map ptA))] [.osl 1000 l.length,.int .i64 i,.vsl [ptA x]] (.osl 1000 (l.length+1)) [(1000,.row 7 ((putP l x i).map ptA))]:=by
 refine ⟨by kernel_rfl,λR W κ vs hG hN hW hX hE hk hsz hvs=>?_⟩;have hg:(obSt [(1000,.row 7 (l.map ptA))]).get 1000=some (.row 7 (l.map ptA)):=rfl;obtain ⟨vs⟩:=vs
 match vs,hsz with
 |[v,vi,vx],_ =>
 have hv:=hvs 0 _ v rfl rfl;have hvi:=hvs 1 _ vi rfl rfl;have hvx:=hvs 2 _ vx rfl rfl;obtain rfl:vi = .int .i64 i:=by cases hvi with|pv h=>cases h;rfl
 obtain ⟨b,s,c,cs,t,hκ,rfl,hnc,hc,hb,hs,hr,hx⟩:=hk.osl hv hg (by simp);obtain ⟨a',cap,sz',bx,ox,f,rfl,q1,q2,q3,q4,q5,q6,q7⟩:=ZO hvx.vsl_inv';obtain ⟨rfl,q3b,q3c⟩:=q3 (by simp);obtain rfl:sz'=7:=(q5 (ptA x) (by simp)).symm;have hlt:=hk.loc_lt hκ;have hbb:bx≠b:=λe=>q3c (.inr ⟨1000,s,by rw[e];exact hκ⟩)
 have hcell:∀ q,q<l.length*7->∃ u,cs[s+q]? = some u/\u.oneCell'=true:=λq hq=>by
  have hm:q / 7<l.length:=(by omega);have hj:q % 7<(ptA l[q / 7]).length:=(by rw[Znl];omega);obtain ⟨u,hu,hu2⟩:=hx (q / 7) (q % 7) (ptA l[q / 7]) ((ptA l[q / 7])[q % 7]) (by simp[hm]) (by simp[hj]);refine ⟨u,by rw[<- hu];congr 1;omega,?_⟩;obtain ⟨k,n,e⟩:=Znk (W0e hj);rw[e]at hu2
  cases hu2 with|pv h=>cases h;rfl
 have hnew:∀ q,q<7->W.cell? ⟨bx,ox+q,none⟩=some (f 0 q)/\(f 0 q).oneCell'=true:=λq hq=>by
  have h1:=q6 0 q (by simp) hq;have hj:q<(ptA x).length:=hq;have h2:=q7 0 q (ptA x) ((ptA x)[q]) (by simp) (by simp[hj]);refine ⟨by simpa using h1,?_⟩;obtain ⟨k,n,e⟩:=Znk (W0e hj);rw[e]at h2
  cases hf:f 0 q <;> rw[hf]at h2 <;> cases h2 <;> rfl
 obtain ⟨cl,hcl⟩ : ∃ cl:List Value,cl=(List.range (l.length*7)).map λq=>cs.getD (s+q) Go.undef:=⟨_,rfl⟩
 obtain ⟨vl,hvl⟩ : ∃ vl:List Value,vl=(List.range 7).map λq=>f 0 q:=⟨_,rfl⟩
 have hcll:cl.length=l.length*7:=(by rw[hcl];simp);have hvll:vl.length=7:=by rw[hvl];simp
 have hcla:∀ q u,cl[q]? = some u->q<l.length*7/\cs[s+q]? = some u/\u.oneCell'=true:=λq u hq=>by
  have hlt2:q<l.length*7:=(by have:=(W02.1 hq).1;omega);obtain ⟨u2,h1,h2⟩:=hcell q hlt2;rw[hcl,W09,W0L hlt2,W0m,W00,W0a,h1]at hq;simp only[W0P]at hq;subst hq;exact ⟨hlt2,h1,h2⟩
 have hclb:∀ q u,q<l.length*7->cs[s+q]? = some u->cl[q]? = some u:=λq u hq h1=>by
  rw[hcl,W09,W0L hq,W0m,W0a,h1];rfl
 have hvla:∀ q u,vl[q]? = some u->W.cell? ⟨bx,ox+q,none⟩=some u/\u.oneCell'=true:=λq u hq=>by
  have hlt2:q<7:=(by have:=(W02.1 hq).1;omega);rw[hvl,W09,W0L hlt2,W0m,W00]at hq;subst hq;exact hnew q hlt2
 have hvlb:∀ q,q<7->vl[q]? = some (f 0 q):=λq hq=>by rw[hvl,W09,W0L hq];rfl
 have h1c:∀ u∈cl,u.oneCell'=true:=λu hu=>by
  obtain ⟨q,hq⟩:=List.mem_iff_getElem?.1 hu;exact (hcla q u hq).2.2
 have h1v:∀ u∈vl,u.oneCell'=true:=λu hu=>by
  obtain ⟨q,hq⟩:=List.mem_iff_getElem?.1 hu;exact (hvla q u hq).2
 have hW:∀ q u,cl[q]? = some u->W.cell? ⟨b,s+q,none⟩=some u:=λq u hq=>by
  rw[World.cell?,hb];exact (hcla q u hq).2.1
 have hfz:∀ q,W.frozen? ⟨b,q,none⟩=false:=λq=>by simp[World.frozen?,hb]
 have hput:(putP l x i).length=l.length+1:=Zi8
 have fin:∀ (c2:Array Value) (o2:Nat),(∀ q u,q<i*7->cl[q]? = some u->c2[o2+q]? = some u)->(∀ q u,vl[q]? = some u->c2[o2+i*7+q]? = some u)->(∀ q u,cl[i*7+q]? = some u->c2[o2+(i+1)*7+q]? = some u) ->
   ∀ (m j:Nat) (r:List AV) (y:AV),((putP l x i).map ptA)[m]? = some r->r[j]? = some y->∃ v,c2[o2+m*7+j]? = some v/\VR ((obSt [(1000,.row 7 (l.map ptA))]).env R.M κ) W y v:=λc2 o2 f1 f2 f3 m j r y hm hj=>by
  obtain ⟨hj7,h|h|h⟩:=Znm hi hm hj
  . obtain ⟨u,h1,h2⟩:=hx m j r y h.2 hj;have hlm:=h.1;refine ⟨u,?_,h2⟩;rw[W1v];exact f1 _ u (by omega) (hclb _ u (by omega) (by rw[<- W1v];exact h1))
  . obtain ⟨rfl,rfl⟩:=h;exact ⟨f 0 j,f2 j _ (hvlb j hj7),.pv (q7 0 j (ptA x) y rfl hj)⟩
  . obtain ⟨u,h1,h2⟩:=hx (m-1) j r y h.2 hj;have hlm:m-1<l.length:=(by have:=(W02.1 h.2).1;simpa using this);refine ⟨u,?_,h2⟩;have e1:o2+m*7+j=o2+(i+1)*7+((m-1-i)*7+j):=(by omega);rw[e1];refine f3 _ u (hclb _ u (by omega) ?_);rw[<- h1];congr 1;omega
 have hrows:∀ r∈(putP l x i).map ptA,r.length=7:=λr h=>by
  obtain ⟨p,-,rfl⟩:=W0i.1 h;rfl
 have hlen:(l.map ptA).length<((putP l x i).map ptA).length:=(by simp only[W0N];omega);by_cases hroom:l.length+1<=c
 . have hsh:∃ tA kA,W.shape? bx=some (tA,kA)/\kA≠0:=by
    have h1:=(hnew 0 (by omega)).1;unfold World.cell? at h1;unfold World.shape?
    split at h1
    . rename_i c2 e2 f2 hh;simp only[Option.isSome_none,W05,if_false]at h1;have:=(W0c.1 h1).1;exact ⟨_,_,by rw[hh],by omega⟩
    . cases h1
   obtain ⟨tA,kA,s1,s2⟩:=hsh;refine (Zni b s l.length c i bx ox cap cl vl W hi hroom (by unfold maxLen at hc;omega) hbb hcll hvll hW (λj hj=>by simp[World.cell?,hb];omega) (λj _=>hfz _) (λj u h=>(hvla j u h).1) h1c h1v tA t kA cs.size s1 s2 (by simp[World.shape?,hb]) hfz).mono ?_;rintro e W' ⟨rfl,rfl⟩;have hdl:(cl.drop (i*7)).length=(l.length-i)*7:=(by rw[List.length_drop,hcll,Nat.sub_mul]);have m3:i*7+(l.length-i)*7=l.length*7:=(by rw[<- W0Z];congr 1;omega);have hb':W.drew.heap[b]? = some (.cells cs t (0,0)):=hb;obtain ⟨c1,d1,d2,d3,d4⟩:=ZD b (cl.drop (i*7)) (s+(i+1)*7) W.drew cs t hb' (by omega);obtain ⟨c2,g1,g2,g3,g4⟩:=ZD b vl (s+i*7) _ c1 t d1 (by omega)
   obtain ⟨k1,k2⟩:=hk.regrow (rows':=(putP l x i).map ptA) (nb:=(b,s)) (W':=(W.drew.setCells b (s+(i+1)*7) (cl.drop (i*7))).setCells b (s+i*7) vl) hg hκ hlen (by rw[ZE,ZE];exact W0f _)
    (λj hj hne=>by rw[World.heap_setCells_other _ b _ _ (by rw[ZE];exact hj) hne,World.heap_setCells_other W.drew b _ _ hj hne];rfl) (by rw[World.os_setCells,World.os_setCells];rfl) (by rw[ZF,ZF];rfl) (by rw[World.output_setCells,World.output_setCells];rfl) g1 (.inl rfl)
    ⟨hrows,by rw[g2,d2,W0N,hput];simp only;omega,fin c2 s (λq u hq h=>by
     rw[g3 _ (.inl (by omega)),d3 _ (.inl (by omega))];exact (hcla q u h).2.1) (λq u h=>g4 q u h) (λq u h=>by
     rw[g3 _ (.inr (by omega))];exact d4 q u (by rw[W13];exact h))⟩
   exact ⟨_,_,rfl,k1,.osl 1000 _ 7 ((putP l x i).map ptA).length _ _ _ (by simp[St.env,St.get,obSt,lk,AObj.dim]) (by simp[hput]) λ_=>⟨b,s,c2,t,by simp[St.env],rfl,by simp,by simpa using hroom,hc,g1,by omega⟩⟩
 . obtain ⟨ie,hie⟩ : ∃ ie,prog.info? 36=some ie:=⟨_,rfl⟩;have hi3:∃ z,ie.zero=some z/\ie.size=7/\ie.bytes=56/\z.cells.size=7:=(by revert hie;rintro ⟨⟩;exact ⟨_,rfl,rfl,rfl,rfl⟩);obtain ⟨z,z1,z2,z3,z4⟩:=hi3;refine (Znj b s l.length c i bx ox cap cl vl W hi hnc (by omega) (by omega) hcll hvll hW (λj u h=>(hvla j u h).1) h1c h1v ie z hie z1 z2 z3 z4).mono ?_;have hge:=grownCap_ge W (l.length+1) c 36;have hcm:grownCap W (l.length+1) c 36<=maxLen:=grownCap_le_maxLen W (l.length+1) c 36 (by unfold maxLen;omega);generalize hgc:grownCap W (l.length+1) c 36=gc at *;rintro e W' ⟨rfl,rfl⟩;have hdl:(cl.drop (i*7)).length=(l.length-i)*7:=(by rw[List.length_drop,hcll,Nat.sub_mul]);have htl:(cl.take (i*7)).length=i*7:=(by rw[W15,hcll];omega);have m3:i*7+(l.length-i)*7=l.length*7:=(by rw[<- W0Z];congr 1;omega);obtain ⟨ROW,hROW⟩ : ∃ ROW:Array Value,ROW=(cl.take (i*7)).toArray++Builtin.zeroCells z.cells (l.length+1-i)++Builtin.zeroCells z.cells (gc-(l.length+1)):=⟨_,rfl⟩;rw[<- hROW]
   have hRs:ROW.size=gc*7:=by
    rw[hROW];simp only[Array.size_append,List.size_toArray,htl,size_zeroCells,z4];omega
   have hR1:∀ q u,q<i*7->cl[q]? = some u->ROW[q]? = some u:=λq u hq h=>by
    rw[hROW,W0W,if_pos (by simp only[Array.size_append,List.size_toArray,htl];omega),W0W,if_pos (by simp only[List.size_toArray,htl];omega),W2s,List.getElem?_take_of_lt hq];exact h
   obtain ⟨c1,d1,d2,d3,d4⟩:=ZD W.heap.size vl (i*7) (W.drew.alloc (.cells ROW 36)) ROW 36 (heap_alloc_new W.drew _) (by omega);obtain ⟨c2,g1,g2,g3,g4⟩:=ZD W.heap.size (cl.drop (i*7)) ((i+1)*7) ((W.drew.alloc (.cells ROW 36)).setCells W.heap.size (i*7) vl).drew c1 36 d1 (by omega);have hsz2:(W.drew.alloc (.cells ROW 36)).heap.size=W.heap.size+1:=by simp
   have hold:∀ j,j<W.heap.size->((((W.drew.alloc (.cells ROW 36)).setCells W.heap.size (i*7) vl).drew).setCells W.heap.size ((i+1)*7) (cl.drop (i*7))).heap[j]? = W.heap[j]?:=λj hj=>by
    rw[World.heap_setCells_other _ W.heap.size _ _ (by show j<((W.drew.alloc (.cells ROW 36)).setCells W.heap.size (i*7) vl).heap.size;rw[ZE,hsz2];omega) (by omega)];show ((W.drew.alloc (.cells ROW 36)).setCells W.heap.size (i*7) vl).heap[j]? = _;rw[World.heap_setCells_other _ W.heap.size _ _ (by rw[hsz2];omega) (by omega)];exact heap_alloc_old W.drew _ hj
   obtain ⟨k1,k2⟩:=hk.regrow (rows':=(putP l x i).map ptA) (nb:=(W.heap.size,0)) (W':=(((W.drew.alloc (.cells ROW 36)).setCells W.heap.size (i*7) vl).drew).setCells W.heap.size ((i+1)*7) (cl.drop (i*7))) hg hκ hlen
    (by rw[ZE];show _<=((W.drew.alloc (.cells ROW 36)).setCells W.heap.size (i*7) vl).heap.size;rw[ZE,hsz2];omega)
    (λj hj _=>hold j hj) (by rw[World.os_setCells];show ((W.drew.alloc (.cells ROW 36)).setCells W.heap.size (i*7) vl).os=_;rw[World.os_setCells];rfl)
    (by rw[ZF];show ((W.drew.alloc (.cells ROW 36)).setCells W.heap.size (i*7) vl).tape=_;rw[ZF];rfl)
    (by rw[World.output_setCells];show ((W.drew.alloc (.cells ROW 36)).setCells W.heap.size (i*7) vl).output=_;rw[World.output_setCells];rfl) g1
    (.inr ⟨rfl,by rw[ZE];show _<((W.drew.alloc (.cells ROW 36)).setCells W.heap.size (i*7) vl).heap.size;rw[ZE,hsz2];omega,hold b hlt⟩)
    ⟨hrows,by rw[g2,d2,hRs,W0N,hput];simp only;omega,fin c2 0 (λq u hq h=>by
     rw[W1N,g3 _ (.inl (by omega)),d3 _ (.inl (by omega))];exact hR1 q u hq h) (λq u h=>by
     have:=(W02.1 h).1;rw[W1N,g3 _ (.inl (by omega))];exact d4 q u h) (λq u h=>by
     rw[W1N];exact g4 q u (by rw[W13];exact h))⟩
   exact ⟨_,_,rfl,k1,.osl 1000 _ 7 ((putP l x i).map ptA).length _ _ _ (by simp[St.env,St.get,obSt,lk,AObj.dim]) (by simp[hput]) λ_=>⟨W.heap.size,0,c2,36,by simp[St.env],rfl,by simp,by simpa using hge,hcm,g1,by omega⟩⟩
def snE (r:Jr) (l:Jl) (hs:Jh) (ps:Jp) (x:Prt):Int :=
 if ck7 r l hs ps=0 then (if ps.length=30 then 9 else if ck7 r l hs (putP ps x (plP ps x))=0 then 0 else 70) else ck7 r l hs ps
def snA (r:Jr) (l:Jl) (hs:Jh) (ps:Jp) (x:Prt):AV :=
 .tup [if snE r l hs ps x=0 then prA r l hs (putP ps x (plP ps x)) else .agg [.nils,.nils,.nils,.nils],.int .i64 (snE r l hs ps x)]
def Zno (l:Jp) (x:Prt):putP l x l.length=l++[x]:=by unfold putP;simp
def Znp (l:Jp) (x:Prt) (hl:l.length<=41) :
  PB prog G 32 [(1000,.row 7 (l.map ptA))] [.osl 1000 l.length,.int .i64 l.length,.vsl [ptA x]] (.osl 1000 (l.length+1)) [(1000,.row 7 ((putP l x l.length).map ptA))]:=by
 rw[Zno];have b1:(l.length+1)*56<=70368744177664:=(by omega);have hpx:ptA x=[.int .i64 x.no,.int .i64 x.dy,.int .i64 x.ho,.int .i64 x.dw,.int .i64 x.lt,.int .i64 x.bk,.int .u8 x.lo]:=rfl
 (refine Znb (W0C rfl) λR hG hrd=>Qga ?_;subst hG)
 simp -implicitDefEqProofs[Zn9,Zna,hpx,b1];have e:l.map ptA++[[.int .i64 x.no,.int .i64 x.dy,.int .i64 x.ho,.int .i64 x.dw,.int .i64 x.lt,.int .i64 x.bk,.int .u8 x.lo]]=(l++[x]).map ptA:=(by rw[W0r];rfl);rw[e]
 have fP:∀ ok st,((l++[x]).map ptA).map (λr=>r.map (frzA ok st))=(l++[x]).map ptA:=λok st=>by
  rw[W10];refine W0K λp _=>?_
  simp[ptA,frzA,frz,AV.keys]
 generalize (l++[x]).map ptA=X at *;simp -implicitDefEqProofs[FinB,Yi,newK,frzA,frzO,frz,AV.keys,fP]
def Znq (l:Jp) (x:Prt) (i:Nat) (hi:i<=l.length) (hl:l.length<=41) :
  PB prog G 32 [(1000,.row 7 (l.map ptA))] [.osl 1000 l.length,.int .i64 i,.vsl [ptA x]] (.osl 1000 (l.length+1)) [(1000,.row 7 ((putP l x i).map ptA))]:=by
 by_cases h:i<l.length
 . exact Znn l x i h hl
 . obtain rfl:i=l.length:=(by omega);exact Znp l x hl
def Znr (hG:GC G) (hN:GN G) (hP:GP G) (r:Jr) (l:Jl) (hs:Jh) (ps:Jp) (x:Prt) (hl:WfN l) (hr:Wf r) (hne:r≠[]) (h80:r.length<=80) (hd:Sml (nums r)) (hw:WfP hs ps) (hx:POk x) (hps:ps≠[]) :
  PC prog G 8 [prA r l hs ps,.agg (ptA x)] (snA r l hs ps x):=by
 have ho:=Zj3 hG hN hP r l hs ps hl hr hd hw;have pO:=Zih r l hs ps;have kO:=Zii r l hs ps;have hpx:ptA x=[.int .i64 x.no,.int .i64 x.dy,.int .i64 x.ho,.int .i64 x.dw,.int .i64 x.lt,.int .i64 x.bk,.int .u8 x.lo]:=rfl;have eP:prA r l hs ps = .agg [.vsl (r.map isa),.vsl (l.map na),.vsl (hs.map hoa),.vsl (ps.map ptA)]:=rfl;unfold opP at ho;unfold snA snE;by_cases h0:ck7 r l hs ps=0
 case neg =>
  rw[if_neg h0]at ho;simp only[if_neg h0];rw[eP]at ho ⊢
  (refine Z5O rfl λR hG hrd=>Qga ?_;subst hG)
  simp -implicitDefEqProofs[Z5M,Z5N,hpx];refine Qco (ho) ?_;simp -implicitDefEqProofs[h0]
 rw[if_pos h0,h0]at ho;simp only[if_pos h0];by_cases h30:ps.length=30
 . simp only[if_pos h30];rw[eP]at ho ⊢
   (refine Z5O rfl λR hG hrd=>Qga ?_;subst hG)
   simp -implicitDefEqProofs[Z5M,Z5N,hpx];refine Qco (ho) ?_;simp -implicitDefEqProofs[h30]
 simp only[if_neg h30];have hB:=Zif.1 (Zj1.1 h0).2;have hrp:riP ps:=hB.2.2.1;have hpl:plP ps x<=ps.length:=List.countP_le_length;have hQl:(putP ps x (plP ps x)).length=ps.length+1:=Zi8
 have hw':WfP hs (putP ps x (plP ps x)):=⟨hw.hl,by omega,hw.dl,λy hy=>by
  rcases Zi7.1 hy with rfl|hy
  . exact hx
  . exact hw.po y hy⟩
 have cK:=Zj4 hG hN hP r l hs (putP ps x (plP ps x)) hl hr hd hw'
 have hhs:hs≠[]:=λe=>by
  cases ps with
  |nil=>exact hps rfl
  | cons y t =>
    have:=(Zlr h0 (W0H ..)).1;rw[e]at this;exact absurd this (by simp[hoI,fstOf])
 have eh:Yg (hs.map hoa) = .vsl (hs.map hoa):=(by unfold Yg;rw[if_neg (by simpa using hhs)]);have cc:=Zmb (G:=G) r l hs ps hr hl.1 hw hne h80 hps;have cb:=ZlO (G:=G) 30 x ps (by unfold Sml;omega) hrp (λz _=>ZlJ z x.no);have ci:=Znq (G:=G) ps x (plP ps x) hpl (by omega);obtain ⟨cs,hO⟩ : ∃ cs,ofA r l hs ps = .vptr cs 0:=⟨_,rfl⟩;have eQ:prA r l hs (putP ps x (plP ps x)) = .agg [.vsl (r.map isa),.vsl (l.map na),.vsl (hs.map hoa),.vsl ((putP ps x (plP ps x)).map ptA)]:=rfl;rw[eP]at ho ⊢;rw[eQ]at cK ⊢;rw[eh]at cc;rw[hO]at ho pO kO cc;obtain ⟨IR,hIR⟩:=Qex (r.map isa);obtain ⟨NL,hNL⟩:=Qex (l.map na);obtain ⟨HL,hHL⟩:=Qex (hs.map hoa);have pIR:(IR.all λr=>r.all AV.pure)=true:=(by rw[hIR];simp[isa,AV.pure]);have pNL:(NL.all λr=>r.all AV.pure)=true:=(by rw[hNL];simp[na,AV.pure]);have pHL:(HL.all λr=>r.all AV.pure)=true:=(by rw[hHL];simp[hoa,ia,AV.pure]);rw[<- hIR,<- hNL,<- hHL]at ho cK cc ⊢;have pP:((ps.map ptA).all λr=>r.all AV.pure)=true:=(by simp[ptA,AV.pure]);have pQ:(((putP ps x (plP ps x)).map ptA).all λr=>r.all AV.pure)=true:=(by simp[ptA,AV.pure]);have rIR:=λρ=>AV.ren_pure (ρ:=ρ) (.vsl IR) (by simpa [AV.pure] using pIR)
 have rNL:=λρ=>AV.ren_pure (ρ:=ρ) (.vsl NL) (by simpa [AV.pure] using pNL)
 have rHL:=λρ=>AV.ren_pure (ρ:=ρ) (.vsl HL) (by simpa [AV.pure] using pHL)
 have rPs:=λρ=>AObj.ren_pure (ρ:=ρ) (sz:=7) pP
 have rQs:=λρ=>AObj.ren_pure (ρ:=ρ) (sz:=7) pQ
 have kPs:=λo=>Zl1 o ps
 generalize hX:ps.map ptA=X at *;generalize hY:(putP ps x (plP ps x)).map ptA=Y at *
 (refine Z5O rfl λR hG hrd=>Qga ?_;subst hG)
 simp -implicitDefEqProofs[Z5M,Z5N,hpx];refine Qco (ho) ?_;have hXl:X.length=ps.length:=(by rw[<- hX];simp);have hYl:Y.length=ps.length+1:=(by rw[<- hY];simp[hQl]);have h30i:¬((ps.length:Int)=30):=(by omega);simp -implicitDefEqProofs[h30i,hXl];refine Yd.sem (Z1B.objs cc (λk=>k+300) (by simp) (by simp[St.get,lk]) (by simp[AV.pure,pO]) rfl rfl) ?_;simp -implicitDefEqProofs[Yl,rPs,AV.ren,rIR,rNL,rHL];refine Yd.flat cb (by simp[AV.flat]) (by simp[Yj,snap,Yh,okAll,St.get,lk,hXl,pP,AV.pure]) ?_;simp -implicitDefEqProofs;refine Yd.sem (Z1B.byref ci (λ_=>921) (by simp) (by simp) (by simp[St.get,lk,rPs]) (by simp only[W0g,W0Q,or_false,forall_eq];exact kPs _) (by simp[Ya,AV.keys,lk,ptA]) rfl (by simp[AV.ren,ptA]) rfl rfl) ?_;simp -implicitDefEqProofs[Yl,rQs,AV.ren];refine Yd.flat cK (by simp[AV.flat]) (by simp[Yj,snap,Yh,okAll,St.get,lk,hYl,pQ,pIR,pNL,pHL,AV.pure]) ?_;by_cases hk:ck7 r l hs (putP ps x (plP ps x))=0
 . simp -implicitDefEqProofs[hk,hYl,pQ,pIR,pNL,pHL]
 . simp -implicitDefEqProofs[hk]
def Nsub.nes:Nsub .nes (.vsl []):=λM W u hu=>by
 cases hu with
 |nes a cap hmax=>exact .vsl [] (some a) cap 0 0 0 (λ_ _=>Go.undef) (W1f _) hmax (λh=>absurd rfl h) (λh=>by cases h) (by simp) (by simp) (by simp)
def PC.emp {P:Program} {G:Jg} {f:FuncId} {A B C X v:AV} (h1:PC P G f [.agg [A,B,C,.nils],X] v) (h2:PC P G f [.agg [A,B,C,.nes],X] v):PC P G f [.agg [A,B,C,.vsl []],X] v:=by
 refine ⟨h1.1,λM W vs hM hG hz hv=>?_⟩;have hz2:vs.size=2:=hz;have hu0:vs[0]? = some vs[0]:=W0n (by omega);have p0:=hv 0 _ _ rfl hu0;generalize vs[0]=u0 at hu0 p0
 cases p0 with
 | agg _ us hsz hx =>
   have hsz2:us.size=4:=hsz;have hu3:us[3]? = some us[3]:=W0n (by omega);have p3:=hx 3 _ _ rfl hu3;generalize us[3]=u3 at hu3 p3
   have key:∀ E:AV,PV M W E u3->∀ (i:Nat) (x:AV) (u:Value),[AV.agg [A,B,C,E],X][i]? = some x->vs[i]? = some u->PV M W x u:=λE hE i x u hi hu=>by
    match i,hi with
    | 0,hi =>
      simp only[W2h,W00]at hi;subst hi;rw[hu0]at hu
      cases hu
      refine .agg _ us hsz λj y w hj hw=>?_
      match j,hj with
      |0,hj=>exact hx 0 y w hj hw
      |1,hj=>exact hx 1 y w hj hw
      |2,hj=>exact hx 2 y w hj hw
      | 3,hj =>
        simp only[List.getElem?_cons_succ,W2h,W00]at hj;subst hj;rw[hu3]at hw
        cases hw
        exact hE
      |j+4,hj=>simp at hj
    |1,hi=>exact hv 1 x u hi hu
    |i+2,hi=>simp at hi
   cases p3 with
   | vsl _ a cap sz b o f hcap hmax ha hn hs hc hr =>
     cases a with
     | none =>
       obtain ⟨-,rfl⟩:=hn rfl;exact h1.2 M W vs hM hG hz (key _ .nils)
     |some ad=>exact h2.2 M W vs hM hG hz (key _ (.nes ad cap hmax))
def Zns (hG:GC G) (hN:GN G) (hP:GP G) (r:Jr) (l:Jl) (hs:Jh) (E:AV) (hE:E = .nils∨E = .nes) (hl:WfN l) (hr:Wf r) (hd:Sml (nums r)) (hw:WfP hs []) :
  PC prog G 28 [.agg [.vsl (r.map isa),.vsl (l.map na),.vsl (hs.map hoa),E]] (.tup [if ck7 r l hs []=0 then ofE r l hs E else .nilp,.int .i64 (ck7 r l hs [])]):=by
 have hc:=ZfU hG hN r l hl hr;have hD:=Zc6 hG r hr;rw[rega]at hD;have hR0:=Zj0 hP r l hs [] hr.1.1 hd hw;have sE:Nsub E (.vsl []):=by rcases hE with rfl|rfl;exact .nils;exact .nes
 have hR:=PC.sub hR0 (xs:=[ofE r l hs E]) ⟨.vptr ⟨.rfl',.rfl',.rfl',sE,.rfl',trivial⟩,trivial⟩;have eO:ofE r l hs E = .vptr [.vsl (r.map isa),.vsl (l.map na),.vsl (hs.map hoa),E,.vsl ((nums r).map ia)] 0:=rfl;have pO:=Zm9 r l hs E (by rcases hE with rfl|rfl <;> simp[AV.pure]);have kO:=AV.pure_keys _ pO;have sO:∀ ok st,Yh ok st 6 (ofE r l hs E)=some (ofE r l hs E):=λok st=>by rw[eO];rw[eO]at pO;simp[Yh,pO]
 by_cases h0:chN r l=0
 case neg =>
  have e:ck7 r l hs []=chN r l:=(by rw[ck7,if_neg h0]);rw[e,if_neg h0];rcases hE with rfl|rfl <;>
  . (refine Zho rfl λR hG hrd=>Qga ?_;subst hG)
    simp -implicitDefEqProofs[Zhm,Zhn];refine Qco (hc) ?_;simp -implicitDefEqProofs[h0]
 have ho:=Zj2 h0;rw[if_pos ho,ho]at hD;rw[h0]at hc;rw[eO]at hR;rcases hE with rfl|rfl <;>
 . refine Zho rfl λR hG hrd=>?_
   subst hG;refine Qga ?_;simp -implicitDefEqProofs[Zhm,Zhn];refine Qco (hc) ?_;simp -implicitDefEqProofs;refine Qco (hD) ?_;simp -implicitDefEqProofs
   (first|refine Yd.flat (hR) (by simp[AV.flat]) (by simp) ?_|refine Ye.flat (hR) (by simp[AV.flat]) (by simp) ?_)
   cases q:ptsB r hs []
   . have e:ck7 r l hs []=70:=(by rw[ck7,if_pos h0,q];rfl);simp -implicitDefEqProofs[e]
   . have e:ck7 r l hs []=0:=(by rw[ck7,if_pos h0,q];rfl);simp -implicitDefEqProofs[e,eO]
def Znt:PB prog G 45 [] [.nes] (.osl 5 ([]:Jp).length) [(5,.row 7 (([]:Jp).map ptA))]:=by
 refine Z5j (λk=>decide (k<1000) && !(k == 5)) (by intro k hk;simp at hk;omega) Tryz.func45 rfl (by kernel_rfl) (rc:=ZlS) (by kernel_rfl) (rs:=ZlT) (by kernel_rfl) (W0C rfl) λR _ hG hrd=>Qga ?_
 subst hG;simp -implicitDefEqProofs[ZlS,ZlT];simp -implicitDefEqProofs[FinO,Yi,frzO,frzA,frz,AV.keys]
def Znu (x:Prt):PC prog G 32 [.nils,.int .i64 0,.vsl [ptA x]] (.vsl [ptA x]):=by
 have hpx:ptA x=[.int .i64 x.no,.int .i64 x.dy,.int .i64 x.ho,.int .i64 x.dw,.int .i64 x.lt,.int .i64 x.bk,.int .u8 x.lo]:=rfl;refine PC_of Tryz.func32 rfl (by kernel_rfl) (rc:=Zn9) (by kernel_rfl) (rs:=Zna) (by kernel_rfl) (W0C rfl) λR _ hG hrd=>Qga ?_
 simp -implicitDefEqProofs[Zn9,Zna,hpx]
section
variable {r:Jr} {l:Jl} {hs:Jh} {x:Prt}
def Znv (hw:WfP hs []) (hx:POk x):WfP hs [x]:=⟨hw.hl,by simp,hw.dl,λy hy=>by
 rw[W0B]at hy;subst hy;exact hx⟩
def Znw (hk:ck7 r l hs [x]=0):hs≠[]:=λe=>by
 have:=(Zlr hk (W0H ..)).1;rw[e]at this;exact absurd this (by simp[hoI,fstOf])
end
def Znx (hG:GC G) (hN:GN G) (hP:GP G) (r:Jr) (l:Jl) (hs:Jh) (x:Prt) (hl:WfN l) (hr:Wf r) (hne:r≠[]) (h80:r.length<=80) (hd:Sml (nums r)) (hw:WfP hs []) (hx:POk x) :
  PC prog G 8 [.agg [.vsl (r.map isa),.vsl (l.map na),.vsl (hs.map hoa),.nils],.agg (ptA x)] (snA r l hs [] x):=by
 have ho:=Zns hG hN hP r l hs .nils (.inl rfl) hl hr hd hw;have hpx:ptA x=[.int .i64 x.no,.int .i64 x.dy,.int .i64 x.ho,.int .i64 x.dw,.int .i64 x.lt,.int .i64 x.bk,.int .u8 x.lo]:=rfl;have pO:=Zm9 r l hs .nils (by simp[AV.pure]);have kO:=AV.pure_keys _ pO;have e1:putP [] x (plP [] x)=[x]:=rfl;have h30:¬([]:Jp).length=30:=(by decide);unfold snA snE;by_cases h0:ck7 r l hs []=0
 case neg =>
  rw[if_neg h0]at ho;simp only[if_neg h0]
  (refine Z5O rfl λR hG hrd=>Qga ?_;subst hG)
  simp -implicitDefEqProofs[Z5M,Z5N,hpx];refine Qco (ho) ?_;simp -implicitDefEqProofs[h0]
 rw[if_pos h0,h0]at ho;simp only[if_pos h0,if_neg h30,e1];have eQ:prA r l hs [x] = .agg [.vsl (r.map isa),.vsl (l.map na),.vsl (hs.map hoa),.vsl [ptA x]]:=rfl;have cK:=Zj4 hG hN hP r l hs [x] hl hr hd (Znv hw hx);rw[eQ]at cK ⊢;have cK:=PC.sub cK (xs:=[.agg [.vsl (r.map isa),.vsl (l.map na),Yg (hs.map hoa),.vsl [ptA x]]]) ⟨.agg ⟨.rfl',.rfl',.orNil _,.rfl',trivial⟩,trivial⟩;have cc:=Zmd (G:=G) r l hs .nils (.inl rfl) ZlV hr hl.1 hw hne h80;have cb:=PC.sub (ZlO (G:=G) 30 x [] (by unfold Sml;simp) List.Pairwise.nil (λz h=>by cases h)) (xs:=[.nils,.int .i64 x.no,.func (.func 30) [] []]) ⟨.nils,.rfl',.rfl',trivial⟩;have e0:plP [] x=0:=rfl;rw[e0]at cb;have ci:=Znu (G:=G) x;obtain ⟨IR,hIR⟩:=Qex (r.map isa);obtain ⟨NL,hNL⟩:=Qex (l.map na);obtain ⟨HL,hHL⟩:=Qex (hs.map hoa);have pIR:(IR.all λr=>r.all AV.pure)=true:=(by rw[hIR];simp[isa,AV.pure]);have pNL:(NL.all λr=>r.all AV.pure)=true:=(by rw[hNL];simp[na,AV.pure]);have pHL:(HL.all λr=>r.all AV.pure)=true:=(by rw[hHL];simp[hoa,ia,AV.pure]);have hHe:ck7 r l hs [x]=0->Yg HL = .vsl HL:=λhk=>by rw[hHL,Yg,if_neg (by simpa using Znw hk)]
 have hV:Yg HL = .nils∨Yg HL = .vsl HL:=(by unfold Yg;split <;> simp);obtain ⟨cs,hO⟩ : ∃ cs,ofE r l hs .nils = .vptr cs 0:=⟨_,rfl⟩;rw[hO]at ho pO kO cc;rw[<- hIR,<- hNL,<- hHL]at cc cK ho ⊢;generalize Yg HL=HV at *;rw[hpx]at cK ci ⊢;generalize hck:ck7 r l hs [x]=c at *;rcases hV with rfl|rfl
 all_goals
  (refine Z5O rfl λR hG hrd=>Qga ?_;subst hG)
  simp -implicitDefEqProofs[Z5M,Z5N];refine Yd.of ho (by simp[AV.pure,pIR,pNL,pHL]) ?_;simp -implicitDefEqProofs;refine Yd.of cc (by simp[pO]) ?_;simp -implicitDefEqProofs;refine Qco (cb) ?_;simp -implicitDefEqProofs;refine Qco (ci) ?_;simp -implicitDefEqProofs;refine Yd.of cK (by simp[AV.pure,pIR,pNL,pHL]) ?_;by_cases hk:c=0
  . first
    |cases hHe hk;done
    | rw[if_pos hk,hk]
      simp -implicitDefEqProofs[pIR,pNL,pHL,AV.pure]
  . rw[if_neg hk];simp -implicitDefEqProofs[hk]
def Zny (hG:GC G) (hN:GN G) (hP:GP G) (r:Jr) (l:Jl) (hs:Jh) (x:Prt) (hl:WfN l) (hr:Wf r) (hne:r≠[]) (h80:r.length<=80) (hd:Sml (nums r)) (hw:WfP hs []) (hx:POk x) :
  PC prog G 8 [.agg [.vsl (r.map isa),.vsl (l.map na),.vsl (hs.map hoa),.nes],.agg (ptA x)] (snA r l hs [] x):=by
 have ho:=Zns hG hN hP r l hs .nes (.inr rfl) hl hr hd hw;have hpx:ptA x=[.int .i64 x.no,.int .i64 x.dy,.int .i64 x.ho,.int .i64 x.dw,.int .i64 x.lt,.int .i64 x.bk,.int .u8 x.lo]:=rfl;have pO:=Zm9 r l hs .nes (by simp[AV.pure]);have kO:=AV.pure_keys _ pO;have e1:putP [] x (plP [] x)=[x]:=rfl;have h30:¬([]:Jp).length=30:=(by decide);unfold snA snE;by_cases h0:ck7 r l hs []=0
 case neg =>
  rw[if_neg h0]at ho;simp only[if_neg h0]
  (refine Z5O rfl λR hG hrd=>Qga ?_;subst hG)
  simp -implicitDefEqProofs[Z5M,Z5N,hpx];refine Qco (ho) ?_;simp -implicitDefEqProofs[h0]
 rw[if_pos h0,h0]at ho;simp only[if_pos h0,if_neg h30,e1];have eQ:prA r l hs [x] = .agg [.vsl (r.map isa),.vsl (l.map na),.vsl (hs.map hoa),.vsl [ptA x]]:=rfl;have cK:=Zj4 hG hN hP r l hs [x] hl hr hd (Znv hw hx);rw[eQ]at cK ⊢;have cK:=PC.sub cK (xs:=[.agg [.vsl (r.map isa),.vsl (l.map na),Yg (hs.map hoa),.vsl [ptA x]]]) ⟨.agg ⟨.rfl',.rfl',.orNil _,.rfl',trivial⟩,trivial⟩;have cc:=Zma (G:=G) r l hs [] .nes (by simp[AV.pure]) Znt hr hl.1 hw hne h80;have cb:=ZlO (G:=G) 30 x [] (by unfold Sml;simp) List.Pairwise.nil (λz h=>by cases h);have e0:plP [] x=0:=rfl;rw[e0,W1d]at cb;have ci:=Znq (G:=G) [] x 0 (W0f _) (by simp);have e2:putP [] x 0=[x]:=rfl;rw[e2]at ci;simp only[W1d,W1U,W0F]at cc ci;obtain ⟨IR,hIR⟩:=Qex (r.map isa);obtain ⟨NL,hNL⟩:=Qex (l.map na);obtain ⟨HL,hHL⟩:=Qex (hs.map hoa);have pIR:(IR.all λr=>r.all AV.pure)=true:=(by rw[hIR];simp[isa,AV.pure]);have pNL:(NL.all λr=>r.all AV.pure)=true:=(by rw[hNL];simp[na,AV.pure]);have pHL:(HL.all λr=>r.all AV.pure)=true:=(by rw[hHL];simp[hoa,ia,AV.pure]);have rIR:=λρ=>AV.ren_pure (ρ:=ρ) (.vsl IR) (by simpa [AV.pure] using pIR)
 have rNL:=λρ=>AV.ren_pure (ρ:=ρ) (.vsl NL) (by simpa [AV.pure] using pNL)
 have rHL:=λρ=>AV.ren_pure (ρ:=ρ) (.vsl HL) (by simpa [AV.pure] using pHL)
 have kIR:=AV.pure_keys (.vsl IR) (by simpa [AV.pure] using pIR);have kNL:=AV.pure_keys (.vsl NL) (by simpa [AV.pure] using pNL);have kHL:=AV.pure_keys (.vsl HL) (by simpa [AV.pure] using pHL);have hHe:ck7 r l hs [x]=0->Yg HL = .vsl HL:=λhk=>by rw[hHL,Yg,if_neg (by simpa using Znw hk)]
 have hV:Yg HL = .nils∨Yg HL = .vsl HL:=(by unfold Yg;split <;> simp);obtain ⟨cs,hO⟩ : ∃ cs,ofE r l hs .nes = .vptr cs 0:=⟨_,rfl⟩;rw[hO]at ho pO kO cc;rw[<- hIR,<- hNL,<- hHL]at cc cK ho ⊢;generalize Yg HL=HV at *;rw[hpx]at cK ci ⊢;generalize hck:ck7 r l hs [x]=c at *;rcases hV with rfl|rfl
 all_goals
  (refine Z5O rfl λR hG hrd=>Qga ?_;subst hG)
  simp -implicitDefEqProofs[Z5M,Z5N];refine Yd.of ho (by simp[AV.pure,pIR,pNL,pHL]) ?_;simp -implicitDefEqProofs;refine Yd.sem (Z1B.objs cc (λk=>k+300) (by simp) (by simp[St.get,lk]) (by simp[AV.pure,pO]) rfl rfl) ?_;simp -implicitDefEqProofs[Yl,AObj.ren,AV.ren,rIR,rNL,rHL];refine Yd.flat cb (by simp[AV.flat]) (by simp[Yj,snap,Yh,okAll,St.get,lk,AV.pure]) ?_;simp -implicitDefEqProofs;refine Yd.sem (Z1B.byref ci (λ_=>921) (by simp) (by simp) (by simp[St.get,lk,AObj.ren]) (by simp[Yc,Ya]) (by simp[Ya,AV.keys,lk]) rfl (by simp[AV.ren]) rfl rfl) ?_;simp -implicitDefEqProofs[Yl,AObj.ren,AV.ren];refine Yd.flat cK (by simp[AV.flat]) (by simp[Yj,snap,Yh,okAll,St.get,lk,pIR,pNL,AV.pure]) ?_;by_cases hk:c=0
  . first
    |cases hHe hk;done
    | rw[if_pos hk,hk]
      simp -implicitDefEqProofs[pIR,pNL,pHL,AV.pure]
  . rw[if_neg hk];simp -implicitDefEqProofs[hk]
def Znz (hG:GC G) (hN:GN G) (hP:GP G) (r:Jr) (l:Jl) (hs:Jh) (ps:Jp) (x:Prt) (hl:WfN l) (hr:Wf r) (hne:r≠[]) (h80:r.length<=80) (hd:Sml (nums r)) (hw:WfP hs ps) (hx:POk x) :
  PC prog G 8 [prA r l hs ps,.agg (ptA x)] (snA r l hs ps x):=by
 by_cases hps:ps=[]
 . subst hps;exact PC.emp (Znx hG hN hP r l hs x hl hr hne h80 hd hw hx) (Zny hG hN hP r l hs x hl hr hne h80 hd hw hx)
 . exact Znr hG hN hP r l hs ps x hl hr hne h80 hd hw hx hps
def ZnA:∀ (l:Jh) (b:Nat),(hoW b l).all (λr=>r.all AV.pure)=true->hoW b l=l.map hoa
 |[],_,_=>rfl
 | h::l,b,hp=>by
   simp only[hoW,List.all_cons,W01]at hp;have h2:=ZnA l (b+1) hp.2
   have h1:hoJ b h=hoa h:=by
    have:=hp.1;unfold hoJ drW at this;unfold hoJ drW hoa;by_cases c:h.ds=[]
    . simp[c]
    . simp[c,AV.pure]at this
   simp only[hoW,W0F,h1,h2]
def ZnB {st:St} {n k b:Nat} {l:Jh} (hk:st.get k=some (.row 4 (hoW b l))) (h:∀ i (h:i<l.length),l[i].ds≠[]->st.get (b+i)=some (.row 1 (l[i].ds.map ia))):Yh okAll st (n+2) (.osl k l.length)=some (.vsl (l.map hoa)):=by
 have h1:=ZmS (n:=n) l b h;simp only[Yh,hk,okAll,ZmG,and_self,if_true]
 split
 . rename_i hp;rw[ZnA l b hp]
 . rw[h1];rfl
def ZnC {st:St} {n k sz:Nat} {rows:List (List AV)} (hk:st.get k=some (.row sz rows)) (hp:rows.all (λr=>r.all AV.pure)=true):Yh okAll st (n+1) (.osl k rows.length)=some (.vsl rows):=by
 simp only[Yh,hk,okAll,and_self,if_true,hp]
def ZnD {st:St} {IR NL HL Q:List (List AV)} {A B:AV} (h3:(IR.all λr=>r.all AV.pure)=true) (h4:(NL.all λr=>r.all AV.pure)=true) (h1:Yh okAll st 5 A=some (.vsl HL)) (h2:Yh okAll st 5 B=some (.vsl Q)) :
  Yj (snap st) [.agg [.vsl IR,.vsl NL,A,B]]=some [.agg [.vsl IR,.vsl NL,.vsl HL,.vsl Q]]:=by
 have e1:(AV.vsl IR).pure=true:=(by simpa [AV.pure] using h3);have e2:(AV.vsl NL).pure=true:=(by simpa [AV.pure] using h4);simp only[Yj,snap,Yh,e1,e2,h1,h2,if_true,W0m]
def PB.emp {P:Program} {G:Jg} {f:FuncId} {A B C X v:AV} {os:List (Nat×AObj)} (hp:(AV.agg [A,B,C,.vsl []]).pure=true) (h1:PB P G f [] [.agg [A,B,C,.nils],X] v os) (h2:PB P G f [] [.agg [A,B,C,.nes],X] v os):PB P G f [] [.agg [A,B,C,.vsl []],X] v os:=by
 refine ⟨h1.1,λR W κ vs g1 g2 g3 g4 g5 g6 hz hv=>?_⟩;have hz2:vs.size=2:=hz;have hu0:vs[0]? = some vs[0]:=W0n (by omega);have p0:=(hv 0 _ _ rfl hu0).toPV hp;generalize vs[0]=u0 at hu0 p0
 cases p0 with
 | agg _ us hsz hx =>
   have hsz2:us.size=4:=hsz;have hu3:us[3]? = some us[3]:=W0n (by omega);have p3:=hx 3 _ _ rfl hu3;generalize us[3]=u3 at hu3 p3
   have key:∀ E:AV,PV ((obSt []).env R.M κ).M W E u3->∀ (i:Nat) (x:AV) (u:Value),[AV.agg [A,B,C,E],X][i]? = some x->vs[i]? = some u->VR ((obSt []).env R.M κ) W x u:=λE hE i x u hi hu=>by
    match i,hi with
    | 0,hi =>
      simp only[W2h,W00]at hi;subst hi;rw[hu0]at hu
      cases hu
      refine .pv (.agg _ us hsz λj y w hj hw=>?_)
      match j,hj with
      |0,hj=>exact hx 0 y w hj hw
      |1,hj=>exact hx 1 y w hj hw
      |2,hj=>exact hx 2 y w hj hw
      | 3,hj =>
        simp only[List.getElem?_cons_succ,W2h,W00]at hj;subst hj;rw[hu3]at hw
        cases hw
        exact hE
      |j+4,hj=>simp at hj
    |1,hi=>exact hv 1 x u hi hu
    |i+2,hi=>simp at hi
   cases p3 with
   | vsl _ a cap sz b o f hcap hmax ha hn hs hc hr =>
     cases a with
     | none =>
       obtain ⟨-,rfl⟩:=hn rfl;exact h1.2 R W κ vs g1 g2 g3 g4 g5 g6 hz (key _ .nils)
     |some ad=>exact h2.2 R W κ vs g1 g2 g3 g4 g5 g6 hz (key _ (.nes ad cap hmax))
def ZnE (hG:GC G) (hN:GN G) (hP:GP G) (r:Jr) (l:Jl) (hs:Jh) (ps:Jp) (x:Prt) (hl:WfN l) (hr:Wf r) (hne:r≠[]) (h80:r.length<=80) (hd:Sml (nums r)) (hw:WfP hs ps) (hx:POk x) (E:AV) (hps:(E = .vsl (ps.map ptA)/\ps≠[])∨(E = .nes/\ps=[]))
  (hE:snE r l hs ps x=0) :
  PB prog G 8 [] [.agg [.vsl (r.map isa),.vsl (l.map na),.vsl (hs.map hoa),E],.agg (ptA x)] (.tup [.agg [.vsl (r.map isa),.vsl (l.map na),hlV 72 hs,.osl 621 (ps.length+1)],.int .i64 0]) (drF 700 hs++((621,.row 7 ((putP ps x (plP ps x)).map ptA))::hrO 72 700 hs)):=by
 have pE:E.pure=true:=by rcases hps with ⟨rfl,-⟩ | ⟨rfl,-⟩ <;> simp[AV.pure,ptA]
 have ho:PC prog G 28 [.agg [.vsl (r.map isa),.vsl (l.map na),.vsl (hs.map hoa),E]] (.tup [if ck7 r l hs ps=0 then ofE r l hs E else .nilp,.int .i64 (ck7 r l hs ps)]):=by
  rcases hps with ⟨rfl,-⟩ | ⟨rfl,rfl⟩
  . exact Zj3 hG hN hP r l hs ps hl hr hd hw
  . exact Zns hG hN hP r l hs .nes (.inr rfl) hl hr hd hw
 have pO:=Zm9 r l hs E pE;have kO:=AV.pure_keys _ pO;have hpx:ptA x=[.int .i64 x.no,.int .i64 x.dy,.int .i64 x.ho,.int .i64 x.dw,.int .i64 x.lt,.int .i64 x.bk,.int .u8 x.lo]:=rfl;unfold snE at hE
 have h0:ck7 r l hs ps=0:=by
  by_cases c:ck7 r l hs ps=0
  . exact c
  . rw[if_neg c]at hE;exact hE
 rw[if_pos h0]at hE;have h30:¬ps.length=30:=λc=>by rw[if_pos c]at hE;simp at hE
 rw[if_neg h30]at hE
 have hk:ck7 r l hs (putP ps x (plP ps x))=0:=by
  by_cases c:ck7 r l hs (putP ps x (plP ps x))=0
  . exact c
  . rw[if_neg c]at hE;simp at hE
 rw[if_pos h0,h0]at ho;have hrp:riP ps:=(Zif.1 (Zj1.1 h0).2).2.2.1;have hp30:ps.length<=30:=(Zif.1 (Zj1.1 h0).2).2.1;have hpl:plP ps x<=ps.length:=List.countP_le_length;have hQl:(putP ps x (plP ps x)).length=ps.length+1:=Zi8
 have hw':WfP hs (putP ps x (plP ps x)):=⟨hw.hl,by omega,hw.dl,λy hy=>by
  rcases Zi7.1 hy with rfl|hy
  . exact hx
  . exact hw.po y hy⟩
 have cK:=Zj4 hG hN hP r l hs (putP ps x (plP ps x)) hl hr hd hw';rw[hk]at cK
 have hhs:hs≠[]:=λe=>by
  have:=(Zlr hk (Zi7.2 (.inl rfl))).1;rw[e]at this;exact absurd this (by simp[hoI,fstOf])
 have hhl:=hw.hl
 have cP:PB prog G 45 [] [E] (.osl 5 ps.length) [(5,.row 7 (ps.map ptA))]:=by
  rcases hps with ⟨rfl,h⟩ | ⟨rfl,rfl⟩
  . exact ZlU ps h (by unfold Sml;omega)
  . exact Znt
 have cc:=Zn6 (G:=G) r l hs ps E pE cP hr hl.1 hw hne h80;have cb:=ZlO (G:=G) 30 x ps (by unfold Sml;omega) hrp (λz _=>ZlJ z x.no);have ci:=Znq (G:=G) ps x (plP ps x) hpl (by omega);obtain ⟨cs,hO⟩ : ∃ cs,ofE r l hs E = .vptr cs 0:=⟨_,rfl⟩;have eQ:prA r l hs (putP ps x (plP ps x)) = .agg [.vsl (r.map isa),.vsl (l.map na),.vsl (hs.map hoa),.vsl ((putP ps x (plP ps x)).map ptA)]:=rfl;have hV72:hlV 72 hs = .osl 72 hs.length:=(by simp[hlV,hhs]);have hO72:hrO 72 700 hs=[(72,.row 4 (hoW 700 hs))]:=(by simp[hrO,hhs]);rw[eQ]at cK;rw[hV72,hO72]at cc;rw[hV72,hO72];rw[hO]at ho pO kO cc;have tT:=ZmM (l:=hs) (by omega) 700 (by omega) (by omega);have rY:=ZmR hs 700;have sY:∀ (t:List (Nat×AV)) (C:List (Nat×AObj)),lk C 72=some (.row 4 (hoW 700 hs))->Yh okAll ⟨t,drF 700 hs++C⟩ 5 (.osl 72 hs.length)=some (.vsl (hs.map hoa)):=λt C h=>ZnB (n:=3) (by simp only[St.get];rw[tT.lk C (by omega)];exact h) λi hi hd=>Zmz (ZmN hs 700 i hi hd)
 have fY:=λst=>ZmQ coL st 700 (λk hk=>by simp[coL];omega) hs 700 (W0f _)
 have fin:=λt C=>tT.fin (ok:=coL) (λk hk=>by simp[coL];omega) t C
 have l1:=λC k (hk:k<700)=>tT.lk C hk
 have p1:=λC k y (hk:k<700)=>tT.put C y hk
 obtain ⟨IR,hIR⟩:=Qex (r.map isa);obtain ⟨NL,hNL⟩:=Qex (l.map na);have pIR:(IR.all λr=>r.all AV.pure)=true:=(by rw[hIR];simp[isa,AV.pure]);have pNL:(NL.all λr=>r.all AV.pure)=true:=(by rw[hNL];simp[na,AV.pure]);rw[<- hIR,<- hNL]at ho cK cc ⊢;have kIR:=AV.pure_keys (.vsl IR) (by simpa [AV.pure] using pIR);have kNL:=AV.pure_keys (.vsl NL) (by simpa [AV.pure] using pNL);have rIR:=λρ=>AV.ren_pure (ρ:=ρ) (.vsl IR) (by simpa [AV.pure] using pIR)
 have rNL:=λρ=>AV.ren_pure (ρ:=ρ) (.vsl NL) (by simpa [AV.pure] using pNL)
 have pP:((ps.map ptA).all λr=>r.all AV.pure)=true:=(by simp[ptA,AV.pure]);have pQ:(((putP ps x (plP ps x)).map ptA).all λr=>r.all AV.pure)=true:=(by simp[ptA,AV.pure]);have rPs:=λρ=>AObj.ren_pure (ρ:=ρ) (sz:=7) pP
 have rQs:=λρ=>AObj.ren_pure (ρ:=ρ) (sz:=7) pQ
 have kPs:=λo=>Zl1 o ps
 have fQ:∀ ok st,frzO ok st (.row 7 ((putP ps x (plP ps x)).map ptA)) = .row 7 ((putP ps x (plP ps x)).map ptA):=λok st=>by
  simp only[frzO,W10]
  congr 2
  funext p;simp[ptA,frzA,frz,AV.keys]
 have hXl:(ps.map ptA).length=ps.length:=(by simp);have hYl:((putP ps x (plP ps x)).map ptA).length=ps.length+1:=by simp[hQl]
 have sQ:∀ (t:List (Nat×AV)) (C:List (Nat×AObj)),lk C 621=some (.row 7 ((putP ps x (plP ps x)).map ptA))->Yh okAll ⟨t,drF 700 hs++C⟩ 5 (.osl 621 (ps.length+1))=some (.vsl ((putP ps x (plP ps x)).map ptA)):=λt C h=>by
  have:=ZnC (st:=⟨t,drF 700 hs++C⟩) (n:=4) (k:=621) (by simp only[St.get];rw[tT.lk C (by omega)];exact h) pQ;rw[hYl]at this;exact this
 have hps:E = .vsl (ps.map ptA)∨(E = .nes/\ps.length=0):=hps.imp (λh=>h.1) λh=>⟨h.1,by rw[h.2];rfl⟩
 generalize ps.map ptA=X at *;generalize (putP ps x (plP ps x)).map ptA=Y at *;have h30i:¬((ps.length:Int)=30):=(by omega);rcases hps with rfl | ⟨rfl,hz⟩
 all_goals
  refine Z5j coL (by intro k hk;simp[coL]at hk;omega) Tryz.func8 rfl (by kernel_rfl) (rc:=Z5M) (by kernel_rfl) (rs:=Z5N) (by kernel_rfl) (W0C rfl) λR _ hG' hrd=>Qga ?_
  subst hG';simp -implicitDefEqProofs[Z5M,Z5N,hpx];refine Qco (ho) ?_;simp -implicitDefEqProofs[h30i,hXl];refine Yd.sem (Z1B.fam cc tT (by simp[AV.ren,rIR,rNL]) (by simp[rPs,rY]) (by simp[lk]) (by simp) (by simp) (by simp[AV.pure,pO])) ?_;simp -implicitDefEqProofs[l1,p1];refine Yd.flat cb (by simp[AV.flat]) (by simp[Yj,snap,Yh,okAll,St.get,lk,l1,hXl,pP,AV.pure]) ?_;simp -implicitDefEqProofs[l1,p1];refine Yd.sem (Z1B.byref ci (λ_=>621) (by simp) (by simp) (by simp[St.get,lk,l1,rPs]) (by simp only[W0g,W0Q,or_false,forall_eq];exact kPs _) (by simp[Ya,AV.keys,lk,ptA]) rfl (by simp[AV.ren,ptA]) rfl rfl) ?_;simp -implicitDefEqProofs[Yl,rQs,AV.ren,l1,p1];refine Yd.flat cK (by simp[AV.flat]) (ZnD pIR pNL (sY _ _ (by simp[lk])) (sQ _ _ (by simp[lk]))) ?_;simp -implicitDefEqProofs[l1,p1];simp -implicitDefEqProofs[FinO,l1,fin,coLT,coL72,Zn4,fQ,fY,frzA,frz,AV.keys,kIR,kNL]
def PB.congr {P:Program} {f:FuncId} {objs o1 o2:List (Nat×AObj)} {args:List AV} {v:AV} (h:PB P G f objs args v o1) (hg:∀ k,lk o2 k=lk o1 k):PB P G f objs args v o2:=by
 refine ⟨h.1,λR W κ vs h1 h2 h3 h4 h5 h6 h7 h8=>(h.2 R W κ vs h1 h2 h3 h4 h5 h6 h7 h8).mono ?_⟩;rintro e W' ⟨u,κ',g1,g2,g3⟩;have hg':∀ k,(obSt o2).get k=(obSt o1).get k:=hg;exact ⟨u,κ',g1,g2.congr (λ_=>rfl) hg',by rw[St.env_congr hg'];exact g3⟩
def ZnF {α:Type} {T:List (Nat×α)} {a b k:Nat} {x y:α} (h:a≠b):lk (T++[(a,x),(b,y)]) k=lk (T++[(b,y),(a,x)]) k:=by
 cases e:lk T k with
 |some z=>rw[Zmz e,Zmz e]
 | none =>
   rw[Zmy e,Zmy e];simp only[lk];by_cases c:a=k
   . subst c;rw[if_pos rfl,if_neg (λq=>h q.symm),if_pos rfl]
   . rw[if_neg c,if_neg c]
def ZnG (x:Prt):PB prog G 32 [] [.nils,.int .i64 0,.vsl [ptA x]] (.osl 25 1) [(25,.row 7 [ptA x])]:=by
 have hpx:ptA x=[.int .i64 x.no,.int .i64 x.dy,.int .i64 x.ho,.int .i64 x.dw,.int .i64 x.lt,.int .i64 x.bk,.int .u8 x.lo]:=rfl;refine Z5j (λk=>decide (k<1000) && !(k == 25)) (by intro k hk;simp at hk;omega) Tryz.func32 rfl (by kernel_rfl) (rc:=Zn9) (by kernel_rfl) (rs:=Zna) (by kernel_rfl) (W0C rfl) λR _ hG hrd=>Qga ?_
 subst hG;simp -implicitDefEqProofs[Zn9,Zna,hpx];simp -implicitDefEqProofs[FinO,Yi,frzO,frzA,frz,AV.keys]
def ZnH (hG:GC G) (hN:GN G) (hP:GP G) (r:Jr) (l:Jl) (hs:Jh) (x:Prt) (hl:WfN l) (hr:Wf r) (hne:r≠[]) (h80:r.length<=80) (hd:Sml (nums r)) (hw:WfP hs []) (hx:POk x) (hE:snE r l hs [] x=0) :
  PB prog G 8 [] [.agg [.vsl (r.map isa),.vsl (l.map na),.vsl (hs.map hoa),.nils],.agg (ptA x)] (.tup [.agg [.vsl (r.map isa),.vsl (l.map na),hlV 72 hs,.osl 621 1],.int .i64 0]) (drF 700 hs++((621,.row 7 [ptA x])::hrO 72 700 hs)):=by
 have ho:=Zns hG hN hP r l hs .nils (.inl rfl) hl hr hd hw;have hpx:ptA x=[.int .i64 x.no,.int .i64 x.dy,.int .i64 x.ho,.int .i64 x.dw,.int .i64 x.lt,.int .i64 x.bk,.int .u8 x.lo]:=rfl;have pO:=Zm9 r l hs .nils (by simp[AV.pure]);have kO:=AV.pure_keys _ pO;have e1:putP [] x (plP [] x)=[x]:=rfl;have h30:¬([]:Jp).length=30:=(by decide);unfold snE at hE
 have h0:ck7 r l hs []=0:=by
  by_cases c:ck7 r l hs []=0
  . exact c
  . rw[if_neg c]at hE;exact hE
 rw[if_pos h0,if_neg h30,e1]at hE
 have hk:ck7 r l hs [x]=0:=by
  by_cases c:ck7 r l hs [x]=0
  . exact c
  . rw[if_neg c]at hE;simp at hE
 rw[if_pos h0,h0]at ho;have eQ:prA r l hs [x] = .agg [.vsl (r.map isa),.vsl (l.map na),.vsl (hs.map hoa),.vsl [ptA x]]:=rfl;have cK:=Zj4 hG hN hP r l hs [x] hl hr hd (Znv hw hx);rw[hk,eQ]at cK;have hhs:=Znw hk;have hhl:=hw.hl;have cc:=Zn7 (G:=G) r l hs .nils (.inl rfl) ZlV hr hl.1 hw hne h80;have cb:=PC.sub (ZlO (G:=G) 30 x [] (by unfold Sml;simp) List.Pairwise.nil (λz h=>by cases h)) (xs:=[.nils,.int .i64 x.no,.func (.func 30) [] []]) ⟨.nils,.rfl',.rfl',trivial⟩;have e0:plP [] x=0:=rfl;rw[e0]at cb;have ci:=ZnG (G:=G) x;obtain ⟨cs,hO⟩ : ∃ cs,ofE r l hs .nils = .vptr cs 0:=⟨_,rfl⟩;have hV72:hlV 72 hs = .osl 72 hs.length:=(by simp[hlV,hhs]);have hO72:hrO 72 700 hs=[(72,.row 4 (hoW 700 hs))]:=(by simp[hrO,hhs]);rw[hV72,hO72]at cc ⊢;rw[hO]at ho pO kO cc;have tT:=ZmM (l:=hs) (by omega) 700 (by omega) (by omega);have rY:=ZmR hs 700;have sY:∀ (t:List (Nat×AV)) (C:List (Nat×AObj)),lk C 72=some (.row 4 (hoW 700 hs))->Yh okAll ⟨t,drF 700 hs++C⟩ 5 (.osl 72 hs.length)=some (.vsl (hs.map hoa)):=λt C h=>ZnB (n:=3) (by simp only[St.get];rw[tT.lk C (by omega)];exact h) λi hi hd=>Zmz (ZmN hs 700 i hi hd)
 have fY:=λst=>ZmQ coL st 700 (λk hk=>by simp[coL];omega) hs 700 (W0f _)
 have fin:=λt C=>tT.fin (ok:=coL) (λk hk=>by simp[coL];omega) t C
 have l1:=λC k (hk:k<700)=>tT.lk C hk
 have p1:=λC k y (hk:k<700)=>tT.put C y hk
 obtain ⟨IR,hIR⟩:=Qex (r.map isa);obtain ⟨NL,hNL⟩:=Qex (l.map na);have pIR:(IR.all λr=>r.all AV.pure)=true:=(by rw[hIR];simp[isa,AV.pure]);have pNL:(NL.all λr=>r.all AV.pure)=true:=(by rw[hNL];simp[na,AV.pure]);rw[<- hIR,<- hNL]at ho cK cc ⊢;have kIR:=AV.pure_keys (.vsl IR) (by simpa [AV.pure] using pIR);have kNL:=AV.pure_keys (.vsl NL) (by simpa [AV.pure] using pNL);have rIR:=λρ=>AV.ren_pure (ρ:=ρ) (.vsl IR) (by simpa [AV.pure] using pIR)
 have rNL:=λρ=>AV.ren_pure (ρ:=ρ) (.vsl NL) (by simpa [AV.pure] using pNL)
 have pQ:([ptA x].all λr=>r.all AV.pure)=true:=(by simp[ptA,AV.pure]);have rQs:=λρ=>AObj.ren_pure (ρ:=ρ) (sz:=7) pQ
 have fQ:∀ ok st,frzO ok st (.row 7 [ptA x]) = .row 7 [ptA x]:=λok st=>by simp[frzO,ptA,frzA,frz,AV.keys]
 have sQ:∀ (t:List (Nat×AV)) (C:List (Nat×AObj)),lk C 621=some (.row 7 [ptA x])->Yh okAll ⟨t,drF 700 hs++C⟩ 5 (.osl 621 1)=some (.vsl [ptA x]):=λt C h=>ZnC (st:=⟨t,drF 700 hs++C⟩) (n:=4) (k:=621) (by simp only[St.get];rw[tT.lk C (by omega)];exact h) pQ
 rw[hpx]at cK ci pQ rQs fQ sQ ⊢;refine PB.congr (o1:=drF 700 hs++[(72,.row 4 (hoW 700 hs)),(621,.row 7 [[.int .i64 x.no,.int .i64 x.dy,.int .i64 x.ho,.int .i64 x.dw,.int .i64 x.lt,.int .i64 x.bk,.int .u8 x.lo]])]) ?_ λk=>ZnF (by decide)
 refine Z5j coL (by intro k hk;simp[coL]at hk;omega) Tryz.func8 rfl (by kernel_rfl) (rc:=Z5M) (by kernel_rfl) (rs:=Z5N) (by kernel_rfl) (W0C rfl) λR _ hG' hrd=>Qga ?_
 subst hG';simp -implicitDefEqProofs[Z5M,Z5N];refine Qco (ho) ?_;simp -implicitDefEqProofs;refine Yd.sem (Z1B.fam cc tT (by simp[AV.ren,rIR,rNL]) (by simp[rY]) (by simp[lk]) (by simp) (by simp) (by simp[AV.pure,pO])) ?_;simp -implicitDefEqProofs[l1,p1];refine Yd.of cb (by simp[AV.pure]) ?_;simp -implicitDefEqProofs[l1,p1];refine Yd.sem (Z1B.objs ci (λk=>k+596) (by simp) (by simp[St.get,lk,l1]) (by simp[AV.pure]) rfl rfl) ?_;simp -implicitDefEqProofs[Yl,rQs,AV.ren,l1,p1];refine Yd.flat cK (by simp[AV.flat]) (ZnD pIR pNL (sY _ _ (by simp[lk])) (sQ _ _ (by simp[lk]))) ?_;simp -implicitDefEqProofs[l1,p1];simp -implicitDefEqProofs[FinO,l1,fin,coLT,coL72,Zn4,fQ,fY,frzA,frz,AV.keys,kIR,kNL]
def ZnI (hG:GC G) (hN:GN G) (hP:GP G) (r:Jr) (l:Jl) (hs:Jh) (ps:Jp) (x:Prt) (hl:WfN l) (hr:Wf r) (hne:r≠[]) (h80:r.length<=80) (hd:Sml (nums r)) (hw:WfP hs ps) (hx:POk x) (hE:snE r l hs ps x=0) :
  PB prog G 8 [] [prA r l hs ps,.agg (ptA x)] (.tup [.agg [.vsl (r.map isa),.vsl (l.map na),hlV 72 hs,.osl 621 (ps.length+1)],.int .i64 0]) (drF 700 hs++((621,.row 7 ((putP ps x (plP ps x)).map ptA))::hrO 72 700 hs)):=by
 by_cases h:ps=[]
 . subst h;exact PB.emp (by simp[AV.pure,isa,na,hoa]) (ZnH hG hN hP r l hs x hl hr hne h80 hd hw hx hE) (ZnE hG hN hP r l hs [] x hl hr hne h80 hd hw hx .nes (.inr ⟨rfl,rfl⟩) hE)
 . exact ZnE hG hN hP r l hs ps x hl hr hne h80 hd hw hx (.vsl (ps.map ptA)) (.inl ⟨rfl,h⟩) hE
def mpK {α:Type} (f:α->α) (k:Nat) (l:List α):List α:=(l.take k).map f++l.drop k
section
variable {α:Type} {f:α->α} {l:List α} {k:Nat}
def ZnJ:mpK f 0 l=l:=by simp[mpK]
def ZnK:mpK f l.length l=l.map f:=by simp[mpK]
def ZnL:(mpK f k l).length=l.length:=by simp[mpK];omega
def ZnM (h:k<l.length):(mpK f k l)[k]? = some l[k]/\(mpK f k l).set k (f l[k])=mpK f (k+1) l:=by
 have e1:l.take (k+1)=l.take k++[l[k]]:=W08 h;have e2:l.drop k=l[k]::l.drop (k+1):=W0x h;have l1:((l.take k).map f).length=k:=(by simp;omega);unfold mpK;rw[e1,e2,W0r];generalize (l.take k).map f=a at *;generalize l.drop (k+1)=b at *;generalize l[k]=y at *;subst l1;exact ⟨by simp,by simp[List.set_append]⟩
end
def lk_ne {α:Type} {l:List (Nat×α)} {n k:Nat} {x:α} (h:¬n=k):lk ((n,x)::l) k=lk l k:=by simp only[lk,if_neg h]
def bp (n:Int):Int:=i64.wrap (n+5)
def bpP (x:Prt):Prt:={ x with no:=bp x.no }
def bpH (h:Hld):Hld:={ h with ds:=h.ds.map bp }
def ZnN:∀ (l:Jh) (b i:Nat) (h:i<l.length) (ds:List Int),l[i].ds≠[]->ds≠[]->putO (drF b l) (b+i) (.row 1 (ds.map ia))=drF b (l.set i { l[i] with ds:=ds })
 |[],_,_,h,_,_,_=>by simp at h
 | x::l,b,0,_,ds,h1,h2=>by
   have h1:¬x.ds=[]:=h1;simp[drF,drO,h1,h2,putO]
 | x::l,b,i+1,h,ds,h1,h2=>by
   have ih:=ZnN l (b+1) i (by simpa using h) ds h1 h2;rw[show b+1+i=b+(i+1) by omega]at ih;simp only[drF,List.set_cons_succ,List.getElem_cons_succ];rw[ZmA,ih];unfold drO
   split
   . rfl
   . simp only[lk];rw[if_neg (by omega)]
def bumpA:RCode :=
 (.seq
 (.reg 12 false [{ d:=some 102,op:=.faddr 3 (.t 24) },
  { d:=some 103,op:=.load false 1 (.t 102) },
  { d:=some 104,op:=.len (.t 103) },
  { d:=some 105,op:=.mov (.c (.int .i64 0)) }])
 (.block 2
 (.loop
 (.seq
 (.reg 13 false [{ d:=some 106,op:=.bin .lss (.t 105) (.t 104) }])
 (.seq (.cond (.t 106) (.skip) (.exit 2))
 (.seq
 (.block 3
 (.seq
 (.reg 14 false [{ d:=some 107,op:=.mov (.t 105) },
  { d:=some 25,op:=.mov (.t 107) }])
 (.reg 15 false [{ d:=some 108,op:=.faddr 3 (.t 24) },
  { d:=some 109,op:=.load false 1 (.t 108) },
  { d:=some 110,op:=.mov (.t 25) },
  { d:=some 111,op:=.iaddr 7 (.t 109) (.t 110) },
  { d:=some 112,op:=.faddr 0 (.t 111) },
  { d:=some 113,op:=.load false 1 (.t 112) },
  { d:=some 114,op:=.bin .add (.t 113) (.c (.int .i64 5)) },
  { d:=some 115,op:=.iaddr 7 (.t 109) (.t 110) },
  { d:=some 116,op:=.faddr 0 (.t 115) },
  { d:=none,op:=.store 1 (.t 116) (.t 114) }])))
 (.reg 16 false [{ d:=some 117,op:=.bin .add (.t 105) (.c (.int .i64 1)) },
  { d:=some 105,op:=.mov (.t 117) }])))))))
def bumpB:RCode :=
 (.seq
 (.reg 17 false [{ d:=some 118,op:=.faddr 2 (.t 24) },
  { d:=some 119,op:=.load false 1 (.t 118) },
  { d:=some 120,op:=.len (.t 119) },
  { d:=some 121,op:=.mov (.c (.int .i64 0)) }])
 (.block 4
 (.loop
 (.seq
 (.reg 18 false [{ d:=some 122,op:=.bin .lss (.t 121) (.t 120) }])
 (.seq (.cond (.t 122) (.skip) (.exit 4))
 (.seq
 (.block 5
 (.seq
 (.reg 19 false [{ d:=some 123,op:=.mov (.t 121) },
  { d:=some 26,op:=.mov (.t 123) }])
 (.seq
 (.reg 20 false [{ d:=some 124,op:=.faddr 2 (.t 24) },
  { d:=some 125,op:=.load false 1 (.t 124) },
  { d:=some 126,op:=.mov (.t 26) },
  { d:=some 127,op:=.iaddr 4 (.t 125) (.t 126) },
  { d:=some 128,op:=.faddr 3 (.t 127) },
  { d:=some 129,op:=.load false 1 (.t 128) },
  { d:=some 130,op:=.len (.t 129) },
  { d:=some 131,op:=.mov (.c (.int .i64 0)) }])
 (.block 6
 (.loop
 (.seq
 (.reg 21 false [{ d:=some 132,op:=.bin .lss (.t 131) (.t 130) }])
 (.seq (.cond (.t 132) (.skip) (.exit 6))
 (.seq
 (.block 7
 (.seq
 (.reg 22 false [{ d:=some 133,op:=.mov (.t 131) },
  { d:=some 27,op:=.mov (.t 133) }])
 (.reg 23 false [{ d:=some 134,op:=.faddr 2 (.t 24) },
  { d:=some 135,op:=.load false 1 (.t 134) },
  { d:=some 136,op:=.mov (.t 26) },
  { d:=some 137,op:=.iaddr 4 (.t 135) (.t 136) },
  { d:=some 138,op:=.faddr 3 (.t 137) },
  { d:=some 139,op:=.load false 1 (.t 138) },
  { d:=some 140,op:=.mov (.t 27) },
  { d:=some 141,op:=.iaddr 1 (.t 139) (.t 140) },
  { d:=some 142,op:=.load false 1 (.t 141) },
  { d:=some 143,op:=.bin .add (.t 142) (.c (.int .i64 5)) },
  { d:=some 144,op:=.iaddr 1 (.t 139) (.t 140) },
  { d:=none,op:=.store 1 (.t 144) (.t 143) }])))
 (.reg 24 false [{ d:=some 145,op:=.bin .add (.t 131) (.c (.int .i64 1)) },
  { d:=some 131,op:=.mov (.t 145) }])))))))))
 (.reg 25 false [{ d:=some 146,op:=.bin .add (.t 121) (.c (.int .i64 1)) },
  { d:=some 121,op:=.mov (.t 146) }])))))))
section
variable {R:Run}
def ZnO {T C:List (Nat×AObj)} (hT:Tl T) {t0:List (Nat×AV)} {X Y H:AV} {k:Nat} (hk:k<700) (h24:¬24=k) (ps:Jp) (hl:ps.length<=60)
  (ht:∀ p∈t0,lk t0 p.1=some p.2/\p.1<102/\p.1≠24/\p.1≠25) :
  AR prog R bumpA ⟨(24,.ptr 24 0)::t0,T++((24,.box [X,Y,H,.osl k ps.length])::(k,.row 7 (ps.map ptA))::C)⟩
   λe s=>e = .normal/\Ym s ⟨(24,.ptr 24 0)::t0,T++((24,.box [X,Y,H,.osl k ps.length])::(k,.row 7 ((ps.map bpP).map ptA))::C)⟩:=by
 have l1:=λC k (hk:k<700)=>hT.lk C hk
 have p1:=λC k y (hk:k<700)=>hT.put C y hk
 have h42:¬k=24:=λe=>h24 e.symm
 obtain ⟨Q,hQ⟩:=Qex ((ps.map bpP).map ptA);rw[<- hQ];refine Qga ?_;simp -implicitDefEqProofs[bumpA,l1,p1,hk,h24,h42];refine Z9H (λi=>⟨(105,.int .i64 i)::(104,.int .i64 ps.length)::(24,.ptr 24 0)::t0,T++((24,.box [X,Y,H,.osl k ps.length])::(k,.row 7 ((mpK bpP i ps).map ptA))::C)⟩) (λ_=>True) ps.length ?_ trivial ?_ ?_
 . rw[ZnJ];refine Ym.tm λp hp=>?_
   simp only[W0g]at hp;rcases hp with rfl|rfl|rfl|hp
   iterate 3 (simp[lk])
   obtain ⟨h1,h2,h3,h4⟩:=ht p hp
   repeat rw[lk_ne (by omega)]
   exact h1
 . intro i hi _;obtain ⟨y,hy⟩:=Qex (ps[i]);obtain ⟨g1,g2⟩:=ZnM (f:=bpP) hi;rw[<- hy]at g1 g2;have wi:i64.wrap ((i:Int)+1)=(i:Int)+1:=Yf;have hpy:ptA y=[.int .i64 y.no,.int .i64 y.dy,.int .i64 y.ho,.int .i64 y.dw,.int .i64 y.lt,.int .i64 y.bk,.int .u8 y.lo]:=rfl;have hX:((mpK bpP i ps).map ptA).length=ps.length:=(by rw[W0N,ZnL]);have s1:((mpK bpP i ps).map ptA)[i]? = some (ptA y):=(by rw[W09,g1];rfl);have s2:((mpK bpP i ps).map ptA).set i [.int .i64 (i64.wrap (y.no+5)),.int .i64 y.dy,.int .i64 y.ho,.int .i64 y.dw,.int .i64 y.lt,.int .i64 y.bk,.int .u8 y.lo]=(mpK bpP (i+1) ps).map ptA:=(by rw[<- g2,W2q];rfl);rw[hpy]at s1;refine Qga ?_;generalize (mpK bpP i ps).map ptA=Z at *;obtain ⟨q1,s1⟩:=W02.1 s1;simp -implicitDefEqProofs[l1,p1,hk,h24,h42,hi,hX,s1,wi];rw[s2];refine Ym.tm λp hp=>?_
   simp only[W0g]at hp;rcases hp with rfl|rfl|rfl|hp
   iterate 3 (simp[lk])
   obtain ⟨h1,h2,h3,h4⟩:=ht p hp
   repeat rw[lk_ne (by omega)]
   exact h1
 . intro _;rw[ZnK,<- hQ];refine Qga ?_;simp -implicitDefEqProofs[l1,p1,hk,h24,h42];refine Qgr ?_;simp -implicitDefEqProofs;refine Ym.tm λp hp=>?_
   simp only[W0g]at hp;rcases hp with rfl|hp
   . simp[lk]
   obtain ⟨h1,h2,h3,h4⟩:=ht p hp
   repeat rw[lk_ne (by omega)]
   exact h1
def ZnP {T C:List (Nat×AObj)} (hT:Tl T) {t0:List (Nat×AV)} {X Y H E:AV} (hE:E = .nils∨E = .vsl [])
  (ht:∀ p∈t0,lk t0 p.1=some p.2/\p.1<102/\p.1≠24/\p.1≠25) :
  AR prog R bumpA ⟨(24,.ptr 24 0)::t0,T++((24,.box [X,Y,H,E])::C)⟩
   λe s=>e = .normal/\Ym s ⟨(24,.ptr 24 0)::t0,T++((24,.box [X,Y,H,E])::C)⟩:=by
 have l1:=λC k (hk:k<700)=>hT.lk C hk
 rcases hE with eE|eE
 all_goals
  refine Qga ?_;simp -implicitDefEqProofs[bumpA,l1,eE];refine Z9H (λi=>⟨(105,.int .i64 i)::(104,.int .i64 0)::(24,.ptr 24 0)::t0,T++((24,.box [X,Y,H,E])::C)⟩) (λ_=>True) 0 ?_ trivial (λi hi=>absurd hi (by omega)) ?_
  . rw[eE];refine Ym.tm λp hp=>?_
    simp only[W0g]at hp;rcases hp with rfl|rfl|rfl|hp
    iterate 3 (simp[lk])
    obtain ⟨h1,h2,h3,h4⟩:=ht p hp
    repeat rw[lk_ne (by omega)]
    exact h1
  . intro _;refine Qga ?_;simp -implicitDefEqProofs[l1,eE];refine Qgr ?_;simp -implicitDefEqProofs;refine Ym.tm λp hp=>?_
    simp only[W0g]at hp;rcases hp with rfl|hp
    . simp[lk]
    obtain ⟨h1,h2,h3,h4⟩:=ht p hp
    repeat rw[lk_ne (by omega)]
    exact h1
def ZnQ {T C:List (Nat×AObj)} (hT:Tl T) {t0:List (Nat×AV)} {X Y E:AV}
  (ht:∀ p∈t0,lk t0 p.1=some p.2/\p.1<102/\p.1≠24/\p.1≠25) :
  AR prog R bumpB ⟨(24,.ptr 24 0)::t0,T++((24,.box [X,Y,.nils,E])::C)⟩
   λe s=>e = .normal/\Ym s ⟨(24,.ptr 24 0)::t0,T++((24,.box [X,Y,.nils,E])::C)⟩:=by
 have l1:=λC k (hk:k<700)=>hT.lk C hk
 refine Qga ?_;simp -implicitDefEqProofs[bumpB,l1];refine Z9H (λi=>⟨(121,.int .i64 i)::(120,.int .i64 0)::(24,.ptr 24 0)::t0,T++((24,.box [X,Y,.nils,E])::C)⟩) (λ_=>True) 0 ?_ trivial (λi hi=>absurd hi (by omega)) ?_
 . refine Ym.tm λp hp=>?_
   simp only[W0g]at hp;rcases hp with rfl|rfl|rfl|hp
   iterate 3 (simp[lk])
   obtain ⟨h1,h2,h3,h4⟩:=ht p hp
   repeat rw[lk_ne (by omega)]
   exact h1
 . intro _;refine Qga ?_;simp -implicitDefEqProofs[l1];refine Qgr ?_;simp -implicitDefEqProofs;refine Ym.tm λp hp=>?_
   simp only[W0g]at hp;rcases hp with rfl|hp
   . simp[lk]
   obtain ⟨h1,h2,h3,h4⟩:=ht p hp
   repeat rw[lk_ne (by omega)]
   exact h1
def ZnR {Ta Tb C:List (Nat×AObj)} {b k:Nat} (hb:700<=b) (hs:Jh) (hT:∀ L:List Hld,L.length=hs.length->Tl (Ta++(drF b L++Tb))) (hTa:∀ i,i<100->lk Ta (b+i)=none) {t0:List (Nat×AV)} {X Y E:AV}
  (hk:k<700) (h24:¬24=k) (hl:hs.length<=60) (hdl:∀ h∈hs,h.ds.length<=60) (ht:∀ p∈t0,lk t0 p.1=some p.2/\p.1<102/\p.1≠24/\p.1≠26/\p.1≠27) :
  AR prog R bumpB ⟨(24,.ptr 24 0)::t0,(Ta++(drF b hs++Tb))++((24,.box [X,Y,.osl k hs.length,E])::(k,.row 4 (hoW b hs))::C)⟩
   λe s=>e = .normal/\Ym s ⟨(24,.ptr 24 0)::t0,(Ta++(drF b (hs.map bpH)++Tb))++((24,.box [X,Y,.osl k hs.length,E])::(k,.row 4 (hoW b hs))::C)⟩:=by
 have h42:¬k=24:=λe=>h24 e.symm
 have hW:=λi (h:i<hs.length)=>ZmH hs b i h
 have hWl:=ZmG hs b;obtain ⟨TT,hTT⟩ : ∃ TT:List Hld->List (Nat×AObj),TT=λL=>Ta++(drF b L++Tb):=⟨_,rfl⟩
 have eT:∀ L,Ta++(drF b L++Tb)=TT L:=λL=>by rw[hTT]
 have tT:∀ L:List Hld,L.length=hs.length->Tl (TT L):=λL h=>by rw[<- eT];exact hT L h
 have lT:∀ (L:Jh) (i:Nat) (hi:i<L.length) (_:i<100) (_:L[i].ds≠[]) C',lk (TT L++C') (b+i)=some (.row 1 (L[i].ds.map ia)):=λL i hi h1 h2 C'=>by
  rw[<- eT];exact Zmz ((Zmy (hTa i h1)).trans (Zmz (ZmN L b i hi h2)))
 have pT:∀ (L:Jh) (i:Nat) (hi:i<L.length) (_:i<100) (_:L[i].ds≠[]) (ds:List Int) (_:ds≠[]) C',putO (TT L++C') (b+i) (.row 1 (ds.map ia))=TT (L.set i { L[i] with ds:=ds })++C':=λL i hi h1 h2 ds h3 C'=>by
  rw[<- eT,<- eT,ZmB ((Zmy (hTa i h1)).trans (Zmz (ZmN L b i hi h2))),ZmA (hTa i h1),ZmB (ZmN L b i hi h2),ZnN L b i hi ds h2 h3]
 rw[eT,eT];have l0:=λC k (hk:k<700)=>(tT hs rfl).lk C hk
 generalize hoW b hs=W at *;refine Qga ?_;simp -implicitDefEqProofs[bumpB,l0,hk,h24,h42,hWl];refine Z9H (λi=>⟨(121,.int .i64 i)::(120,.int .i64 hs.length)::(24,.ptr 24 0)::t0,TT (mpK bpH i hs)++((24,.box [X,Y,.osl k hs.length,E])::(k,.row 4 W)::C)⟩) (λ_=>True) hs.length ?_ trivial ?_ ?_
 . rw[ZnJ];refine Ym.tm λp hp=>?_
   simp only[W0g]at hp;rcases hp with rfl|rfl|rfl|hp
   iterate 3 (simp[lk])
   obtain ⟨h1,h2,h3,h4⟩:=ht p hp
   repeat rw[lk_ne (by omega)]
   exact h1
 . intro i hi _;obtain ⟨h,hh⟩:=Qex (hs[i]);have hdi:=hdl h (by rw[hh];exact W0e hi);obtain ⟨g1,g2⟩:=ZnM (f:=bpH) hi;rw[<- hh]at g1 g2;have gl:(mpK bpH i hs).length=hs.length:=ZnL;have wi:i64.wrap ((i:Int)+1)=(i:Int)+1:=Yf;have hWi:=hW i hi;rw[<- hh]at hWi;obtain ⟨q1,hWi⟩:=W02.1 hWi;obtain ⟨q2,g1⟩:=W02.1 g1;have l1:=λC k (hk:k<700)=>(tT (mpK bpH i hs) gl).lk C hk
   obtain ⟨L,hL⟩:=Qex (mpK bpH i hs);rw[<- hL]at l1 gl g2;refine Qga ?_;by_cases d0:h.ds=[]
   . have hJ:hoJ (b+i) h=[.int .i64 h.id,.int .i64 h.fr,.int .i64 h.to,.vsl []]:=(by simp[hoJ,drW,d0]);rw[hJ]at hWi;simp -implicitDefEqProofs[<- hL,l1,hk,h24,h42,hWl,hi,hWi];refine Z9H (λj=>⟨(131,.int .i64 j)::(130,.int .i64 0)::(121,.int .i64 i)::(120,.int .i64 hs.length)::(24,.ptr 24 0)::t0,TT L++((24,.box [X,Y,.osl k hs.length,E])::(k,.row 4 W)::C)⟩) (λ_=>True) 0 ?_ trivial (λj hj=>absurd hj (by omega)) ?_
     . refine Ym.tm λp hp=>?_
       simp only[W0g]at hp;rcases hp with rfl|rfl|rfl|rfl|rfl|hp
       iterate 5 (simp[lk])
       obtain ⟨h1,h2,h3,h4,h5⟩:=ht p hp
       repeat rw[lk_ne (by omega)]
       exact h1
     . intro _;refine Qga ?_;simp -implicitDefEqProofs;refine Qgr ?_;simp -implicitDefEqProofs[wi]
       have eL:mpK bpH (i+1) hs=L:=by
        rw[<- g2];have e1:bpH h=h:=(by cases h;simp only at d0;subst d0;rfl);have e2:L[i]'(by omega)=h:=(by simp only[hL];exact g1);rw[e1,<- e2,List.set_getElem_self]
       rw[eL];refine Ym.tm λp hp=>?_
       simp only[W0g]at hp;rcases hp with rfl|rfl|rfl|hp
       iterate 3 (simp[lk])
       obtain ⟨h1,h2,h3,h4,h5⟩:=ht p hp
       repeat rw[lk_ne (by omega)]
       exact h1
   . have hJ:hoJ (b+i) h=[.int .i64 h.id,.int .i64 h.fr,.int .i64 h.to,.osl (b+i) h.ds.length]:=(by simp[hoJ,drW,d0]);rw[hJ]at hWi;have e2:L[i]'(by omega)=h:=(by simp only[hL];exact g1);have m0:0<h.ds.length:=List.length_pos_iff.2 d0;obtain ⟨KK,hKK⟩ : ∃ KK:Nat->List Hld,KK=λj=>L.set i { h with ds:=mpK bp j h.ds }:=⟨_,rfl⟩
     have k0:KK 0=L:=by
      rw[hKK];simp only[ZnJ];have e3:({ h with ds:=h.ds }:Hld)=L[i]'(by omega):=e2.symm;rw[e3,List.set_getElem_self]
     have kn:KK h.ds.length=mpK bpH (i+1) hs:=by
      rw[hKK];simp only[ZnK];exact g2
     have kl:∀ j,(KK j).length=hs.length:=λj=>by rw[hKK];simp[gl]
     have ka:∀ j,(KK j)[i]'(by rw[kl];exact hi)={ h with ds:=mpK bp j h.ds }:=λj=>by simp[hKK]
     have mne:∀ j,mpK bp j h.ds≠[]:=λj e=>d0 (W0l.1 (by rw[<- ZnL (f:=bp) (k:=j),e];rfl))
     have l3:=λj C k (hk:k<700)=>(tT (KK j) (kl j)).lk C hk
     have lTj:∀ j C',lk (TT (KK j)++C') (b+i)=some (.row 1 ((mpK bp j h.ds).map ia)):=λj C'=>by
      have:=lT (KK j) i (by rw[kl];exact hi) (by omega) (by rw[ka];exact mne j) C';rw[ka]at this;exact this
     have pTj:∀ j C',putO (TT (KK j)++C') (b+i) (.row 1 ((mpK bp (j+1) h.ds).map ia))=TT (KK (j+1))++C':=λj C'=>by
      have:=pT (KK j) i (by rw[kl];exact hi) (by omega) (by rw[ka];exact mne j) (mpK bp (j+1) h.ds) (mne (j+1)) C';rw[this,ka]
      congr 2
      rw[hKK];simp
     have lL:=lTj 0;have lmz:(mpK bp 0 h.ds).length=h.ds.length:=ZnL;rw[k0]at lL;simp -implicitDefEqProofs[<- hL,l1,hk,h24,h42,hWl,hi,hWi,lL,lmz];refine Z9H (λj=>⟨(131,.int .i64 j)::(130,.int .i64 h.ds.length)::(26,.int .i64 i)::(121,.int .i64 i)::(120,.int .i64 hs.length)::(24,.ptr 24 0)::t0,TT (KK j)++((24,.box [X,Y,.osl k hs.length,E])::(k,.row 4 W)::C)⟩) (λ_=>True) h.ds.length ?_ trivial ?_ ?_
     . rw[k0];refine Ym.tm λp hp=>?_
       simp only[W0g]at hp;rcases hp with rfl|rfl|rfl|rfl|rfl|rfl|hp
       iterate 6 (simp[lk])
       obtain ⟨h1,h2,h3,h4,h5⟩:=ht p hp
       repeat rw[lk_ne (by omega)]
       exact h1
     . intro j hj _;obtain ⟨y,hy⟩:=Qex (h.ds[j]);obtain ⟨s1,s2⟩:=ZnM (f:=bp) hj;rw[<- hy]at s1 s2;have wj:i64.wrap ((j:Int)+1)=(j:Int)+1:=Yf;have l3:=l3 j;have lTj:=lTj j;have pTj:=pTj j;have z1:((mpK bp j h.ds).map ia)[j]? = some [.int .i64 y]:=(by rw[W09,s1];rfl);have z2:((mpK bp j h.ds).map ia).set j [.int .i64 (i64.wrap (y+5))]=(mpK bp (j+1) h.ds).map ia:=(by rw[<- s2,W2q];rfl);have z3:((mpK bp j h.ds).map ia).length=h.ds.length:=(by rw[W0N,ZnL]);rw[<- z2]at pTj;refine Qga ?_;generalize (mpK bp j h.ds).map ia=Z at *;obtain ⟨q3,z1⟩:=W02.1 z1;simp -implicitDefEqProofs[l3,lTj,pTj,hk,h24,h42,hWl,hi,hWi,hj,z1,z3,wj];refine Ym.tm λp hp=>?_
       simp only[W0g]at hp;rcases hp with rfl|rfl|rfl|rfl|rfl|rfl|hp
       iterate 6 (simp[lk])
       obtain ⟨h1,h2,h3,h4,h5⟩:=ht p hp
       repeat rw[lk_ne (by omega)]
       exact h1
     . intro _;rw[kn];have l4:=l3 h.ds.length;rw[kn]at l4;refine Qga ?_;simp -implicitDefEqProofs[l4,hk,h24,h42];refine Qgr ?_;simp -implicitDefEqProofs[wi];refine Ym.tm λp hp=>?_
       simp only[W0g]at hp;rcases hp with rfl|rfl|rfl|hp
       iterate 3 (simp[lk])
       obtain ⟨h1,h2,h3,h4,h5⟩:=ht p hp
       repeat rw[lk_ne (by omega)]
       exact h1
 . intro _;rw[ZnK];have l2:=λC k (hk:k<700)=>(tT (hs.map bpH) (by simp)).lk C hk
   refine Qga ?_;simp -implicitDefEqProofs[l2,hk,h24,h42];refine Qgr ?_;simp -implicitDefEqProofs;refine Ym.tm λp hp=>?_
   simp only[W0g]at hp;rcases hp with rfl|hp
   . simp[lk]
   obtain ⟨h1,h2,h3,h4⟩:=ht p hp
   repeat rw[lk_ne (by omega)]
   exact h1
end
def twNK:Nat->Bool:=λk=>decide (k<1000) && !(k == 9)
def tw9S (B:List AV) (I N:AV) (hs:Jh) (ps:Jp) (i:Nat):St :=
 ⟨[(4,.int .i64 i),(3,.ptr 3 0),(2,.ptr 2 0),(1,.ptr 1 0)],[(1,.box B),(2,.box [.nils,.nils,.nils,.nils]),(3,.box [I,N,hlV 35 (hs.take i),.osl 9 ps.length]),(9,.row 7 (ps.map ptA))]++hlO 35 (hs.take i)⟩
def tw0S (B:List AV) (I N:AV) (hs:Jh) (i:Nat):St :=
 ⟨[(4,.int .i64 i),(3,.ptr 3 0),(2,.ptr 2 0),(1,.ptr 1 0)],[(1,.box B),(2,.box [.nils,.nils,.nils,.nils]),(3,.box [I,N,hlV 35 (hs.take i),.osl 9 0]),(9,.row 7 [])]++hlO 35 (hs.take i)⟩
def ZnS (r:Jr) (l:Jl) (hs:Jh) (ps:Jp) (hr:SmlR r) (hl:Sml l) (hw:WfP hs ps) (p0:ps≠[]):PB prog G 5 [] [prA r l hs ps] (.agg [.vsl (r.map isa),.vsl (l.map na),Yg (hs.map hoa),.osl 9 ps.length]) [(9,.row 7 (ps.map ptA))]:=by
 have c1:=Zgm (G:=G) r l hr hl;have hhl:=hw.hl;have hpl:=hw.pl;have hdl:=hw.dl;have b2:ps.length*56<=70368744177664:=(by omega);have pr:((r.map isa).all λr=>r.all AV.pure)=true:=(by simp[isa,AV.pure]);have pN:((l.map na).all λr=>r.all AV.pure)=true:=by simp[na,AV.pure]
 have fP:∀ ok st,frzO ok st (.row 7 (ps.map ptA)) = .row 7 (ps.map ptA):=λok st=>by
  simp only[frzO,W10]
  congr 2
  funext p;simp[ptA,frzA,frz,AV.keys]
 obtain ⟨B,hB⟩ : ∃ B:List AV,B=[.vsl (r.map isa),.vsl (l.map na),.vsl (hs.map hoa),.vsl (ps.map ptA)]:=⟨_,rfl⟩;unfold prA;rw[<- hB];refine Z5j twNK (by intro k hk;simp[twNK]at hk;omega) Tryz.func5 rfl (by kernel_rfl) (rc:=Zki) (by kernel_rfl) (rs:=Zkj) (by kernel_rfl) (W0C rfl) λR _ hG hrd=>?_
 subst hG;refine Qga ?_;simp -implicitDefEqProofs[Zki,Zkj,hB];refine Qco (c1) ?_;simp -implicitDefEqProofs[p0,b2,ptA];refine ⟨rfl,?_⟩;rw[<- hB];refine Z9H (tw9S B (.vsl (r.map isa)) (.vsl (l.map na)) hs ps) (λ_=>True) hs.length ?_ trivial ?_ ?_
 . simp only[tw9S,hlV,hlO,W1g,if_true,hB,W1G]
   ((try simp only[p0,ptA]);refine Ym.sub (by simp[lk,Ya,AV.keys,p0,ptA]) ?_;simp only[p0,ptA,Wkl,Zl1,and_true];(try simp[lk,Yc,Ya,AV.keys,p0,ptA]))
 . intro i hi _;have hdi:=hdl _ (W0e hi);obtain ⟨h,hhe⟩:=Qex (hs[i]);rw[<- hhe]at hdi;have hlx:hs[i]=h:=hhe.symm;have hho:hoa h=[.int .i64 h.id,.int .i64 h.fr,.int .i64 h.to,.vsl (h.ds.map ia)]:=rfl;have wi:i64.wrap ((i:Int)+1)=(i:Int)+1:=Yf;have tk:hs.take (i+1)=hs.take i++[h]:=(by rw[W08 hi,hlx]);have tl:(hs.take i).length=i:=(by simp;omega);have bb:(i+1)*48<=70368744177664:=(by omega);have b3:h.ds.length*8<=70368744177664:=(by omega);obtain ⟨H,hH⟩:=Qex (hs.take i);rw[<- hH]at tk tl;have em:(H++[h]).map hoa=H.map hoa++[hoa h]:=(by simp);have hne:¬H++[h]=[]:=(by simp);have hV2:hlV 35 (H++[h]) = .osl 35 (i+1):=(by unfold hlV;rw[if_neg hne];simp[tl]);have hO2:hlO 35 (H++[h])=[(35,.row 4 (H.map hoa++[hoa h]))]:=by unfold hlO;rw[if_neg hne,em]
   have pH:∀ ok st,(H.map hoa).map (λr=>r.map (frzA ok st))=H.map hoa:=λok st=>by
    rw[W10]
    congr 1
    funext x;simp[hoa,frzA,frz,AV.keys]
   have pP:∀ ok st,(ps.map ptA).map (λr=>r.map (frzA ok st))=ps.map ptA:=λok st=>by
    rw[W10]
    congr 1
    funext x;simp[ptA,frzA,frz,AV.keys]
   refine Yb mixed 15 ?_;by_cases cH:H=[]
   case' pos =>
    have hV:hlV 35 H = .nils:=(by simp[hlV,cH]);have hQ:hlO 35 H=[]:=by simp[hlO,cH]
   case' neg =>
    have hV:hlV 35 H = .osl 35 i:=(by simp[hlV,cH,tl]);have hQ:hlO 35 H=[(35,.row 4 (H.map hoa))]:=by simp[hlO,cH]
   all_goals
    by_cases d0:h.ds=[]
    case' pos=>simp -implicitDefEqProofs[tw9S,<- hH,hV,hQ,hB,hi,hlx,hho,d0,wi,bb,tl]
    case' neg=>simp -implicitDefEqProofs[tw9S,<- hH,hV,hQ,hB,hi,hlx,hho,d0,ia,wi,bb,b3,tl]
    all_goals
     refine GO0 (Z2R (st':=⟨[(5,.ptr 5 0),(4,.int .i64 i),(3,.ptr 3 0),(2,.ptr 2 0),(1,.ptr 1 0)],[(1,.box [.vsl (r.map isa),.vsl (l.map na),.vsl (hs.map hoa),.vsl (ps.map ptA)]),(2,.box [.nils,.nils,.nils,.nils]),(3,.box [.vsl (r.map isa),.vsl (l.map na),hlV 35 H,.osl 9 ps.length]),(9,.row 7 (ps.map ptA)),(5,.box [.int .i64 h.id,.int .i64 h.fr,.int .i64 h.to,.vsl (h.ds.map ia)])]++hlO 35 H⟩) (Ym.trans (Ym.frz (λk=>k == 26) _) ?_) ?_)
     . simp only[hV,hQ]
       ((try simp only[Yi,frzA,fP,frzO,frz,Yh,Yj,St.get,pH,pP,d0,AV.pure,ia]);refine Ym.sub (by simp[lk,Ya,AV.keys,Yi,frzA,fP,frzO,frz,Yh,Yj,St.get,pH,pP,d0,AV.pure,ia]) ?_;simp only[Yi,frzA,fP,frzO,frz,Yh,Yj,St.get,pH,pP,d0,AV.pure,ia,Wkl,Zl0,Zl1,and_true];(try simp[lk,Yc,Ya,AV.keys,Yi,frzA,fP,frzO,frz,Yh,Yj,St.get,pH,pP,d0,AV.pure,ia]))
       all_goals (try exact p0)
     . refine Qga ?_;simp -implicitDefEqProofs[hV,hQ,wi,bb,tl];refine Qgr ?_;simp -implicitDefEqProofs[wi];simp only[tw9S,tk,hV2,hO2,hB,hho];rw[<- hho,<- em]
       ((try simp only[hho,p0]);refine Ym.sub (by simp[lk,Ya,AV.keys,hho,p0]) ?_;simp only[hho,p0,Wkl,Zl0,Zl1,and_true];(try simp[lk,Yc,Ya,AV.keys,hho,p0]))
       all_goals exact ⟨by rw[<- tl,cH];rfl,cH⟩
 . intro _;have tl:hs.take hs.length=hs:=W0v;refine Qga ?_;by_cases cH:hs=[]
   . have hV:hlV 35 hs = .nils:=(by simp[hlV,cH]);have hQ:hlO 35 hs=[]:=(by simp[hlO,cH]);simp -implicitDefEqProofs[tw9S,tl,hV,hQ,hB];refine Qgr ?_;simp -implicitDefEqProofs;simp -implicitDefEqProofs[FinO,Yi,twNK,fP,frzA,frz,AV.keys,pr,pN,Yg,cH]
   . have hV:hlV 35 hs = .osl 35 hs.length:=(by simp[hlV,cH]);have hQ:hlO 35 hs=[(35,.row 4 (hs.map hoa))]:=(by simp[hlO,cH]);simp -implicitDefEqProofs[tw9S,tl,hV,hQ,hB];refine Qgr ?_;simp -implicitDefEqProofs;simp -implicitDefEqProofs[FinO,Yi,twNK,fP,frzA,frz,AV.keys,pr,pN,Yg,cH,hoa,AV.pure]
def ZnT (r:Jr) (l:Jl) (hs:Jh) (hr:SmlR r) (hl:Sml l) (hw:WfP hs []):PB prog G 5 [] [prA r l hs []] (.agg [.vsl (r.map isa),.vsl (l.map na),Yg (hs.map hoa),.osl 9 0]) [(9,.row 7 [])]:=by
 have c1:=Zgm (G:=G) r l hr hl;have hhl:=hw.hl;have hdl:=hw.dl;have pr:((r.map isa).all λr=>r.all AV.pure)=true:=(by simp[isa,AV.pure]);have pN:((l.map na).all λr=>r.all AV.pure)=true:=(by simp[na,AV.pure]);obtain ⟨B,hB⟩ : ∃ B:List AV,B=[.vsl (r.map isa),.vsl (l.map na),.vsl (hs.map hoa),.vsl []]:=⟨_,rfl⟩;unfold prA;rw[show ([]:Jp).map ptA=[] from rfl];rw[<- hB];refine Z5j twNK (by intro k hk;simp[twNK]at hk;omega) Tryz.func5 rfl (by kernel_rfl) (rc:=Zki) (by kernel_rfl) (rs:=Zkj) (by kernel_rfl) (W0C rfl) λR _ hG hrd=>?_
 subst hG;refine Qga ?_;simp -implicitDefEqProofs[Zki,Zkj,hB];refine Qco (c1) ?_;simp -implicitDefEqProofs;refine ⟨rfl,?_⟩;rw[<- hB];refine Z9H (tw0S B (.vsl (r.map isa)) (.vsl (l.map na)) hs) (λ_=>True) hs.length ?_ trivial ?_ ?_
 . simp only[tw0S,hlV,hlO,W1g,if_true,hB,W1G]
   (refine Wkc ?_;simp only[Wkl,and_true];(try simp[lk,Yc,Ya,AV.keys]))
 . intro i hi _;have hdi:=hdl _ (W0e hi);obtain ⟨h,hhe⟩:=Qex (hs[i]);rw[<- hhe]at hdi;have hlx:hs[i]=h:=hhe.symm;have hho:hoa h=[.int .i64 h.id,.int .i64 h.fr,.int .i64 h.to,.vsl (h.ds.map ia)]:=rfl;have wi:i64.wrap ((i:Int)+1)=(i:Int)+1:=Yf;have tk:hs.take (i+1)=hs.take i++[h]:=(by rw[W08 hi,hlx]);have tl:(hs.take i).length=i:=(by simp;omega);have bb:(i+1)*48<=70368744177664:=(by omega);have b3:h.ds.length*8<=70368744177664:=(by omega);obtain ⟨H,hH⟩:=Qex (hs.take i);rw[<- hH]at tk tl;have em:(H++[h]).map hoa=H.map hoa++[hoa h]:=(by simp);have hne:¬H++[h]=[]:=(by simp);have hV2:hlV 35 (H++[h]) = .osl 35 (i+1):=(by unfold hlV;rw[if_neg hne];simp[tl]);have hO2:hlO 35 (H++[h])=[(35,.row 4 (H.map hoa++[hoa h]))]:=by unfold hlO;rw[if_neg hne,em]
   have pH:∀ ok st,(H.map hoa).map (λr=>r.map (frzA ok st))=H.map hoa:=λok st=>by
    rw[W10]
    congr 1
    funext x;simp[hoa,frzA,frz,AV.keys]
   refine Yb mixed 15 ?_;by_cases cH:H=[]
   case' pos =>
    have hV:hlV 35 H = .nils:=(by simp[hlV,cH]);have hQ:hlO 35 H=[]:=by simp[hlO,cH]
   case' neg =>
    have hV:hlV 35 H = .osl 35 i:=(by simp[hlV,cH,tl]);have hQ:hlO 35 H=[(35,.row 4 (H.map hoa))]:=by simp[hlO,cH]
   all_goals
    by_cases d0:h.ds=[]
    case' pos=>simp -implicitDefEqProofs[tw0S,<- hH,hV,hQ,hB,hi,hlx,hho,d0,wi,bb,tl]
    case' neg=>simp -implicitDefEqProofs[tw0S,<- hH,hV,hQ,hB,hi,hlx,hho,d0,ia,wi,bb,b3,tl]
    all_goals
     refine GO0 (Z2R (st':=⟨[(5,.ptr 5 0),(4,.int .i64 i),(3,.ptr 3 0),(2,.ptr 2 0),(1,.ptr 1 0)],[(1,.box [.vsl (r.map isa),.vsl (l.map na),.vsl (hs.map hoa),.vsl []]),(2,.box [.nils,.nils,.nils,.nils]),(3,.box [.vsl (r.map isa),.vsl (l.map na),hlV 35 H,.osl 9 0]),(9,.row 7 []),(5,.box [.int .i64 h.id,.int .i64 h.fr,.int .i64 h.to,.vsl (h.ds.map ia)])]++hlO 35 H⟩) (Ym.trans (Ym.frz (λk=>k == 26) _) ?_) ?_)
     . simp only[hV,hQ]
       ((try simp only[Yi,frzA,frzO,frz,Yh,Yj,St.get,pH,d0,AV.pure,ia]);refine Ym.sub (by simp[lk,Ya,AV.keys,Yi,frzA,frzO,frz,Yh,Yj,St.get,pH,d0,AV.pure,ia]) ?_;simp only[Yi,frzA,frzO,frz,Yh,Yj,St.get,pH,d0,AV.pure,ia,Wkl,Zl0,and_true];(try simp[lk,Yc,Ya,AV.keys,Yi,frzA,frzO,frz,Yh,Yj,St.get,pH,d0,AV.pure,ia]))
     . refine Qga ?_;simp -implicitDefEqProofs[hV,hQ,wi,bb,tl];refine Qgr ?_;simp -implicitDefEqProofs[wi];simp only[tw0S,tk,hV2,hO2,hB,hho];rw[<- hho,<- em]
       ((try simp only[hho]);refine Ym.sub (by simp[lk,Ya,AV.keys,hho]) ?_;simp only[hho,Wkl,Zl0,and_true];(try simp[lk,Yc,Ya,AV.keys,hho]))
       all_goals exact ⟨by rw[<- tl,cH];rfl,cH⟩
 . intro _;have tl:hs.take hs.length=hs:=W0v;refine Qga ?_;by_cases cH:hs=[]
   . have hV:hlV 35 hs = .nils:=(by simp[hlV,cH]);have hQ:hlO 35 hs=[]:=(by simp[hlO,cH]);simp -implicitDefEqProofs[tw0S,tl,hV,hQ,hB];refine Qgr ?_;simp -implicitDefEqProofs;simp -implicitDefEqProofs[FinO,Yi,frzO,twNK,frzA,frz,AV.keys,pr,pN,Yg,cH]
   . have hV:hlV 35 hs = .osl 35 hs.length:=(by simp[hlV,cH]);have hQ:hlO 35 hs=[(35,.row 4 (hs.map hoa))]:=(by simp[hlO,cH]);simp -implicitDefEqProofs[tw0S,tl,hV,hQ,hB];refine Qgr ?_;simp -implicitDefEqProofs;simp -implicitDefEqProofs[FinO,Yi,frzO,twNK,frzA,frz,AV.keys,pr,pN,Yg,cH,hoa,AV.pure]
def ZnU {l:Jl} {hs:Jh} {day:Int} {ps:Jp} {i:Nat} (h:i<(siK l hs day ps ps.length).length):∃ (k:Nat) (hk:k<ps.length),(siK l hs day ps ps.length)[i]=k/\∃ h2:i<(staL l hs ps day).length,(staL l hs ps day)[i]=ps[k]:=by
 obtain ⟨k,hk,e⟩:=Zlp (W0e h);have h2:i<(staL l hs ps day).length:=(by rw[<- Zlq,W0N];exact h);refine ⟨k,hk,e,h2,?_⟩;have h3:(staL l hs ps day)[i]? = some (pAt ps ((siK l hs day ps ps.length)[i]).toNat):=(by rw[<- Zlq,W09,W07 h];rfl);rw[W07 h2,W00]at h3;rw[h3,e];exact Zid hk
def cq3 (IR NL HL PL:List (List AV)) (I:List Int) (ps S:Jp) (A B:List Int) (day:Int) (i:Nat):St :=
 ⟨[(15,.int .i64 i),(14,.vsl (I.map ia)),(13,.ptr 13 0),(8,.ptr 8 0),(4,.ptr 4 0),(3,.vsl (B.map ia)),(2,.vsl (A.map ia)),(1,.int .i64 day)],[(13,.box [.vsl IR,.vsl NL,.vsl HL,.osl 621 ps.length]),(621,.row 7 ((rowC ps (S.take i) A B day).map ptA)),(4,.box [.vsl IR,.vsl NL,.vsl HL,.vsl PL]),(8,.box [.nils,.nils,.nils,.nils])]⟩
def ZnV (r:Jr) (l:Jl) (hs:Jh) (ps:Jp) (day:Int) (A B:List Int) (hl:WfN l) (hr:Wf r) (hne:r≠[]) (hd:Sml (nums r)) (hw:WfP hs ps) (hA:Sml A) (hB:Sml B) :
  PC prog G 7 [prA r l hs ps,.int .i64 day,.vsl (A.map ia),.vsl (B.map ia)] (clA r l hs ps day A B):=by
 have ha:=Zku (G:=G) r l hs ps day 1 hl hr hd hw;unfold clA clE;have hhl:=hw.hl;have hpl:=hw.pl;by_cases h0:as7 r l hs ps day 1=0
 case neg =>
  simp only[if_neg h0];unfold prA at *
  (refine Zn0 rfl λR hG hrd=>Qga ?_;subst hG)
  simp -implicitDefEqProofs[ZmY,ZmZ];refine Qco (ha) ?_;simp -implicitDefEqProofs[h0]
 have k0:=(Zkv h0).1;have cS:=Zls (G:=G) r l hs ps day hl hr hd hw k0;have cS:=PC.out cS (Nsub.orNil _);have cI:=λid=>Zko (G:=G) r l hs ps id (by unfold Sml;omega)
 have cN:=Za3 (G:=G) r hr.1.1 hne;have cD:=λd=>Zkn (G:=G) (nums r) d hd
 have cA:=λd=>Zkn (G:=G) A d hA
 have cB:=λd=>Zkn (G:=G) B d hB
 rw[rega]at cN;simp only[if_pos h0];rw[h0]at ha;unfold Sml at hA hB;obtain ⟨V,hV⟩:=Qex (AV.tup [if (if ((A.all λid=>decide (0<=hoI hs id))&&B.all λd=>decide (d∈nums r))=true then (0:Int) else 6)=0 then prA r l hs (ps.map (calP l hs day A B)) else .agg [.nils,.nils,.nils,.nils],.int .i64 (if ((A.all λid=>decide (0<=hoI hs id))&&B.all λd=>decide (d∈nums r))=true then 0 else 6)]);rw[<- hV];have eP:prA r l hs ps = .agg [.vsl (r.map isa),.vsl (l.map na),.vsl (hs.map hoa),.vsl (ps.map ptA)]:=rfl;rw[eP]at ha cS ⊢;simp only[eP]at cI;obtain ⟨IR,hIR⟩:=Qex (r.map isa);obtain ⟨NL,hNL⟩:=Qex (l.map na);have pIR:(IR.all λr=>r.all AV.pure)=true:=(by rw[hIR];simp[isa,AV.pure]);have pNL:(NL.all λr=>r.all AV.pure)=true:=(by rw[hNL];simp[na,AV.pure]);have kIR:=AV.pure_keys (.vsl IR) (by simpa [AV.pure] using pIR);have kNL:=AV.pure_keys (.vsl NL) (by simpa [AV.pure] using pNL);have kHL:(AV.vsl (hs.map hoa)).keys=[]:=AV.pure_keys _ (by simp[hoa,AV.pure,ia]);have pC:∀ x∈[AV.vsl IR,.vsl NL,.vsl (hs.map hoa),.vsl (ps.map ptA)],x.pure=true:=by simp[AV.pure,hoa,ptA,ia,pIR,pNL]
 (refine Zn0 rfl λR hG hrd=>Qga ?_;subst hG)
 simp -implicitDefEqProofs[ZmY,ZmZ];refine Qco (ha) ?_;obtain ⟨C,hC⟩:=Qex ([AV.vsl (r.map isa),.vsl (l.map na),.vsl (hs.map hoa),.vsl (ps.map ptA)]);have kC:∀ o,Yc o (.box C)=true:=λo=>by rw[hC];simp[Yc,Ya,AV.keys]
 simp -implicitDefEqProofs;refine Z9H (λi=>⟨[(11,.int .i64 i),(8,.ptr 8 0),(4,.ptr 4 0),(3,.vsl (B.map ia)),(2,.vsl (A.map ia)),(1,.int .i64 day)],[(4,.box C),(8,.box [.nils,.nils,.nils,.nils])]⟩) (λi=>∀ id∈A.take i,0<=hoI hs id) A.length ?_ (by simp) ?_ ?_
 . rw[hC]
   (refine Wkc ?_;simp only[Wkl,and_true];(try simp[lk,Yc,Ya,AV.keys]))
 . intro i hi he;obtain ⟨id,hid⟩:=Qex (A[i]);have hlx:A[i]=id:=hid.symm;have cI:=cI id;have tk:A.take (i+1)=A.take i++[id]:=(by rw[W08 hi,hlx]);have wi:i64.wrap ((i:Int)+1)=(i:Int)+1:=Yf;refine Qga ?_;by_cases hc:0<=hoI hs id
   . have hc2:¬hoI hs id<0:=(by omega);simp -implicitDefEqProofs[hC,hi,hlx,ia];refine Qco (cI) ?_;simp -implicitDefEqProofs[hc2,wi];refine ⟨rfl,?_,λx hx=>?_⟩
     . (refine Wkc ?_;simp only[Wkl,and_true];(try simp[lk,Yc,Ya,AV.keys]))
     . rw[tk]at hx;rcases W0h.1 hx with q|q
       . exact he x q
       . rw[W0B.1 q];exact hc
   . have hV2:V = .tup [.agg [.nils,.nils,.nils,.nils],.int .i64 6]:=by
      have:(A.all λid=>decide (0<=hoI hs id))=false:=by
       rw[List.all_eq_false];exact ⟨id,by rw[hid];exact W0e hi,by simpa using hc⟩
      rw[hV,this];rfl
     have hc2:hoI hs id<0:=(by omega);simp -implicitDefEqProofs[hC,hi,hlx,ia];refine Qco (cI) ?_;simp -implicitDefEqProofs[hc2];refine ⟨rfl,?_⟩;refine Qgr ?_;simp -implicitDefEqProofs[hV2]
 . intro he;rw[W0v]at he;have hA':(A.all λid=>decide (0<=hoI hs id))=true:=W03.2 λx hx=>by simpa using he x hx
   rw[hA',W1k]at hV;refine Qga ?_;simp -implicitDefEqProofs;refine Qgr ?_;simp -implicitDefEqProofs;refine Z9H (λi=>⟨[(12,.int .i64 i),(8,.ptr 8 0),(4,.ptr 4 0),(3,.vsl (B.map ia)),(2,.vsl (A.map ia)),(1,.int .i64 day)],[(4,.box C),(8,.box [.nils,.nils,.nils,.nils])]⟩) (λi=>∀ d∈B.take i,d∈nums r) B.length ?_ (by simp) ?_ ?_
   . (refine Wkc ?_;simp only[kC,Wkl,and_true];(try simp[lk,Yc,Ya,AV.keys]))
   . intro i hi he2;obtain ⟨d,hid⟩:=Qex (B[i]);have hlx:B[i]=d:=hid.symm;have cD:=cD d;have tk:B.take (i+1)=B.take i++[d]:=(by rw[W08 hi,hlx]);have wi:i64.wrap ((i:Int)+1)=(i:Int)+1:=Yf;refine Qga ?_;by_cases hc:d∈nums r
     . simp -implicitDefEqProofs[hC,hi,hlx,ia];refine Qco (cN) ?_;simp -implicitDefEqProofs[hi,hlx,ia];refine Qco (cD) ?_;simp -implicitDefEqProofs[hc,wi];refine ⟨rfl,?_,λx hx=>?_⟩
       . (refine Wkc ?_;simp only[Wkl,and_true];(try simp[lk,Yc,Ya,AV.keys]))
       . rw[tk]at hx;rcases W0h.1 hx with q|q
         . exact he2 x q
         . rw[W0B.1 q];exact hc
     . have hV2:V = .tup [.agg [.nils,.nils,.nils,.nils],.int .i64 6]:=by
        have:(B.all λd=>decide (d∈nums r))=false:=by
         rw[List.all_eq_false];exact ⟨d,by rw[hid];exact W0e hi,by simpa using hc⟩
        rw[hV,this];rfl
       simp -implicitDefEqProofs[hC,hi,hlx,ia];refine Qco (cN) ?_;simp -implicitDefEqProofs[hi,hlx,ia];refine Qco (cD) ?_;simp -implicitDefEqProofs[hc];refine ⟨rfl,?_⟩;refine Qgr ?_;simp -implicitDefEqProofs[hV2]
   . intro he2;rw[W0v]at he2;have hB':(B.all λd=>decide (d∈nums r))=true:=W03.2 λx hx=>by simpa using he2 x hx
     rw[hB']at hV;simp only[if_true]at hV;refine Qga ?_;simp -implicitDefEqProofs[hC];refine Qgr ?_;simp -implicitDefEqProofs;have cSa:=cS;by_cases hps:ps=[]
     . have cT:=Zl5 (G:=R.G) r l hs ps hr.1 hl.1 hw;rw[eP]at cT;subst hps;have cSa:PC prog R.G 27 [.agg [.vsl (r.map isa),.vsl (l.map na),.vsl (hs.map hoa),.vsl []],.int .i64 day] (.vsl []):=cSa;have hV3:V = .tup [.agg [.vsl (r.map isa),.vsl (l.map na),.vsl (hs.map hoa),.vsl []],.int .i64 0]:=(by rw[hV];rfl);refine Yd.of cT (by simp[AV.pure,isa,na,hoa]) ?_;simp -implicitDefEqProofs;refine Yd.of cSa (by simp[AV.pure,isa,na,hoa]) ?_;simp -implicitDefEqProofs;refine Z9H (λi=>⟨[(15,.int .i64 i),(14,.vsl []),(13,.ptr 13 0),(8,.ptr 8 0)],[(13,.box [.vsl (r.map isa),.vsl (l.map na),.vsl (hs.map hoa),.vsl []]),(8,.box [.nils,.nils,.nils,.nils])]⟩) (λ_=>True) 0 ?_ trivial (λi hi=>absurd hi (by omega)) ?_
       . (refine Wkc ?_;simp only[Wkl,and_true];(try simp[lk,Yc,Ya,AV.keys]))
       . intro _;refine Qga ?_;simp -implicitDefEqProofs;refine Qgr ?_;simp -implicitDefEqProofs[hV3,isa,na,hoa,AV.pure]
     . have cT:=ZnS (G:=R.G) r l hs ps hr.1 hl.1 hw hps;rw[eP]at cT
       have hhs:hs≠[]:=λe=>by
        cases ps with
        |nil=>exact hps rfl
        | cons x t =>
          have:=(Zlr k0 (W0H ..)).1;rw[e]at this;exact absurd this (by simp[hoI,fstOf])
       have eh:Yg (hs.map hoa) = .vsl (hs.map hoa):=(by unfold Yg;rw[if_neg (by simpa using hhs)]);rw[eh]at cT;refine Yd.sem (Z1B.objs cT (λk=>k+612) (by simp) (by simp[St.get,lk]) (by simp[AV.pure,isa,na,hoa,ptA]) rfl rfl) ?_;simp -implicitDefEqProofs[Yl,ZlD,AV.ren];refine Yd.of cSa (by simp[AV.pure,isa,na,hoa,ptA]) ?_;simp -implicitDefEqProofs;have hV3:V = .tup [.agg [.vsl (r.map isa),.vsl (l.map na),.vsl (hs.map hoa),.vsl ((ps.map (calP l hs day A B)).map ptA)],.int .i64 0]:=(by rw[hV];rfl);have hsub:∀ y∈staL l hs ps day,y∈ps:=λy hy=>(W0G.1 hy).1
       have hrp:riP ps:=(Zif.1 (Zj1.1 k0).2).2.2.1;have hSn:(staL l hs ps day).Nodup:=(Zmv hrp).filter _;have hat:=λi (h:i<(siK l hs day ps ps.length).length)=>ZnU h
       have hle:=Zlo (l:=l) (hs:=hs) (day:=day) (ps:=ps) (i:=ps.length);have hSl:(staL l hs ps day).length=(siK l hs day ps ps.length).length:=(by rw[<- Zlq,W0N]);have rall:=Zmu (ps:=ps) (A:=A) (B:=B) (day:=day) (l:=l) (hs:=hs);generalize staL l hs ps day=S at *;generalize siK l hs day ps ps.length=I at *;obtain ⟨IR,hIR⟩:=Qex (r.map isa);obtain ⟨NL,hNL⟩:=Qex (l.map na);obtain ⟨HL,hHL⟩:=Qex (hs.map hoa);have pIR:(IR.all λr=>r.all AV.pure)=true:=(by rw[hIR];simp[isa,AV.pure]);have pNL:(NL.all λr=>r.all AV.pure)=true:=(by rw[hNL];simp[na,AV.pure]);have pHL:(HL.all λr=>r.all AV.pure)=true:=(by rw[hHL];simp[hoa,ia,AV.pure]);rw[<- hIR,<- hNL,<- hHL]at hV3 ⊢;have kIR:=AV.pure_keys (.vsl IR) (by simpa [AV.pure] using pIR);have kNL:=AV.pure_keys (.vsl NL) (by simpa [AV.pure] using pNL);have kHL:=AV.pure_keys (.vsl HL) (by simpa [AV.pure] using pHL);refine Z9H (cq3 IR NL HL (ps.map ptA) I ps S A B day) (λ_=>True) I.length ?_ trivial ?_ ?_
       . unfold cq3;rw[W1g,Zmp]
         ((try simp only[kIR,kNL,kHL]);refine Ym.sub (by simp[lk,Ya,AV.keys,kIR,kNL,kHL]) ?_;simp only[kIR,kNL,kHL,Wkl,Zl1,and_true];(try simp[lk,Yc,Ya,AV.keys,kIR,kNL,kHL]))
       . intro i hi _;obtain ⟨k,hk,eI,hiS,eS⟩:=hat i hi;obtain ⟨y,hy⟩:=Qex (ps[k]);have hlx:ps[k]=y:=hy.symm;rw[hlx]at eS;have hyp:y∈ps:=(by rw[hy];exact W0e hk);have tk:S.take (i+1)=S.take i++[y]:=by rw[W08 hiS,eS]
         have hyn:y ∉ S.take i:=λh=>by
          obtain ⟨j,hj,e⟩:=W0k h;rw[W1V]at e;have hji:j<i:=(by simp at hj;omega);have:=(List.getElem_inj hSn).1 (e.trans eS.symm);omega
         have wi:i64.wrap ((i:Int)+1)=((i+1:Nat):Int):=Yf;have hpy:ptA y=[.int .i64 y.no,.int .i64 y.dy,.int .i64 y.ho,.int .i64 y.dw,.int .i64 y.lt,.int .i64 y.bk,.int .u8 y.lo]:=rfl;have cA:=cA y.ho;have cB:=cB y.dw;have hw1:∀ X,(rowC ps (S.take i) A B day).map ptA=X->cq3 IR NL HL (ps.map ptA) I ps S A B day i=⟨[(15,.int .i64 i),(14,.vsl (I.map ia)),(13,.ptr 13 0),(8,.ptr 8 0),(4,.ptr 4 0),(3,.vsl (B.map ia)),(2,.vsl (A.map ia)),(1,.int .i64 day)],[(13,.box [.vsl IR,.vsl NL,.vsl HL,.osl 621 ps.length]),(621,.row 7 X),(4,.box [.vsl IR,.vsl NL,.vsl HL,.vsl (ps.map ptA)]),(8,.box [.nils,.nils,.nils,.nils])]⟩:=λX hX=>by unfold cq3;rw[hX]
         have hw2:∀ X,(rowC ps (S.take (i+1)) A B day).map ptA=X->cq3 IR NL HL (ps.map ptA) I ps S A B day (i+1)=⟨[(15,.int .i64 (i+1:Nat)),(14,.vsl (I.map ia)),(13,.ptr 13 0),(8,.ptr 8 0),(4,.ptr 4 0),(3,.vsl (B.map ia)),(2,.vsl (A.map ia)),(1,.int .i64 day)],[(13,.box [.vsl IR,.vsl NL,.vsl HL,.osl 621 ps.length]),(621,.row 7 X),(4,.box [.vsl IR,.vsl NL,.vsl HL,.vsl (ps.map ptA)]),(8,.box [.nils,.nils,.nils,.nils])]⟩:=λX hX=>by unfold cq3;rw[hX]
         have hset:=λh=>Zmt (S:=S.take i) (A:=A) (B:=B) (day:=day) hrp (y:=y) h hyn hk hlx
         have hXl:((rowC ps (S.take i) A B day).map ptA).length=ps.length:=(by rw[W0N,Zmq]);have hXj:∀ h:rchB A B y=true,((rowC ps (S.take i) A B day).map ptA)[k]'(by rw[hXl];exact hk)=[.int .i64 y.no,.int .i64 y.dy,.int .i64 y.ho,.int .i64 y.dw,.int .i64 y.lt,.int .i64 y.bk,.int .u8 y.lo]:=λh=>by rw[W1w,(hset h).1,hpy]
         have hXs:∀ h:rchB A B y=true,((rowC ps (S.take i) A B day).map ptA).set k [.int .i64 y.no,.int .i64 y.dy,.int .i64 y.ho,.int .i64 y.dw,.int .i64 y.lt,.int .i64 day,.int .u8 0]=(rowC ps (S.take (i+1)) A B day).map ptA:=λh=>by
          rw[tk,<- (hset h).2,W2q];rfl
         obtain ⟨X,hX⟩:=Qex ((rowC ps (S.take i) A B day).map ptA);simp only[<- hX]at hXl hXj hXs;refine Qga ?_;rw[hw1 X hX.symm];simp -implicitDefEqProofs[hi,ia,eI,hk,hlx,hpy];refine ⟨rfl,?_⟩;refine Yd.of cA (by simp[AV.pure,ia]) ?_;by_cases c1:y.ho∈A
         . have hR:rchB A B y=true:=(by unfold rchB;rw[W0w.2 c1];rfl);have hXj:=hXj hR;have hXs:=hXs hR;simp -implicitDefEqProofs[c1,hXl,hk,hXj,hi,ia,eI,wi];refine ⟨rfl,?_⟩;rw[hXs,hw2 _ rfl]
           ((try simp only[kIR,kNL,kHL]);refine Ym.sub (by simp[lk,Ya,AV.keys,kIR,kNL,kHL]) ?_;simp only[kIR,kNL,kHL,Wkl,Zl1,and_true];(try simp[lk,Yc,Ya,AV.keys,kIR,kNL,kHL]))
         . simp -implicitDefEqProofs[c1];refine Yd.of cB (by simp[AV.pure,ia]) ?_;by_cases c2:y.dw∈B
           . have hR:rchB A B y=true:=(by unfold rchB;rw[W0w.2 c2,Bool.or_true]);have hXj:=hXj hR;have hXs:=hXs hR;simp -implicitDefEqProofs[c2,hXl,hk,hXj,hi,ia,eI,wi];refine ⟨rfl,?_⟩;rw[hXs,hw2 _ rfl]
             ((try simp only[kIR,kNL,kHL]);refine Ym.sub (by simp[lk,Ya,AV.keys,kIR,kNL,kHL]) ?_;simp only[kIR,kNL,kHL,Wkl,Zl1,and_true];(try simp[lk,Yc,Ya,AV.keys,kIR,kNL,kHL]))
           . have hR:rchB A B y=false:=(by unfold rchB;rw[W1T];exact ⟨by simpa using c1,by simpa using c2⟩);simp -implicitDefEqProofs[c2,wi];rw[hw2 _ rfl,tk,Zms hR,hX]
             ((try simp only[kIR,kNL,kHL]);refine Ym.sub (by simp[lk,Ya,AV.keys,kIR,kNL,kHL]) ?_;simp only[kIR,kNL,kHL,Wkl,Zl1,and_true];(try simp[lk,Yc,Ya,AV.keys,kIR,kNL,kHL]))
       . intro _;refine Qga ?_;unfold cq3;rw[show S.take I.length=S by rw[<- hSl,W0v],rall];have hQl:(ps.map (calP l hs day A B)).length=ps.length:=(by simp);generalize ps.map (calP l hs day A B)=Q at *;simp -implicitDefEqProofs;refine Qgr ?_;have pP:((Q.map ptA).all λr=>r.all AV.pure)=true:=(by simp[ptA,AV.pure]);simp -implicitDefEqProofs[hV3,pIR,pNL,pHL,pP,hQl]
def ZnW {ps:Jp} {x:Prt} {p:Nat} (h:p<ps.length):(putP ps x (p+1))[p]? = some ps[p]/\(putP ps x (p+1))[p+1]? = some x/\((putP ps x (p+1)).set (p+1) ps[p]).set p x=putP ps x p:=by
 have e1:ps.take (p+1)=ps.take p++[ps[p]]:=W08 h;have e2:ps.drop p=ps[p]::ps.drop (p+1):=W0x h;have l1:(ps.take p).length=p:=(by simp;omega);unfold putP;rw[e1,e2];generalize ps.take p=a at *;generalize ps.drop (p+1)=b at *;generalize ps[p]=y at *;subst l1;refine ⟨by simp,by simp,?_⟩;simp[List.set_append]
def ZnX {r:Jr} {l:Jl} {hs:Jh} {ps qs:Jp} (h:ck7 r l hs ps=0):ck7 r l hs qs=if ptsB r hs qs=true then 0 else 70:=by
 unfold ck7;rw[if_pos (Zj1.1 h).1]
def ZnY {r:Jr} {hs:Jh} {ps:Jp} {x:Prt} (h:riP ps) {p:Nat} (hp:p<=ps.length) (h0:p=0∨∃ q:p-1<ps.length,ps[p-1].no<=x.no) (h1:∀ y∈ps.drop p,x.no<y.no) :
  ptsB r hs (putP ps x p)=ptsB r hs (putP ps x (plP ps x))/\(ptsB r hs (putP ps x p)=true->putP ps x p=putP ps x (plP ps x)):=by
 by_cases hn:∀ y∈ps,y.no≠x.no
 . rw[Zib h hn hp h0 h1];exact ⟨rfl,λ_=>rfl⟩
 . have hn:∃ y,y∈ps/\y.no=x.no:=by
    refine Classical.byContradiction λc=>hn λy hy e=>c ⟨y,hy,e⟩
   obtain ⟨y,hy,e⟩:=hn
   have f:∀ q,ptsB r hs (putP ps x q)=false:=λq=>by
    cases c:ptsB r hs (putP ps x q) with
    |false=>rfl
    |true=>exact absurd (Zif.1 c).2.2.1 (Zi9 hy e)
   rw[f,f];exact ⟨rfl,λh=>by cases h⟩
def snB (r:Jr) (l:Jl) (hs:Jh) (ps:Jp) (x:Prt):AV :=
 .tup [if snE r l hs ps x=0 then .agg [.vsl (r.map isa),.vsl (l.map na),Yg (hs.map hoa),.vsl ((putP ps x (plP ps x)).map ptA)] else .agg [.nils,.nils,.nils,.nils],.int .i64 (snE r l hs ps x)]
def ZnZ (r:Jr) (l:Jl) (hs:Jh) (ps:Jp) (x:Prt):Nsub (snB r l hs ps x) (snA r l hs ps x):=by
 unfold snB snA;by_cases c:snE r l hs ps x=0
 . rw[if_pos c,if_pos c];exact Nsub.tup ⟨.agg ⟨.rfl',.rfl',.orNil _,.rfl',trivial⟩,.rfl',trivial⟩
 . rw[if_neg c,if_neg c];exact .rfl'
def sq3 (IR NL:List (List AV)) (HV:AV) (ps:Jp) (x:Prt) (p:Nat):St :=
 ⟨[(8,.int .i64 p),(7,.ptr 7 0),(4,.ptr 4 0)],[(7,.box [.vsl IR,.vsl NL,HV,.osl 621 (ps.length+1)]),(621,.row 7 ((putP ps x p).map ptA)),(4,.box [.nils,.nils,.nils,.nils])]⟩
def Zo0 (r:Jr) (l:Jl) (hs:Jh) (ps:Jp) (hr:SmlR r) (hl:Sml l) (hw:WfP hs ps):PB prog G 5 [] [prA r l hs ps] (.agg [.vsl (r.map isa),.vsl (l.map na),Yg (hs.map hoa),.osl 9 ps.length]) [(9,.row 7 (ps.map ptA))]:=by
 by_cases h:ps=[]
 . subst h;exact ZnT r l hs hr hl hw
 . exact ZnS r l hs ps hr hl hw h
def Zo1 (r:Jr) (l:Jl) (hs:Jh) (ps:Jp) (x:Prt) (hl:WfN l) (hr:Wf r) (hne:r≠[]) (hd:Sml (nums r)) (hw:WfP hs ps) (hx:POk x) :
  PC prog G 9 [prA r l hs ps,.agg (ptA x)] (snA r l hs ps x):=by
 refine PC.out ?_ (ZnZ r l hs ps x);have ck:=Zkt (G:=G) r l hs ps hl hr hd hw;have hpx:ptA x=[.int .i64 x.no,.int .i64 x.dy,.int .i64 x.ho,.int .i64 x.dw,.int .i64 x.lt,.int .i64 x.bk,.int .u8 x.lo]:=rfl;have eP:prA r l hs ps = .agg [.vsl (r.map isa),.vsl (l.map na),.vsl (hs.map hoa),.vsl (ps.map ptA)]:=rfl;have hpl:=hw.pl;unfold snB snE;by_cases h0:ck7 r l hs ps=0
 case neg =>
  simp only[if_neg h0];rw[eP]at ck ⊢
  (refine Zn3 rfl λR hG hrd=>Qga ?_;subst hG)
  simp -implicitDefEqProofs[Zn1,Zn2,hpx];refine Qco (ck) ?_;simp -implicitDefEqProofs[h0]
 rw[h0]at ck;simp only[if_pos h0];by_cases h30:ps.length=30
 . simp only[if_pos h30];rw[eP]at ck ⊢
   (refine Zn3 rfl λR hG hrd=>Qga ?_;subst hG)
   simp -implicitDefEqProofs[Zn1,Zn2,hpx];refine Qco (ck) ?_;simp -implicitDefEqProofs[h30]
 simp only[if_neg h30];have hrp:riP ps:=(Zif.1 (Zj1.1 h0).2).2.2.1;have hp30:ps.length<=30:=(Zif.1 (Zj1.1 h0).2).2.1;have cT:=Zo0 (G:=G) r l hs ps hr.1 hl.1 hw;have cP:=λp=>Zks (G:=G) r l hs (putP ps x p) hr.1.1 hne hd
 have eK:∀ qs,ck7 r l hs qs=if ptsB r hs qs=true then 0 else 70:=λqs=>ZnX h0
 rw[eP]at ck cT ⊢;have pHV:=Zft (l:=hs.map hoa) (by simp[hoa,ia,AV.pure]);have kHV:=Zfu (hs.map hoa);have cP:=λp (h:WfP hs (putP ps x p))=>PC.sub (cP p h) (xs:=[.agg [.vsl (r.map isa),.vsl (l.map na),Yg (hs.map hoa),.vsl ((putP ps x p).map ptA)]]) ⟨.agg ⟨.rfl',.rfl',.orNil _,.rfl',trivial⟩,trivial⟩
 have hw':∀ p,p<=ps.length->WfP hs (putP ps x p):=λp _=>⟨hw.hl,by rw[Zi8];omega,hw.dl,λy hy=>by
  rcases Zi7.1 hy with rfl|hy
  . exact hx
  . exact hw.po y hy⟩
 obtain ⟨HL,hHL⟩:=Qex (hs.map hoa);obtain ⟨HV,hHV⟩:=Qex (Yg (hs.map hoa));rw[<- hHV]at cT pHV kHV ⊢;simp only[<- hHV]at cP;have pHL:(HL.all λr=>r.all AV.pure)=true:=(by rw[hHL];simp[hoa,ia,AV.pure]);obtain ⟨IR,hIR⟩:=Qex (r.map isa);obtain ⟨NL,hNL⟩:=Qex (l.map na);have pIR:(IR.all λr=>r.all AV.pure)=true:=(by rw[hIR];simp[isa,AV.pure]);have pNL:(NL.all λr=>r.all AV.pure)=true:=(by rw[hNL];simp[na,AV.pure]);rw[<- hIR,<- hNL,<- hHL]at ck cT;rw[<- hIR,<- hNL,<- hHL];simp only[<- hIR,<- hNL]at cP;have rIR:=λρ=>AV.ren_pure (ρ:=ρ) (.vsl IR) (by simpa [AV.pure] using pIR)
 have rNL:=λρ=>AV.ren_pure (ρ:=ρ) (.vsl NL) (by simpa [AV.pure] using pNL)
 have rHV:=λρ=>AV.ren_pure (ρ:=ρ) HV pHV
 have kIR:=AV.pure_keys (.vsl IR) (by simpa [AV.pure] using pIR);have kNL:=AV.pure_keys (.vsl NL) (by simpa [AV.pure] using pNL);have kHL:=AV.pure_keys (.vsl HL) (by simpa [AV.pure] using pHL);have pPL:(AV.agg [.vsl IR,.vsl NL,.vsl HL,.vsl (ps.map ptA)]).pure=true:=(by simp[AV.pure,pIR,pNL,pHL,ptA]);have b1:(ps.length+1)*56<=70368744177664:=(by omega);have h30i:¬((ps.length:Int)=30):=(by omega);have hc:HV = .nils∨HV = .vsl HL:=(by rw[hHV,Yg,hHL];split <;> simp);obtain ⟨V,hV⟩:=Qex (AV.tup [if (if ck7 r l hs (putP ps x (plP ps x))=0 then (0:Int) else 70)=0 then .agg [.vsl IR,.vsl NL,HV,.vsl ((putP ps x (plP ps x)).map ptA)] else .agg [.nils,.nils,.nils,.nils],.int .i64 (if ck7 r l hs (putP ps x (plP ps x))=0 then 0 else 70)]);rw[<- hV]
 have hEnd:∀ p,p<=ps.length->(p=0∨∃ q:p-1<ps.length,ps[p-1].no<=x.no)->(∀ y∈ps.drop p,x.no<y.no)->V=if ptsB r hs (putP ps x p)=true then .tup [.agg [.vsl IR,.vsl NL,HV,.vsl ((putP ps x p).map ptA)],.int .i64 0] else .tup [.agg [.nils,.nils,.nils,.nils],.int .i64 70]:=λp h1 h2 h3=>by
  obtain ⟨g1,g2⟩:=ZnY (r:=r) (hs:=hs) hrp h1 h2 h3;rw[hV,eK,<- g1];by_cases c:ptsB r hs (putP ps x p)=true
  . rw[if_pos c,if_pos c,<- g2 c];rfl
  . rw[if_neg c,if_neg c];rfl
 rcases hc with eV|eV
 all_goals
  rw[eV]at cT cP hEnd
  (refine Zn3 rfl λR hG hrd=>Qga ?_;subst hG)
  simp -implicitDefEqProofs[Zn1,Zn2,hpx];refine Qco (ck) ?_;simp -implicitDefEqProofs[h30i];refine Yd.sem (Z1B.objs cT (λk=>k+612) (by simp) (by simp[St.get,lk]) (by simp[pPL]) rfl rfl) ?_;simp -implicitDefEqProofs[Yl,ZlD,AV.ren,rIR,rNL,pHL,b1];have e0:(putP ps x ps.length).map ptA=ps.map ptA++[[.int .i64 x.no,.int .i64 x.dy,.int .i64 x.ho,.int .i64 x.dw,.int .i64 x.lt,.int .i64 x.bk,.int .u8 x.lo]]:=(by rw[Zno,W0r];rfl);have wl:i64.wrap (ps.length:Int)=ps.length:=Yf;have wl1:i64.wrap ((ps.length:Int)+1-1)=ps.length:=(by rw[show (ps.length:Int)+1-1=ps.length by omega];exact wl);simp -implicitDefEqProofs[wl,wl1];refine Z1Q (sq3 IR NL HV ps x) (λp=>p<=ps.length/\∀ y∈ps.drop p,x.no<y.no) (λp=>p) ps.length ?_ ⟨W0f _,λy hy=>by rw[W1j (W0f _)]at hy;cases hy⟩ ?_
  . rw[<- e0];unfold sq3;rw[eV]
    ((try simp only[kIR,kNL,kHL]);refine Ym.sub (by simp[lk,Ya,AV.keys,kIR,kNL,kHL]) ?_;simp only[kIR,kNL,kHL,Wkl,Zl1,and_true];(try simp[lk,Yc,Ya,AV.keys,kIR,kNL,kHL]))
  rintro p ⟨hp,hd⟩;have hX:((putP ps x p).map ptA).length=ps.length+1:=(by rw[W0N,Zi8]);have pX:(((putP ps x p).map ptA).all λr=>r.all AV.pure)=true:=(by simp[ptA,AV.pure]);have cQ:=cP p (hw' p hp);have hE:=hEnd p hp;refine Qga ?_
  cases p with
  | zero =>
    have hE:=hE (.inl rfl) hd;have hu:sq3 IR NL HV ps x 0=⟨[(8,.int .i64 0),(7,.ptr 7 0),(4,.ptr 4 0)],[(7,.box [.vsl IR,.vsl NL,HV,.osl 621 (ps.length+1)]),(621,.row 7 ((putP ps x 0).map ptA)),(4,.box [.nils,.nils,.nils,.nils])]⟩:=rfl;rw[hu];generalize (putP ps x 0).map ptA=X at *;simp -implicitDefEqProofs[eV];refine ⟨rfl,?_⟩;refine Qgr ?_;simp -implicitDefEqProofs;refine Yd.flat cQ (by simp[AV.flat]) (by simp[Yj,snap,Yh,okAll,St.get,lk,hX,pX,pIR,pNL,pHL,AV.pure]) ?_;by_cases hk:ptsB r hs (putP ps x 0)=true
    . rw[if_pos hk]at hE;simp -implicitDefEqProofs[hk,hE,hX,pX,pIR,pNL,pHL]
    . rw[if_neg hk]at hE;simp -implicitDefEqProofs[hk,hE]
  | succ p =>
    have hp':p<ps.length:=(by omega);obtain ⟨y,hy⟩:=Qex (ps[p]);have hly:ps[p]=y:=hy.symm;have hpy:ptA y=[.int .i64 y.no,.int .i64 y.dy,.int .i64 y.ho,.int .i64 y.dw,.int .i64 y.lt,.int .i64 y.bk,.int .u8 y.lo]:=rfl;obtain ⟨s1,s2,s3⟩:=ZnW (x:=x) hp';rw[hly]at s1 s3;have g1:((putP ps x (p+1)).map ptA)[p]? = some (ptA y):=(by rw[W09,s1];rfl);have g2:((putP ps x (p+1)).map ptA)[p+1]? = some (ptA x):=(by rw[W09,s2];rfl);have g3:(((putP ps x (p+1)).map ptA).set (p+1) (ptA y)).set p (ptA x)=(putP ps x p).map ptA:=(by rw[<- W2q,<- W2q,s3]);rw[hpy]at g1 g3;rw[hpx]at g2 g3;have hu0:sq3 IR NL HV ps x p=⟨[(8,.int .i64 p),(7,.ptr 7 0),(4,.ptr 4 0)],[(7,.box [.vsl IR,.vsl NL,HV,.osl 621 (ps.length+1)]),(621,.row 7 ((putP ps x p).map ptA)),(4,.box [.nils,.nils,.nils,.nils])]⟩:=rfl;have hu1:∀ X,(putP ps x (p+1)).map ptA=X->sq3 IR NL HV ps x (p+1)=⟨[(8,.int .i64 (p+1:Nat)),(7,.ptr 7 0),(4,.ptr 4 0)],[(7,.box [.vsl IR,.vsl NL,HV,.osl 621 (ps.length+1)]),(621,.row 7 X),(4,.box [.nils,.nils,.nils,.nils])]⟩:=λX h=>by unfold sq3;rw[h]
    obtain ⟨X,hXe⟩:=Qex ((putP ps x (p+1)).map ptA);rw[hu1 X hXe.symm];rw[<- hXe]at hX pX cQ hE g1 g2 g3;obtain ⟨q1,g1⟩:=W02.1 g1;obtain ⟨q2,g2⟩:=W02.1 g2;have w2:i64.wrap ((p:Int))=(p:Int):=Yf;have k1:(0:Int)<(p:Int)+1:=(by omega);have k2:((p:Int)+1).toNat=p+1:=(by omega);have k3:(0:Int)<=(p:Int)+1:=(by omega);have k4:p<ps.length:=hp';have k5:p<=ps.length:=(by omega);have k6:p<ps.length+1:=(by omega);have k7:(p:Int)<(ps.length:Int)+1:=(by omega);have k8:(p:Int)+1<(ps.length:Int)+1:=(by omega);by_cases hlt:x.no<y.no
    . simp -implicitDefEqProofs[eV,w2,k1,k2,k3,k4,k5,k6,k7,k8,g1,g2,hX,hlt];refine ⟨rfl,rfl,p,?_,⟨by omega,λu hu=>?_⟩,W2u _⟩
      . unfold sq3;rw[g3]
        ((try simp only[kIR,kNL,kHL]);refine Ym.sub (by simp[lk,Ya,AV.keys,kIR,kNL,kHL]) ?_;simp only[kIR,kNL,kHL,Wkl,Zl1,and_true];(try simp[lk,Yc,Ya,AV.keys,kIR,kNL,kHL]))
      . rw[W0x hp',hly]at hu;rcases W0g.1 hu with rfl|hu
        . exact hlt
        . exact hd u hu
    . have hE:=hE (.inr ⟨hp',by show ps[p].no<=x.no;rw[hly];omega⟩) hd;simp -implicitDefEqProofs[eV,w2,k1,k2,k3,k4,k5,k6,k7,k8,g1,g2,hX,hlt];refine ⟨rfl,?_⟩;refine Qgr ?_;simp -implicitDefEqProofs;refine Yd.flat cQ (by simp[AV.flat]) (by simp[Yj,snap,Yh,okAll,St.get,lk,hX,pX,pIR,pNL,pHL,AV.pure]) ?_;by_cases hk:ptsB r hs (putP ps x (p+1))=true
      . rw[if_pos hk]at hE;simp -implicitDefEqProofs[hk,hE,hX,pX,pIR,pNL,pHL]
      . rw[if_neg hk]at hE;simp -implicitDefEqProofs[hk,hE]
def PB.ren {P:Program} {G:Jg} {f:FuncId} {args:List AV} {r r':AV} {os os':List (Nat×AObj)} (h:PB P G f [] args r os) (ρ:Nat->Nat) (hr:r=r'.ren ρ) (hk:Ya os' r'=true)
  (ho:∀ p∈os',lk os (ρ p.1)=some (p.2.ren ρ)/\Yc os' p.2=true) (hinj:∀ k k',(lk os' k).isSome=true->(lk os' k').isSome=true->ρ k=ρ k'->k=k') (hb:∀ p∈os,p.1<1000) (hb':∀ p∈os',p.1<1000):PB P G f [] args r' os':=by
 refine ⟨h.1,λR W κ vs g1 g2 g3 g4 g5 g6 g7 g8=>(h.2 R W κ vs g1 g2 g3 g4 g5 g6 g7 g8).mono ?_⟩;rintro e W' ⟨v,κ',e1,hs,hv⟩
 have hD0:R.D=[]:=by
  obtain ⟨cs,e,-⟩:=g6.defers;exact (List.append_eq_nil_iff.1 e.symm).2
 have h1:SK { R with N:=1 } ⟨[(0,r)],os⟩ { tmps:=#[v],defers:=[] } W' κ':=by
  refine ⟨hs.defers,rfl,λn x hx=>?_,hs.obj,hs.dom,hs.inj,hs.low,hs.apart,hs.kp,hs.gr,hs.mono,hs.ent⟩;simp only[St.tmp,lk]at hx
  split at hx
  . rename_i q;subst q
    cases hx
    exact hv
  . cases hx
 obtain ⟨κ2,h2⟩:=Ym.rnm (st:=⟨[(0,r)],os⟩) (t':=[(0,r')]) (o':=os') ρ (by simp only[W0B,forall_eq];exact ⟨by simp[lk,hr],hk⟩) ho hinj (λp hp c=>absurd (hb p hp) (by omega)) (λk c q=>by
  obtain ⟨o,hq⟩:=W0t.1 q;have:=hb' _ (Z4K hq);simp only at this;omega) _ _ _ ⟨κ',h1⟩
 have h3:=h2.tm 0 r' rfl;exact ⟨v,κ2,e1,⟨by rw[hD0];exact .nil _ _ _ _,by show (#[]:Array Value).size=R.N;rw[g2];rfl,λn x hx=>by simp[obSt,St.tmp,lk]at hx,h2.obj,h2.dom,h2.inj,h2.low,h2.apart,h2.kp,h2.gr,h2.mono,h2.ent⟩,h3⟩
structure Fr (F:List (Nat×AObj)):Prop where
 big:∀ p∈F,600<=p.1/\p.1<1000
 nd:(F.map (·.1)).Nodup
 keep:∀ p∈F,∀ o',(∀ q∈F,(lk o' q.1).isSome=true)->Yc o' p.2=true
 ren:∀ p∈F,p.2.ren id=p.2
def Fr.nil:Fr []:=⟨by simp,by simp,by simp,by simp⟩
section
variable {F:List (Nat×AObj)}
def Fr.low (h:Fr F) {k:Nat} (hk:k<600):lk F k=none:=ZmC (λp hp=>(h.big p hp).1) hk
def Fr.lk (h:Fr F) (C:List (Nat×AObj)) {k:Nat} (hk:k<600):lk (F++C) k=lk C k:=Zmy (h.low hk)
def Fr.put (h:Fr F) (C:List (Nat×AObj)) (y:AObj) {k:Nat} (hk:k<600):putO (F++C) k y=F++putO C k y:=ZmA (h.low hk)
def Fr.mem (h:Fr F) (C:List (Nat×AObj)) {p:Nat×AObj} (hp:p∈F):Go.Proofs.YtldibfhbaaadcaaGreatDoor.lk (F++C) p.1=some p.2:=Zmz (lk_nd h.nd p hp)
end
def Z1B.front {P:Program} {G:Jg} {F C:List (Nat×AObj)} {t:List (Nat×AV)} {f:FuncId} {args:List AV} {r:AV} (h:PB P G f [] args r F) (hF:Fr F) (hr:r.ren id=r) (hC:∀ p∈F,lk C p.1=none)
  (hargs:args.all AV.pure=true):Z1B P G ⟨t,C⟩ f args r ⟨t,F++C⟩:=by
 have nd':(F.map λp=>id p.1).Nodup:=hF.nd;have hs:=Z1B.objs (st:=⟨t,C⟩) h id nd' hC hargs hr.symm rfl
 have get:∀ k,(Yl id F ⟨t,C⟩).get k=(⟨t,F++C⟩ : St).get k:=λk=>by
  show _=lk (F++C) k
  cases e:lk F k with
  | some o =>
    have h1:=Z55 id F ⟨t,C⟩ k o nd' e;rw[hF.ren (k,o) (Z4K e)]at h1;exact h1.trans (Zmz e).symm
  | none =>
    have n1:∀ p∈F,id p.1≠k:=λp hp e2=>by
     have:=lk_nd hF.nd p hp;rw[show p.1=k from e2,e]at this;cases this
    rw[Z54 id k _ _ n1,Zmy e];rfl
 intro R a W κ vs hG hk ha;obtain ⟨h1,h2⟩:=hs R a W κ vs hG hk ha;refine ⟨h1,h2.mono ?_⟩;rintro e W' ⟨u,κ1,h3,h4,h5⟩;have hg:∀ k,(⟨t,F++C⟩ : St).get k=(Yl id F ⟨t,C⟩).get k:=λk=>(get k).symm
 exact ⟨u,κ1,h3,h4.congr (λn=>by simp only[St.tmp,Z53]) hg,by rw[St.env_congr hg];exact h5⟩
def PB.of_pc {P:Program} {G:Jg} {f:FuncId} {args:List AV} {v:AV} (h:PC P G f args v) (ha:args.all AV.pure=true):PB P G f [] args v []:=by
 refine ⟨h.1,λR W κ vs g1 g2 g3 g4 g5 g6 g7 g8=>(h.2 _ W vs (λb hb=>g6.owned_lt hb) (g1 ▸ g6.gr) g7 λi x u hi hu=>(g8 i x u hi hu).toPV (W03.1 ha x (W0d hi))).mono ?_⟩;rintro e W' ⟨u,e1,hv,hE⟩;exact ⟨u,κ,e1,g6.grow hE,.pv hv⟩
def rhN (kp kh d:Nat) (k:Nat):Nat:=if k=kp then 621 else if k=kh then 72 else k-d
def Zo2 {kp kh d:Nat} (h1:kp<700) (h2:kh<700):∀ (l:Jh) (b:Nat),700<=b->(hoW (b+d) l).map (λr=>r.map (AV.ren (rhN kp kh d)))=hoW b l
 |[],_,_=>rfl
 | h::l,b,hb=>by
   have ih:=Zo2 h1 h2 (d:=d) l (b+1) (by omega);rw[show b+1+d=b+d+1 by omega]at ih;have e:rhN kp kh d (b+d)=b:=(by unfold rhN;rw[if_neg (by omega),if_neg (by omega)];omega);simp only[hoW,W0F,ih,W2e,and_true];unfold hoJ drW
   split <;> simp[AV.ren,e]
def Zo3 {d:Nat}:∀ (l:Jh) (b:Nat),∀ p∈drF (b+d) l,lk (drF b l) (p.1-d)=some p.2
 |[],_,p,h=>by cases h
 | x :: l,b,p,h=>by
   rw[drF]at h;rcases W0h.1 h with h|h
   . unfold drO at h
     split at h
     . cases h
     . rename_i c;rw[W0B]at h;subst h;simp only[drF,drO,if_neg c,W1e,lk];rw[if_pos (by omega)]
   . rw[show b+d+1=b+1+d by omega]at h;have h1:=ZmI l _ p h;have ih:=Zo3 l (b+1) p h;rw[drF,Zmy,ih];unfold drO
     split
     . rfl
     . simp only[lk];rw[if_neg (by omega)]
def rcF (b kh kp:Nat) (hs:Jh) (Q:Jp):List (Nat×AObj):=drF b hs++(ptR kp Q++hrO kh b hs)
def Zo4 {k:Nat} {Q:Jp} {p:Nat×AObj} (h:p∈ptR k Q):p=(k,.row 7 (Q.map ptA)):=by
 unfold ptR at h
 split at h
 . cases h
 . exact W0B.1 h
def Zo5 {n k:Nat} {H:Jh} {p:Nat×AObj} (h:p∈hrO n k H):H≠[]/\p=(n,.row 4 (hoW k H)):=by
 unfold hrO at h
 split at h
 . cases h
 . rename_i c;exact ⟨c,W0B.1 h⟩
def Zo6 {o:List (Nat×AObj)} (l:Jh) (b:Nat) (h:∀ q∈drF b l,(lk o q.1).isSome=true):Yc o (.row 4 (hoW b l))=true:=by
 simp only[Yc,W03];intro r hr x hx;obtain ⟨i,hi⟩:=W1J hr;have hl:i<l.length:=(by have:=(W02.1 hi).1;rwa [ZmG]at this);rw[ZmH l b i hl]at hi
 cases hi
 unfold hoJ at hx;simp only[W0g,W0Q,or_false]at hx;rcases hx with rfl|rfl|rfl|rfl
 . simp[Ya,AV.keys]
 . simp[Ya,AV.keys]
 . simp[Ya,AV.keys]
 . unfold drW
   split
   . simp[Ya,AV.keys]
   . rename_i hd;have:=h _ (Z4K (ZmN l b i hl hd));simpa [Ya,AV.keys] using this
section
variable {b kh kp:Nat} {hs:Jh} {Q:Jp}
def Zo7 (hb:700<=b) (hb2:b<=800) (h1:600<=kh/\kh<700) (h2:600<=kp/\kp<700) (hne:kp≠kh) (hl:hs.length<=100):Fr (rcF b kh kp hs Q):=by
 have tT:=ZmM hl b hb hb2;have pQ:((Q.map ptA).all λr=>r.all AV.pure)=true:=(by simp[ptA,AV.pure]);refine ⟨λp hp=>?_,?_,λp hp o' ho=>?_,λp hp=>?_⟩
 . rcases W0h.1 hp with hp|hp
   . have:=tT.big p hp;omega
   . rcases W0h.1 hp with hp|hp
     . rw[Zo4 hp];simp only;omega
     . rw[(Zo5 hp).2];simp only;omega
 . unfold rcF;rw[W0r];refine List.nodup_append.2 ⟨tT.nd,?_,λx hx y hy e=>?_⟩
   . unfold ptR hrO
     split <;> split <;> simp[hne]
   . obtain ⟨p,hp,rfl⟩:=W0i.1 hx;obtain ⟨q,hq,rfl⟩:=W0i.1 hy;have:=(tT.big p hp).1;rcases W0h.1 hq with hq|hq
     . rw[Zo4 hq]at e;simp only at e;omega
     . rw[(Zo5 hq).2]at e;simp only at e;omega
 . rcases W0h.1 hp with hp|hp
   . exact tT.keep _ hp
   . rcases W0h.1 hp with hp|hp
     . rw[Zo4 hp];exact ZmD pQ
     . rw[(Zo5 hp).2];exact Zo6 hs b λq hq=>ho q (List.mem_append_left _ hq)
 . rcases W0h.1 hp with hp|hp
   . exact tT.ren id hp
   . rcases W0h.1 hp with hp|hp
     . rw[Zo4 hp];exact AObj.ren_pure pQ
     . rw[(Zo5 hp).2];exact ZmR hs b
def Zo8 (Q':Jp) (hs':Jh) (h1:(Q'=[])↔(Q=[])) (h2:(hs'=[])↔(hs=[])) (h3:(drF b hs').map (·.1)=(drF b hs).map (·.1)):(rcF b kh kp hs' Q').map (·.1)=(rcF b kh kp hs Q).map (·.1):=by
 unfold rcF ptR hrO;by_cases c:Q=[] <;> by_cases d:hs=[] <;> simp[h1,h2,h3,c,d]
def Zo9 {P:Program} {G:Jg} {f:FuncId} {args:List AV} {e:Int} {IR NL:List (List AV)} {d:Nat} (h:PB P G f [] args (.tup [.agg [.vsl IR,.vsl NL,hlV 72 hs,ptV 621 Q],.int .i64 e]) (drF 700 hs++(ptR 621 Q++hrO 72 700 hs)))
  (hd:d<=100) (h1:600<=kh/\kh<700) (h2:600<=kp/\kp<700) (hne:kp≠kh) (hl:hs.length<=100) (pIR:(IR.all λr=>r.all AV.pure)=true) (pNL:(NL.all λr=>r.all AV.pure)=true) :
  PB P G f [] args (.tup [.agg [.vsl IR,.vsl NL,hlV kh hs,ptV kp Q],.int .i64 e]) (rcF (700+d) kh kp hs Q):=by
 have t7:=ZmM hl 700 (by omega) (by omega);have t8:=ZmM hl (700+d) (by omega) (by omega);have fr:=Zo7 (b:=700+d) (Q:=Q) (by omega) (by omega) h1 h2 hne hl;have p1:(AV.vsl IR).pure=true:=(by simpa [AV.pure] using pIR);have p2:(AV.vsl NL).pure=true:=(by simpa [AV.pure] using pNL);have pQ:((Q.map ptA).all λr=>r.all AV.pure)=true:=(by simp[ptA,AV.pure]);have hne':¬kh=kp:=λq=>hne q.symm
 have e1:rhN kp kh d kp=621:=(by simp[rhN]);have e2:rhN kp kh d kh=72:=by simp[rhN,hne']
 have bK:∀ k,(lk (rcF (700+d) kh kp hs Q) k).isSome=true->k=kp∨k=kh∨700+d<=k:=λk hk=>by
  obtain ⟨o,ho⟩:=W0t.1 hk;rcases W0h.1 (Z4K ho) with q|q
  . exact .inr (.inr (ZmI hs _ _ q).1)
  . rcases W0h.1 q with q|q
    . exact .inl (congrArg Prod.fst (Zo4 q))
    . exact .inr (.inl (congrArg Prod.fst (Zo5 q).2))
 refine h.ren (rhN kp kh d) ?_ ?_ ?_ ?_ ?_ ?_
 . unfold hlV ptV
   split <;> split <;> simp[AV.ren,AV.ren_pure _ p1,AV.ren_pure _ p2,e1,e2]
 . have k1:=AV.pure_keys _ p1;have k2:=AV.pure_keys _ p2
   have m1:Q≠[]->(lk (rcF (700+d) kh kp hs Q) kp).isSome=true:=λc=>by
    have:(kp,AObj.row 7 (Q.map ptA))∈rcF (700+d) kh kp hs Q:=List.mem_append_right _ (List.mem_append_left _ (by simp[ptR,c]));rw[lk_nd fr.nd _ this];rfl
   have m2:hs≠[]->(lk (rcF (700+d) kh kp hs Q) kh).isSome=true:=λc=>by
    have:(kh,AObj.row 4 (hoW (700+d) hs))∈rcF (700+d) kh kp hs Q:=List.mem_append_right _ (List.mem_append_right _ (by simp[hrO,c]));rw[lk_nd fr.nd _ this];rfl
   unfold hlV ptV
   split <;> split <;> simp_all [Ya,AV.keys]
 . intro p hp;refine ⟨?_,fr.keep p hp _ λq hq=>by rw[lk_nd fr.nd q hq];rfl⟩;rcases W0h.1 hp with hp|hp
   . have hm:=ZmI hs _ p hp;have e:rhN kp kh d p.1=p.1-d:=(by unfold rhN;rw[if_neg (by omega),if_neg (by omega)]);rw[e,t8.ren _ hp];exact Zmz (Zo3 hs 700 p hp)
   . rcases W0h.1 hp with hp|hp
     . have c:Q≠[]:=λq=>by rw[q]at hp;simp[ptR]at hp
       rw[Zo4 hp,e1,t7.lk _ (by omega),AObj.ren_pure pQ];simp[ptR,c,lk]
     . obtain ⟨c,q⟩:=Zo5 hp;rw[q,e2,t7.lk _ (by omega)];have rW:=Zo2 (kp:=kp) (kh:=kh) (d:=d) h2.2 h1.2 hs 700 (W0f _);simp only[AObj.ren,rW];unfold ptR
       split <;> simp[hrO,c,lk]
 . intro k k' q1 q2 e;have q1:=bK k q1;have q2:=bK k' q2;unfold rhN at e
   split at e <;> split at e <;> (try split at e) <;> (try split at e) <;> omega
 . intro p hp;rcases W0h.1 hp with hp|hp
   . exact (t7.big p hp).2
   . rcases W0h.1 hp with hp|hp
     . rw[Zo4 hp];simp
     . rw[(Zo5 hp).2];simp
 . exact λp hp=>(fr.big p hp).2
def sn_rc {IR NL:List (List AV)} {st:St} (hl:hs.length<=100) (fr:Fr (rcF b kh kp hs Q)) (pIR:(IR.all λr=>r.all AV.pure)=true) (pNL:(NL.all λr=>r.all AV.pure)=true) (h:∀ p∈rcF b kh kp hs Q,st.get p.1=some p.2) :
  snap st (.agg [.vsl IR,.vsl NL,hlV kh hs,ptV kp Q])=some (.agg [.vsl IR,.vsl NL,Yg (hs.map hoa),.vsl (Q.map ptA)]):=by
 have p1:(AV.vsl IR).pure=true:=(by simpa [AV.pure] using pIR);have p2:(AV.vsl NL).pure=true:=(by simpa [AV.pure] using pNL);have pQ:((Q.map ptA).all λr=>r.all AV.pure)=true:=by simp[ptA,AV.pure]
 have e1:Yh okAll st 5 (hlV kh hs)=some (Yg (hs.map hoa)):=by
  unfold hlV Yg;by_cases c:hs=[]
  . simp[c,Yh,AV.pure]
  . rw[if_neg c,if_neg (by simpa using c)];exact ZnB (n:=3) (h (kh,.row 4 (hoW b hs)) (List.mem_append_right _ (List.mem_append_right _ (by simp[hrO,c])))) λi hi hd=>h (b+i,.row 1 (hs[i].ds.map ia)) (List.mem_append_left _ (Z4K (ZmN hs b i hi hd)))
 have e2:Yh okAll st 5 (ptV kp Q)=some (.vsl (Q.map ptA)):=by
  unfold ptV;by_cases c:Q=[]
  . simp[c,Yh,AV.pure]
  . rw[if_neg c];have:=ZnC (n:=4) (h (kp,.row 7 (Q.map ptA)) (List.mem_append_right _ (List.mem_append_left _ (by simp[ptR,c])))) pQ;rw[W0N]at this;exact this
 simp only[snap,Yh,Yj,p1,p2,e1,e2,if_true,W0m]
def Zoa {α:Type} {A B:List (Nat×α)} {n:Nat} {x:α} (h:lk A n=none) (k:Nat):lk (A++((n,x)::B)) k=lk ((n,x)::(A++B)) k:=by
 by_cases c:n=k
 . subst c;rw[Zmy h];simp[lk]
 . rw[lk_ne c]
   cases e:lk A k with
   |some y=>rw[Zmz e,Zmz e]
   |none=>rw[Zmy e,Zmy e,lk_ne c]
def Zob {α:Type} {D L1 L2:List (Nat×α)} (h:∀ k,lk L1 k=lk L2 k) (k:Nat):lk (D++L1) k=lk (D++L2) k:=by
 cases e:lk D k with
 |some y=>rw[Zmz e,Zmz e]
 |none=>rw[Zmy e,Zmy e,h]
def Zoc {α:Type} {L1 L2:List (Nat×α)} {n:Nat} {x:α} (h:∀ k,lk L1 k=lk L2 k) (k:Nat):lk ((n,x)::L1) k=lk ((n,x)::L2) k:=Zob (D:=[(n,x)]) h k
def Ym.obj {t:List (Nat×AV)} {o o':List (Nat×AObj)} (h:∀ k,lk o' k=lk o k):Ym ⟨t,o⟩ ⟨t,o'⟩:=Ym.congr (λ_=>rfl) h
def Zod {R:Run} {t0:List (Nat×AV)} {C:List (Nat×AObj)} {X Y:AV} (hb:700<=b) (hb2:b<=800) (h1:600<=kh/\kh<700) (h2:600<=kp/\kp<700) (hne:kp≠kh) (hl:hs.length<=60) (hQl:Q.length<=60) (hdl:∀ h∈hs,h.ds.length<=60)
  (ht:∀ p∈t0,lk t0 p.1=some p.2/\p.1<102/\p.1≠24/\p.1≠25/\p.1≠26/\p.1≠27) :
  AR prog R (.seq bumpA bumpB) ⟨(24,.ptr 24 0)::t0,rcF b kh kp hs Q++((24,.box [X,Y,hlV kh hs,ptV kp Q])::C)⟩
   λe s=>e = .normal/\Ym s ⟨(24,.ptr 24 0)::t0,rcF b kh kp (hs.map bpH) (Q.map bpP)++((24,.box [X,Y,hlV kh hs,ptV kp Q])::C)⟩:=by
 have tT:=ZmM (l:=hs) (by omega) b hb hb2
 have n24:∀ L:List Prt,lk (ptR kp L++hrO kh b hs) 24=none:=λL=>by
  cases e:lk (ptR kp L++hrO kh b hs) 24 with
  |none=>rfl
  | some o =>
    exfalso;rcases W0h.1 (Z4K e) with q|q
    . have:=congrArg Prod.fst (Zo4 q);simp only at this;omega
    . have:=congrArg Prod.fst (Zo5 q).2;simp only at this;omega
 have q24:∀ L:List Prt,lk (ptR kp L) kh=none:=λL=>by
  unfold ptR
  split
  . rfl
  . simp only[lk];rw[if_neg hne]
 have hta:∀ p∈t0,lk t0 p.1=some p.2/\p.1<102/\p.1≠24/\p.1≠25:=λp hp=>by have:=ht p hp;exact ⟨this.1,this.2.1,this.2.2.1,this.2.2.2.1⟩
 have htb:∀ p∈t0,lk t0 p.1=some p.2/\p.1<102/\p.1≠24/\p.1≠26/\p.1≠27:=λp hp=>by have:=ht p hp;exact ⟨this.1,this.2.1,this.2.2.1,this.2.2.2.2.1,this.2.2.2.2.2⟩
 refine Z2R (st':=⟨(24,.ptr 24 0)::t0,drF b hs++((24,.box [X,Y,hlV kh hs,ptV kp Q])::(ptR kp Q++(hrO kh b hs++C)))⟩) (Ym.obj λk=>?_) ?_
 . unfold rcF;rw[W0U];refine Zob (λk=>?_) k;rw[Zoa (n24 Q),W0U]
 refine ZcR (S:=⟨(24,.ptr 24 0)::t0,drF b hs++((24,.box [X,Y,hlV kh hs,ptV kp Q])::(ptR kp (Q.map bpP)++(hrO kh b hs++C)))⟩) ?_ ?_
 . by_cases c:Q=[]
   . subst c;exact ZnP tT (.inr rfl) hta
   . have e1:ptV kp Q = .osl kp Q.length:=(by simp[ptV,c]);have e2:ptR kp Q=[(kp,.row 7 (Q.map ptA))]:=(by simp[ptR,c]);have e3:ptR kp (Q.map bpP)=[(kp,.row 7 ((Q.map bpP).map ptA))]:=(by simp[ptR,c]);rw[e1,e2,e3];exact ZnO tT h2.2 (by omega) Q hQl hta
 . by_cases c:hs=[]
   . subst c;refine Z2I (ZnQ tT hta) ?_;rintro e s ⟨rfl,hw⟩;refine ⟨rfl,Ym.trans hw (Ym.obj λk=>?_)⟩;unfold rcF;rw[W0U];refine Zob (λk=>?_) k;rw[W1d,Zoa (n24 _),W0U];rfl
   . have e1:hlV kh hs = .osl kh hs.length:=(by simp[hlV,c]);have e2:hrO kh b hs=[(kh,.row 4 (hoW b hs))]:=by simp[hrO,c]
     have e3:hoW b (hs.map bpH)=hoW b hs:=by
      have:∀ (l:Jh) (b:Nat),hoW b (l.map bpH)=hoW b l:=λl=>by
       induction l with
       |nil=>intro b;rfl
       | cons h l ih =>
         intro b;simp only[W0F,hoW,ih]
         congr 1
         simp[hoJ,drW,bpH]
      exact this hs b
     have e4:hrO kh b (hs.map bpH)=[(kh,.row 4 (hoW b hs))]:=(by simp[hrO,c,e3]);rw[e1,e2];refine Z2R (st':=⟨(24,.ptr 24 0)::t0,([]++(drF b hs++[]))++((24,.box [X,Y,.osl kh hs.length,ptV kp Q])::(kh,.row 4 (hoW b hs))::(ptR kp (Q.map bpP)++C))⟩) (Ym.obj λk=>?_) ?_
     . simp only[W18,W1G];refine Zob (λk=>Zoc (λk=>?_) k) k;exact (Zoa (q24 _) k).symm
     refine Z2I (ZnR hb hs (λL hL=>by simpa using ZmM (l:=L) (by omega) b hb hb2) (λi _=>rfl) h1.2 (by omega) hl hdl htb) ?_;rintro e s ⟨rfl,hw⟩;refine ⟨rfl,Ym.trans hw (Ym.obj λk=>?_)⟩;simp only[W18,W1G];unfold rcF;rw[e4,W0U];refine Zob (λk=>?_) k;have n2:=n24 (Q.map bpP);rw[e2]at n2;rw[Zoa n2];refine Zoc (λk=>?_) k;rw[W0U];exact Zoa (q24 _) k
end
def clsB (k:Nat):Bool:=decide (k=620)||decide (k=621)||(decide (700<=k)&&decide (k<800))
structure Pk (G:Jg) (f g:FuncId) (args:List AV) (side:Bool) where
 e:Int
 F:List (Nat×AObj)
 F':List (Nat×AObj)
 a0:AV
 a1:AV
 a2:AV
 a3:AV
 b0:AV
 b1:AV
 b2:AV
 b3:AV
 va:AV
 pb:PB prog G f [] args (.tup [.agg [a0,a1,a2,a3],.int .i64 e]) F
 pc:PC prog G g args (.tup [.agg [b0,b1,b2,b3],.int .i64 e])
 sm:PC prog G 10 [va,.agg [b0,b1,b2,b3]] (.bool true)
 fr:Fr F
 fr':Fr F'
 keys:F'.map (·.1)=F.map (·.1)
 cl:∀ p∈F,clsB p.1=side
 one:a0.one=true/\a1.one=true/\a2.one=true/\a3.one=true
 ka:∀ o',(∀ q∈F,(lk o' q.1).isSome=true)->Ya o' a0=true/\Ya o' a1=true/\Ya o' a2=true/\Ya o' a3=true
 ra:a0.ren id=a0/\a1.ren id=a1/\a2.ren id=a2/\a3.ren id=a3
 ob:b0.one=true/\b1.one=true/\b2.one=true/\b3.one=true
 pu:b0.pure=true/\b1.pure=true/\b2.pure=true/\b3.pure=true
 sb:∀ st:St,snap st (.agg [b0,b1,b2,b3])=some (.agg [b0,b1,b2,b3])
 sn:∀ st:St,(∀ p∈F,st.get p.1=some p.2)->snap st (.agg [a0,a1,a2,a3])=some va
 bump:∀ (R:Run) (t0:List (Nat×AV)) (C:List (Nat×AObj)),(∀ p∈t0,lk t0 p.1=some p.2/\p.1<102/\p.1≠24/\p.1≠25/\p.1≠26/\p.1≠27) ->
  AR prog R (.seq bumpA bumpB) ⟨(24,.ptr 24 0)::t0,F++((24,.box [a0,a1,a2,a3])::C)⟩ λe s=>e = .normal/\Ym s ⟨(24,.ptr 24 0)::t0,F'++((24,.box [a0,a1,a2,a3])::C)⟩
def Zoe {α:Type} {F1 F2 C:List (Nat×α)} {n:Nat} {x:α} (hd:∀ p∈F1,lk F2 p.1=none) (hn:lk F2 n=none) (k:Nat):lk (F1++((n,x)::(F2++C))) k=lk (F2++(F1++((n,x)::C))) k:=by
 cases e1:lk F1 k with
 |some y=>rw[Zmz e1,Zmy (hd _ (Z4K e1)),Zmz e1]
 | none =>
   rw[Zmy e1];by_cases c:n=k
   . subst c;rw[Zmy hn,Zmy e1];simp[lk]
   . rw[lk_ne c]
     cases e2:lk F2 k with
     |some y=>rw[Zmz e2,Zmz e2]
     |none=>rw[Zmy e2,Zmy e2,Zmy e1,lk_ne c]
def Ym.two {F1 F2 C C':List (Nat×AObj)} {t t':List (Nat×AV)} (fr1:Fr F1) (fr2:Fr F2) (hd1:∀ p∈F1,lk F2 p.1=none) (ht:∀ p∈t',lk t p.1=some p.2/\Ya (F2++(F1++C')) p.2=true)
  (hC:∀ p∈C',lk (F2++(F1++C)) p.1=some p.2/\Yc (F2++(F1++C')) p.2=true) (hb:∀ p∈C,p.1<1000:=by simp):Ym ⟨t,F2++(F1++C)⟩ ⟨t',F2++(F1++C')⟩:=by
 refine Ym.sub ht (λp hp=>?_) λp hp h=>?_
 . rcases W0h.1 hp with hp|hp
   . exact ⟨fr2.mem _ hp,fr2.keep p hp _ λq hq=>by rw[fr2.mem _ hq];rfl⟩
   . rcases W0h.1 hp with hp|hp
     . exact ⟨(Zmy (hd1 p hp)).trans (fr1.mem _ hp),fr1.keep p hp _ λq hq=>by rw[Zmy (hd1 q hq),fr1.mem _ hq];rfl⟩
     . exact hC p hp
 . exfalso;rcases W0h.1 hp with hp|hp
   . have:=(fr2.big p hp).2;omega
   . rcases W0h.1 hp with hp|hp
     . have:=(fr1.big p hp).2;omega
     . have:=hb p hp;omega
def Zof:PC prog G 10 [.agg [.nils,.nils,.nils,.nils],.agg [.nils,.nils,.nils,.nils]] (.bool true) :=
 PC.sub (Zl4 (G:=G) [] [] [] [] ⟨by unfold Sml;simp,by simp⟩ (by unfold Sml;simp) ⟨by simp,by simp,by simp,by simp⟩) ⟨.agg ⟨.nils,.nils,.nils,.nils,trivial⟩,.agg ⟨.nils,.nils,.nils,.nils,trivial⟩,trivial⟩
theorem pkErr {f g:FuncId} {args:List AV} {side:Bool} {e:Int} (h1:PC prog G f args (.tup [.agg [.nils,.nils,.nils,.nils],.int .i64 e])) (h2:PC prog G g args (.tup [.agg [.nils,.nils,.nils,.nils],.int .i64 e])) (ha:args.all AV.pure=true):Nonempty (Pk G f g args side):=by
 refine ⟨⟨e,[],[],.nils,.nils,.nils,.nils,.nils,.nils,.nils,.nils,.agg [.nils,.nils,.nils,.nils],PB.of_pc h1 ha,h2,Zof,Fr.nil,Fr.nil,rfl,by simp,?_,?_,?_,?_,?_,?_,?_,?_⟩⟩
 . simp[AV.one]
 . intro o' _;simp[Ya,AV.keys]
 . simp[AV.ren]
 . simp[AV.one]
 . simp[AV.pure]
 . intro st;simp[snap,Yh,Yj,AV.pure]
 . intro st _;simp[snap,Yh,Yj,AV.pure]
 . intro R t0 C ht;have hta:∀ p∈t0,lk t0 p.1=some p.2/\p.1<102/\p.1≠24/\p.1≠25:=λp hp=>by have:=ht p hp;exact ⟨this.1,this.2.1,this.2.2.1,this.2.2.2.1⟩
   exact ZcR (ZnP (T:=[]) Tl.nil (.inl rfl) hta) (ZnQ (T:=[]) Tl.nil hta)
def Zog (k:Nat) (hs:Jh):(hlV k hs).one=true:=by unfold hlV;split <;> simp[AV.one]
def Zoh (k:Nat) (Q:Jp):(ptV k Q).one=true:=by unfold ptV;split <;> simp[AV.one]
theorem pkOk {f g:FuncId} {args:List AV} {side:Bool} (r:Jr) (l:Jl) (hs:Jh) (Q:Jp) (hr:SmlR r) (hl:Sml l) (hw:WfP hs Q)
  (h1:PB prog G f [] args (.tup [.agg [.vsl (r.map isa),.vsl (l.map na),hlV 72 hs,ptV 621 Q],.int .i64 0]) (drF 700 hs++(ptR 621 Q++hrO 72 700 hs)))
  (h2:PC prog G g args (.tup [prA r l hs Q,.int .i64 0])):Nonempty (Pk G f g args side):=by
 have hhl:=hw.hl;have hpl:=hw.pl;have hdl:=hw.dl;have pIR:((r.map isa).all λr=>r.all AV.pure)=true:=(by simp[isa,AV.pure]);have pNL:((l.map na).all λr=>r.all AV.pure)=true:=(by simp[na,AV.pure]);have p1:(AV.vsl (r.map isa)).pure=true:=(by simp[isa,AV.pure]);have p2:(AV.vsl (l.map na)).pure=true:=(by simp[na,AV.pure]);have p3:(AV.vsl (hs.map hoa)).pure=true:=(by simp[hoa,AV.pure]);have p4:(AV.vsl (Q.map ptA)).pure=true:=(by simp[ptA,AV.pure]);have sm:=PC.sub (Zl4 (G:=G) r l hs Q hr hl hw) (xs:=[.agg [.vsl (r.map isa),.vsl (l.map na),Yg (hs.map hoa),.vsl (Q.map ptA)],prA r l hs Q]) ⟨.agg ⟨.rfl',.rfl',.orNil _,.rfl',trivial⟩,.rfl',trivial⟩
 obtain ⟨kh,kp,d,q1,q2,q3,q4,q5⟩ : ∃ kh kp d:Nat,(600<=kh/\kh<700)/\(600<=kp/\kp<700)/\kp≠kh/\d<=100/\(clsB kh=side/\clsB kp=side/\∀ k,700+d<=k->k<700+d+100->clsB k=side):=by
  cases side
  . refine ⟨623,622,100,by omega,by omega,by omega,by omega,by decide,by decide,λk a b=>?_⟩;unfold clsB;simp;omega
  . refine ⟨620,621,0,by omega,by omega,by omega,by omega,by decide,by decide,λk a b=>?_⟩;unfold clsB;simp;omega
 have hb:=Zo9 h1 q4 q1 q2 q3 (by omega) pIR pNL;have fr:=Zo7 (b:=700+d) (Q:=Q) (by omega) (by omega) q1 q2 q3 (show hs.length<=100 by omega);have fr':=Zo7 (b:=700+d) (hs:=hs.map bpH) (Q:=Q.map bpP) (by omega) (by omega) q1 q2 q3 (by simp;omega)
 have kd:∀ (l:Jh) (b:Nat),(drF b (l.map bpH)).map (·.1)=(drF b l).map (·.1):=λl=>by
  induction l with
  |nil=>intro b;rfl
  | cons h l ih =>
    intro b;simp only[W0F,drF,W0r,ih]
    congr 1
    simp only[drO,bpH,List.map_eq_nil_iff]
    split <;> rfl
 refine ⟨⟨0,_,rcF (700+d) kh kp (hs.map bpH) (Q.map bpP),_,_,_,_,.vsl (r.map isa),.vsl (l.map na),.vsl (hs.map hoa),.vsl (Q.map ptA),_,hb,h2,sm,fr,fr',Zo8 _ _ (by simp) (by simp) (kd _ _),?_,?_,?_,?_,?_,?_,?_,?_,?_⟩⟩
 . intro p hp;rcases W0h.1 hp with hp|hp
   . have:=ZmI hs _ p hp;exact q5.2.2 _ this.1 (by omega)
   . rcases W0h.1 hp with hp|hp
     . rw[Zo4 hp];exact q5.2.1
     . rw[(Zo5 hp).2];exact q5.1
 . exact ⟨rfl,rfl,Zog _ _,Zoh _ _⟩
 . intro o' ho;refine ⟨by simp[Ya,AV.keys],by simp[Ya,AV.keys],?_,?_⟩
   . unfold hlV;by_cases c:hs=[]
     . simp[c,Ya,AV.keys]
     . have:=ho (kh,.row 4 (hoW (700+d) hs)) (List.mem_append_right _ (List.mem_append_right _ (by simp[hrO,c])));simpa [c,Ya,AV.keys] using this
   . unfold ptV;by_cases c:Q=[]
     . simp[c,Ya,AV.keys]
     . have:=ho (kp,.row 7 (Q.map ptA)) (List.mem_append_right _ (List.mem_append_left _ (by simp[ptR,c])));simpa [c,Ya,AV.keys] using this
 . refine ⟨AV.ren_pure _ p1,AV.ren_pure _ p2,?_,?_⟩
   . unfold hlV;split <;> simp[AV.ren]
   . unfold ptV;split <;> simp[AV.ren]
 . exact ⟨rfl,rfl,rfl,rfl⟩
 . exact ⟨p1,p2,p3,p4⟩
 . intro st;simp only[snap,Yh,Yj,p1,p2,p3,p4,if_true,W0m]
 . exact λst h=>sn_rc (by omega) fr pIR pNL h
 . exact λR t0 C ht=>Zod (by omega) (by omega) q1 q2 q3 (by omega) (by omega) (λh hh=>by have:=hdl h hh;omega) ht
def Zoi (hG:GC G) (hN:GN G) (hP:GP G) (r:Jr) (l:Jl) (hs:Jh) (ps:Jp) (day:Int) (A B:List Int) (hl:WfN l) (hr:Wf r) (hd:Sml (nums r)) (hw:WfP hs ps) (h0:as7 r l hs ps day 1≠0) :
  PC prog G 6 [prA r l hs ps,.int .i64 day,.vsl (A.map ia),.vsl (B.map ia)] (.tup [.agg [.nils,.nils,.nils,.nils],.int .i64 (as7 r l hs ps day 1)]):=by
 have ha:=Zj5 hG hN hP r l hs ps day 1 hl hr hd hw;unfold asP at ha;rw[if_neg h0]at ha;unfold prA at *
 (refine Z5F rfl λR hG hrd=>Qga ?_;subst hG)
 simp -implicitDefEqProofs[Z5D,Z5E];refine Qco (ha) ?_;simp -implicitDefEqProofs[h0]
def Zoj (r:Jr) (l:Jl) (hs:Jh) (ps:Jp) (day:Int) (A B:List Int) (hl:WfN l) (hr:Wf r) (hd:Sml (nums r)) (hw:WfP hs ps) (h0:as7 r l hs ps day 1≠0) :
  PC prog G 7 [prA r l hs ps,.int .i64 day,.vsl (A.map ia),.vsl (B.map ia)] (.tup [.agg [.nils,.nils,.nils,.nils],.int .i64 (as7 r l hs ps day 1)]):=by
 have ha:=Zku (G:=G) r l hs ps day 1 hl hr hd hw;unfold prA at *
 (refine Zn0 rfl λR hG hrd=>Qga ?_;subst hG)
 simp -implicitDefEqProofs[ZmY,ZmZ];refine Qco (ha) ?_;simp -implicitDefEqProofs[h0]
def Zok (hG:GC G) (hN:GN G) (hP:GP G) (r:Jr) (l:Jl) (hs:Jh) (ps:Jp) (x:Prt) (hl:WfN l) (hr:Wf r) (hd:Sml (nums r)) (hw:WfP hs ps) (h0:ck7 r l hs ps≠0) :
  PC prog G 8 [prA r l hs ps,.agg (ptA x)] (.tup [.agg [.nils,.nils,.nils,.nils],.int .i64 (ck7 r l hs ps)]):=by
 have ho:=Zj3 hG hN hP r l hs ps hl hr hd hw;have hpx:ptA x=[.int .i64 x.no,.int .i64 x.dy,.int .i64 x.ho,.int .i64 x.dw,.int .i64 x.lt,.int .i64 x.bk,.int .u8 x.lo]:=rfl;unfold opP at ho;rw[if_neg h0]at ho;unfold prA at *
 (refine Z5O rfl λR hG hrd=>Qga ?_;subst hG)
 simp -implicitDefEqProofs[Z5M,Z5N,hpx];refine Qco (ho) ?_;simp -implicitDefEqProofs[h0]
def Zol (r:Jr) (l:Jl) (hs:Jh) (ps:Jp) (x:Prt) (hl:WfN l) (hr:Wf r) (hd:Sml (nums r)) (hw:WfP hs ps) (h0:ck7 r l hs ps≠0) :
  PC prog G 9 [prA r l hs ps,.agg (ptA x)] (.tup [.agg [.nils,.nils,.nils,.nils],.int .i64 (ck7 r l hs ps)]):=by
 have ck:=Zkt (G:=G) r l hs ps hl hr hd hw;have hpx:ptA x=[.int .i64 x.no,.int .i64 x.dy,.int .i64 x.ho,.int .i64 x.dw,.int .i64 x.lt,.int .i64 x.bk,.int .u8 x.lo]:=rfl;unfold prA at *
 (refine Zn3 rfl λR hG hrd=>Qga ?_;subst hG)
 simp -implicitDefEqProofs[Zn1,Zn2,hpx];refine Qco (ck) ?_;simp -implicitDefEqProofs[h0]
theorem Zom (hG:GC G) (hN:GN G) (hP:GP G) (r:Jr) (l:Jl) (hs:Jh) (ps:Jp) (day:Int) (A B:List Int) (hl:WfN l) (hr:Wf r) (hd:Sml (nums r)) (hw:WfP hs ps) (hA:Sml A) (hB:Sml B) :
  Nonempty (Pk G 6 7 [prA r l hs ps,.int .i64 day,.vsl (A.map ia),.vsl (B.map ia)] true):=by
 have pa:[prA r l hs ps,.int .i64 day,.vsl (A.map ia),.vsl (B.map ia)].all AV.pure=true:=(by simp[prA,AV.pure,isa,na,hoa,ptA,ia]);by_cases h0:as7 r l hs ps day 1=0
 . obtain ⟨h6,n60,hne,-,hnl⟩:=Zmw (Zkv h0).1;have c1:=Zmx hG hN hP r l hs ps day A B hl hr hne (by omega) hd hw hA hB;have c2:=ZnV (G:=G) r l hs ps day A B hl hr hne hd hw hA hB;unfold clA at c1 c2;by_cases hE:clE r l hs ps day A B=0
   . rw[if_pos hE,hE]at c2
     exact pkOk r l hs (ps.map (calP l hs day A B)) hr.1 hl.1 ⟨hw.hl,by simpa using hw.pl,hw.dl,λy hy=>by
      obtain ⟨z,hz,rfl⟩:=W0i.1 hy;have:=hw.po z hz;unfold calP
      split <;> simp_all [POk]⟩ (by have:=Zn8 hG hN hP r l hs ps day A B hl hr hne (by omega) hd hw hA hB hE;simpa [ptV] using this) c2
   . rw[if_neg hE]at c1 c2;exact pkErr c1 c2 pa
 . exact pkErr (Zoi hG hN hP r l hs ps day A B hl hr hd hw h0) (Zoj r l hs ps day A B hl hr hd hw h0) pa
theorem Zon (hG:GC G) (hN:GN G) (hP:GP G) (r:Jr) (l:Jl) (hs:Jh) (ps:Jp) (x:Prt) (hl:WfN l) (hr:Wf r) (hd:Sml (nums r)) (hw:WfP hs ps) (hx:POk x) :
  Nonempty (Pk G 8 9 [prA r l hs ps,.agg (ptA x)] false):=by
 have pa:[prA r l hs ps,.agg (ptA x)].all AV.pure=true:=(by simp[prA,AV.pure,isa,na,hoa,ptA,ia]);by_cases h0:ck7 r l hs ps=0
 . obtain ⟨h6,n60,hne,-,hnl⟩:=Zmw h0;have hp30:ps.length<=30:=(Zif.1 (Zj1.1 h0).2).2.1;have c2:=Zo1 (G:=G) r l hs ps x hl hr hne hd hw hx;unfold snA at c2;by_cases hE:snE r l hs ps x=0
   . rw[if_pos hE,hE]at c2;have hq:(putP ps x (plP ps x)).length=ps.length+1:=Zi8;refine pkOk r l hs (putP ps x (plP ps x)) hr.1 hl.1 ⟨hw.hl,by omega,hw.dl,λy hy=>?_⟩ ?_ c2
     . rcases Zi7.1 hy with rfl|hy
       . exact hx
       . exact hw.po y hy
     . have h:=ZnI hG hN hP r l hs ps x hl hr hne (by omega) hd hw hx hE;have hn:putP ps x (plP ps x)≠[]:=λe=>by rw[e]at hq;simp at hq
       have e1:ptV 621 (putP ps x (plP ps x)) = .osl 621 (ps.length+1):=(by simp[ptV,hn,hq]);have e2:ptR 621 (putP ps x (plP ps x))=[(621,.row 7 ((putP ps x (plP ps x)).map ptA))]:=(by simp[ptR,hn]);rw[e1,e2];exact h
   . rw[if_neg hE]at c2;have c1:=Znz hG hN hP r l hs ps x hl hr hne (by omega) hd hw hx;unfold snA at c1;rw[if_neg hE]at c1;exact pkErr c1 c2 pa
 . exact pkErr (Zok hG hN hP r l hs ps x hl hr hd hw h0) (Zol r l hs ps x hl hr hd hw h0) pa
def Zoo (hG:GC G) (hN:GN G) (hP:GP G) (r:Jr) (l:Jl) (hs:Jh) (ps:Jp) (day:Int) (A B:List Int) (x:Prt) (hr:∀ x∈r,KOk x) (hl:∀ x∈l,NOk7 x) (hp:∀ x∈ps,POk x) (hx:POk x) :
  PC prog G 3 [prA r l hs ps,.int .i64 day,.vsl (A.map ia),.vsl (B.map ia),.agg (ptA x)] (.bool true):=by
 have c1:=Zl3 (G:=G) r l hs ps;have hpx:ptA x=[.int .i64 x.no,.int .i64 x.dy,.int .i64 x.ho,.int .i64 x.dw,.int .i64 x.lt,.int .i64 x.bk,.int .u8 x.lo]:=rfl
 cases h:gr7 r l hs ps
 case true =>
  rw[h]at c1;unfold prA at *
  (refine ZmX rfl λR hG hrd=>Qga ?_;subst hG)
  simp -implicitDefEqProofs[ZmV,ZmW,hpx];refine Qco (c1) ?_;simp -implicitDefEqProofs
 rw[h]at c1;by_cases hA:(20:Int)<A.length
 . unfold prA at *
   (refine ZmX rfl λR hG hrd=>Qga ?_;subst hG)
   simp -implicitDefEqProofs[ZmV,ZmW,hpx];refine Qco (c1) ?_;simp -implicitDefEqProofs[hA]
 by_cases hB:(20:Int)<B.length
 . unfold prA at *
   (refine ZmX rfl λR hG hrd=>Qga ?_;subst hG)
   simp -implicitDefEqProofs[ZmV,ZmW,hpx];refine Qco (c1) ?_;simp -implicitDefEqProofs[hA,hB]
 obtain ⟨wl,wr,wd,wp⟩:=Zl6 h hr hl hp;have sA:Sml A:=(by unfold Sml;omega);have sB:Sml B:=(by unfold Sml;omega);have c2:=Zl5 (G:=G) r l hs ps wr.1 wl.1 wp;obtain ⟨⟨ea,F1,F1',a0,a1,a2,a3,b0,b1,b2,b3,va,pb1,pc1,sm1,fr1,fr1',ks1,cl1',one1,ka1,ra1,ob1,pu1,sb1,sn1,bu1⟩⟩:=Zom hG hN hP r l hs ps day A B wl wr wd wp sA sB;obtain ⟨⟨ec,F2,F2',c0,c1',c2',c3,d0,d1,d2,d3,vc,pb2,pc2,sm2,fr2,fr2',ks2,cl2',one2,ka2,ra2,ob2,pu2,sb2,sn2,bu2⟩⟩:=Zon hG hN hP r l hs ps x wl wr wd wp hx;have sm:=Zl4 (G:=G) r l hs ps wr.1 wl.1 wp;have s2i:=Z9O (G:=G) A A sA;have s3:=Z9O (G:=G) B B sB;refine ZmX rfl λR hG' hrd=>?_
 subst hG';have bA:A.length*8<=70368744177664:=(by omega);have bB:B.length*8<=70368744177664:=(by omega);have k1:(A.map ia).all (λr=>r.length == 1)=true:=(by simp[ia]);have k2:(A.map ia).all (λr=>r.all AV.one)=true:=(by simp[ia,AV.one]);have k3:(B.map ia).all (λr=>r.length == 1)=true:=(by simp[ia]);have k4:(B.map ia).all (λr=>r.all AV.one)=true:=(by simp[ia,AV.one]);obtain ⟨IR,hIR⟩:=Qex (r.map isa);obtain ⟨NL,hNL⟩:=Qex (l.map na);obtain ⟨HL,hHL⟩:=Qex (hs.map hoa);obtain ⟨PL,hPL⟩:=Qex (ps.map ptA);have eP:prA r l hs ps = .agg [.vsl IR,.vsl NL,.vsl HL,.vsl PL]:=(by rw[hIR,hNL,hHL,hPL];rfl);have pP:(prA r l hs ps).pure=true:=(by simp[prA,AV.pure,isa,na,hoa,ptA]);rw[eP]at c1 c2 pb1 pc1 pb2 pc2 sm pP ⊢;refine Yb mixed 10 ?_;simp -implicitDefEqProofs[ZmV,ZmW,hpx];refine Qco (c1) ?_;simp -implicitDefEqProofs[hA,hB];have pIR:(IR.all λr=>r.all AV.pure)=true:=(by rw[hIR];simp[isa,AV.pure]);have pNL:(NL.all λr=>r.all AV.pure)=true:=(by rw[hNL];simp[na,AV.pure]);have pHL:(HL.all λr=>r.all AV.pure)=true:=(by rw[hHL];simp[hoa,AV.pure]);have pPL:(PL.all λr=>r.all AV.pure)=true:=(by rw[hPL];simp[ptA,AV.pure]);have kIR:=AV.pure_keys (.vsl IR) (by simpa [AV.pure] using pIR);have kNL:=AV.pure_keys (.vsl NL) (by simpa [AV.pure] using pNL);have kHL:=AV.pure_keys (.vsl HL) (by simpa [AV.pure] using pHL);have kPL:=AV.pure_keys (.vsl PL) (by simpa [AV.pure] using pPL);refine GO0 (ZcR (S:=⟨[(13,.vsl (B.map ia)),(12,.vsl (A.map ia)),(11,.ptr 11 0),(9,.ptr 9 0),(5,.ptr 5 0),(3,.vsl (B.map ia)),(2,.vsl (A.map ia)),(1,.int .i64 day)],[(5,.box [.vsl IR,.vsl NL,.vsl HL,.vsl PL]),(9,.box [.int .i64 x.no,.int .i64 x.dy,.int .i64 x.ho,.int .i64 x.dw,.int .i64 x.lt,.int .i64 x.bk,.int .u8 x.lo]),(11,.box [.vsl IR,.vsl NL,.vsl HL,.vsl PL])]⟩) (Qga ?_) ?_)
 . simp -implicitDefEqProofs;refine Qco (c2) ?_;by_cases cA:A=[] <;> by_cases cB:B=[]
   all_goals
    simp -implicitDefEqProofs[cA,cB,bA,bB,k1,k2,k3,k4];refine Ym.trans (Ym.frz (λk=>k == 42||k == 45) _) ?_
    ((try simp only[Yi,frzA,frzO,frz,Yh,Yj,St.get,AV.pure,ia]);refine Ym.sub (by simp[lk,Ya,AV.keys,Yi,frzA,frzO,frz,Yh,Yj,St.get,AV.pure,ia]) ?_;simp only[Yi,frzA,frzO,frz,Yh,Yj,St.get,AV.pure,ia,Wkl,cA,cB,kIR,kNL,kHL,kPL,and_true];(try simp[lk,Yc,Ya,AV.keys,Yi,frzA,frzO,frz,Yh,Yj,St.get,AV.pure,ia]))
 . refine Qga ?_
   have ha0:∀ p∈F1,lk [(5,AObj.box [AV.vsl IR,.vsl NL,.vsl HL,.vsl PL]),(9,.box [.int .i64 x.no,.int .i64 x.dy,.int .i64 x.ho,.int .i64 x.dw,.int .i64 x.lt,.int .i64 x.bk,.int .u8 x.lo]),(11,.box [.vsl IR,.vsl NL,.vsl HL,.vsl PL])] p.1=none:=λp hp=>by
    have:=fr1.big p hp;rw[lk_ne (by omega),lk_ne (by omega),lk_ne (by omega)];rfl
   have l1:=λC k (hk:k<600)=>fr1.lk C hk
   have p1:=λC k y (hk:k<600)=>fr1.put C y hk
   obtain ⟨o0,o1,o2,o3⟩:=one1;rw[AV.one.eq_def]at o0 o1 o2 o3;obtain ⟨n0,n1,n2,n3⟩:=one2;rw[AV.one.eq_def]at n0 n1 n2 n3;obtain ⟨m0,m1,m2,m3⟩:=ob1;rw[AV.one.eq_def]at m0 m1 m2 m3;obtain ⟨h0,h1,h2,h3⟩:=ob2;rw[AV.one.eq_def]at h0 h1 h2 h3;simp -implicitDefEqProofs;refine Yd.sem (Z1B.front pb1 fr1 (by simp[AV.ren,ra1]) ha0 (by simp[AV.pure,pIR,pNL,pHL,pPL,ia])) ?_;simp -implicitDefEqProofs[l1,p1,o0,o1,o2,o3]
   have hd1:∀ p∈F1,lk F2 p.1=none:=λp hp=>by
    cases e:lk F2 p.1 with
    |none=>rfl
    | some o =>
      have h1:=cl1' p hp;have h2:=cl2' _ (Z4K e);rw[h1]at h2;cases h2
   have hd2:∀ p∈F2,lk F1 p.1=none:=λp hp=>by
    cases e:lk F1 p.1 with
    |none=>rfl
    | some o =>
      have h1:=cl2' p hp;have h2:=cl1' _ (Z4K e);rw[h1]at h2;cases h2
   have g1:∀ t C,∀ p∈F1,(⟨t,F2++(F1++C)⟩ : St).get p.1=some p.2:=λt C p hp=>(Zmy (hd1 p hp)).trans (fr1.mem C hp)
   have g2:∀ t C,∀ p∈F2,(⟨t,F2++(F1++C)⟩ : St).get p.1=some p.2:=λt C p hp=>fr2.mem _ hp
   have l2:=λC k (hk:k<600)=>fr2.lk C hk
   have p2:=λC k y (hk:k<600)=>fr2.put C y hk
   refine Yd.of pc1 (by simp[AV.pure,pIR,pNL,pHL,pPL,ia]) ?_;simp -implicitDefEqProofs[l1,p1,m0,m1,m2,m3]
   refine Yd.sem (Z1B.front pb2 fr2 (by simp[AV.ren,ra2]) (λp hp=>by
    have:=fr2.big p hp;rw[Zmy (hd2 p hp)]
    repeat rw[lk_ne (by omega)]
    rfl) (by simp[AV.pure,pIR,pNL,pHL,pPL])) ?_
   simp -implicitDefEqProofs[l1,p1,l2,p2,n0,n1,n2,n3];refine Yd.of pc2 (by simp[AV.pure,pIR,pNL,pHL,pPL]) ?_;simp -implicitDefEqProofs[l1,p1,l2,p2,h0,h1,h2,h3];refine Yd.flat sm1 (by simp[AV.flat]) (by simp only[Yj,sn1 _ (g1 _ _),sb1]) ?_;simp -implicitDefEqProofs[l1,p1,l2,p2];refine Yd.flat sm2 (by simp[AV.flat]) (by simp only[Yj,sn2 _ (g2 _ _),sb2]) ?_;simp -implicitDefEqProofs[l1,p1,l2,p2];have l1':=λC k (hk:k<600)=>fr1'.lk C hk
   have p1':=λC k y (hk:k<600)=>fr1'.put C y hk
   have l2':=λC k (hk:k<600)=>fr2'.lk C hk
   have hd1':∀ p∈F1',lk F2 p.1=none:=λp hp=>by
    have:p.1∈F1.map (·.1):=(by rw[<- ks1];exact W0i.2 ⟨p,hp,rfl⟩);obtain ⟨q,hq,e⟩:=W0i.1 this;have:=hd1 q hq
    rwa [e]at this
   have hd2':∀ p∈F1',lk F2' p.1=none:=λp hp=>by
    cases e:lk F2' p.1 with
    |none=>rfl
    | some o =>
      have:p.1∈F2.map (·.1):=(by rw[<- ks2];exact W0i.2 ⟨_,Z4K e,rfl⟩);obtain ⟨q,hq,e2⟩:=W0i.1 this;have h3:=hd1' p hp;rw[<- e2,lk_nd fr2.nd q hq]at h3;cases h3
   obtain ⟨C',hC'⟩:=Qex ([(5,AObj.box [.vsl IR,.vsl NL,.vsl HL,.vsl PL]),(11,.box [.vsl IR,.vsl NL,.vsl HL,.vsl PL]),(96,.row 4 [[a0,a1,a2,a3],[c0,c1',c2',c3]])]);obtain ⟨t0,ht0⟩ : ∃ t0:Nat->List (Nat×AV),t0=λi=>[(98,.int .i64 i),(97,.int .i64 2),(96,.osl 96 2),(22,.bool true),(13,.vsl (B.map ia)),(12,.vsl (A.map ia)),(11,.ptr 11 0),(5,.ptr 5 0),(3,.vsl (B.map ia)),(2,.vsl (A.map ia))]:=⟨_,rfl⟩
   have kR:∀ o',(∀ q∈F1,(lk o' q.1).isSome=true)->(∀ q∈F2,(lk o' q.1).isSome=true)->Yc o' (.row 4 [[a0,a1,a2,a3],[c0,c1',c2',c3]])=true:=λo' u v=>by
    obtain ⟨u0,u1,u2,u3⟩:=ka1 o' u;obtain ⟨v0,v1,v2,v3⟩:=ka2 o' v;simp[Yc,u0,u1,u2,u3,v0,v1,v2,v3]
   have s1:∀ C,∀ q∈F1,(lk (F2++(F1++C)) q.1).isSome=true:=λC q hq=>by rw[Zmy (hd1 q hq),fr1.mem _ hq];rfl
   have s2:∀ C,∀ q∈F2,(lk (F2++C) q.1).isSome=true:=λC q hq=>by rw[fr2.mem _ hq];rfl
   have s1':∀ C,∀ q∈F1,(lk (F2++(F1'++C)) q.1).isSome=true:=λC q hq=>by
    have:q.1∈F1'.map (·.1):=(by rw[ks1];exact W0i.2 ⟨q,hq,rfl⟩);obtain ⟨p,hp,e⟩:=W0i.1 this;rw[<- e,Zmy (hd1' p hp),fr1'.mem _ hp];rfl
   have s2':∀ C,∀ q∈F2,(lk (F2'++C) q.1).isSome=true:=λC q hq=>by
    have:q.1∈F2'.map (·.1):=(by rw[ks2];exact W0i.2 ⟨q,hq,rfl⟩);obtain ⟨p,hp,e⟩:=W0i.1 this;rw[<- e,fr2'.mem _ hp];rfl
   have s1'':∀ C,∀ q∈F1,(lk (F2'++(F1'++C)) q.1).isSome=true:=λC q hq=>by
    have:q.1∈F1'.map (·.1):=(by rw[ks1];exact W0i.2 ⟨q,hq,rfl⟩);obtain ⟨p,hp,e⟩:=W0i.1 this;rw[<- e,Zmy (hd2' p hp),fr1'.mem _ hp];rfl
   have kB:∀ o',Yc o' (.box [.vsl IR,.vsl NL,.vsl HL,.vsl PL])=true:=λo'=>by simp[Yc,Ya,kIR,kNL,kHL,kPL]
   refine Z9H (λi=>⟨t0 i,(if i=2 then F2' else F2)++((if i=0 then F1 else F1')++C')⟩) (λ_=>True) 2 ?_ trivial ?_ ?_
   . show Ym _ ⟨t0 0,F2++(F1++C')⟩;rw[hC',ht0];refine Ym.two fr1 fr2 hd1 ?_ ?_
     . simp only[W0g,W0Q,or_false,W1M,forall_eq];simp[lk,Ya,AV.keys,l1,l2]
     . simp only[W0g,W0Q,or_false,W1M,forall_eq];exact ⟨⟨by simp[lk,l1,l2],kB _⟩,⟨by simp[lk,l1,l2],kB _⟩,⟨by simp[lk,l1,l2] <;> rfl,kR _ (s1 _) (s2 _)⟩⟩
   . intro i hi _;have hi2:i=0∨i=1:=(by omega);rcases hi2 with rfl|rfl
     . show AR _ _ _ ⟨t0 0,F2++(F1++C')⟩ _;refine Yb mixed 7 ?_;rw[hC',ht0];simp -implicitDefEqProofs[l1,l2,p1,p2];rw[<- hC'];refine GO0 (ZcR (S:=⟨t0 0,F2++(F1'++C')⟩) (Yb mixed 4 ?_) (Qga ?_))
       . rw [hC'];simp -implicitDefEqProofs[l1,l2,p1,p2,o0,o1,o2,o3];refine GO0 (Z2R (st':=⟨(24,.ptr 24 0)::t0 0,F1++((24,.box [a0,a1,a2,a3])::(F2++C'))⟩) ?_ ?_)
         . refine Ym.trans (b:=⟨(24,.ptr 24 0)::t0 0,F2++(F1++((24,.box [a0,a1,a2,a3])::C'))⟩) ?_ (Ym.obj (Zoe hd1 (fr2.low (k:=24) (by omega))));rw[hC',ht0];refine Ym.two fr1 fr2 hd1 ?_ ?_
           . simp only[W0g,W0Q,or_false,W1M,forall_eq];simp[lk,Ya,AV.keys,l1,l2]
           . simp only[W0g,W0Q,or_false,W1M,forall_eq];refine ⟨⟨by simp[lk,l1,l2],?_⟩,⟨by simp[lk,l1,l2],kB _⟩,⟨by simp[lk,l1,l2],kB _⟩,⟨by simp[lk,l1,l2],kR _ (s1 _) (s2 _)⟩⟩;obtain ⟨u0,u1,u2,u3⟩:=ka1 _ (s1 ((24,.box [a0,a1,a2,a3])::[(5,AObj.box [.vsl IR,.vsl NL,.vsl HL,.vsl PL]),(11,.box [.vsl IR,.vsl NL,.vsl HL,.vsl PL]),(96,.row 4 [[a0,a1,a2,a3],[c0,c1',c2',c3]])]));simp[Yc,u0,u1,u2,u3]
         refine Z2I (bu1 R (t0 0) (F2++C') ?_) ?_
         . rw[ht0];simp[lk]
         rintro e s ⟨rfl,hw⟩;refine Qgr ?_;simp -implicitDefEqProofs;refine Ym.trans hw (Ym.trans (Ym.obj (o':=F2++(F1'++((24,.box [a0,a1,a2,a3])::C'))) λk=>(Zoe hd1' (fr2.low (k:=24) (by omega)) k).symm) ?_);rw[hC',ht0];refine Ym.two fr1' fr2 hd1' ?_ ?_
         . simp only[W0g,W0Q,or_false,W1M,forall_eq];simp[lk,Ya,AV.keys,l1',l2]
         . simp only[W0g,W0Q,or_false,W1M,forall_eq];exact ⟨⟨by simp[lk,l1',l2],kB _⟩,⟨by simp[lk,l1',l2],kB _⟩,⟨by simp[lk,l1',l2],kR _ (s1' _) (s2 _)⟩⟩
       . rw[hC',ht0];simp -implicitDefEqProofs;refine Qgr ?_;simp -implicitDefEqProofs;exact Ym.tm (by simp[lk];rfl)
     . show AR _ _ _ ⟨t0 1,F2++(F1'++C')⟩ _;refine Yb mixed 7 ?_;rw[hC',ht0];simp -implicitDefEqProofs[l1',l2,p1',p2];rw[<- hC'];refine GO0 (ZcR (S:=⟨t0 1,F2'++(F1'++C')⟩) (Yb mixed 4 ?_) (Qga ?_))
       . rw [hC'];simp -implicitDefEqProofs[l1',l2,p1',p2,n0,n1,n2,n3];refine GO0 (Z2R (st':=⟨(24,.ptr 24 0)::t0 1,F2++((24,.box [c0,c1',c2',c3])::(F1'++C'))⟩) ?_ ?_)
         . refine Ym.trans (b:=⟨(24,.ptr 24 0)::t0 1,F2++(F1'++((24,.box [c0,c1',c2',c3])::C'))⟩) ?_ (Ym.obj λk=>(Zob (λk=>Zoa (fr1'.low (k:=24) (by omega)) k) k).symm);rw[hC',ht0];refine Ym.two fr1' fr2 hd1' ?_ ?_
           . simp only[W0g,W0Q,or_false,W1M,forall_eq];simp[lk,Ya,AV.keys,l1',l2]
           . simp only[W0g,W0Q,or_false,W1M,forall_eq];refine ⟨⟨by simp[lk,l1',l2],?_⟩,⟨by simp[lk,l1',l2],kB _⟩,⟨by simp[lk,l1',l2],kB _⟩,⟨by simp[lk,l1',l2],kR _ (s1' _) (s2 _)⟩⟩;obtain ⟨u0,u1,u2,u3⟩:=ka2 _ (s2 (F1'++((24,.box [c0,c1',c2',c3])::[(5,AObj.box [.vsl IR,.vsl NL,.vsl HL,.vsl PL]),(11,.box [.vsl IR,.vsl NL,.vsl HL,.vsl PL]),(96,.row 4 [[a0,a1,a2,a3],[c0,c1',c2',c3]])])));simp[Yc,u0,u1,u2,u3]
         refine Z2I (bu2 R (t0 1) (F1'++C') ?_) ?_
         . rw[ht0];simp[lk]
         rintro e s ⟨rfl,hw⟩;refine Qgr ?_;simp -implicitDefEqProofs;refine Ym.trans hw (Ym.trans (Ym.obj (o':=F2'++(F1'++((24,.box [c0,c1',c2',c3])::C'))) λk=>Zob (λk=>Zoa (fr1'.low (k:=24) (by omega)) k) k) ?_);rw[hC',ht0];refine Ym.two fr1' fr2' hd2' ?_ ?_
         . simp only[W0g,W0Q,or_false,W1M,forall_eq];simp[lk,Ya,AV.keys,l1',l2']
         . simp only[W0g,W0Q,or_false,W1M,forall_eq];exact ⟨⟨by simp[lk,l1',l2'],kB _⟩,⟨by simp[lk,l1',l2'],kB _⟩,⟨by simp[lk,l1',l2'],kR _ (s1'' _) (s2' _)⟩⟩
       . rw[hC',ht0];simp -implicitDefEqProofs;refine Qgr ?_;simp -implicitDefEqProofs;exact Ym.tm (by simp[lk];rfl)
   . intro _;show AR _ _ _ ⟨t0 2,F2'++(F1'++C')⟩ _;refine Qga ?_;rw[hC',ht0];simp -implicitDefEqProofs[l1',l2'];refine Qgr ?_;simp -implicitDefEqProofs[l1',l2'];refine Yd.of sm (by simp[AV.pure,pIR,pNL,pHL,pPL]) ?_;simp -implicitDefEqProofs[l1',l2'];refine Yd.of s2i (by simp[AV.pure,ia]) ?_;simp -implicitDefEqProofs[l1',l2'];refine Yd.of s3 (by simp[AV.pure,ia]) ?_;simp -implicitDefEqProofs[l1',l2'];refine Qgr ?_;simp -implicitDefEqProofs[l1',l2']
def Zop {xs:List AV} (h:TVs [.int .i64] xs):∃ n:Int,xs=ia n:=by
 obtain ⟨x0,_,rfl,h0,h⟩:=h.cons_inv;obtain rfl:=h.nil_inv;obtain ⟨n,rfl,-⟩:=h0.int_inv;exact ⟨n,rfl⟩
open Go.ChangeShapes Go.WideShapes Go.ChangeAt Go.WideMaps Go.WideElems Go.RowKit Go.Deep
def laid7:List (String×DataW Unit):=[("blueline/sheet.checks",Rows.laid_blueline_sheet_checks),("blueline/note.checks",Rows.laid_blueline_note_checks),("blueline/recall.checks",Rows.laid_blueline_recall_checks)]
def Zoq (os:Os) (args:Array Value):laidMetH prog laid7 ((World.doorLaid prog 41 os).forCall (λ_ _=>0) ⟨#[],args,[]⟩).memory :=
 laidMetH_of_parts3 (fuel:=8) (laidMet_of_run' 8 (by kernel_rfl) (by kernel_rfl)) (by kernel_rfl) (by kernel_rfl)
def cellF {W:World} {fuel:Nat} {c:Value} {y:DataW (List UInt8)×List MemPlace} {tE:Nat} {fld:Field} {ps rs:Array TypeId} {vd:Bool} {b:UInt8} {s:List UInt8} {f0:FuncId}
  (uE:prog.underlying tE=some (.struct #[fld])) (hfo:fld.offset=0) (uF:prog.underlying fld.type=some (.func ps rs vd)) (cF:prog.cellsOf fld.type=1)
  (hone:((List.range prog.funcs.size).filter λf=>(prog.funcs[f]?).any (·.name.toUTF8.data.toList == b::s))=[f0])
  (h:DataW.trod (funcToken prog) prog W 0 (λ_=>true) true fuel tE [c]=some y) (hy:y.1 = .agg [.held (b::s)]):c = .func (.func f0) #[] #[]:=by
 obtain ⟨y0,n,rfl,-,h0⟩:=trod_struct1 uE h;rw[hfo,W1P,cF]at h0;simp only[DataW.agg.injEq,W2e,and_true]at hy;exact func_of_trod (q:=y0.2) uF hone (by rw[<- hy];simpa using h0)
def Zor {W:World} {laid:List (String×DataW Unit)} {nm:String} {d:DataW Unit} {g tA tE:Nat} {fld:Field} {ps rs:Array TypeId} {vd:Bool} {n:Nat} (toks:List (List UInt8)) (fs:List FuncId)
  (h:laidMetH prog laid W) (hm:(nm,DataW.iface "func table" d)∈laid) (hg:prog.globalNamed nm=some g) (ht:(prog.globals[g]?).map (·.type)=some tA)
  (uA:prog.underlying tA=some (.array n tE)) (uE:prog.underlying tE=some (.struct #[fld])) (hfo:fld.offset=0) (uF:prog.underlying fld.type=some (.func ps rs vd))
  (cA:prog.cellsOf tA=n) (cE:prog.cellsOf tE=1) (cF:prog.cellsOf fld.type=1) (hl1:toks.length=n) (hl2:fs.length=n)
  (hd0:(d.funcsOut:DataW (List UInt8)) = .agg (toks.map λs=>.agg [.held s]))
  (hone:∀ (i:Nat) (s:List UInt8) (f:FuncId),toks[i]? = some s->fs[i]? = some f->∃ b r,s=b::r/\((List.range prog.funcs.size).filter λf=>(prog.funcs[f]?).any (·.name.toUTF8.data.toList == b::r))=[f]) :
  ∃ t fr,W.heap[g]? = some (.cells ((fs.map λf=>Value.func (.func f) #[] #[]).toArray) t fr):=by
 obtain ⟨g',t,cs,fuel,p,hg',ht',hv,hd⟩:=h.funcs hm;obtain rfl:=W1L (hg.symm.trans hg');obtain rfl:=W1L (ht.symm.trans ht');obtain ⟨xs,m,rfl,hx,hlen,hn,hel⟩:=DataW.trod_array uA hd;rw[cA]at hlen;rw[cE]at hel;rw[hd0,W06,DataW.agg.injEq]at hx;have hx:=hx.1
 have hcs:cs.toList=fs.map λf=>Value.func (.func f) #[] #[]:=by
  refine List.ext_getElem? λi=>?_
  by_cases hi:i<n
  . have e:=hel i hi;have h1:i<xs.length:=(by omega);have h2:i<toks.length:=(by omega);have h3:i<fs.length:=(by omega);have h4:i<cs.toList.length:=(by omega);obtain ⟨b,r,hb,ho⟩:=hone i _ _ (W07 h2) (W07 h3);rw[Nat.mul_one,W0x h4,List.take_succ_cons,W1g,W07 h1]at e;have ey:=congrArg (λl=>l[i]?) hx;simp only[W09,W07 h2,W07 h1,W0m,W00]at ey;rw[hb]at ey;have:=cellF uE hfo uF cF ho e ey.symm;rw[W07 h4,W09,W07 h3,this];rfl
  . rw[W24 (by omega),W24 (by simp;omega)]
 simp only[World.var?,hg,W1o]at hv
 split at hv
 . rename_i cs' t fr heq;injection hv with hv
   have e:cs=(fs.map λf=>Value.func (.func f) #[] #[]).toArray:=(by rw[<- hcs]);exact ⟨t,fr,by rw[heq,hv,e]⟩
 . cases hv
def TabB (W:World) (g:Nat) (fs:List FuncId):Prop:=∃ t fr,W.heap[g]? = some (.cells ((fs.map λf=>Value.func (.func f) #[] #[]).toArray) t fr)
def tabA (fs:List FuncId):List AV:=fs.map λf=>.func (.func f) [] []
def Zos {W:World} {g:Nat} {fs:List FuncId} (h:TabB W g fs):PV noM W (.vptr (tabA fs) 0) (.pointer (some ⟨g,0,none⟩)):=by
 obtain ⟨t,fr,hb⟩:=h;refine .vptr _ 0 g 0 (λj=>(((fs.map λf=>Value.func (.func f) #[] #[]).toArray)[j]?).getD undef) (W0c.1 hb).1 id ?_ ?_
 . intro j hj;have hj':j<fs.length:=(by simpa [tabA] using hj);simp[World.cell?,hb,hj']
 . intro j x hx;unfold tabA at hx;rw[W09,W04]at hx;obtain ⟨f,hf,rfl⟩:=hx;have hj':=(W02.1 hf).1;have e:((fs.map λf=>Value.func (.func f) #[] #[]).toArray)[j]? = some (.func (.func f) #[] #[]):=(by simp[hf]);rw[e];exact .func _ [] [] #[] #[] rfl rfl (by simp) (by simp)
def fsC:List FuncId:=[185,186,187,188]
def fsN:List FuncId:=[168,169,170,171,173,174,177,179]
def fsR:List FuncId:=[160,161,162,165,166]
set_option maxRecDepth 100000 in
def Zot {W:World} (h:laidMetH prog laid7 W):TabB W 1 fsN :=
 Zor [[98,108,117,101,108,105,110,101,47,110,111,116,101,46,99,104,101,99,107,115,36,49],[98,108,117,101,108,105,110,101,47,110,111,116,101,46,99,104,101,99,107,115,36,50],[98,108,117,101,108,105,110,101,47,110,111,116,101,46,99,104,101,99,107,115,36,51],[98,108,117,101,108,105,110,101,47,110,111,116,101,46,99,104,101,99,107,115,36,52],[98,108,117,101,108,105,110,101,47,110,111,116,101,46,99,104,101,99,107,115,36,53],[98,108,117,101,108,105,110,101,47,110,111,116,101,46,99,104,101,99,107,115,36,54],[98,108,117,101,108,105,110,101,47,110,111,116,101,46,99,104,101,99,107,115,36,55],[98,108,117,101,108,105,110,101,47,110,111,116,101,46,99,104,101,99,107,115,36,56]] fsN h (W0z _ (W0H ..)) (by kernel_rfl) (by kernel_rfl) Tryz.underlying165 (fld:=_) Tryz.underlying164 rfl Tryz.underlying155 (by kernel_rfl) (by kernel_rfl) (by kernel_rfl) rfl rfl rfl
 (λi s f hs hf=>by
  match i,hs,hf with
  |0,hs,hf=>cases hs;cases hf;exact ⟨_,_,rfl,by kernel_rfl⟩
  |1,hs,hf=>cases hs;cases hf;exact ⟨_,_,rfl,by kernel_rfl⟩
  |2,hs,hf=>cases hs;cases hf;exact ⟨_,_,rfl,by kernel_rfl⟩
  |3,hs,hf=>cases hs;cases hf;exact ⟨_,_,rfl,by kernel_rfl⟩
  |4,hs,hf=>cases hs;cases hf;exact ⟨_,_,rfl,by kernel_rfl⟩
  |5,hs,hf=>cases hs;cases hf;exact ⟨_,_,rfl,by kernel_rfl⟩
  |6,hs,hf=>cases hs;cases hf;exact ⟨_,_,rfl,by kernel_rfl⟩
  |7,hs,hf=>cases hs;cases hf;exact ⟨_,_,rfl,by kernel_rfl⟩
  |i+8,hs,_=>simp at hs)
set_option maxRecDepth 100000 in
def Zou {W:World} (h:laidMetH prog laid7 W):TabB W 2 fsC :=
 Zor [[98,108,117,101,108,105,110,101,47,115,104,101,101,116,46,99,104,101,99,107,115,36,49],[98,108,117,101,108,105,110,101,47,115,104,101,101,116,46,99,104,101,99,107,115,36,50],[98,108,117,101,108,105,110,101,47,115,104,101,101,116,46,99,104,101,99,107,115,36,51],[98,108,117,101,108,105,110,101,47,115,104,101,101,116,46,99,104,101,99,107,115,36,52]] fsC h (W0H ..) (by kernel_rfl) (by kernel_rfl) Tryz.underlying168 (fld:=_) Tryz.underlying167 rfl Tryz.underlying166 (by kernel_rfl) (by kernel_rfl) (by kernel_rfl) rfl rfl rfl
 (λi s f hs hf=>by
  match i,hs,hf with
  |0,hs,hf=>cases hs;cases hf;exact ⟨_,_,rfl,by kernel_rfl⟩
  |1,hs,hf=>cases hs;cases hf;exact ⟨_,_,rfl,by kernel_rfl⟩
  |2,hs,hf=>cases hs;cases hf;exact ⟨_,_,rfl,by kernel_rfl⟩
  |3,hs,hf=>cases hs;cases hf;exact ⟨_,_,rfl,by kernel_rfl⟩
  |i+4,hs,_=>simp at hs)
set_option maxRecDepth 100000 in
def Zov {W:World} (h:laidMetH prog laid7 W):TabB W 0 fsR :=
 Zor [[98,108,117,101,108,105,110,101,47,114,101,99,97,108,108,46,99,104,101,99,107,115,36,49],[98,108,117,101,108,105,110,101,47,114,101,99,97,108,108,46,99,104,101,99,107,115,36,50],[98,108,117,101,108,105,110,101,47,114,101,99,97,108,108,46,99,104,101,99,107,115,36,51],[98,108,117,101,108,105,110,101,47,114,101,99,97,108,108,46,99,104,101,99,107,115,36,52],[98,108,117,101,108,105,110,101,47,114,101,99,97,108,108,46,99,104,101,99,107,115,36,53]] fsR h (W0z _ (W0z _ (W0H ..))) (by kernel_rfl) (by kernel_rfl) Tryz.underlying141 (fld:=_) Tryz.underlying140 rfl Tryz.underlying138 (by kernel_rfl) (by kernel_rfl) (by kernel_rfl) rfl rfl rfl
 (λi s f hs hf=>by
  match i,hs,hf with
  |0,hs,hf=>cases hs;cases hf;exact ⟨_,_,rfl,by kernel_rfl⟩
  |1,hs,hf=>cases hs;cases hf;exact ⟨_,_,rfl,by kernel_rfl⟩
  |2,hs,hf=>cases hs;cases hf;exact ⟨_,_,rfl,by kernel_rfl⟩
  |3,hs,hf=>cases hs;cases hf;exact ⟨_,_,rfl,by kernel_rfl⟩
  |4,hs,hf=>cases hs;cases hf;exact ⟨_,_,rfl,by kernel_rfl⟩
  |i+5,hs,_=>simp at hs)
def G7:Nat->Option (List AV):=λg=>if g=2 then some (tabA fsC) else if g=1 then some (tabA fsN) else if g=0 then some (tabA fsR) else none
def Zow:GC G7:=rfl
def Zox:GN G7:=rfl
def Zoy:GP G7:=rfl
def Zoz {W:World} (h:laidMetH prog laid7 W):GR G7 noM W:=by
 intro g cs hg;simp only[G7]at hg
 split at hg
 . rename_i e;subst e;cases hg;exact Zos (Zou h)
 . split at hg
   . rename_i e;subst e;cases hg;exact Zos (Zot h)
   . split at hg
     . rename_i e;subst e;cases hg;exact Zos (Zov h)
     . cases hg
def nteK:List TY:=[.int .i64,.int .i64,.int .u8,.int .i64,.int .i64,.int .i64,.int .i64,.int .i64,.bool,.int .u8]
def hldK:List TY:=[.int .i64,.int .i64,.int .i64,.sl [.int .i64]]
def prtK:List TY:=[.int .i64,.int .i64,.int .i64,.int .i64,.int .i64,.int .i64,.int .u8]
def prsK:List TY:=[.sl isK2,.sl nteK,.sl hldK,.sl prtK]
def ZoA {xs:List AV} (h:TVs nteK xs):∃ x:Nte,xs=na x/\NOk7 x:=by
 obtain ⟨x0,_,rfl,h0,h⟩:=h.cons_inv;obtain ⟨x1,_,rfl,h1,h⟩:=h.cons_inv;obtain ⟨x2,_,rfl,h2,h⟩:=h.cons_inv;obtain ⟨x3,_,rfl,h3,h⟩:=h.cons_inv;obtain ⟨x4,_,rfl,h4,h⟩:=h.cons_inv;obtain ⟨x5,_,rfl,h5,h⟩:=h.cons_inv;obtain ⟨x6,_,rfl,h6,h⟩:=h.cons_inv;obtain ⟨x7,_,rfl,h7,h⟩:=h.cons_inv;obtain ⟨x8,_,rfl,h8,h⟩:=h.cons_inv;obtain ⟨x9,_,rfl,h9,h⟩:=h.cons_inv;obtain rfl:=h.nil_inv;obtain ⟨v0,rfl,-⟩:=h0.int_inv;obtain ⟨v1,rfl,-⟩:=h1.int_inv;obtain ⟨v2,rfl,k2⟩:=h2.int_inv;obtain ⟨v3,rfl,-⟩:=h3.int_inv;obtain ⟨v4,rfl,-⟩:=h4.int_inv;obtain ⟨v5,rfl,-⟩:=h5.int_inv;obtain ⟨v6,rfl,-⟩:=h6.int_inv;obtain ⟨v7,rfl,-⟩:=h7.int_inv;obtain ⟨v8,rfl⟩:=h8.bool_inv;obtain ⟨v9,rfl,k9⟩:=h9.int_inv;obtain ⟨a2,b2⟩:=bounds_u8 k2;obtain ⟨a9,b9⟩:=bounds_u8 k9;exact ⟨⟨v0,v1,v2,v3,v4,v5,v6,v7,v8,v9⟩,rfl,a2,b2,a9,b9⟩
def ZoB {xs:List AV} (h:TVs hldK xs):∃ x:Hld,xs=hoa x:=by
 obtain ⟨x0,_,rfl,h0,h⟩:=h.cons_inv;obtain ⟨x1,_,rfl,h1,h⟩:=h.cons_inv;obtain ⟨x2,_,rfl,h2,h⟩:=h.cons_inv;obtain ⟨x3,_,rfl,h3,h⟩:=h.cons_inv;obtain rfl:=h.nil_inv;obtain ⟨v0,rfl,-⟩:=h0.int_inv;obtain ⟨v1,rfl,-⟩:=h1.int_inv;obtain ⟨v2,rfl,-⟩:=h2.int_inv;obtain ⟨rows,rfl,-,g⟩:=h3.sl_inv;obtain ⟨ds,rfl⟩:=ZkP (f:=ia) λr hr=>Zop (g r hr)
 exact ⟨⟨v0,v1,v2,ds⟩,rfl⟩
def ZoC {xs:List AV} (h:TVs prtK xs):∃ x:Prt,xs=ptA x/\POk x:=by
 obtain ⟨x0,_,rfl,h0,h⟩:=h.cons_inv;obtain ⟨x1,_,rfl,h1,h⟩:=h.cons_inv;obtain ⟨x2,_,rfl,h2,h⟩:=h.cons_inv;obtain ⟨x3,_,rfl,h3,h⟩:=h.cons_inv;obtain ⟨x4,_,rfl,h4,h⟩:=h.cons_inv;obtain ⟨x5,_,rfl,h5,h⟩:=h.cons_inv;obtain ⟨x6,_,rfl,h6,h⟩:=h.cons_inv;obtain rfl:=h.nil_inv;obtain ⟨v0,rfl,-⟩:=h0.int_inv;obtain ⟨v1,rfl,-⟩:=h1.int_inv;obtain ⟨v2,rfl,-⟩:=h2.int_inv;obtain ⟨v3,rfl,-⟩:=h3.int_inv;obtain ⟨v4,rfl,-⟩:=h4.int_inv;obtain ⟨v5,rfl,-⟩:=h5.int_inv;obtain ⟨v6,rfl,k6⟩:=h6.int_inv;exact ⟨⟨v0,v1,v2,v3,v4,v5,v6⟩,rfl,bounds_u8 k6⟩
def ZoD {xs:List AV} (h:TVs prsK xs):∃ (r:Jr) (l:Jl) (hs:Jh) (ps:Jp),AV.agg xs=prA r l hs ps/\(∀ x∈r,KOk x)/\(∀ x∈l,NOk7 x)/\∀ x∈ps,POk x:=by
 obtain ⟨x0,_,rfl,h0,h⟩:=h.cons_inv;obtain ⟨x1,_,rfl,h1,h⟩:=h.cons_inv;obtain ⟨x2,_,rfl,h2,h⟩:=h.cons_inv;obtain ⟨x3,_,rfl,h3,h⟩:=h.cons_inv;obtain rfl:=h.nil_inv;obtain ⟨rows,rfl,-,g⟩:=h0.sl_inv;obtain ⟨r,rfl,hr⟩:=ZkX (f:=isa) (p:=KOk) λr hr=>ZkW (g r hr)
 obtain ⟨rows,rfl,-,g⟩:=h1.sl_inv;obtain ⟨l,rfl,hl⟩:=ZkX (f:=na) (p:=NOk7) λr hr=>ZoA (g r hr)
 obtain ⟨rows,rfl,-,g⟩:=h2.sl_inv;obtain ⟨hs,rfl⟩:=ZkP (f:=hoa) λr hr=>ZoB (g r hr)
 obtain ⟨rows,rfl,-,g⟩:=h3.sl_inv;obtain ⟨ps,rfl,hp⟩:=ZkX (f:=ptA) (p:=POk) λr hr=>ZoC (g r hr)
 exact ⟨r,l,hs,ps,rfl,hr,hl,hp⟩
end Go.Proofs.YtldibfhbaaadcaaGreatDoor
