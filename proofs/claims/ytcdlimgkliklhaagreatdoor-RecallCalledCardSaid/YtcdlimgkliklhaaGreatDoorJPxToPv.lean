/-
  The prints that prove the fewest calls: the program's apart.
-/
import Derived.Shelf.Spec.SlicesInsert
import Derived.Test.YtcdlimgkliklhaaGreatDoorJAmLToAmXb
import Derived.Test.YtcdlimgkliklhaaGreatDoorJPfToPw
import Derived.Test.YtcdlimgkliklhaaGreatDoorProg
import Derived.Tactics
import Derived.Tactics2
import Derived.WalkKit
import Derived.Lib.Walk
import Derived.Lib.SliceRun
import Derived.Lib.JoinLaws
import Derived.Lib.AppendZerosOnto
import Derived.Lib.Overlaps
import Derived.Laws.Externs
import Derived.Laws.IdiomCopy
import Derived.Laws.NewBlocks
import Derived.Deep.RegionLaw
import Derived.Test.YtcdlimgkliklhaaGreatDoorJAmSToZa
import Derived.Test.YtcdlimgkliklhaaGreatDoorJRclToEh
import Derived.Test.YtcdlimgkliklhaaGreatDoorJEiToTf
import Derived.Test.YtcdlimgkliklhaaGreatDoorTie
import Derived.Test.YtcdlimgkliklhaaGreatDoorCards
set_option linter.all false
set_option linter.unusedSimpArgs false
set_option linter.unusedVariables false
set_option linter.unusedSectionVars false
namespace Go.Proofs.YtcdlimgkliklhaaGreatDoor
open Go.RowKit
theorem ZmD {x:Prt} {t:List Prt} {m:Nat} {tk:List Prt} (h:tk.any (clP x)=true):apD (x::t) (m+1) tk=apD t (m+1) tk:=by
 rw[apD,if_pos h]
theorem ZmE {x:Prt} {t:List Prt} {m:Nat} {tk o:List Prt} (h:tk.any (clP x)=false) (h2:apD t m (tk++[x])=some o):apD (x::t) (m+1) tk=some o:=by
 rw[apD,if_neg (by simp[h]),h2]
theorem ZmF {x:Prt} {t:List Prt} {m:Nat} {tk:List Prt} (h:tk.any (clP x)=false) (h2:apD t m (tk++[x])=none):apD (x::t) (m+1) tk=apD t (m+1) tk:=by
 rw[apD,if_neg (by simp[h]),h2]
def apR (l:List Prt) (m:Nat) (tk:List Prt):List Prt:=(apD l m tk).getD []
theorem ZmG {l:List Prt} {m:Nat} {tk o:List Prt} (h:apD l m tk=some o) (ht:tk≠[]):o≠[]:=by
 obtain ⟨M,h1,-⟩:=ZbL h;rw[h1];simp[ht]
def apS (W:AV) (l:List Prt) (m i:Nat):St:=⟨[(15,.int .i64 i),(14,.int .i64 l.length),(13,.vsl (l.map ptA)),(0,.vsl (l.map ptA)),(1,.int .i64 (m+1:Nat)),(2,W)],[]⟩
section
variable {G:Nat->Option (List AV)}
theorem ZmH:PC Tryz.prog G 155 [.nils] .nils:=by
 refine PC_of Tryz.func155 rfl (by kernel_rfl) (rc:=ZfS) (by kernel_rfl) (rs:=ZfT) (by kernel_rfl) (W0C rfl) λR _ hG hrd=>Qga ?_
 subst hG;simp -implicitDefEqProofs[ZfS,ZfT]
set_option maxHeartbeats 4000000 in
theorem ZmI:∀ (m:Nat) (l tk:List Prt),m<=1000->l.length+tk.length<=100->PC Tryz.prog G 97 [.vsl (l.map ptA),.int .i64 m,Yg (tk.map ptA)] (Yg ((apR l m tk).map ptA))
 | 0,l,tk,_,hl=>by
   have e:apR l 0 tk=tk:=(by unfold apR;cases l <;> rfl);rw[e];have pW:=ZlT tk;have sW:=ZlU tk;generalize Yg (tk.map ptA)=W at *
   (refine ZfW rfl λR hG hrd=>Qga ?_;subst hG)
   simp -implicitDefEqProofs[ZfU,ZfV,sW]
 | m + 1,l,tk,hm,hl=>by
   have ih:=λi x=>ZmI m (l.drop (i+1)) (tk++[x]) (by omega)
   have pW:=ZlT tk;have kW:=AV.pure_keys _ pW;have wm:IntKind.i64.wrap (((m+1:Nat):Int)-1)=(m:Int):=(by rw[Yf (by omega) (by omega)];omega);have cC:=λx=>PC.sub (Zmd (G:=G) 154 [.vptr (ptA x) 0] (clP x) tk (by simp[AV.pure]) (by unfold Sml;omega) λy _=>Zme x y) (xs:=[Yg (tk.map ptA),.func (.func 154) [] [.vptr (ptA x) 0]]) ⟨.orNil _,.rfl',trivial⟩
   obtain ⟨W,hW⟩ : ∃ W,W=Yg (tk.map ptA):=⟨_,rfl⟩;rw[<- hW]at cC pW kW ⊢;refine ZfW rfl λR hG' hrd=>?_
   subst hG';refine Qga ?_;have hm0:¬((m:Int)+1=0):=(by omega);simp -implicitDefEqProofs[ZfU,ZfV,hm0];refine Z8p (apS W l m) (λi=>apD l (m+1) tk=apD (l.drop i) (m+1) tk) l.length ?_ (by simp) ?_ ?_
   . simp only[apS]
     ((try simp only[kW]);refine Ym.sub (by simp[lk,Ya,AV.keys,kW]) ?_;simp only[kW,Wkl,and_true];(try simp[lk,Yc,Ya,AV.keys,kW]))
   . intro i hi hI;have wi:IntKind.i64.wrap ((i:Int)+1)=((i+1:Nat):Int):=Yf (by omega) (by omega);rw[W0x hi]at hI;obtain ⟨x,hx⟩ : ∃ x,x=l[i]:=⟨_,rfl⟩;rw[<- hx]at hI;have hlx:l[i]=x:=hx.symm;have cC:=cC x;have ih:=ih i x (by simp;omega);have hpt:ptA x=[.int .i64 x.no,.int .i64 x.dy,.int .i64 x.ho,.int .i64 x.dw,.int .i64 x.lt,.int .i64 x.bk,.int .u8 x.lo]:=rfl;rw[hpt]at cC;have sW:∀ ok st,Yh ok st 6 W=some W:=λok st=>by rw[hW];exact ZlU tk ok st
     refine Yb mixed 20 ?_;simp -implicitDefEqProofs[apS,hi,hlx,hpt];refine Yd.flat cC (by simp[AV.flat]) (by simp[Yj,snap,Yh,sW,St.get,lk,okAll,AV.pure]) ?_
     cases hc:tk.any (clP x)
     case true =>
      simp -implicitDefEqProofs[wi];refine Qgr ?_;simp -implicitDefEqProofs[wi];refine ⟨?_,hI.trans (ZmD hc)⟩;simp only[apS]
      ((try simp only[kW]);refine Ym.sub (by simp[lk,Ya,AV.keys,kW]) ?_;simp only[kW,Wkl,and_true];(try simp[lk,Yc,Ya,AV.keys,kW]))
     have wm2:IntKind.i64.wrap (m:Int)=(m:Int):=Yf (by omega) (by omega);have hi0:(0:Int)<=(i:Int)+1:=(by omega);have hp7:∀ x:Prt,(ptA x).length=7:=λ_=>rfl
     have htk:(l.map ptA).take l.length=l.map ptA:=W0J (by simp);have hlm:i+1<=l.length:=hi;have lx:(l.drop (i+1)).map ptA=(l.map ptA).drop (i+1):=List.map_drop
     have eT:Yg ((tk++[x]).map ptA) = .vsl (tk.map ptA++[ptA x]):=by
      unfold Yg;rw[if_neg (by simp),W0r];rfl
     rw[lx,eT]at ih;have pQ:(Yg ((apR (l.drop (i+1)) m (tk++[x])).map ptA)).pure=true:=ZlT _;have kQ:=AV.pure_keys _ pQ
     have hQ:Yg ((apR (l.drop (i+1)) m (tk++[x])).map ptA)=match apD (l.drop (i+1)) m (tk++[x]) with|some o=>.vsl (o.map ptA)|none=>.nils:=by
      unfold apR
      cases e:apD (l.drop (i+1)) m (tk++[x]) with
      |none=>rfl
      | some o =>
        have:=ZmG e (by simp);simp only[W0P,Yg];rw[if_neg (by simpa using this)]
     obtain ⟨Q,hQe⟩ : ∃ Q,Q=Yg ((apR (l.drop (i+1)) m (tk++[x])).map ptA):=⟨_,rfl⟩;rw[<- hQe]at ih pQ kQ hQ;simp -implicitDefEqProofs[];have bb:(tk.length+1)*56<=70368744177664:=(by omega);have pT:∀ L:List Prt,(L.map ptA).all (λr=>r.all AV.pure)=true:=λL=>by simp[ptA,AV.pure]
     by_cases c0:tk=[]
     . have eW:W = .nils:=(by rw[hW,c0];rfl);rw[eW];refine GO0 (ZmC mixed 11 (by decide +kernel) ?_);simp only[W1Z,W1g,W1D,W1P]
       iterate 7 (rw[RE_op (by simp[wants]) (by simp[Z1y])];simp -implicitDefEqProofs[execE,wi,wm,wm2,hlm,hi0,hp7,htk])
       rw[Zk1 (by simp[wants])];simp -implicitDefEqProofs[];refine CallE.of ZmH (by simp[AV.pure]) ?_
       iterate 3 (rw[RE_op (by simp[wants]) (by simp[Z1y])];simp -implicitDefEqProofs[execE,hpt])
       refine ⟨rfl,⟨[(33,.vsl (tk.map ptA++[ptA x])),(28,.int .i64 m),(26,.vsl ((l.map ptA).drop (i+1))),(15,.int .i64 i),(14,.int .i64 l.length),(13,.vsl (l.map ptA)),(0,.vsl (l.map ptA)),(1,.int .i64 (m+1:Nat)),(2,.nils)],[]⟩,Ym.trans (Ym.frz (λk=>k == 33) _) ?_,?_⟩
       . simp only[c0]
         ((try simp only[Yi,frzA,frzO,frz,Yh,Yj,St.get,AV.pure,ptA]);refine Ym.sub (by simp[lk,Ya,AV.keys,Yi,frzA,frzO,frz,Yh,Yj,St.get,AV.pure,ptA]) ?_;simp only[Yi,frzA,frzO,frz,Yh,Yj,St.get,AV.pure,ptA,Wkl,and_true];(try simp[lk,Yc,Ya,AV.keys,Yi,frzA,frzO,frz,Yh,Yj,St.get,AV.pure,ptA]))
       rw[Zk1 (by simp[wants])];simp -implicitDefEqProofs[];refine CallE.of ih (by simp[AV.pure,ptA]) ?_;rw[RE_op (by simp[wants]) (by simp[Z1y])];simp -implicitDefEqProofs[execE];refine ⟨rfl,?_⟩
       cases e:apD (l.drop (i+1)) m (tk++[x]) with
       | some o =>
         rw[e]at hQ;have hQ:Q = .vsl (o.map ptA):=hQ;have ho:¬o=[]:=ZmG e (by simp);have eR:apR l (m+1) tk=o:=(by unfold apR;rw[hI,ZmE hc e];rfl);have pO:=pT o;refine Qgr ?_;simp -implicitDefEqProofs[hQ,ho,eR,Yg];refine Qgr ?_;simp -implicitDefEqProofs[pT o,ptA]
       | none =>
         rw[e]at hQ;have hQ:Q = .nils:=hQ;refine Qgr ?_;simp -implicitDefEqProofs[hQ,wi];refine ⟨?_,hI.trans (ZmF hc e)⟩;simp only[apS]
         ((try simp only[kW]);refine Ym.sub (by simp[lk,Ya,AV.keys,kW]) ?_;simp only[kW,Wkl,and_true];(try simp[lk,Yc,Ya,AV.keys,kW]))
     . have eW:W = .vsl (tk.map ptA):=(by rw[hW,Yg,if_neg (by simpa using c0)]);rw[eW];refine GO0 (ZmC mixed 11 (by decide +kernel) ?_);simp only[W1Z,W1g,W1D,W1P]
       iterate 7 (rw[RE_op (by simp[wants]) (by simp[Z1y])];simp -implicitDefEqProofs[execE,wi,wm,wm2,hlm,hi0,hp7,htk])
       rw[Zk1 (by simp[wants])];simp -implicitDefEqProofs[];refine CallE.new (NewS.of (Zmf tk c0 (by unfold Sml;omega)) (λ_=>30) (by simp) (by simp[St.get,lk]) (by simp[AV.pure,ptA]) rfl) ?_;simp -implicitDefEqProofs[Yl,ZlO,AV.ren]
       iterate 3 (rw[RE_op (by simp[wants]) (by simp[Z1y])];simp -implicitDefEqProofs[execE,hpt,bb])
       refine ⟨rfl,⟨[(33,.vsl (tk.map ptA++[ptA x])),(28,.int .i64 m),(26,.vsl ((l.map ptA).drop (i+1))),(15,.int .i64 i),(14,.int .i64 l.length),(13,.vsl (l.map ptA)),(0,.vsl (l.map ptA)),(1,.int .i64 (m+1:Nat)),(2,.vsl (tk.map ptA))],[]⟩,Ym.trans (Ym.frz (λk=>k == 30) _) ?_,?_⟩
       . ((try simp only[Yi,frzA,frzO,frz,Yh,Yj,St.get,AV.pure,ptA]);refine Ym.sub (by simp[lk,Ya,AV.keys,Yi,frzA,frzO,frz,Yh,Yj,St.get,AV.pure,ptA]) ?_;simp only[Yi,frzA,frzO,frz,Yh,Yj,St.get,AV.pure,ptA,Wkl,and_true];(try simp[lk,Yc,Ya,AV.keys,Yi,frzA,frzO,frz,Yh,Yj,St.get,AV.pure,ptA]))
       rw[Zk1 (by simp[wants])];simp -implicitDefEqProofs[];refine CallE.of ih (by simp[AV.pure,ptA]) ?_;rw[RE_op (by simp[wants]) (by simp[Z1y])];simp -implicitDefEqProofs[execE];refine ⟨rfl,?_⟩
       cases e:apD (l.drop (i+1)) m (tk++[x]) with
       | some o =>
         rw[e]at hQ;have hQ:Q = .vsl (o.map ptA):=hQ;have ho:¬o=[]:=ZmG e (by simp);have eR:apR l (m+1) tk=o:=(by unfold apR;rw[hI,ZmE hc e];rfl);refine Qgr ?_;simp -implicitDefEqProofs[hQ,ho,eR,Yg];refine Qgr ?_;simp -implicitDefEqProofs[pT o,ptA]
       | none =>
         rw[e]at hQ;have hQ:Q = .nils:=hQ;refine Qgr ?_;simp -implicitDefEqProofs[hQ,wi];refine ⟨?_,hI.trans (ZmF hc e)⟩;simp only[apS]
         ((try simp only[kW]);refine Ym.sub (by simp[lk,Ya,AV.keys,kW]) ?_;simp only[kW,Wkl,and_true];(try simp[lk,Yc,Ya,AV.keys,kW]))
   . intro hI
     have e:apR l (m+1) tk=[]:=by
      unfold apR;rw[hI,List.drop_length];rfl
     refine Qga ?_;simp -implicitDefEqProofs[apS];refine Qgr ?_;simp -implicitDefEqProofs[e,Yg]
end
def ca7E (r:List Iss) (l:List Nte) (hs:List Hld) (ps:List Prt) (day:Int):List Int×List Int:=if as7 r l hs ps day 1=0 then caE (hs.map (·.id)) (nums r) (staL l hs ps day) else ([],[])
def ca7A (r:List Iss) (l:List Nte) (hs:List Hld) (ps:List Prt) (day:Int):AV:=.tup [Yg ((ca7E r l hs ps day).1.map ia),Yg ((ca7E r l hs ps day).2.map ia),.int .i64 (as7 r l hs ps day 1)]
def pr7E (r:List Iss) (l:List Nte) (hs:List Hld) (ps:List Prt) (day:Int):List Int:=if as7 r l hs ps day 1=0 then (apR (staL l hs ps day) (szP (caE (hs.map (·.id)) (nums r) (staL l hs ps day))) []).map (·.no) else []
def pr7A (r:List Iss) (l:List Nte) (hs:List Hld) (ps:List Prt) (day:Int):AV:=.tup [Yg ((pr7E r l hs ps day).map ia),.int .i64 (as7 r l hs ps day 1)]
theorem ZmJ {r:List Iss} {hs:List Hld} {L:List Prt} (h6:hs.length<=6) (h60:r.length<=60):(caE (hs.map (·.id)) (nums r) L).1.length<=6/\(caE (hs.map (·.id)) (nums r) L).2.length<=60:=by
 obtain ⟨s,-,e⟩:=ZbN (hs.map (·.id)) (nums r) L;rw[e,plN];refine ⟨?_,?_⟩
 . show (bitL _ s).length<=6;rw[Zi9];have:=Zfd (hs.map (·.id)) s (hs.map (·.id)).length;rw[W0N]at this;show (sbN _ s (hs.map (·.id)).length).length<=6;rw[W0N];omega
 . exact W0O (W0D ..) (W0O (Z8P r) h60)
theorem Nsub.tup {xs ys:List AV} (h:NsubL xs ys):Nsub (.tup xs) (.tup ys):=λM W u hu=>by
 cases hu with
 | tup _ us h1 hx =>
   refine .tup ys us (by rw[h1,h.len]) λi y u hy hu=>?_
   obtain ⟨x,h2,h3⟩:=h.at i y hy;exact h3 _ _ _ (hx i x u h2 hu)
structure Cl7 (r:List Iss) (hs:List Hld) (ps:List Prt):Prop where
 h6:hs.length<=6
 n60:r.length<=60
 ne:r≠[]
 no:(ps.map (·.no)).Nodup
 dl:(nums r).Pairwise (· < ·)
theorem ZmK {r:List Iss} {l:List Nte} {hs:List Hld} {ps:List Prt} (h:ck7 r l hs ps=0):Cl7 r hs ps:=by
 obtain ⟨h1,h2⟩:=Zje.1 h;obtain ⟨⟨q1,-⟩,-,q3,-⟩:=Zil.1 h2;have hL:=Zic (Zjf h1);refine ⟨q1,(ZaD hL).2,Zku (Zjf h1),?_,Z8T (Z8R hL)⟩;rw[List.Nodup,W2n];exact q3.imp λh=>by omega
section
variable {G:Nat->Option (List AV)}
theorem ZmL (r:List Iss) (l:List Nte) (hs:List Hld) (ps:List Prt) (day:Int) (hw:WfP hs ps) (h0:ck7 r l hs ps=0) :
  PC Tryz.prog G 95 [ofA r l hs ps,Yg ((staL l hs ps day).map ptA)] (pvA (caE (hs.map (·.id)) (nums r) (staL l hs ps day))):=by
 obtain ⟨h6,n60,-,hno,hdl⟩:=ZmK h0;have hsub:(staL l hs ps day).Sublist ps:=(by unfold staL;exact List.filter_sublist);have hpl:=hw.pl;have hle:=hsub.length_le;have hit:=Zmv (G:=G) r l hs ps (staL l hs ps day) (hno.sublist (hsub.map _)) (by omega) h6 hdl λx hx=>(Zlm h0 (hsub.subset hx)).2
 have:=Zmb (G:=G) r l hs ps (staL l hs ps day) _ hit λp hp=>by
  unfold plE at hp;obtain ⟨v,hv,rfl⟩:=W0i.1 hp;rw[plN];refine ⟨?_,?_⟩
  . show (bitL _ v).length<=100;rw[Zi9];have:=Zfd (hs.map (·.id)) v (hs.map (·.id)).length;rw[W0N]at this;show (sbN _ v (hs.map (·.id)).length).length<=100;rw[W0N];omega
  . exact W0O (W0D ..) (W0O (Z8P r) (by omega))
 rwa [Zm9]at this
theorem ZmM (hG:GC G) (hN:GN G) (hP:GP G) (r:List Iss) (l:List Nte) (hs:List Hld) (ps:List Prt) (day:Int) (hl:WfN l) (hr:Wf r) (hd:Sml (nums r)) (hw:WfP hs ps) :
  PC Tryz.prog G 36 [prA r l hs ps,.int .i64 day] (ca7A r l hs ps day):=by
 have ha:=Zji hG hN hP r l hs ps day 1 hl hr hd hw;have pO:=Zio r l hs ps;unfold asP at ha;unfold ca7A ca7E;by_cases h0:as7 r l hs ps day 1=0
 case neg =>
  rw[if_neg h0]at ha ⊢;unfold prA at *
  (refine Zmy rfl λR hG hrd=>Qga ?_;subst hG)
  simp -implicitDefEqProofs[Zmw,Zmx];refine Qco (ha) (by simp) ?_;simp -implicitDefEqProofs[h0,Yg]
 have k0:=(ZkC h0).1;have c1:=ZlR hG hN r l hs ps day hl hr hd hw k0;have c2:=ZmL (G:=G) r l hs ps day hw k0;have pS:=ZlT (staL l hs ps day);rw[if_pos h0,h0]at ha;rw[if_pos h0,h0];generalize caE (hs.map (·.id)) (nums r) (staL l hs ps day)=c at *;unfold pvA at c2;have d1:=Zm5 c.1;have d2:=Zm5 c.2;generalize Yg (c.1.map ia)=V1 at *;generalize Yg (c.2.map ia)=V2 at *;generalize Yg ((staL l hs ps day).map ptA)=W at *;unfold prA at *;rcases d1 with rfl|rfl <;> rcases d2 with rfl|rfl
 all_goals
  (refine Zmy rfl λR hG hrd=>Qga ?_;subst hG)
  simp -implicitDefEqProofs[Zmw,Zmx];refine Qco (ha) (by simp) ?_;simp -implicitDefEqProofs[];refine Yd.of c1 (by simp[pO,AV.pure]) ?_;simp -implicitDefEqProofs[];refine Yd.of c2 (by simp[pO,pS]) ?_;simp -implicitDefEqProofs[ia]
  try rfl
theorem ZmN (hG:GC G) (hN:GN G) (hP:GP G) (r:List Iss) (l:List Nte) (hs:List Hld) (ps:List Prt) (day:Int) (hl:WfN l) (hr:Wf r) (hd:Sml (nums r)) (hw:WfP hs ps) :
  PC Tryz.prog G 38 [prA r l hs ps,.int .i64 day] (pr7A r l hs ps day):=by
 have ha:=Zji hG hN hP r l hs ps day 1 hl hr hd hw;have pO:=Zio r l hs ps;unfold asP at ha;unfold pr7A pr7E;by_cases h0:as7 r l hs ps day 1=0
 case neg =>
  rw[if_neg h0]at ha ⊢;unfold prA at *
  (refine ZmB rfl λR hG hrd=>Qga ?_;subst hG)
  simp -implicitDefEqProofs[Zmz,ZmA];refine Qco (ha) (by simp) ?_;simp -implicitDefEqProofs[h0,Yg]
 have k0:=(ZkC h0).1;obtain ⟨h6,n60,-,-,-⟩:=ZmK k0;have hpl:=hw.pl;have hle:=ZlV (l:=l) (hs:=hs) (ps:=ps) (day:=day);have hcl:=ZmJ (r:=r) (hs:=hs) (L:=staL l hs ps day) h6 n60;have c1:=ZlR hG hN r l hs ps day hl hr hd hw k0;have c2:=ZmL (G:=G) r l hs ps day hw k0;have pS:=ZlT (staL l hs ps day);rw[if_pos h0,h0]at ha;rw[if_pos h0,h0]
 have hRl:∀ m,(apR (staL l hs ps day) m []).length<=100:=λm=>by
  unfold apR
  cases e:apD (staL l hs ps day) m [] with
  |none=>simp
  | some o =>
    obtain ⟨M,h1,h2,-⟩:=ZbL e;have:=h2.length_le;simp only[W0P,h1,W18];omega
 generalize caE (hs.map (·.id)) (nums r) (staL l hs ps day)=c at *;have c3:=PC.sub (ZlX (G:=G) c.1 c.2 (by unfold Sml;omega) (by unfold Sml;omega)) (xs:=[.agg [Yg (c.1.map ia),Yg (c.2.map ia)]]) ⟨.agg ⟨.orNil _,.orNil _,trivial⟩,trivial⟩;have c4:=PC.sub (ZmI (G:=G) (szP c) (staL l hs ps day) [] (by unfold szP;omega) (by simp;omega)) (xs:=[Yg ((staL l hs ps day).map ptA),.int .i64 (szP c:Nat),.nils]) ⟨.orNil _,.rfl',.rfl',trivial⟩;have c5:=PC.sub (Zlp (G:=G) (apR (staL l hs ps day) (szP c) []) (hRl _)) (xs:=[Yg ((apR (staL l hs ps day) (szP c) []).map ptA)]) ⟨.orNil _,trivial⟩;rw[ZlS]at c5;have sV:=Zlk ((apR (staL l hs ps day) (szP c) []).map (·.no));have pA:=ZlT (apR (staL l hs ps day) (szP c) []);unfold pvA at c2;have p1:=ZjP c.1;have p2:=ZjP c.2;generalize Yg (((apR (staL l hs ps day) (szP c) []).map (·.no)).map ia)=V at *;generalize Yg ((apR (staL l hs ps day) (szP c) []).map ptA)=Q at *;generalize Yg ((staL l hs ps day).map ptA)=W at *;have eS:c.1.length+c.2.length=szP c:=rfl;rw[eS]at c3;generalize Yg (c.1.map ia)=V1 at *;generalize Yg (c.2.map ia)=V2 at *;unfold prA at *
 (refine ZmB rfl λR hG hrd=>Qga ?_;subst hG)
 simp -implicitDefEqProofs[Zmz,ZmA];refine Qco (ha) (by simp) ?_;simp -implicitDefEqProofs[];refine Yd.of c1 (by simp[pO,AV.pure]) ?_;simp -implicitDefEqProofs[];refine Yd.of c2 (by simp[pO,pS]) ?_;simp -implicitDefEqProofs[];refine Yd.of c3 (by simp[AV.pure,p1,p2]) ?_;simp -implicitDefEqProofs[];refine Yd.of c4 (by simp[AV.pure,pS]) ?_;simp -implicitDefEqProofs[];refine Yd.of c5 (by simp[pA]) ?_;simp -implicitDefEqProofs[sV]
end
def misI (l:List Nte) (hs:List Hld) (ps:List Prt) (day id:Int):List Rf:=match hoF hs id with
 |some h=>misL l h ps day
 |none=>[]
def msE (r:List Iss) (l:List Nte) (hs:List Hld) (ps:List Prt) (day id:Int):List Rf:=if ab7 r l hs ps day 1 id []=0 then misI l hs ps day id else []
def msA (r:List Iss) (l:List Nte) (hs:List Hld) (ps:List Prt) (day id:Int):AV:=.tup [Yg ((msE r l hs ps day id).map ita),.int .i64 (ab7 r l hs ps day 1 id [])]
def rlV (k:Nat) (S:List Rf):AV:=if S=[] then .nils else .osl k S.length
def rlO (k:Nat) (S:List Rf):List (Nat×AObj):=if S=[] then [] else [(k,.row 2 (S.map ita))]
def msB (id:Int) (W:List Rf):List (Nat×AObj):=[(1005,.box [.int .i64 id]),(1010,.box [.mp 1029]),(1029,.mp (rfS W))]
def mi1 (W:List Rf) (d:Int) (P:List Int) (q:Nat):List Rf:=((P.take q).filter λn=>!decide ((d,n)∈W)).map λn=>(d,n)
def miK (W:List Rf) (f:Int->List Int) (D:List Int) (i:Nat):List Rf:=(D.take i).flatMap λd=>mi1 W d (f d) (f d).length
theorem ZmO {W:List Rf} {f:Int->List Int} {D:List Int} {i:Nat} (h:i<D.length):miK W f D (i+1)=miK W f D i++mi1 W D[i] (f D[i]) (f D[i]).length:=by
 unfold miK;rw[W08 h,List.flatMap_append];simp
theorem ZmP {W:List Rf} {d:Int} {P:List Int} {q:Nat}:(mi1 W d P q).length<=P.length:=by
 unfold mi1;rw[W0N];exact W0O (W0D ..) (by simp;omega)
theorem ZmQ {W:List Rf} {d:Int} {P:List Int} {q:Nat} (h:q<P.length):mi1 W d P (q+1)=if (d,P[q])∈W then mi1 W d P q else mi1 W d P q++[(d,P[q])]:=by
 unfold mi1;rw[W08 h,W1a,W0r];by_cases c:(d,P[q])∈W
 . simp[c]
 . simp[c]
theorem ZmR {W:List Rf} {f:Int->List Int} {D:List Int} (hf:∀ d,(f d).length<=8):∀ i,(miK W f D i).length<=8*i
 |0=>by simp[miK]
 | i + 1=>by
   have:=ZmR (W:=W) (D:=D) hf i;by_cases h:i<D.length
   . rw[ZmO h,W0s];have:=ZmP (W:=W) (d:=D[i]) (P:=f D[i]) (q:=(f D[i]).length);have:=hf D[i];omega
   . have e:miK W f D (i+1)=miK W f D i:=(by unfold miK;rw[W0J (by omega),W0J (by omega)]);rw[e];omega
def ms1 (O:AV) (id:Int) (W:List Rf) (D:List Int) (U:List Rf) (i:Nat):St :=
 ⟨[(59,.int .i64 i),(58,.int .i64 D.length),(57,.vsl (D.map ia)),(13,rlV 82 U),(8,O),(5,.ptr 5 0),(10,.ptr 10 0)],[(5,.box [.int .i64 id]),(10,.box [.mp 29]),(29,.mp (rfS W))]++rlO 82 U⟩
def ms2 (O:AV) (id:Int) (W:List Rf) (D:List Int) (d:Int) (P:List Int) (U:List Rf) (i q:Nat):St :=
 ⟨[(68,.int .i64 q),(67,.int .i64 P.length),(66,.vsl (P.map ia)),(15,.int .i64 d),(59,.int .i64 i),(58,.int .i64 D.length),(57,.vsl (D.map ia)),(13,rlV 82 U),(8,O),(5,.ptr 5 0),(10,.ptr 10 0)],[(5,.box [.int .i64 id]),(10,.box [.mp 29]),(29,.mp (rfS W))]++rlO 82 U⟩
section
variable {G:Nat->Option (List AV)}
set_option maxHeartbeats 4000000 in
theorem ZmS (hG:GC G) (hN:GN G) (hP:GP G) (r:List Iss) (l:List Nte) (hs:List Hld) (ps:List Prt) (day id:Int) (hl:WfN l) (hr:Wf r) (hd:Sml (nums r)) (hw:WfP hs ps) :
  PC Tryz.prog G 29 [prA r l hs ps,.int .i64 day,.int .i64 id] (msA r l hs ps day id):=by
 have ha0:=Zjk hG hN hP r l hs ps day 1 id [] hl hr hd hw (by simp[Sml]);have ha:=PC.sub ha0 (xs:=[prA r l hs ps,.int .i64 day,.int .i64 1,.int .i64 id,.nils]) ⟨.rfl',.rfl',.rfl',.rfl',.nils,trivial⟩;have pO:=Zio r l hs ps;unfold abP at ha;unfold msA msE;by_cases h0:ab7 r l hs ps day 1 id []=0
 case neg =>
  rw[if_neg h0]at ha ⊢;unfold prA at *
  (refine Zgr rfl λR hG hrd=>Qga ?_;subst hG)
  simp -implicitDefEqProofs[Zgp,Zgq];refine Qco (ha) (by simp) ?_;simp -implicitDefEqProofs[h0,Yg]
 obtain ⟨q1,q2,-⟩:=ZkD h0;have k0:=(ZkC q1).1;rw[if_pos h0,h0]at ha;rw[if_pos h0,h0];have hhl:=hw.hl;have c1:=ZiJ (G:=G) r l hs ps id (by unfold Sml;omega);obtain ⟨k,hk,e1,e2⟩:=Zl7 q2;rw[e1]at c1;have hdl:=hw.dl _ (W0e hk);have hds:=Zlj k0 (W0e hk);obtain ⟨h,hh⟩ : ∃ h,h=hs[k]:=⟨_,rfl⟩;rw[<- hh]at hdl hds e2;have hlk:hs[k]=h:=hh.symm;have hid:h.id=id:=(Zim e2).2;have hop:=Zjf (Zje.1 k0).1;have hB:=ZeU (Zje.1 k0).1;have eN:∀ d,ndI l hs id d=ndsL l h d:=λd=>by unfold ndI;rw[e2]
 have c2:=λd (hm:d∈h.ds)=>Zli hG hN r l hs ps id d hl hr hd hw k0 q2 (hds d hm)
 simp only[eN]at c2;have hnn:∀ d,d∈h.ds->ndsL l h d≠[]:=λd hm=>Zif hop hB (hds d hm) hm
 have hn8:∀ d,(ndsL l h d).length<=8:=λd=>by
  unfold ndsL
  split
  . exact W0O (W0D ..) (W0f _)
  . simp
 have hmi:misI l hs ps day id=miK (thK id (outP ps day) (outP ps day).length) (ndsL l h) h.ds h.ds.length:=by
  unfold misI miK misL mi1;rw[e2];simp only[W0v,hid,ZlD]
 rw[hmi];clear hmi;have hO:=ZjH (G:=G) r l hs ps day;have hit:=outIt (G:=G) r l hs ps day hw.pl;have eNl:=Ziv ps day;have hat:=λk x h=>Ziw (ps:=ps) (day:=day) (k:=k) (x:=x) h
 have hL:(outP ps day).length<=41:=W0O (W0D ..) hw.pl;have hho:hoa h=[.int .i64 h.id,.int .i64 h.fr,.int .i64 h.to,.vsl (h.ds.map ia)]:=rfl;have kO:=Zip r l hs ps;have fO:∀ ok st,frz ok st 6 (ofA r l hs ps)=some (ofA r l hs ps):=λok st=>by unfold ofA;simp[frz,AV.keys]
 have eO:ofA r l hs ps = .vptr [.vsl (r.map isa),.vsl (l.map na),.vsl (hs.map hoa),.vsl (ps.map ptA),.vsl ((nums r).map ia)] 0:=rfl;unfold prA at *;generalize outP ps day=L at *;generalize outE ps day=E at *;obtain ⟨O,hOe⟩ : ∃ O,O=ofA r l hs ps:=⟨_,rfl⟩;rw[<- hOe]at pO kO fO eO c1 ha hO hit;simp only[<- hOe]at c2;clear hOe;refine Zgr rfl λR hG' hrd=>?_
 subst hG';refine Qga ?_;simp -implicitDefEqProofs[Zgp,Zgq];refine Qco (ha) (by simp) ?_;simp -implicitDefEqProofs[];refine Yd.of hO (by simp[pO,AV.pure]) ?_;simp -implicitDefEqProofs[]
 refine ZiS hrd (by decide) hit (by simp[evA,St.tmp,lk]) (by simp[AV.pure,pO]) (λk=>k == 12) (by intro k hk;simp at hk;omega) r1K [(5,.ptr 1005 0),(10,.ptr 1010 0)]
  (λk=>msB id (thK id L k)) (λk=>msB id (thK id L (k+1))) (λk=>k<=L.length) (W1f _) ?_ ?_ ?_ ?_ ?_ ?_ ?_ ?_ ?_ ?_ ?_
 . intro k q hq;simp[msB]at hq;rcases hq with rfl|rfl|rfl <;> simp
 . intro k;simp[msB,r1K]
 . intro k;simp[msB,r1K]
 . intro k q hq;simp[msB]at hq ⊢;rcases hq with rfl|rfl|rfl <;> simp[isK,lk]
 . intro k q hq;simp[msB]at hq ⊢;rcases hq with rfl|rfl|rfl <;> exact .inl (by simp[isK,lk])
 . intro k;rfl
 . have e0:thK id L 0=[]:=rfl;have e1:rfS []=[]:=rfl;simp[msB,e0,e1,Yl,r1K,St.set,putO,AObj.ren,AV.ren]
 . intro k q hq;simp[msB]at hq;rcases hq with rfl|rfl|rfl
   . simp[Yc,Ya,AV.keys]
   . simp[msB,Yc,Ya,AV.keys,lk]
   . exact Zly _ _
 . intro q hq;simp at hq;rcases hq with rfl|rfl
   all_goals
    refine ⟨by simp[lk,AV.ren,r1K],by simp,by simp,λj k hk=>?_⟩;simp[AV.keys]at hk;subst hk;simp[msB,isK,lk]
 . intro k x hx hk R' hG'' hN'';obtain ⟨i,hkl,rfl⟩:=hat k x hx;have sc:=ZlB (id:=id) hkl;obtain ⟨y,hy⟩ : ∃ y,y=L[k]:=⟨_,rfl⟩;rw[<- hy]at sc ⊢;have hpt:ptA y=[.int .i64 y.no,.int .i64 y.dy,.int .i64 y.ho,.int .i64 y.dw,.int .i64 y.lt,.int .i64 y.bk,.int .u8 y.lo]:=rfl;generalize thK id L k=W at *;generalize thK id L (k+1)=T at *;refine Qga ?_;simp -implicitDefEqProofs[msB,hpt];intro R'' hG3 hN3;refine Qga ?_;by_cases q1:y.ho=id
   case neg =>
    have sc:T=W:=(by rw[sc];simp[thP,q1]);simp -implicitDefEqProofs[hpt,q1];refine ⟨?_,by omega⟩;simp[sc,Yi,ZeJ,ZlA,frzA,frz,AV.keys]
   by_cases q3:y.lo=0
   . have sc:T=addU W (y.dw,y.lt):=(by rw[sc];simp[thP,q1,q3]);simp -implicitDefEqProofs[hpt,q1,q3,Zlx];refine ⟨?_,by omega⟩;simp[sc,Yi,ZeJ,ZlA,frzA,frz,AV.keys]
   . have sc:T=W:=(by rw[sc];simp[thP,q3]);simp -implicitDefEqProofs[hpt,q1,q3];refine ⟨?_,by omega⟩;simp[sc,Yi,ZeJ,ZlA,frzA,frz,AV.keys]
 . intro _;rw[eNl];generalize thK id L L.length=W at *;simp -implicitDefEqProofs[msB,Yl,r1K,AV.ren,Zfa,Zlz];refine Qgr ?_;simp -implicitDefEqProofs[eO];rw[<- eO];refine Ye.of c1 (by simp[pO,AV.pure]) ?_;simp -implicitDefEqProofs[hk,hlk,hho];refine ⟨rfl,?_⟩;generalize hDe:h.ds=D at *;obtain ⟨f,hf⟩ : ∃ f,f=ndsL l h:=⟨_,rfl⟩;rw[<- hf]at c2 hnn hn8 ⊢;clear hf;refine Z8p (λi=>ms1 O id W D (miK W f D i) i) (λ_=>True) D.length ?_ trivial ?_ ?_
   . have e0:miK W f D 0=[]:=rfl;simp only[ms1,e0,rlV,rlO,if_true,W1G]
     ((try simp only[kO]);refine Ym.sub (by simp[lk,Ya,AV.keys,kO]) ?_;simp only[kO,Wkl,Zly,and_true];(try simp[lk,Yc,Ya,AV.keys,kO]))
   . intro i hi _;have wi:IntKind.i64.wrap ((i:Int)+1)=(i:Int)+1:=Yf (by omega) (by omega);have sc:=ZmO (W:=W) (f:=f) hi;have hle:=ZmR (W:=W) (D:=D) hn8 i;obtain ⟨d,hde⟩ : ∃ d,d=D[i]:=⟨_,rfl⟩;have hm:d∈D:=(by rw[hde];exact W0e hi);rw[<- hde]at sc;have hld:D[i]=d:=hde.symm;have c2:=c2 d hm;have hnn:=hnn d hm;have hn8:=hn8 d;obtain ⟨P,hPe⟩ : ∃ P,P=f d:=⟨_,rfl⟩;rw[<- hPe]at c2 hnn hn8 sc;have oP:Yg (P.map ia) = .vsl (P.map ia):=(by unfold Yg;rw[if_neg (by simpa using hnn)]);rw[oP]at c2;obtain ⟨U,hU⟩ : ∃ U,U=miK W f D i:=⟨_,rfl⟩;obtain ⟨U2,hU2⟩ : ∃ U2,U2=miK W f D (i+1):=⟨_,rfl⟩;rw[<- hU]at sc hle;rw[<- hU2]at sc;have hw2:ms1 O id W D (miK W f D (i+1)) (i+1)=⟨[(59,.int .i64 (i+1:Nat)),(58,.int .i64 D.length),(57,.vsl (D.map ia)),(13,rlV 82 U2),(8,O),(5,.ptr 5 0),(10,.ptr 10 0)],[(5,.box [.int .i64 id]),(10,.box [.mp 29]),(29,.mp (rfS W))]++rlO 82 U2⟩:=(by rw[ms1,<- hU2]);obtain ⟨S2,hS2⟩ : ∃ S2,S2=ms1 O id W D (miK W f D (i+1)) (i+1):=⟨_,rfl⟩;rw[<- hS2]at hw2;have hw1:ms1 O id W D (miK W f D i) i=⟨[(59,.int .i64 i),(58,.int .i64 D.length),(57,.vsl (D.map ia)),(13,rlV 82 U),(8,O),(5,.ptr 5 0),(10,.ptr 10 0)],[(5,.box [.int .i64 id]),(10,.box [.mp 29]),(29,.mp (rfS W))]++rlO 82 U⟩:=(by rw[ms1,<- hU]);by_cases cU:U=[]
     case' pos =>
      have hV:rlV 82 U = .nils:=(by simp[rlV,cU]);have hQ:rlO 82 U=[]:=by simp[rlO,cU]
     case' neg =>
      have hV:rlV 82 U = .osl 82 U.length:=(by simp[rlV,cU]);have hQ:rlO 82 U=[(82,.row 2 (U.map ita))]:=by simp[rlO,cU]
     all_goals
      refine Qga ?_;simp -implicitDefEqProofs[hw1,hV,hQ,hi,ia,hld];refine Yd.of c2 (by simp[pO,AV.pure]) ?_;simp -implicitDefEqProofs[];refine Z8p (λq=>ms2 O id W D d P (U++mi1 W d P q) i q) (λ_=>True) P.length ?_ trivial ?_ ?_
      . have e0:mi1 W d P 0=[]:=rfl;simp only[ms2,e0,W1G,hV,hQ]
        ((try simp only[kO]);refine Ym.sub (by simp[lk,Ya,AV.keys,kO]) ?_;simp only[kO,Wkl,Zly,Zf4,and_true];(try simp[lk,Yc,Ya,AV.keys,kO]))
      . intro q hq _;have wq:IntKind.i64.wrap ((q:Int)+1)=(q:Int)+1:=Yf (by omega) (by omega);have so:=ZmQ (W:=W) (d:=d) hq;have hl2:=ZmP (W:=W) (d:=d) (P:=P) (q:=q);obtain ⟨n,hn⟩ : ∃ n,n=P[q]:=⟨_,rfl⟩;rw[<- hn]at so;have hln:P[q]=n:=hn.symm;obtain ⟨S,hS⟩ : ∃ S,S=U++mi1 W d P q:=⟨_,rfl⟩;obtain ⟨T,hT⟩ : ∃ T,T=U++mi1 W d P (q+1):=⟨_,rfl⟩;have hSl:S.length<=8*i+8:=(by rw[hS,W0s];omega);have bb:(S.length+1)*16<=70368744177664:=(by omega);have hv1:ms2 O id W D d P (U++mi1 W d P q) i q=⟨[(68,.int .i64 q),(67,.int .i64 P.length),(66,.vsl (P.map ia)),(15,.int .i64 d),(59,.int .i64 i),(58,.int .i64 D.length),(57,.vsl (D.map ia)),(13,rlV 82 S),(8,O),(5,.ptr 5 0),(10,.ptr 10 0)],[(5,.box [.int .i64 id]),(10,.box [.mp 29]),(29,.mp (rfS W))]++rlO 82 S⟩:=(by rw[ms2,<- hS]);have hv2:ms2 O id W D d P (U++mi1 W d P (q+1)) i (q+1)=⟨[(68,.int .i64 (q+1:Nat)),(67,.int .i64 P.length),(66,.vsl (P.map ia)),(15,.int .i64 d),(59,.int .i64 i),(58,.int .i64 D.length),(57,.vsl (D.map ia)),(13,rlV 82 T),(8,O),(5,.ptr 5 0),(10,.ptr 10 0)],[(5,.box [.int .i64 id]),(10,.box [.mp 29]),(29,.mp (rfS W))]++rlO 82 T⟩:=(by rw[ms2,<- hT]);by_cases cS:S=[]
        case' pos =>
         have hVS:rlV 82 S = .nils:=(by simp[rlV,cS]);have hQS:rlO 82 S=[]:=by simp[rlO,cS]
        case' neg =>
         have hVS:rlV 82 S = .osl 82 S.length:=(by simp[rlV,cS]);have hQS:rlO 82 S=[(82,.row 2 (S.map ita))]:=by simp[rlO,cS]
        all_goals
         refine Qga ?_;by_cases c:(d,n)∈W
         . rw[if_pos c]at so;have e:T=S:=(by rw[hT,hS,so]);simp -implicitDefEqProofs[hv1,hVS,hQS,hq,ia,hln,Zlv,c,wq];rw[hv2,e,hVS,hQS]
           ((try simp only[kO]);refine Ym.sub (by simp[lk,Ya,AV.keys,kO]) ?_;simp only[kO,Wkl,Zly,Zf4,and_true];(try simp[lk,Yc,Ya,AV.keys,kO]))
         . rw[if_neg c]at so;have e:T=S++[(d,n)]:=(by rw[hT,hS,so,W0U]);have hne:¬T=[]:=(by rw[e];simp);have em:T.map ita=S.map ita++[[.int .i64 d,.int .i64 n]]:=(by rw[e,W0r];rfl);have eT:T.length=S.length+1:=(by rw[e];simp);have hVT:rlV 82 T = .osl 82 (S.length+1):=(by simp[rlV,hne,eT]);have hQT:rlO 82 T=[(82,.row 2 (T.map ita))]:=(by simp[rlO,hne]);simp -implicitDefEqProofs[hv1,hVS,hQS,hq,ia,hln,Zlv,c,wq,bb];rw[hv2,hVT,hQT]
           first
            |(rw[em,cS];((try simp only[kO]);refine Ym.sub (by simp[lk,Ya,AV.keys,kO]) ?_;simp only[kO,Wkl,Zly,and_true];(try simp[lk,Yc,Ya,AV.keys,kO]));done)
            |(rw[<- em];((try simp only[kO,eT]);refine Ym.sub (by simp[lk,Ya,AV.keys,kO,eT]) ?_;simp only[kO,eT,Wkl,Zly,Zf4,and_true];(try simp[lk,Yc,Ya,AV.keys,kO,eT]));done)
      . intro _;rw[<- sc];refine Qga ?_;simp -implicitDefEqProofs[ms2];refine Qgr ?_;simp -implicitDefEqProofs[wi];rw[<- hS2,hw2];unfold rlV rlO
        split
        . ((try simp only[kO]);refine Ym.sub (by simp[lk,Ya,AV.keys,kO]) ?_;simp only[kO,Wkl,Zly,and_true];(try simp[lk,Yc,Ya,AV.keys,kO]))
        . ((try simp only[kO]);refine Ym.sub (by simp[lk,Ya,AV.keys,kO]) ?_;simp only[kO,Wkl,Zly,Zf4,and_true];(try simp[lk,Yc,Ya,AV.keys,kO]))
   . intro _;obtain ⟨U,hU⟩ : ∃ U,U=miK W f D D.length:=⟨_,rfl⟩;rw[<- hU];refine Qga ?_;by_cases cU:U=[]
     . have hV:rlV 82 U = .nils:=(by simp[rlV,cU]);have hQ:rlO 82 U=[]:=(by simp[rlO,cU]);simp -implicitDefEqProofs[ms1,<- hU,hV,hQ];refine Qgr ?_;simp -implicitDefEqProofs[Yg,cU]
     . have hV:rlV 82 U = .osl 82 U.length:=(by simp[rlV,cU]);have hQ:rlO 82 U=[(82,.row 2 (U.map ita))]:=(by simp[rlO,cU]);simp -implicitDefEqProofs[ms1,<- hU,hV,hQ];refine Qgr ?_;simp -implicitDefEqProofs[Yg,cU,ita]
end
open Qq in
noncomputable def ZmT:RCode :=
 .seq (r 0 [n 6 .nils]) (.seq (r 1 [m 10 0,m 11 1,w 12 (.slc 7 (.t 10) (some (.t 11)) none)]) (.seq (r 2 [m 13 2,e 14 13,m 7 14]) (.seq (.seq (r 3 [m 15 7,k 16 .eql 15 O]) (.cond (.t 16) (.seq (r 4 [m 17 0,m 6 17]) .ret) .skip)) (.seq (r 5 [m 18 0,e 19 18,m 8 19]) (.seq (.seq (r 6 [m 20 1,m 21 8,o 22 .eql 20 21]) (.cond (.t 22) (.seq (r 7 [m 23 0,m 24 2,w 25 (.app 7 56 (.t 23) (.t 24)),m 6 25]) .ret) .skip)) (.seq (.seq (.raw (λ_ _=>true)) (.cond (.t 31) (.seq (.raw (λ_ _=>true)) (.seq (.raw (λ_ _=>true)) (.seq (.raw (λ_ _=>true)) (.seq (r 12 [m 55 9,m 6 55]) .ret)))) .skip)) (.seq (r 13 [m 56 0,m 57 8,m 58 7,o 59 .add 57 58,w 60 (.slc 7 (.t 56) none (some (.t 59))),m 0 60]) (.seq (.seq (r 14 [m 61 2,m 62 0,m 63 1,m 64 7,o 65 .add 63 64,w 66 (.slc 7 (.t 62) (some (.t 65)) none),c 67 158 [61,66],t 68 67]) (.cond (.t 68) (.seq (.raw (λ_ _=>true)) (.seq (.raw (λ_ _=>true)) (.seq (r 17 [m 83 0,m 6 83]) .ret))) .skip)) (.seq (.raw (λ_ _=>true)) (.seq (r 19 [m 89 0,m 90 1,w 91 (.slc 7 (.t 89) (some (.t 90)) none),m 92 7,c 93 159 [91,92]]) (.seq (r 20 [m 94 0,m 6 94]) .ret)))))))))))
def ZmU:List RRes:=[.t 6]
theorem ZmV {G:Nat->Option (List AV)} {objs objs':List (Nat×AObj)} {args:List AV} {v:AV} (hn:args.length<=Tryz.f108.ntmps) (h:∀ R:Run,R.G=G->R.Top->AR Tryz.prog R ZmT ⟨iniT 0 args,objs⟩ (FinB ZmU v objs')):PB Tryz.prog G 108 objs args v objs' :=
 PB_of Tryz.func108 rfl (by kernel_rfl) (rc:=ZmT) (by kernel_rfl) (rs:=ZmU) (by kernel_rfl) hn (λR _ hG hr=>h R hG hr)
open Go.RowKit Go.Lib
theorem ZmW {P:Program} (w:World) (dT sT ty elem:TypeId) (b o dLen dCap:Nat) (a:Addr) (sLen sCap sz:Nat) (cs:List Value)
  (hu:P.underlying dT=some (.slice elem)) (hs:(P.info? elem).map (·.size)=some sz) (hn:cs.length=Nat.min sLen dLen*sz)
  (hsrc:∀ j v,cs[j]? = some v->w.cell? (a.add j)=some v) (hc:∀ j,j<cs.length->(w.cell? ⟨b,o+j,none⟩).isSome=true) (hf:∀ j,j<cs.length->w.frozen? ⟨b,o+j,none⟩=false) (h1:∀ v∈cs,v.oneCell'=true) :
  (Builtin.copy_ #[dT,sT] ty #[.slice (some ⟨b,o,none⟩) dLen dCap,.slice (some a) sLen sCap]).run P w = .ok (goInt (Nat.min sLen dLen)) (w.setCells b o cs):=by
 have hl:=run_loadCells_list (P:=P) w a cs hsrc;have hst:=run_storeCells_cells (P:=P) b o cs 0 w (by simpa using hc) (by simpa using hf) h1
 cases hq:P.info? elem with
 |none=>simp[hq]at hs
 | some i =>
   have hi:i.size=sz:=(by simpa [hq] using hs);simp[Builtin.copy_,run_underlying hu,Builtin.lenOf,Builtin.firstCells,sizeOf,typeInfo,hq,hi,<- hn,hl,hst]
theorem Zn1 {P:Program} (w:World) (tS tR e:TypeId) (ht:P.underlying tS=some (.slice e)) (size:Nat) (hz:∀ w,(Go.sizeOf e).run P w = .ok size w)
  (a b:Addr) (la ca lb cb:Nat) (hne:a.block≠b.block) (tA tB:TypeId) (kA kB:Nat)
  (hsa:w.shape? a.block=some (tA,kA)) (hkA:kA≠0) (hsb:w.shape? b.block=some (tB,kB)) (hfb:w.frozen? b=false) (hfe:w.frozen? { block:=b.block,off:=kB }=false) :
  (Extern.SlicesOverlaps.overlaps #[tS,tS] #[tR] #[.slice (some a) la ca,.slice (some b) lb cb]).run P w = .ok (.bool false) w:=by
 have hnb:(a.block != b.block)=true:=(by simpa using hne);have hnb':(a.block == b.block)=false:=by simpa using hne
 change Sem.run P (underlying tS>>=_) w=_
 by_cases h0:la=0∨lb=0∨size=0
 . simp[run_underlying ht,hz,h0]
 . cases kA with
   |zero=>exact absurd rfl hkA
   | succ kA =>
     cases q1:w.frozen? a <;> cases q2:w.frozen? { block:=a.block,off:=kA+1 } <;>
      simp[run_underlying ht,hz,h0,hnb,hnb',frozen,noView,viewAt,mayBeOne,stringish,shape,Sem.run,hsa,hsb,hfb,hfe,q1,q2]
set_option maxHeartbeats 4000000 in
set_option maxRecDepth 100000 in
theorem Zn2 (b off n c i vb voff vc:Nat) (cs vs:List Value) (w:World) (hi:i<n) (hroom:n+1<=c) (hc63:c<=9223372036854775807) (hvb:vb≠b)
  (hcl:cs.length=n*7) (hvl:vs.length=7)
  (hcs:∀ j v,cs[j]? = some v->w.cell? ⟨b,off+j,none⟩=some v) (hsp:∀ j,j<(n+1)*7->(w.cell? ⟨b,off+j,none⟩).isSome=true) (hfz:∀ j,j<(n+1)*7->w.frozen? ⟨b,off+j,none⟩=false)
  (hvs:∀ j v,vs[j]? = some v->w.cell? ⟨vb,voff+j,none⟩=some v) (h1c:∀ v∈cs,v.oneCell'=true) (h1v:∀ v∈vs,v.oneCell'=true)
  (tA tB:TypeId) (kA kB:Nat) (hsa:w.shape? vb=some (tA,kA)) (hkA:kA≠0) (hsb:w.shape? b=some (tB,kB)) (hfb:∀ j,w.frozen? ⟨b,j,none⟩=false) :
  Calls Tryz.prog 108 #[.slice (some ⟨b,off,none⟩) n c,.int .i64 i,.slice (some ⟨vb,voff,none⟩) 1 vc] w λe w' =>
   e = .returned (.slice (some ⟨b,off,none⟩) (n+1) c)/\w'=(w.drew.setCells b (off+(i+1)*7) (cs.drop (i*7))).setCells b (off+i*7) vs:=by
 have hz2:¬((i:Int)=(n:Int)):=(by omega);obtain ⟨ie,hie⟩ : ∃ ie,Tryz.prog.info? 70=some ie:=⟨_,rfl⟩;have hsz7:ie.size=7:=(by revert hie;rintro ⟨⟩;rfl);have hsz:(Tryz.prog.info? 70).map (·.size)=some 7:=(by rw[hie];simp[hsz7]);have hso:∀ w,(Go.sizeOf 70).run Tryz.prog w = .ok 7 w:=λw=>by simp[sizeOf,typeInfo,hie,hsz7]
 have hov:∀ lb cb,(callFunc 158 #[.slice (some ⟨vb,voff,none⟩) 1 vc,.slice (some ⟨b,off+(i+1)*7,none⟩) lb cb]).run Tryz.prog w = .ok (.value (.bool false)) w:=λlb cb=>by
  rw[run_callFunc_extern Tryz.func158 (by kernel_rfl) (by kernel_rfl) (by kernel_rfl) (e:=Extern.SlicesOverlaps.overlaps #[29,29] #[4]) (by kernel_rfl),
   Zn1 w 29 4 70 Tryz.underlying29 7 hso ⟨vb,voff,none⟩ ⟨b,off+(i+1)*7,none⟩ 1 vc lb cb hvb tA tB kA kB hsa hkA hsb (hfb _) (hfb _)]
  rfl
 have hdl:(cs.drop (i*7)).length=(n-i)*7:=(by rw[List.length_drop,hcl,Nat.sub_mul]);have hw1:IntKind.i64.wrap ((i:Int)+1)=(i:Int)+1:=(by rw[IntKind.wrap_i64];omega);have hw2:IntKind.i64.wrap ((n:Int)+1)=(n:Int)+1:=(by rw[IntKind.wrap_i64];omega);have hb1:(0:Int)<=(i:Int)+1:=(by omega);have hin:i<=n:=(by omega);have htn:((i:Int)+1).toNat=i+1:=(by omega);have htn2:((n:Int)+1).toNat=n+1:=(by omega);have hb2:¬(c=i+1):=(by omega);have hb3:(i:Int)<=(n:Int)+1:=(by omega);have hb4:¬(c=i):=(by omega);have hcn:¬((n:Int)+1 > (c:Int)):=(by omega);have hcn2:¬((c:Int)<(n:Int)+1):=(by omega);have hsp0:∀ j,j<(n+1)*7->(w.drew.cell? ⟨b,off+j,none⟩).isSome=true:=hsp;have e1:n-i+1+i=n+1:=(by omega);have m1:(n+1)*7=n*7+7:=(by omega);have m2:(i+1)*7=i*7+7:=(by omega);have m3:i*7+(n-i)*7=n*7:=by rw[<- W0Z];congr 1;omega
 have hcp1:∀ ty dc sc,(Builtin.copy_ #[29,29] ty #[.slice (some ⟨b,off+(i+1)*7,none⟩) (n-i) dc,.slice (some ⟨b,off+i*7,none⟩) (n+1-i) sc]).run Tryz.prog w.drew = .ok (goInt ((n-i:Nat):Int)) (w.drew.setCells b (off+(i+1)*7) (cs.drop (i*7))):=λty dc sc=>by
  have hmin:Nat.min (n+1-i) (n-i)=n-i:=by simp only[Nat.min_def];split <;> omega
  have h:=ZmW w.drew 29 29 ty 70 b (off+(i+1)*7) (n-i) dc ⟨b,off+i*7,none⟩ (n+1-i) sc 7 (cs.drop (i*7)) Tryz.underlying29 hsz (by rw[hmin,hdl])
   (λj v hj=>by rw[Addr.add_lit,W1v];exact hcs (i*7+j) v (by rwa [W13]at hj))
   (λj hj=>by rw[W1v];exact hsp0 _ (by omega)) (λj hj=>by rw[W1v];exact hfz _ (by omega)) (λv hv=>h1c v (W1S hv))
  rwa [hmin]at h
 obtain ⟨W1,hW1⟩ : ∃ W1,W1=w.drew.setCells b (off+(i+1)*7) (cs.drop (i*7)):=⟨_,rfl⟩
 have hsp1:∀ k,k<(n+1)*7->(W1.cell? ⟨b,off+k,none⟩).isSome=true:=λk hk=>by
  rw[hW1];exact isSome_setCells b _ _ _ (λj hj=>by rw[W1v];exact hsp0 _ (by omega)) _ (hsp0 k hk)
 have hcp2:∀ ty dc,(Builtin.copy_ #[29,29] ty #[.slice (some ⟨b,off+i*7,none⟩) (n+1-i) dc,.slice (some ⟨vb,voff,none⟩) 1 vc]).run Tryz.prog W1 = .ok (goInt 1) (W1.setCells b (off+i*7) vs):=λty dc=>by
  have hmin:Nat.min 1 (n+1-i)=1:=by simp only[Nat.min_def];split <;> omega
  have h:=ZmW W1 29 29 ty 70 b (off+i*7) (n+1-i) dc ⟨vb,voff,none⟩ 1 vc 7 vs Tryz.underlying29 hsz (by rw[hmin,hvl])
   (λj v hj=>by
    rw[Addr.add_lit,hW1,World.cell?_setCells_out b _ _ _ _ (λh _=>absurd h hvb)];exact hvs j v hj)
   (λj hj=>by rw[W1v];exact hsp1 _ (by omega)) (λj hj=>by rw[hW1,World.frozen?_setCells,W1v];exact hfz _ (by omega)) h1v
  rwa [hmin]at h
 rw[hW1]at hcp2;clear e1 m1 m2 m3
 go_enter Tryz.func108,Tryz.ntmps108
 go_wp2_with (simp only[hov])
 go_region_law (refine step_copy_runI rfl _ _ 29 29 rfl _ _ (by simp[Act.eval,Act.put]) (by simp[Act.eval,Act.put]) (hcp1 _ _ _) ?_)
 go_wp2_with (simp only[hcp2])
 go_ret
 first|exact ⟨rfl,rfl⟩|exact ⟨rfl,by rw[hW1]⟩
set_option maxHeartbeats 4000000 in
set_option maxRecDepth 100000 in
theorem Zn3 (b off n c i vb voff vc:Nat) (cs vs:List Value) (w:World) (hi:i<n) (hnc:n<=c) (hroom:c<n+1) (hbig:(n+1)*56<=140737488355328)
  (hcl:cs.length=n*7) (hvl:vs.length=7)
  (hcs:∀ j v,cs[j]? = some v->w.cell? ⟨b,off+j,none⟩=some v)
  (hvs:∀ j v,vs[j]? = some v->w.cell? ⟨vb,voff+j,none⟩=some v) (h1c:∀ v∈cs,v.oneCell'=true) (h1v:∀ v∈vs,v.oneCell'=true)
  (ie:TypeInfo) (z:Value) (hie:Tryz.prog.info? 70=some ie) (hz:ie.zero=some z) (hsz7:ie.size=7) (hzb:ie.bytes=56) (hzs:z.cells.size=7) :
  Calls Tryz.prog 108 #[.slice (some ⟨b,off,none⟩) n c,.int .i64 i,.slice (some ⟨vb,voff,none⟩) 1 vc] w λe w' =>
   e = .returned (.slice (some ⟨w.heap.size,0,none⟩) (n+1) (grownCap w (n+1) c 70)) /\
   w'=(((w.drew.alloc (.cells ((cs.take (i*7)).toArray++Builtin.zeroCells z.cells (n+1-i)++Builtin.zeroCells z.cells (grownCap w (n+1) c 70-(n+1))) 70)).setCells w.heap.size (i*7) vs).drew).setCells w.heap.size ((i+1)*7) (cs.drop (i*7)):=by
 have hz2:¬((i:Int)=(n:Int)):=(by omega);have hz3:(c:Int)<(n:Int)+1:=(by omega);have hsz:(Tryz.prog.info? 70).map (·.size)=some 7:=(by rw[hie];simp[hsz7]);have hbw:b<w.heap.size:=block_lt_of_cell (hcs 0 _ (W07 (by omega)));have hvw:vb<w.heap.size:=block_lt_of_cell (hvs 0 _ (W07 (by omega)));have hkk:(n:Int)+1-(i:Int)=((n+1-i:Nat):Int):=(by omega);have hik:i+(n+1-i)=n+1:=(by omega);have m0:i*7+(n-i)*7=n*7:=(by rw[<- W0Z];congr 1;omega);have m2:(i+1)*7=i*7+7:=(by omega);have m1:(n+1)*7=n*7+7:=(by omega);have m3:(n+1-i)*7=(n-i)*7+7:=(by rw[show n+1-i=(n-i)+1 by omega];omega);have htl:(cs.take (i*7)).length=i*7:=by rw[W15];omega
 have hold:(Builtin.firstCells ie.size i (.slice (some ⟨b,off,none⟩) i c)).run Tryz.prog w.drew = .ok (cs.take (i*7)).toArray w.drew:=by
  rw[hsz7]
  exact run_firstCells_some (w:=w.drew) 7 i ⟨b,off,none⟩ i c (cs.take (i*7)) htl (λj v hj=>by
   rw[Addr.add_lit];rw[W1m]at hj
   split at hj
   . exact hcs j v hj
   . cases hj)
 have hrz:∀ ty,(Builtin.append_ #[29,3] ty #[.slice (some ⟨b,off,none⟩) i c,.int .i64 ((n:Int)+1-(i:Int))]).run Tryz.prog w =
   .ok (.slice (some ⟨w.heap.size,0,none⟩) (n+1) (grownCap w (n+1) c 70)) (w.drew.alloc (.cells ((cs.take (i*7)).toArray++Builtin.zeroCells z.cells (n+1-i)++Builtin.zeroCells z.cells (grownCap w (n+1) c 70-(n+1))) 70)):=λty=>by
  have h:=Lib.run_append_grow_zeros w 29 3 ty 70 ie z .i64 .i64 Tryz.underlying29 Tryz.underlying3 hie hz (some ⟨b,off,none⟩) i c (cs.take (i*7)) hold (n+1-i) (by omega) (by omega) (by omega) (by omega) (by rw[hzb];omega) (by rw[hzb,hik];exact growslice_fits hroom hbig);rw[hik]at h;rw[hkk];exact h
 obtain ⟨G,hG⟩ : ∃ G,G=grownCap w (n+1) c 70:=⟨_,rfl⟩;obtain ⟨ROW,hROW⟩ : ∃ ROW:Array Value,ROW=(cs.take (i*7)).toArray++Builtin.zeroCells z.cells (n+1-i)++Builtin.zeroCells z.cells (G-(n+1)):=⟨_,rfl⟩;rw[<- hG]at hrz ⊢;rw[<- hROW]at hrz ⊢
 have hRl:(n+1)*7<=ROW.size:=by
  rw[hROW];simp only[Array.size_append,List.size_toArray,htl,size_zeroCells,hzs];omega
 obtain ⟨W1,hW1⟩ : ∃ W1,W1=w.drew.alloc (.cells ROW 70):=⟨_,rfl⟩;rw[<- hW1]at hrz
 have hN:∀ j,j<(n+1)*7->(W1.cell? ⟨w.heap.size,j,none⟩).isSome=true:=λj hj=>by
  rw[hW1,World.cell?_alloc_at (w:=w.drew) ROW _ w.heap.size j rfl,W0n (by omega)];rfl
 have hNf:∀ j,W1.frozen? ⟨w.heap.size,j,none⟩=false:=λj=>by rw[hW1];exact World.frozen?_alloc_at (w:=w.drew) ROW _ w.heap.size j rfl
 have hOb:∀ j v,w.cell? ⟨b,j,none⟩=some v->W1.cell? ⟨b,j,none⟩=some v:=λj v h=>by rw[hW1,World.cell?_alloc_past (w:=w.drew) _ b j hbw];exact h
 have hOv:∀ j v,w.cell? ⟨vb,j,none⟩=some v->W1.cell? ⟨vb,j,none⟩=some v:=λj v h=>by rw[hW1,World.cell?_alloc_past (w:=w.drew) _ vb j hvw];exact h
 have hdl:(cs.drop (i*7)).length=(n-i)*7:=(by rw[List.length_drop,hcl];omega);have hbN:b≠w.heap.size:=by omega
 have hcpA:∀ ty dc,(Builtin.copy_ #[29,29] ty #[.slice (some ⟨w.heap.size,i*7,none⟩) (n+1-i) dc,.slice (some ⟨vb,voff,none⟩) 1 vc]).run Tryz.prog W1 = .ok (goInt 1) (W1.setCells w.heap.size (i*7) vs):=λty dc=>by
  have hmin:Nat.min 1 (n+1-i)=1:=by simp only[Nat.min_def];split <;> omega
  have h:=ZmW W1 29 29 ty 70 w.heap.size (i*7) (n+1-i) dc ⟨vb,voff,none⟩ 1 vc 7 vs Tryz.underlying29 hsz (by rw[hmin,hvl])
   (λj v hj=>by rw[Addr.add_lit];exact hOv _ v (hvs j v hj))
   (λj hj=>hN _ (by omega)) (λj hj=>hNf _) h1v
  rwa [hmin]at h
 have hcpB:∀ ty dc sc,(Builtin.copy_ #[29,29] ty #[.slice (some ⟨w.heap.size,(i+1)*7,none⟩) (n-i) dc,.slice (some ⟨b,off+i*7,none⟩) (n-i) sc]).run Tryz.prog (W1.setCells w.heap.size (i*7) vs).drew = .ok (goInt ((n-i:Nat):Int)) ((W1.setCells w.heap.size (i*7) vs).drew.setCells w.heap.size ((i+1)*7) (cs.drop (i*7))):=λty dc sc=>by
  have hmin:Nat.min (n-i) (n-i)=n-i:=by simp
  have h:=ZmW (W1.setCells w.heap.size (i*7) vs).drew 29 29 ty 70 w.heap.size ((i+1)*7) (n-i) dc ⟨b,off+i*7,none⟩ (n-i) sc 7 (cs.drop (i*7)) Tryz.underlying29 hsz (by rw[hmin,hdl])
   (λj v hj=>by
    rw[Addr.add_lit];show (W1.setCells w.heap.size (i*7) vs).cell? _=some v;rw[World.cell?_setCells_out _ _ _ _ _ (λh _=>absurd h hbN),W1v];exact hOb _ v (hcs (i*7+j) v (by rwa [W13]at hj)))
   (λj hj=>by
    show ((W1.setCells w.heap.size (i*7) vs).cell? _).isSome=true;exact isSome_setCells _ _ _ _ (λt ht=>hN _ (by omega)) _ (hN _ (by omega)))
   (λj hj=>by
    show (W1.setCells w.heap.size (i*7) vs).frozen? _=false;rw[World.frozen?_setCells];exact hNf _) (λv hv=>h1c v (W1S hv))
  rwa [hmin]at h
 have hGn:n+1<=G:=by rw[hG];exact grownCap_ge w _ _ _
 have hG63:G<=9223372036854775807:=by
  have:=grownCap_le_maxLen w (n+1) c 70 (by unfold maxLen;omega);rw[<- hG]at this;unfold maxLen at this;omega
 have hGi:¬(G=i):=(by omega);have hGim:¬(G=i+1):=(by omega);have hci:¬(c=i):=(by omega);rw[<- hW1];have hw1:IntKind.i64.wrap ((i:Int)+1)=(i:Int)+1:=(by rw[IntKind.wrap_i64];omega);have hw2:IntKind.i64.wrap ((n:Int)+1)=(n:Int)+1:=(by rw[IntKind.wrap_i64];omega);have hw3:IntKind.i64.wrap ((n:Int)+1-(i:Int))=(n:Int)+1-(i:Int):=(by rw[IntKind.wrap_i64];omega);have hb1:(0:Int)<=(i:Int)+1:=(by omega);have hin:i<=n:=(by omega);have htn:((i:Int)+1).toNat=i+1:=(by omega);have hb3:(i:Int)<=(n:Int):=(by omega);clear hkk hik hold hROW hG hRl m0 m1 m2 m3 htl hdl hN hNf hOb hOv;clear hW1
 go_enter Tryz.func108,Tryz.ntmps108
 go_wp2_with (first
  |(at_builtin;refine Lib.wpList_append_run _ rfl _ _ _ _ rfl _ _ rfl rfl _ _ (hrz _) ?_)
  |(at_builtin;refine wpList_copy_runI _ rfl _ _ 29 29 rfl _ _ rfl rfl (hcpA _ _) ?_))
 go_region_law (refine step_copy_runI rfl _ _ 29 29 rfl _ _ (by simp[Act.eval,Act.put]) (by simp[Act.eval,Act.put]) (hcpB _ _ _) ?_)
 go_wp2
 go_ret
 exact ⟨rfl,rfl⟩
open Go.RowKit Go.Lib
theorem Zn4 {x:Prt} {y:AV} (h:y∈ptA x):∃ (k:IntKind) (n:Int),y = .int k n:=by
 simp only[ptA,W0g,W0Q,or_false]at h;rcases h with rfl|rfl|rfl|rfl|rfl|rfl|rfl <;> exact ⟨_,_,rfl⟩
theorem Zn5 (x:Prt):(ptA x).length=7:=rfl
theorem Zn6 {l:List Prt} {x:Prt} {i:Nat} (hi:i<l.length) {m j:Nat} {r:List AV} {y:AV} (hm:((putP l x i).map ptA)[m]? = some r) (hj:r[j]? = some y) :
  j<7/\((m<i/\(l.map ptA)[m]? = some r)∨(m=i/\r=ptA x)∨(i<m/\(l.map ptA)[m-1]? = some r)):=by
 rw[W09,W04]at hm;obtain ⟨p,hp,rfl⟩:=hm;refine ⟨(W02.1 hj).1,?_⟩;unfold putP at hp;rw[W1s]at hp;have htl:(l.take i).length=i:=by simp;omega
 split at hp
 . rename_i q;rw[htl]at q;rw[List.getElem?_take_of_lt q]at hp;exact .inl ⟨q,by rw[W09,hp];rfl⟩
 . rename_i q;rw[htl]at q hp;by_cases e:m=i
   . subst e;rw[W2p,W2h,W00]at hp;exact .inr (.inl ⟨rfl,by rw[hp]⟩)
   . rw[show m-i=(m-i-1)+1 by omega,List.getElem?_cons_succ,W13,show i+(m-i-1)=m-1 by omega]at hp;exact .inr (.inr ⟨by omega,by rw[W09,hp];rfl⟩)
section
variable {G:Nat->Option (List AV)}
set_option maxHeartbeats 4000000 in
set_option maxRecDepth 100000 in
theorem Zn7 (l:List Prt) (x:Prt) (i:Nat) (hi:i<l.length) (hl:l.length<=41) :
  PB Tryz.prog G 108 [(1000,.row 7 (l.map ptA))] [.osl 1000 l.length,.int .i64 i,.vsl [ptA x]] (.osl 1000 (l.length+1)) [(1000,.row 7 ((putP l x i).map ptA))]:=by
 refine ⟨by kernel_rfl,λR W κ vs hG hN hW hX hE hk hsz hvs=>?_⟩;have hg:(obSt [(1000,.row 7 (l.map ptA))]).get 1000=some (.row 7 (l.map ptA)):=rfl;obtain ⟨vs⟩:=vs
 match vs,hsz with
 |[v,vi,vx],_ =>
 have hv:=hvs 0 _ v rfl rfl;have hvi:=hvs 1 _ vi rfl rfl;have hvx:=hvs 2 _ vx rfl rfl;obtain rfl:vi = .int .i64 i:=by cases hvi with|pv h=>cases h;rfl
 obtain ⟨b,s,c,cs,t,hκ,rfl,hnc,hc,hb,hs,hr,hx⟩:=hk.osl hv hg (by simp);obtain ⟨a',cap,sz',bx,ox,f,rfl,q1,q2,q3,q4,q5,q6,q7⟩:=ZO hvx.vsl_inv';obtain ⟨rfl,q3b,q3c⟩:=q3 (by simp);obtain rfl:sz'=7:=(q5 (ptA x) (by simp)).symm;have hlt:=hk.loc_lt hκ;have hbb:bx≠b:=λe=>q3c (.inr ⟨1000,s,by rw[e];exact hκ⟩)
 have hcell:∀ q,q<l.length*7->∃ u,cs[s+q]? = some u/\u.oneCell'=true:=λq hq=>by
  have hm:q / 7<l.length:=(by omega);have hj:q % 7<(ptA l[q / 7]).length:=(by rw[Zn5];omega);obtain ⟨u,hu,hu2⟩:=hx (q / 7) (q % 7) (ptA l[q / 7]) ((ptA l[q / 7])[q % 7]) (by simp[hm]) (by simp[hj]);refine ⟨u,by rw[<- hu];congr 1;omega,?_⟩;obtain ⟨k,n,e⟩:=Zn4 (W0e hj);rw[e]at hu2
  cases hu2 with|pv h=>cases h;rfl
 have hnew:∀ q,q<7->W.cell? ⟨bx,ox+q,none⟩=some (f 0 q)/\(f 0 q).oneCell'=true:=λq hq=>by
  have h1:=q6 0 q (by simp) hq;have hj:q<(ptA x).length:=hq;have h2:=q7 0 q (ptA x) ((ptA x)[q]) (by simp) (by simp[hj]);refine ⟨by simpa using h1,?_⟩;obtain ⟨k,n,e⟩:=Zn4 (W0e hj);rw[e]at h2
  cases hf:f 0 q <;> rw[hf]at h2 <;> cases h2 <;> rfl
 obtain ⟨cl,hcl⟩ : ∃ cl:List Value,cl=(List.range (l.length*7)).map λq=>cs.getD (s+q) Go.undef:=⟨_,rfl⟩
 obtain ⟨vl,hvl⟩ : ∃ vl:List Value,vl=(List.range 7).map λq=>f 0 q:=⟨_,rfl⟩
 have hcll:cl.length=l.length*7:=(by rw[hcl];simp);have hvll:vl.length=7:=by rw[hvl];simp
 have hcla:∀ q u,cl[q]? = some u->q<l.length*7/\cs[s+q]? = some u/\u.oneCell'=true:=λq u hq=>by
  have hlt2:q<l.length*7:=(by have:=(W02.1 hq).1;omega);obtain ⟨u2,h1,h2⟩:=hcell q hlt2;rw[hcl,W09,W0L hlt2,W0m,W00,W0a,h1]at hq;simp only[W0P]at hq;subst hq;exact ⟨hlt2,h1,h2⟩
 have hclb:∀ q u,q<l.length*7->cs[s+q]? = some u->cl[q]? = some u:=λq u hq h1=>by
  rw[hcl,W09,W0L hq,W0m,W0a,h1];rfl
 have hvla:∀ q u,vl[q]? = some u->W.cell? ⟨bx,ox+q,none⟩=some u/\u.oneCell'=true:=λq u hq=>by
  have hlt2:q<7:=(by have:=(W02.1 hq).1;omega);rw[hvl,W09,W0L hlt2,W0m,W00]at hq;subst hq;exact hnew q hlt2
 have hvlb:∀ q,q<7->vl[q]? = some (f 0 q):=λq hq=>by rw[hvl,W09,W0L hq];rfl
 have h1c:∀ u∈cl,u.oneCell'=true:=λu hu=>by
  obtain ⟨q,hq⟩:=List.mem_iff_getElem?.1 hu;exact (hcla q u hq).2.2
 have h1v:∀ u∈vl,u.oneCell'=true:=λu hu=>by
  obtain ⟨q,hq⟩:=List.mem_iff_getElem?.1 hu;exact (hvla q u hq).2
 have hW:∀ q u,cl[q]? = some u->W.cell? ⟨b,s+q,none⟩=some u:=λq u hq=>by
  rw[World.cell?,hb];exact (hcla q u hq).2.1
 have hfz:∀ q,W.frozen? ⟨b,q,none⟩=false:=λq=>by simp[World.frozen?,hb]
 have hput:(putP l x i).length=l.length+1:=ZfA;have m1:(l.length+1)*7=l.length*7+7:=by omega
 have fin:∀ (c2:Array Value) (o2:Nat),(∀ q u,q<i*7->cl[q]? = some u->c2[o2+q]? = some u)->(∀ q u,vl[q]? = some u->c2[o2+i*7+q]? = some u)->(∀ q u,cl[i*7+q]? = some u->c2[o2+(i+1)*7+q]? = some u) ->
   ∀ (m j:Nat) (r:List AV) (y:AV),((putP l x i).map ptA)[m]? = some r->r[j]? = some y->∃ v,c2[o2+m*7+j]? = some v/\VR ((obSt [(1000,.row 7 (l.map ptA))]).env R.M κ) W y v:=λc2 o2 f1 f2 f3 m j r y hm hj=>by
  obtain ⟨hj7,h|h|h⟩:=Zn6 hi hm hj
  . obtain ⟨u,h1,h2⟩:=hx m j r y h.2 hj;have hlm:=h.1;refine ⟨u,?_,h2⟩;rw[W1v];exact f1 _ u (by omega) (hclb _ u (by omega) (by rw[<- W1v];exact h1))
  . obtain ⟨rfl,rfl⟩:=h;exact ⟨f 0 j,f2 j _ (hvlb j hj7),.pv (q7 0 j (ptA x) y rfl hj)⟩
  . obtain ⟨u,h1,h2⟩:=hx (m-1) j r y h.2 hj;have hlm:m-1<l.length:=(by have:=(W02.1 h.2).1;simpa using this);refine ⟨u,?_,h2⟩;have e1:o2+m*7+j=o2+(i+1)*7+((m-1-i)*7+j):=(by omega);rw[e1];refine f3 _ u (hclb _ u (by omega) ?_);rw[<- h1];congr 1;omega
 have hrows:∀ r∈(putP l x i).map ptA,r.length=7:=λr h=>by
  obtain ⟨p,-,rfl⟩:=W0i.1 h;rfl
 have hlen:(l.map ptA).length<((putP l x i).map ptA).length:=(by simp only[W0N];omega);by_cases hroom:l.length+1<=c
 . have hsh:∃ tA kA,W.shape? bx=some (tA,kA)/\kA≠0:=by
    have h1:=(hnew 0 (by omega)).1;unfold World.cell? at h1;unfold World.shape?
    split at h1
    . rename_i c2 e2 f2 hh;simp only[Option.isSome_none,W05,if_false]at h1;have:=(W0c.1 h1).1;exact ⟨_,_,by rw[hh],by omega⟩
    . cases h1
   obtain ⟨tA,kA,s1,s2⟩:=hsh;have hcap:(l.length+1)*7<=c*7:=W0I 7 hroom;refine (Zn2 b s l.length c i bx ox cap cl vl W hi hroom (by unfold maxLen at hc;omega) hbb hcll hvll hW (λj hj=>by simp[World.cell?,hb];omega) (λj _=>hfz _) (λj u h=>(hvla j u h).1) h1c h1v tA t kA cs.size s1 s2 (by simp[World.shape?,hb]) hfz).mono ?_;rintro e W' ⟨rfl,rfl⟩;have hdl:(cl.drop (i*7)).length=(l.length-i)*7:=(by rw[List.length_drop,hcll,Nat.sub_mul]);have m3:i*7+(l.length-i)*7=l.length*7:=(by rw[<- W0Z];congr 1;omega);have hb':W.drew.heap[b]? = some (.cells cs t (0,0)):=hb;obtain ⟨c1,d1,d2,d3,d4⟩:=ZD b (cl.drop (i*7)) (s+(i+1)*7) W.drew cs t hb' (by omega);obtain ⟨c2,g1,g2,g3,g4⟩:=ZD b vl (s+i*7) _ c1 t d1 (by omega)
   obtain ⟨k1,k2⟩:=hk.regrow (rows':=(putP l x i).map ptA) (nb:=(b,s)) (W':=(W.drew.setCells b (s+(i+1)*7) (cl.drop (i*7))).setCells b (s+i*7) vl) hg hκ hlen (by rw[ZE,ZE];exact W0f _)
    (λj hj hne=>by rw[World.heap_setCells_other _ b _ _ (by rw[ZE];exact hj) hne,World.heap_setCells_other W.drew b _ _ hj hne];rfl) (by rw[World.os_setCells,World.os_setCells];rfl) (by rw[ZF,ZF];rfl) (by rw[World.output_setCells,World.output_setCells];rfl) g1 (.inl rfl)
    ⟨hrows,by rw[g2,d2,W0N,hput];simp only;omega,fin c2 s (λq u hq h=>by
     rw[g3 _ (.inl (by omega)),d3 _ (.inl (by omega))];exact (hcla q u h).2.1) (λq u h=>g4 q u h) (λq u h=>by
     rw[g3 _ (.inr (by omega))];exact d4 q u (by rw[W13];exact h))⟩
   exact ⟨_,_,rfl,k1,.osl 1000 _ 7 ((putP l x i).map ptA).length _ _ _ (by simp[St.env,St.get,obSt,lk,AObj.dim]) (by simp[hput]) λ_=>⟨b,s,c2,t,by simp[St.env],rfl,by simp,by simpa using hroom,hc,g1,by omega⟩⟩
 . obtain ⟨ie,hie⟩ : ∃ ie,Tryz.prog.info? 70=some ie:=⟨_,rfl⟩;have hi3:∃ z,ie.zero=some z/\ie.size=7/\ie.bytes=56/\z.cells.size=7:=(by revert hie;rintro ⟨⟩;exact ⟨_,rfl,rfl,rfl,rfl⟩);obtain ⟨z,z1,z2,z3,z4⟩:=hi3;refine (Zn3 b s l.length c i bx ox cap cl vl W hi hnc (by omega) (by omega) hcll hvll hW (λj u h=>(hvla j u h).1) h1c h1v ie z hie z1 z2 z3 z4).mono ?_;have hge:=grownCap_ge W (l.length+1) c 70;have hcm:grownCap W (l.length+1) c 70<=maxLen:=grownCap_le_maxLen W (l.length+1) c 70 (by unfold maxLen;omega);generalize hgc:grownCap W (l.length+1) c 70=gc at *;rintro e W' ⟨rfl,rfl⟩;have hdl:(cl.drop (i*7)).length=(l.length-i)*7:=(by rw[List.length_drop,hcll,Nat.sub_mul]);have htl:(cl.take (i*7)).length=i*7:=(by rw[W15,hcll];omega);have m3:i*7+(l.length-i)*7=l.length*7:=(by rw[<- W0Z];congr 1;omega);have m4:(l.length+1-i)*7=(l.length-i)*7+7:=(by rw[show l.length+1-i=(l.length-i)+1 by omega];omega);have m5:(l.length+1)*7+(gc-(l.length+1))*7=gc*7:=(by rw[<- W0Z];congr 1;omega);obtain ⟨ROW,hROW⟩ : ∃ ROW:Array Value,ROW=(cl.take (i*7)).toArray++Builtin.zeroCells z.cells (l.length+1-i)++Builtin.zeroCells z.cells (gc-(l.length+1)):=⟨_,rfl⟩;rw[<- hROW]
   have hRs:ROW.size=gc*7:=by
    rw[hROW];simp only[Array.size_append,List.size_toArray,htl,size_zeroCells,z4];omega
   have hR1:∀ q u,q<i*7->cl[q]? = some u->ROW[q]? = some u:=λq u hq h=>by
    rw[hROW,W0W,if_pos (by simp only[Array.size_append,List.size_toArray,htl];omega),W0W,if_pos (by simp only[List.size_toArray,htl];omega),W2r,List.getElem?_take_of_lt hq];exact h
   obtain ⟨c1,d1,d2,d3,d4⟩:=ZD W.heap.size vl (i*7) (W.drew.alloc (.cells ROW 70)) ROW 70 (heap_alloc_new W.drew _) (by omega);obtain ⟨c2,g1,g2,g3,g4⟩:=ZD W.heap.size (cl.drop (i*7)) ((i+1)*7) ((W.drew.alloc (.cells ROW 70)).setCells W.heap.size (i*7) vl).drew c1 70 d1 (by omega);have hsz2:(W.drew.alloc (.cells ROW 70)).heap.size=W.heap.size+1:=by simp
   have hold:∀ j,j<W.heap.size->((((W.drew.alloc (.cells ROW 70)).setCells W.heap.size (i*7) vl).drew).setCells W.heap.size ((i+1)*7) (cl.drop (i*7))).heap[j]? = W.heap[j]?:=λj hj=>by
    rw[World.heap_setCells_other _ W.heap.size _ _ (by show j<((W.drew.alloc (.cells ROW 70)).setCells W.heap.size (i*7) vl).heap.size;rw[ZE,hsz2];omega) (by omega)];show ((W.drew.alloc (.cells ROW 70)).setCells W.heap.size (i*7) vl).heap[j]? = _;rw[World.heap_setCells_other _ W.heap.size _ _ (by rw[hsz2];omega) (by omega)];exact heap_alloc_old W.drew _ hj
   obtain ⟨k1,k2⟩:=hk.regrow (rows':=(putP l x i).map ptA) (nb:=(W.heap.size,0)) (W':=(((W.drew.alloc (.cells ROW 70)).setCells W.heap.size (i*7) vl).drew).setCells W.heap.size ((i+1)*7) (cl.drop (i*7))) hg hκ hlen
    (by rw[ZE];show _<=((W.drew.alloc (.cells ROW 70)).setCells W.heap.size (i*7) vl).heap.size;rw[ZE,hsz2];omega)
    (λj hj _=>hold j hj) (by rw[World.os_setCells];show ((W.drew.alloc (.cells ROW 70)).setCells W.heap.size (i*7) vl).os=_;rw[World.os_setCells];rfl)
    (by rw[ZF];show ((W.drew.alloc (.cells ROW 70)).setCells W.heap.size (i*7) vl).tape=_;rw[ZF];rfl)
    (by rw[World.output_setCells];show ((W.drew.alloc (.cells ROW 70)).setCells W.heap.size (i*7) vl).output=_;rw[World.output_setCells];rfl) g1
    (.inr ⟨rfl,by rw[ZE];show _<((W.drew.alloc (.cells ROW 70)).setCells W.heap.size (i*7) vl).heap.size;rw[ZE,hsz2];omega,hold b hlt⟩)
    ⟨hrows,by rw[g2,d2,hRs,W0N,hput];simp only;omega,fin c2 0 (λq u hq h=>by
     rw[W1N,g3 _ (.inl (by omega)),d3 _ (.inl (by omega))];exact hR1 q u hq h) (λq u h=>by
     have:=(W02.1 h).1;rw[W1N,g3 _ (.inl (by omega))];exact d4 q u h) (λq u h=>by
     rw[W1N];exact g4 q u (by rw[W13];exact h))⟩
   exact ⟨_,_,rfl,k1,.osl 1000 _ 7 ((putP l x i).map ptA).length _ _ _ (by simp[St.env,St.get,obSt,lk,AObj.dim]) (by simp[hput]) λ_=>⟨W.heap.size,0,c2,70,by simp[St.env],rfl,by simp,by simpa using hge,hcm,g1,by omega⟩⟩
end
open Qq in
def Zn8:RCode :=
 .seq (r 0 [b 3 1,n 4 O]) (.seq (.seq (r 1 [m 6 0,e 7 6,n 8 O]) (.block 0 (.loop (.seq (r 2 [o 9 .lss 8 7]) (.seq (.cond (.t 9) .skip (.exit 0)) (.seq (.block 1 (.seq (r 3 [m 10 8,m 5 10]) (.seq (R 4 [L 11 7 3,m 12 0,m 13 5,a [1,2] (i 14 7 12 13),a [3] (L 15 7 14),a [0,4] (w 16 (.eqs false [.i,.i,.i,.i,.i,.i,.i] (.t 11) (.t 15)))]) (.cond (.t 16) (.seq (r 5 [m 17 5,m 4 17]) .ret) .skip)))) (r 6 [k 18 .add 8 I,m 8 18]))))))) (.seq (r 7 [n 4 (.int .i64 (-1))]) .ret))
def Zn9:List RRes:=[.t 4]
theorem Zna:PCt Tryz.prog 103 Tryz.f103 Zn8 Zn9:=pcT Tryz.func103 rfl
open Qq in
def Znb:RCode :=
 .seq (r 0 [n 2 O]) (.seq (r 1 [m 3 0,w 4 (.vop (.sh false) [(.t 3),(.c (.int .u64 1))]),w 5 (.vop (.bits .and) [(.t 4),(.c (.int .u64 6148914691236517205))]),m 6 0,w 7 (.vop (.bits .and) [(.t 6),(.c (.int .u64 6148914691236517205))]),o 8 .add 5 7,m 0 8]) (.seq (r 2 [m 9 0,w 10 (.vop (.sh false) [(.t 9),(.c (.int .u64 2))]),w 11 (.vop (.bits .and) [(.t 10),(.c (.int .u64 3689348814741910323))]),m 12 0,w 13 (.vop (.bits .and) [(.t 12),(.c (.int .u64 3689348814741910323))]),o 14 .add 11 13,m 0 14]) (.seq (r 3 [m 15 0,w 16 (.vop (.sh false) [(.t 15),(.c (.int .u64 4))]),m 17 0,o 18 .add 16 17,w 19 (.vop (.bits .and) [(.t 18),(.c (.int .u64 1085102592571150095))]),m 0 19]) (.seq (r 4 [m 20 0,m 21 0,w 22 (.vop (.sh false) [(.t 21),(.c (.int .u64 8))]),o 23 .add 20 22,m 0 23]) (.seq (r 5 [m 24 0,m 25 0,w 26 (.vop (.sh false) [(.t 25),(.c (.int .u64 16))]),o 27 .add 24 26,m 0 27]) (.seq (r 6 [m 28 0,m 29 0,w 30 (.vop (.sh false) [(.t 29),(.c (.int .u64 32))]),o 31 .add 28 30,m 0 31]) (.seq (r 7 [m 32 0,w 33 (.conv .i64 (.t 32)),w 34 (.vop (.bits .and) [(.t 33),(.c (.int .i64 127))]),m 2 34]) .ret)))))))
def Znc:List RRes:=[.t 2]
theorem Znd:PCt Tryz.prog 102 Tryz.f102 Znb Znc:=pcT Tryz.func102 rfl
open Qq in
def Zne:RCode :=
 .seq (r 0 [n 3 (.bool false)]) (.seq (r 1 [l 4 1,w 5 (.nilck (.t 4)),f 6 4 5,l 7 6,m 8 0,c 9 87 [7,8],t 10 9,m 3 10]) .ret)
def Znf:List RRes:=[.t 3]
theorem Zng:PCt Tryz.prog 100 Tryz.f100 Zne Znf:=pcT Tryz.func100 rfl
open Qq in
def Znh:RCode :=
 .seq (r 0 [n 2 .nils]) (.seq (.seq (r 1 [m 3 0,w 4 (.vop (.eqn false) [(.t 3),(.c .nils)])]) (.cond (.t 4) (.seq (r 2 [n 2 .nils]) .ret) .skip)) (.seq (r 3 [w 5 (.bsl true 1 0 [] []),m 6 0,w 7 (.app 1 8 (.t 5) (.t 6)),m 2 7]) .ret))
def Zni:List RRes:=[.t 2]
theorem Znj:PCt Tryz.prog 156 Tryz.f156 Znh Zni:=pcT Tryz.func156 rfl
open Qq in
def Znk:RCode :=
 .seq (r 0 [w 2 (.alloc [.nils,.nils,.nils,.nils])]) (.seq (R 1 [m 8 0,a [0] (w 9 (.nilck (.t 8))),a [1] (f 10 0 9),a [2] (f 11 0 10),a [3] (f 12 1 11),a [4] (l 13 12),a [5] (c 14 120 [13]),a [6] (w 15 (.build [.nils,.nils] [(1,1,.t 14)])),m 16 0,a [8] (w 17 (.nilck (.t 16))),a [9] (f 18 0 17),a [10] (f 19 3 18),a [11] (l 20 19),a [12,6] (c 21 155 [20]),a [7,13] (w 22 (.build [.nils,.nils,.nils,.nils] [(0,2,.t 15),(3,1,.t 21)])),w 3 (.alloc [.nils,.nils,.nils,.nils]),a [15,14,13,0,1,2,3,4,5,6,7,8,9,10,11,12,13,14,15] (s 4 3 22)]) (.seq (.seq (r 2 [m 23 0,w 24 (.nilck (.t 23)),f 25 0 24,f 26 0 25,f 27 0 26,f 28 0 27,l 29 28,e 30 29,n 31 O]) (.block 0 (.loop (.seq (r 3 [o 32 .lss 31 30]) (.seq (.cond (.t 32) .skip (.exit 0)) (.seq (.block 1 (.seq (r 4 [i 33 5 29 31,L 34 5 33,w 5 (.alloc [O,O,.int .u8 0,.nils,.nils]),s 5 5 34]) (.seq (R 5 [f 35 3 5,a [0] (l 36 35),a [1] (c 37 121 [36]),f 38 4 5,a [3] (l 39 38),a [4,2] (c 40 122 [39]),a [0,1,2,3,4] (f 41 3 5),a [6,2,5,0,1,2,3,4] (s 1 41 37),a [0,1,2,3,4,5,6,7] (f 42 4 5),a [8,5,7,0,1,2,3,4,5,6,7] (s 1 42 40)]) (r 6 [f 43 0 3,f 44 0 43,f 45 0 44,l 46 45,L 47 5 5,w 48 (.bsl false 5 1 [O,O,.int .u8 0,.nils,.nils] [(0,.t 47)]),w 49 (.app 5 72 (.t 46) (.t 48)),f 50 0 3,f 51 0 50,f 52 0 51,s 1 52 49])))) (r 7 [k 53 .add 31 I,m 31 53]))))))) (.seq (.seq (r 8 [m 54 0,w 55 (.nilck (.t 54)),f 56 0 55,f 57 2 56,l 58 57,e 59 58,n 60 O]) (.block 2 (.loop (.seq (r 9 [o 61 .lss 60 59]) (.seq (.cond (.t 61) .skip (.exit 2)) (.seq (.block 3 (.seq (r 10 [i 62 4 58 60,L 63 4 62,w 7 (.alloc [O,O,O,.nils]),s 4 7 63]) (.seq (r 11 [f 64 3 7,l 65 64,c 66 156 [65],f 67 3 7,s 1 67 66]) (r 12 [f 68 2 3,l 69 68,L 70 4 7,w 71 (.bsl false 4 1 [O,O,O,.nils] [(0,.t 70)]),w 72 (.app 4 48 (.t 69) (.t 71)),f 73 2 3,s 1 73 72])))) (r 13 [k 74 .add 60 I,m 60 74]))))))) (.seq (r 14 [L 75 4 3,s 4 2 75]) .ret))))
def Znl:List RRes:=[.c 2 true 4]
theorem Znm:PCt Tryz.prog 101 Tryz.f101 Znk Znl:=pcT Tryz.func101 rfl
open Qq in
def Znn:RCode :=
 .seq (r 0 [b 4 0,w 8 (.alloc [.nils,.nils,.nils,.nils]),n 9 O]) (.seq (r 1 [L 21 4 4,m 22 1,w 23 (.call 89 [.t 21,.t 22,.c I]),m 20 23,x 24 0 20,x 25 1 20,w 10 (.alloc [.nilp]),s 1 10 24,m 11 25]) (.seq (.seq (r 2 [m 26 11,k 27 .neq 26 O]) (.cond (.t 27) (.seq (r 3 [w 28 (.build [.nils,.nils,.nils,.nils] []),m 29 11,s 4 8 28,m 9 29]) .ret) .skip)) (.seq (r 4 [n 12 (.int .u64 0)]) (.seq (.seq (r 5 [m 30 2,e 31 30,n 32 O]) (.block 0 (.loop (.seq (r 6 [o 33 .lss 32 31]) (.seq (.cond (.t 33) .skip (.exit 0)) (.seq (.block 1 (.seq (r 7 [i 34 1 30 32,l 35 34,m 14 35]) (.seq (r 8 [l 36 10,m 37 14,c 38 82 [36,37],m 15 38]) (.seq (.seq (r 9 [m 39 15,k 40 .lss 39 O]) (.cond (.t 40) (.seq (r 10 [w 41 (.build [.nils,.nils,.nils,.nils] []),s 4 8 41,n 9 (.int .i64 6)]) .ret) .skip)) (r 11 [m 42 12,m 43 15,w 44 (.vop (.sh true) [(.c (.int .u64 1)),(.t 43)]),w 45 (.vop (.bits .or) [(.t 42),(.t 44)]),m 12 45]))))) (r 12 [k 46 .add 32 I,m 32 46]))))))) (.seq (.seq (r 13 [m 47 3,w 48 (.mkf (.func 100) [] [.t 10]),c 49 85 [47,48]]) (.cond (.t 49) (.seq (r 14 [w 50 (.build [.nils,.nils,.nils,.nils] []),s 4 8 50,n 9 (.int .i64 6)]) .ret) .skip)) (.seq (r 15 [l 51 10,c 52 101 [51],w 16 (.alloc [.nils,.nils,.nils,.nils]),s 4 16 52]) (.seq (.seq (r 16 [m 53 12,c 54 102 [53],m 55 3,e 56 55,o 57 .add 54 56,k 58 .eql 57 O]) (.cond (.t 58) (.seq (r 17 [L 59 4 16,s 4 8 59,n 9 O]) .ret) .skip)) (.seq (.seq (r 18 [l 60 10,m 61 1,c 62 91 [60,61],e 63 62,n 64 O]) (.block 2 (.loop (.seq (r 19 [o 65 .lss 64 63]) (.seq (.cond (.t 65) .skip (.exit 2)) (.seq (.block 3 (.seq (r 20 [i 66 7 62 64,L 67 7 66,w 18 (.alloc [O,O,O,O,O,O,.int .u8 0]),s 7 18 67]) (.seq (.seq (r 21 [m 68 12,l 69 10,f 70 2 18,l 71 70,c 72 82 [69,71],w 73 (.vop (.sh false) [(.t 68),(.t 72)]),w 74 (.vop (.bits .and) [(.t 73),(.c (.int .u64 1))]),k 75 .eql 74 (.int .u64 0),m 76 75,g 76 true (m 77 3),g 76 true (f 78 3 18),g 76 true (f 79 0 78),g 76 true (l 80 79),g 76 true (c 81 87 [77,80]),g 76 true (t 82 81),v 83 76 82]) (.cond (.t 83) (.exit 3) .skip)) (.seq (R 22 [l 84 10,a [0] (w 85 (.nilck (.t 84))),a [1] (f 86 0 85),a [2] (f 87 3 86),a [3] (l 88 87),L 89 7 18,a [4,5] (c 90 103 [88,89]),a [6,6,0,1,2,3,4,5,6] (m 19 90)]) (R 23 [f 91 3 16,a [0] (l 92 91),m 93 19,f 94 3 16,a [3] (l 95 94),m 96 19,m 97 1,a [1,2,0,1,2,6] (i 98 7 92 93),a [7,0,1,2,6] (f 99 5 98),a [8,6,0,1,2,6] (s 1 99 97),a [4,5,0,1,2,3,4,5,6,7,8,9] (i 100 7 95 96),a [10,0,1,2,3,4,5,6,7,8,9] (f 101 6 100),a [11,9,0,1,2,3,4,5,6,7,8,9] (z (.store 1 (.t 101) (.c (.int .u8 0))))]))))) (r 24 [k 102 .add 64 I,m 64 102]))))))) (.seq (r 25 [L 103 4 16,s 4 8 103,n 9 O]) .ret)))))))))
def Zno:List RRes:=[.c 8 true 4,.t 9]
theorem Znp:PCt Tryz.prog 40 Tryz.f40 Znn Zno:=pcT Tryz.func40 rfl
open Qq in
def Znq:RCode :=
 .seq (r 0 [b 2 0,n 4 O]) (.seq (r 1 [f 5 0 2,l 6 5,m 7 1,c 8 107 [6,7],m 4 8]) .ret)
def Znr:List RRes:=[.t 4]
theorem Zns:PCt Tryz.prog 106 Tryz.f106 Znq Znr:=pcT Tryz.func106 rfl
open Qq in
def Znt:RCode :=
 .seq (r 0 [n 6 O,n 7 (.bool false)]) (.seq (r 1 [m 12 0,e 13 12,m 8 13]) (.seq (r 2 [m 14 8,n 9 O,m 10 14]) (.seq (.block 0 (.loop (.seq (.seq (r 3 [m 15 9,m 16 10,o 17 .lss 15 16]) (.cond (.t 17) .skip (.exit 0))) (.block 1 (.seq (r 4 [m 18 9,m 19 10,o 20 .add 18 19,w 21 (.conv .u64 (.t 20)),w 22 (.vop (.sh false) [(.t 21),(.c (.int .u64 1))]),w 23 (.conv .i64 (.t 22)),m 11 23]) (.seq (r 5 [m 24 2,m 25 0,m 26 11,i 27 7 25 26,L 28 7 27,m 29 1,w 30 (.callv (.t 24) [.t 28,.t 29]),k 31 .lss 30 O]) (.cond (.t 31) (r 6 [m 32 11,k 33 .add 32 I,m 9 33]) (r 7 [m 34 11,m 10 34])))))))) (.seq (r 8 [m 35 9,m 36 9,m 37 8,o 38 .lss 36 37,m 39 38,g 39 true (m 40 2),g 39 true (m 41 0),g 39 true (m 42 9),g 39 true (i 43 7 41 42),g 39 true (L 44 7 43),g 39 true (m 45 1),g 39 true (w 46 (.callv (.t 40) [.t 44,.t 45])),g 39 true (k 47 .eql 46 O),v 48 39 47,m 6 35,m 7 48]) .ret))))
def Znu:List RRes:=[.t 6,.t 7]
theorem Znv:PCt Tryz.prog 105 Tryz.f105 Znt Znu:=pcT Tryz.func105 rfl
open Qq in
def Znw:RCode :=
 .seq (r 0 [b 2 0,b 3 1,w 4 (.alloc [.nils,.nils,.nils,.nils]),n 5 O]) (.seq (r 1 [L 12 4 2,c 13 76 [12],m 11 13,x 14 0 11,x 15 1 11,m 6 14,m 7 15]) (.seq (.seq (r 2 [m 16 7,k 17 .neq 16 O]) (.cond (.t 17) (.seq (r 3 [w 18 (.build [.nils,.nils,.nils,.nils] []),m 19 7,s 4 4 18,m 5 19]) .ret) .skip)) (.seq (.seq (r 4 [f 20 3 2,l 21 20,e 22 21,k 23 .eql 22 (.int .i64 30)]) (.cond (.t 23) (.seq (r 5 [w 24 (.build [.nils,.nils,.nils,.nils] []),s 4 4 24,n 5 (.int .i64 9)]) .ret) .skip)) (.seq (r 6 [m 25 6,c 26 101 [25],w 8 (.alloc [.nils,.nils,.nils,.nils]),s 4 8 26]) (.seq (r 7 [f 28 3 8,l 29 28,f 30 0 3,l 31 30,w 32 (.call 105 [.t 29,.t 31,.c (.func (.func 106) [] [])]),m 27 32,x 33 0 27,x 34 1 27,m 9 33,m 10 34]) (.seq (r 8 [f 35 3 8,l 36 35,m 37 9,L 38 7 3,w 39 (.bsl false 7 1 [O,O,O,O,O,O,.int .u8 0] [(0,.t 38)]),c 40 108 [36,37,39],f 41 3 8,s 1 41 40]) (.seq (.seq (r 9 [L 42 4 8,c 43 23 [42],k 44 .neq 43 O]) (.cond (.t 44) (.seq (r 10 [w 45 (.build [.nils,.nils,.nils,.nils] []),s 4 4 45,n 5 (.int .i64 70)]) .ret) .skip)) (.seq (r 11 [L 46 4 8,s 4 4 46,n 5 O]) .ret))))))))
def Znx:List RRes:=[.c 4 true 4,.t 5]
theorem Zny:PCt Tryz.prog 42 Tryz.f42 Znw Znx:=pcT Tryz.func42 rfl
theorem Znz {x y:Prt}:(decide (x.no=y.no)&&(decide (x.dy=y.dy)&&(decide (x.ho=y.ho)&&(decide (x.dw=y.dw)&&(decide (x.lt=y.lt)&&(decide (x.bk=y.bk)&&decide (x.lo=y.lo)))))))=decide (x=y):=by
 cases x;cases y
 rw[W2g];simp
section
variable {G:Nat->Option (List AV)}
theorem ZnA (x:Prt) (l:List Prt) (hl:Sml l):PC Tryz.prog G 103 [.vsl (l.map ptA),.agg (ptA x)] (.int .i64 (fstOf (λy=>decide (x=y)) l)):=by
 unfold Sml at hl;have hpx:ptA x=[.int .i64 x.no,.int .i64 x.dy,.int .i64 x.ho,.int .i64 x.dw,.int .i64 x.lt,.int .i64 x.bk,.int .u8 x.lo]:=rfl;refine Zna rfl λR hG hrd=>?_
 subst hG;refine Qga ?_;simp -implicitDefEqProofs[Zn8,Zn9];refine Z8p (λi=>⟨[(8,.int .i64 i),(7,.int .i64 l.length),(0,.vsl (l.map ptA)),(3,.ptr 3 0)],[(3,.box (ptA x))]⟩) (λi=>∀ j (h:j<l.length),j<i->decide (x=l[j])=false) l.length ?_ (by simp) ?_ ?_
 . ((try simp only[hpx]);refine Ym.sub (by simp[lk,Ya,AV.keys,hpx]) ?_;simp only[hpx,Wkl,and_true];(try simp[lk,Yc,Ya,AV.keys,hpx]))
 . intro i hi he;have w1:IntKind.i64.wrap ((i:Int)+1)=((i+1:Nat):Int):=Yf (by omega) (by omega);obtain ⟨y,hy⟩ : ∃ y,y=l[i]:=⟨_,rfl⟩;have hly:l[i]=y:=hy.symm;have hpy:ptA y=[.int .i64 y.no,.int .i64 y.dy,.int .i64 y.ho,.int .i64 y.dw,.int .i64 y.lt,.int .i64 y.bk,.int .u8 y.lo]:=rfl;have hpi:=Znz (x:=x) (y:=y);refine Qga ?_;simp -implicitDefEqProofs[hi,hly,hpx,hpy,eqL,eq1];refine ⟨rfl,?_⟩;rw[hpi];by_cases e:x=y
   . have hf:fstOf (λy=>decide (x=y)) l=i:=Z9c hi (by simp[hly,e]) he;rw[W0M e];simp -implicitDefEqProofs[];refine Qgr ?_;simp -implicitDefEqProofs[hf]
   . rw[W0S e];simp -implicitDefEqProofs[w1];refine ⟨?_,λj q1 q2=>?_⟩
     . ((try simp only[hpx]);refine Ym.sub (by simp[lk,Ya,AV.keys,hpx]) ?_;simp only[hpx,Wkl,and_true];(try simp[lk,Yc,Ya,AV.keys,hpx]))
     . by_cases e2:j=i
       . subst e2;rw[hly];exact e
       . exact of_decide_eq_false (he j q1 (by omega))
 . intro he;refine Qga ?_;simp -implicitDefEqProofs[];refine Qgr ?_;simp -implicitDefEqProofs[Z9d (p:=λy=>decide (x=y)) (l:=l) (λj hj=>he j hj hj)]
def cmN (a b:Int):Int:=if a<b then -1 else if b<a then 1 else 0
theorem ZnB (z:Prt) (n:Int):PC Tryz.prog G 106 [.agg (ptA z),.int .i64 n] (.int .i64 (cmN z.no n)):=by
 have c:=Z9S (G:=G) z.no n
 (refine Zns rfl λR hG hrd=>Qga ?_;subst hG)
 simp -implicitDefEqProofs[Znq,Znr,ptA];unfold cmN;refine Qco (c) (by simp) ?_;simp -implicitDefEqProofs[]
theorem ZnC (r:List Iss) (l:List Nte) (hs:List Hld) (ps:List Prt) (d:Int) (hd:Sml (nums r)):PC Tryz.prog G 100 [.int .i64 d,.vptr [ofA r l hs ps] 0] (.bool (!decide (d∈nums r))):=by
 have c:=Zei (G:=G) (nums r) d hd;have eO:ofA r l hs ps = .vptr [.vsl (r.map isa),.vsl (l.map na),.vsl (hs.map hoa),.vsl (ps.map ptA),.vsl ((nums r).map ia)] 0:=rfl;rw[eO]
 (refine Zng rfl λR hG hrd=>Qga ?_;subst hG)
 simp -implicitDefEqProofs[Zne,Znf];refine Qco (c) (by simp) ?_;simp -implicitDefEqProofs[]
theorem ZnD {l:List Prt} (h:riP l) {i j:Nat} (hij:i<j) (hj:j<l.length):(l[i]'(by omega)).no<l[j].no:=W0Y.1 h i j (by omega) hj hij
def bsB (l:List Prt) (x:Prt):Bool:=match l[plP l x]? with|some y=>decide (y.no=x.no)|none=>false
theorem ZnE (a b:Int):decide (cmN a b<0)=decide (a<b):=by unfold cmN;split <;> (try split) <;> simp_all
theorem ZnF (a b:Int):decide (cmN a b=0)=decide (a=b):=by unfold cmN;split <;> (try split) <;> simp_all <;> omega
theorem ZnG (g:Nat) (x:Prt) (l:List Prt) (hl:Sml l) (hr:riP l) (hg:∀ z∈l,PC Tryz.prog G g [.agg (ptA z),.int .i64 x.no] (.int .i64 (cmN z.no x.no))) :
  PC Tryz.prog G 105 [.vsl (l.map ptA),.int .i64 x.no,.func (.func g) [] []] (.tup [.int .i64 (plP l x),.bool (bsB l x)]):=by
 unfold Sml at hl;have hpl:=λz:Prt=>show ptA z=[.int .i64 z.no,.int .i64 z.dy,.int .i64 z.ho,.int .i64 z.dw,.int .i64 z.lt,.int .i64 z.bk,.int .u8 z.lo] from rfl
 (refine Znv rfl λR hG hrd=>Qga ?_;subst hG)
 simp -implicitDefEqProofs[Znt,Znu]
 refine Z1Q (λp:Nat×Nat=>⟨[(10,.int .i64 p.2),(9,.int .i64 p.1),(8,.int .i64 l.length),(0,.vsl (l.map ptA)),(1,.int .i64 x.no),(2,.func (.func g) [] [])],[]⟩)
  (λp=>p.1<=p.2/\p.2<=l.length/\(∀ y∈l.take p.1,y.no<x.no)/\∀ y∈l.drop p.2,x.no<=y.no) (λp=>p.2-p.1) (0,l.length) ?_ ⟨W1f _,W0f _,by simp,by simp⟩ ?_
 . (first|exact Wka|exact Wkb)
 rintro ⟨a,b⟩ ⟨hab,hbl,h1,h2⟩;dsimp only at hab hbl h1 h2;refine Qga ?_;by_cases hlt:a<b
 . obtain ⟨m,hm⟩ : ∃ m,m=(a+b) / 2:=⟨_,rfl⟩;have w1:IntKind.i64.wrap ((a:Int)+b)=(a:Int)+b:=Yf (by omega) (by omega);have w2:IntKind.u64.wrap ((a:Int)+b)=(a:Int)+b:=by rw[IntKind.wrap_u64];omega
   have w3:((a:Int)+b).fdiv (2 ^ min 1 IntKind.u64.bits)=(m:Int):=by
    rw[show (2:Int) ^ min 1 IntKind.u64.bits=2 from rfl,Int.fdiv_eq_ediv_of_nonneg _ (by omega)];omega
   have w4:IntKind.i64.wrap (m:Int)=(m:Int):=Yf (by omega) (by omega);have w5:IntKind.i64.wrap ((m:Int)+1)=((m+1:Nat):Int):=Yf (by omega) (by omega);have hml:m<l.length:=(by omega);obtain ⟨z,hz⟩ : ∃ z,z=l[m]:=⟨_,rfl⟩;have hlz:l[m]=z:=hz.symm;have hgz:=hg z (by rw[hz];exact W0e hml);rw[hpl]at hgz;simp -implicitDefEqProofs[hlt,w1,w2,w3,w4,hml,hlz,hpl];refine Yd.of hgz (by simp[AV.pure]) ?_;by_cases c:z.no<x.no
   . simp -implicitDefEqProofs[ZnE,c,w5];refine ⟨(m+1,b),?_,⟨by dsimp only;omega,hbl,?_,h2⟩,by dsimp only;omega⟩
     . (first|exact Wka|exact Wkb)
     . intro y hy;obtain ⟨j,hj,rfl⟩:=W0k hy;rw[W1V];have hj2:j<m+1:=(by simp at hj;omega);by_cases e:j=m
       . subst e;rw[hlz];exact c
       . have:=ZnD hr (i:=j) (j:=m) (by omega) hml;rw[hlz]at this;omega
   . simp -implicitDefEqProofs[ZnE,c];refine ⟨(a,m),?_,⟨by dsimp only;omega,by dsimp only;omega,h1,?_⟩,by dsimp only;omega⟩
     . (first|exact Wka|exact Wkb)
     . intro y hy;dsimp only at hy;obtain ⟨j,hj,rfl⟩:=W0k hy;rw[List.getElem_drop];have hj2:m+j<l.length:=(by simp at hj;omega);by_cases e:j=0
       . subst e;simp only[W1X,hlz];omega
       . have:=ZnD hr (i:=m) (j:=m+j) (by omega) hj2;rw[hlz]at this;omega
 . have eab:a=b:=(by omega);subst eab;have hp:plP l x=a:=ZfB hr hbl h1 h2;by_cases c:a<l.length
   . obtain ⟨z,hz⟩ : ∃ z,z=l[a]:=⟨_,rfl⟩;have hlz:l[a]=z:=hz.symm;have hgz:=hg z (by rw[hz];exact W0e c);rw[hpl]at hgz;have hb:bsB l x=decide (z.no=x.no):=(by unfold bsB;rw[hp,W07 c,hlz]);rw[hp,hb];simp -implicitDefEqProofs[hlt];refine Qgr ?_;simp -implicitDefEqProofs[c,hlz,hpl];refine Yd.of hgz (by simp[AV.pure]) ?_;simp -implicitDefEqProofs[ZnF]
   . have hb:bsB l x=false:=(by unfold bsB;rw[hp,W25 (by omega)]);rw[hp,hb];simp -implicitDefEqProofs[hlt];refine Qgr ?_;simp -implicitDefEqProofs[c]
def ocF (v:Nat):Int:=((List.range 8).filter λi=>v.testBit i).length
theorem ZnH:∀ v,v<256->(ocF v=0↔v=0):=by decide +kernel
theorem ZnI:∀ v,v<256->0<=ocF v/\ocF v<=8:=by decide +kernel
theorem ZnJ:∀ v,v<256->PC Tryz.prog G 102 [.int .u64 (v:Nat)] (.int .i64 (ocF v)):=by
 intro v hv
 (refine Znd rfl λR hG hrd=>Qga ?_;subst hG)
 simp -implicitDefEqProofs[Znb,Znc];clear hrd
 revert v
 decide +kernel
end
open Qq in
def ZnK:RCode :=
 .seq (r 0 [n 2 .nils]) (.seq (.seq (r 1 [m 3 0,w 4 (.vop (.eqn false) [(.t 3),(.c .nils)])]) (.cond (.t 4) (.seq (r 2 [n 2 .nils]) .ret) .skip)) (.seq (r 3 [w 5 (.bsl true 10 0 [] []),m 6 0,w 7 (.app 10 72 (.t 5) (.t 6)),m 2 7]) .ret))
def ZnL:List RRes:=[.t 2]
theorem ZnM:PCt Tryz.prog 120 Tryz.f120 ZnK ZnL:=pcT Tryz.func120 rfl
theorem ZnN (l:List Nte):((l.map na).all λr=>r.all AV.pure)=true:=by simp[na,AV.pure]
section
variable {G:Nat->Option (List AV)}
theorem ZnO (l:List (Int×Int)) (hl:Sml l):PC Tryz.prog G 121 [.vsl (l.map ita)] (.vsl (l.map ita)):=by
 by_cases hne:l=[]
 . subst hne;exact Zav
 unfold Sml at hl;have b1:l.length*16<=70368744177664:=(by omega);have h0:¬l.length=0:=λe=>hne (W0l.1 e)
 have k1:(l.map ita).all (λr=>r.length == 2)=true:=(by simp[ita]);have k2:(l.map ita).all (λr=>r.all AV.one)=true:=(by simp[ita,AV.one]);have k5:(l.map ita).all (λr=>r.all AV.pure)=true:=by simp[ita,AV.pure]
 (refine Z7A rfl λR hG hrd=>Qga ?_;subst hG)
 simp -implicitDefEqProofs[Z7y,Z7z,h0,hne,b1,k1,k2,k5]
theorem ZnP (l:List Dm) (hl:Sml l):PC Tryz.prog G 122 [.vsl (l.map dma)] (.vsl (l.map dma)):=by
 by_cases hne:l=[]
 . subst hne;exact Zaw
 unfold Sml at hl;have b1:l.length*24<=70368744177664:=(by omega);have h0:¬l.length=0:=λe=>hne (W0l.1 e)
 have k1:(l.map dma).all (λr=>r.length == 3)=true:=(by simp[dma]);have k2:(l.map dma).all (λr=>r.all AV.one)=true:=(by simp[dma,AV.one]);have k5:(l.map dma).all (λr=>r.all AV.pure)=true:=by simp[dma,AV.pure]
 (refine Z7D rfl λR hG hrd=>Qga ?_;subst hG)
 simp -implicitDefEqProofs[Z7B,Z7C,h0,hne,b1,k1,k2,k5]
def rwI (r:List Iss) (i:Nat):List (List AV):=(r.take i).map isa
theorem ZnQ {r:List Iss} {i:Nat} (h:i<r.length):rwI r (i+1)=rwI r i++[isa r[i]]:=by
 unfold rwI;rw[W08 h,W0r];rfl
theorem ZnR {r:List Iss} {i:Nat} (h:i<=r.length):(rwI r i).length=i:=by simp[rwI];omega
theorem ZnS (o:List (Nat×AObj)) (r:List Iss) (i:Nat):Yc o (.row 5 (rwI r i))=true:=by
 simp only[Yc,W03,rwI,W0i];rintro x ⟨y,-,rfl⟩ v hv;simp only[isa,W0g,W0Q,or_false]at hv;rcases hv with rfl|rfl|rfl|rfl|rfl <;> simp[Ya,AV.keys]
end
def coK:Nat->Bool:=λk=>decide (k<1000) && !(k == 621)
def coV (i:Nat):AV:=if i=0 then .nils else .osl 49 i
def coO (r:List Iss) (i:Nat):List (Nat×AObj):=if i=0 then [] else [(49,.row 5 (rwI r i))]
def coS (O:AV) (B:List (List AV)) (ps:List Prt) (r:List Iss) (i:Nat):St :=
 ⟨[(31,.int .i64 i),(30,.int .i64 r.length),(29,.vsl (r.map isa)),(3,.ptr 3 0),(2,.ptr 2 0),(0,O)],coO r i++[(3,.box [coV i,.vsl B,.nils,.osl 621 ps.length]),(621,.row 7 (ps.map ptA)),(2,.box [.nils,.nils,.nils,.nils])]⟩
def coT (O:AV) (B:List (List AV)) (ps:List Prt) (r:List Iss) (hs H:List Hld) (i:Nat):St :=
 ⟨[(60,.int .i64 i),(59,.int .i64 hs.length),(58,.vsl (hs.map hoa)),(3,.ptr 3 0),(2,.ptr 2 0),(0,O)],[(3,.box [.vsl (r.map isa),.vsl B,hlV 72 H,.osl 621 ps.length]),(621,.row 7 (ps.map ptA)),(2,.box [.nils,.nils,.nils,.nils])]++hlO 72 H⟩
section
variable {G:Nat->Option (List AV)}
theorem ZnT:PC Tryz.prog G 120 [.vsl []] (.vsl []):=by
 refine Zao Tryz.func120 rfl (by kernel_rfl) (rc:=ZnK) (by kernel_rfl) (rs:=ZnL) (by kernel_rfl) (W0C rfl) λR _ hG hrd=>Qga ?_
 simp -implicitDefEqProofs[ZnK,ZnL,FinZ,nz]
theorem ZnU (l:List Nte) (hl:Sml l):PC Tryz.prog G 120 [.vsl (l.map na)] (.vsl (l.map na)):=by
 by_cases hne:l=[]
 . subst hne;exact ZnT
 unfold Sml at hl;have b1:l.length*72<=70368744177664:=(by omega);have h0:¬l.length=0:=λe=>hne (W0l.1 e)
 have k1:(l.map na).all (λr=>r.length == 10)=true:=(by simp[na]);have k2:(l.map na).all (λr=>r.all AV.one)=true:=(by simp[na,AV.one]);have k5:=ZnN l
 (refine ZnM rfl λR hG hrd=>Qga ?_;subst hG)
 simp -implicitDefEqProofs[ZnK,ZnL,h0,hne,b1,k1,k2,k5]
theorem ZnV:PC Tryz.prog G 156 [.vsl []] (.vsl []):=by
 refine Zao Tryz.func156 rfl (by kernel_rfl) (rc:=Znh) (by kernel_rfl) (rs:=Zni) (by kernel_rfl) (W0C rfl) λR _ hG hrd=>Qga ?_
 simp -implicitDefEqProofs[Znh,Zni,FinZ,nz]
theorem ZnW (l:List Int) (hl:Sml l):PC Tryz.prog G 156 [.vsl (l.map ia)] (.vsl (l.map ia)):=by
 by_cases hne:l=[]
 . subst hne;exact ZnV
 unfold Sml at hl;have b1:l.length*8<=70368744177664:=(by omega);have h0:¬l.length=0:=λe=>hne (W0l.1 e)
 have k1:(l.map ia).all (λr=>r.length == 1)=true:=(by simp[ia]);have k2:(l.map ia).all (λr=>r.all AV.one)=true:=(by simp[ia,AV.one]);have k5:(l.map ia).all (λr=>r.all AV.pure)=true:=by simp[ia,AV.pure]
 (refine Znj rfl λR hG hrd=>Qga ?_;subst hG)
 simp -implicitDefEqProofs[Znh,Zni,h0,hne,b1,k1,k2,k5]
set_option maxHeartbeats 8000000 in
theorem ZnX (r:List Iss) (l:List Nte) (hs:List Hld) (ps:List Prt) (hr:Wf r) (hl:Sml l) (hw:WfP hs ps) (hne:r≠[]) (h80:r.length<=80) (hp:ps≠[]) :
  PB Tryz.prog G 101 [] [ofA r l hs ps] (.agg [.vsl (r.map isa),.vsl (l.map na),Yg (hs.map hoa),.osl 621 ps.length]) [(621,.row 7 (ps.map ptA))]:=by
 have hhl:=hw.hl;have hpl:=hw.pl;have hdl:=hw.dl;have cN:=ZnU (G:=G) l hl;have cP:=Zmf (G:=G) ps hp (by unfold Sml;omega);have hI:=λx (hx:x∈r)=>hr.1.2 x hx
 obtain ⟨B,hB⟩ : ∃ B,B=l.map na:=⟨_,rfl⟩;obtain ⟨N,hN⟩ : ∃ N,N=AV.vsl B:=⟨_,rfl⟩;have pN:N.pure=true:=(by rw[hN,hB];simp[AV.pure,na]);have kN:=AV.pure_keys _ pN;obtain ⟨cs,hO,hc0,hc1,hc2,hc3⟩ : ∃ cs,ofA r l hs ps = .vptr cs 0/\cs[0]? = some (.vsl (r.map isa))/\cs[1]? = some (.vsl B)/\cs[2]? = some (.vsl (hs.map hoa))/\cs[3]? = some (.vsl (ps.map ptA)):=⟨_,rfl,rfl,by rw[hB];rfl,rfl,rfl⟩;have pO:=Zio r l hs ps;rw[hO]at pO ⊢;have kO:=AV.pure_keys _ pO;have rN:=λρ=>AV.ren_pure (ρ:=ρ) N pN
 rw[<- hB]at cN ⊢;rw[hN]at pN kN rN;refine Z5i coK (by intro k hk;simp[coK]at hk;omega) Tryz.func101 rfl (by kernel_rfl) (rc:=Znk) (by kernel_rfl) (rs:=Znl) (by kernel_rfl) (W0C rfl) λR _ hG' hrd=>Yb mixed 4 ?_
 subst hG';simp -implicitDefEqProofs[Znk,Znl];refine GO0 (ZjZ mixed ?_)
 iterate 6 (rw[RE_op (by simp[wants]) (by simp[Z1y])];simp -implicitDefEqProofs[execE,hc0,hc1,hc2,hc3])
 rw[Zk1 (by simp[wants])];simp -implicitDefEqProofs[];refine CallE.of cN (by simp[pN]) ?_
 iterate 6 (rw[RE_op (by simp[wants]) (by simp[Z1y])];simp -implicitDefEqProofs[execE,hc0,hc1,hc2,hc3])
 rw[Zk1 (by simp[wants])];simp -implicitDefEqProofs[];refine CallE.new (NewS.of cP (λk=>k+616) (by simp) (by simp[St.get,lk]) (by simp[AV.pure,ptA]) rfl) ?_;simp -implicitDefEqProofs[Yl,ZlO,AV.ren]
 iterate 3 (rw[RE_op (by simp[wants]) (by simp[Z1y])];simp -implicitDefEqProofs[execE])
 refine ⟨rfl,?_⟩;refine Qgr ?_;simp -implicitDefEqProofs[hc0];refine Z8p (coS (.vptr cs 0) B ps r) (λ_=>True) r.length ?_ trivial ?_ ?_
 . simp only[coS,coV,coO,if_true,W18]
   ((try simp only[Zl1]);refine Ym.sub (by simp[lk,Ya,AV.keys,Zl1]) ?_;simp only[Zl1,Wkl,and_true];(try simp[lk,Yc,Ya,AV.keys,Zl1]))
 . intro i hi _;have wi:IntKind.i64.wrap ((i:Int)+1)=(i:Int)+1:=Yf (by omega) (by omega);have sc:=ZnQ hi;have hx2:=hI _ (W0e hi);obtain ⟨x,hx⟩ : ∃ x,x=r[i]:=⟨_,rfl⟩;have hax:isa r[i]=[.int .i64 x.d,.int .i64 x.l,.int .u8 x.k,.vsl (x.its.map ita),.vsl (x.dms.map dma)]:=(by rw[<- hx];rfl);rw[<- hx]at hx2;rw[hax]at sc;have c1:=ZnO (G:=R.G) x.its hx2.1;have c2:=ZnP (G:=R.G) x.dms hx2.2;refine Qga ?_;unfold coS;by_cases h0i:i=0
   . subst h0i;have e0:rwI r 0=[]:=rfl;have w1:IntKind.i64.wrap 1=1:=rfl;rw[e0,W18]at sc;replace sc:rwI r 1=[[.int .i64 x.d,.int .i64 x.l,.int .u8 x.k,.vsl (x.its.map ita),.vsl (x.dms.map dma)]]:=sc;simp only[coV,coO,if_true,W18];simp -implicitDefEqProofs[hi,hax,w1];refine Qco (c1) (by simp) ?_;simp -implicitDefEqProofs[];refine Qco (c2) (by simp) ?_;simp -implicitDefEqProofs[w1];refine ⟨rfl,?_⟩;rw[sc]
     (refine Wkc ?_;simp only[Zl1,Wkl,and_true];(try simp[lk,Yc,Ya,AV.keys]))
   . have b1:(i+1)*72<=70368744177664:=(by omega);have hln:=ZnR (r:=r) (i:=i) (by omega);simp only[coV,coO,h0i,if_false,W1e,W18];simp -implicitDefEqProofs[hi,hax];refine Qco (c1) (by simp) ?_;simp -implicitDefEqProofs[];refine Qco (c2) (by simp) ?_;simp -implicitDefEqProofs[b1,wi,hln];refine ⟨rfl,?_⟩;rw[<- sc]
     (refine Wkc ?_;simp only[ZnS,Zl1,Wkl,and_true];(try simp[lk,Yc,Ya,AV.keys]))
 . intro _;have hr0:r.length≠0:=λe=>hne (W0l.1 e)
   have hrw:rwI r r.length=r.map isa:=(by unfold rwI;rw[W0v]);have pr:((r.map isa).all λr=>r.all AV.pure)=true:=(by simp[isa,AV.pure]);have pP:((ps.map ptA).all λr=>r.all AV.pure)=true:=by simp[ptA,AV.pure]
   have fP:∀ ok st,frzO ok st (.row 7 (ps.map ptA)) = .row 7 (ps.map ptA):=λok st=>by
    simp only[frzO,W10]
    congr 2
    funext p;simp[ptA,frzA,frz,AV.keys]
   refine Qga ?_;unfold coS;rw[show coO r r.length=[(49,.row 5 (r.map isa))] by unfold coO;rw[if_neg hr0,hrw],show coV r.length = .osl 49 r.length by unfold coV;rw[if_neg hr0]];simp -implicitDefEqProofs[];refine Qgr ?_;simp -implicitDefEqProofs[hc2];refine Z8p (λi=>coT (.vptr cs 0) B ps r hs (hs.take i) i) (λ_=>True) hs.length ?_ trivial ?_ ?_
   . refine Ym.trans (Ym.frz (λk=>k == 49) _) ?_;simp only[coT,hlV,hlO,W1g,if_true,W1G]
     ((try simp only[Yi,frzA,fP,frzO,frz,Yh,Yj,St.get,AV.pure,pr]);refine Ym.sub (by simp[lk,Ya,AV.keys,Yi,frzA,fP,frzO,frz,Yh,Yj,St.get,AV.pure,pr]) ?_;simp only[Yi,frzA,fP,frzO,frz,Yh,Yj,St.get,AV.pure,pr,Wkl,Zl1,and_true];(try simp[lk,Yc,Ya,AV.keys,Yi,frzA,fP,frzO,frz,Yh,Yj,St.get,AV.pure,pr]))
     intro a _;simp[ptA,frzA,frz,AV.keys]
   . intro i hi _;have hdi:=hdl _ (W0e hi);obtain ⟨h,hhe⟩ : ∃ h,h=hs[i]:=⟨_,rfl⟩;rw[<- hhe]at hdi;have hlx:hs[i]=h:=hhe.symm;have hho:hoa h=[.int .i64 h.id,.int .i64 h.fr,.int .i64 h.to,.vsl (h.ds.map ia)]:=rfl;have c3:=ZnW (G:=R.G) h.ds (by unfold Sml;omega);have wi:IntKind.i64.wrap ((i:Int)+1)=(i:Int)+1:=Yf (by omega) (by omega);have tk:hs.take (i+1)=hs.take i++[h]:=(by rw[W08 hi,hlx]);have tl:(hs.take i).length=i:=(by simp;omega);have bb:(i+1)*48<=70368744177664:=(by omega);obtain ⟨H,hH⟩ : ∃ H,H=hs.take i:=⟨_,rfl⟩;rw[<- hH]at tk tl;have em:(H++[h]).map hoa=H.map hoa++[hoa h]:=(by simp);have hne:¬H++[h]=[]:=(by simp);have hV2:hlV 72 (H++[h]) = .osl 72 (i+1):=(by unfold hlV;rw[if_neg hne];simp[tl]);have hO2:hlO 72 (H++[h])=[(72,.row 4 (H.map hoa++[hoa h]))]:=(by unfold hlO;rw[if_neg hne,em]);refine Qga ?_;by_cases cH:H=[]
     case' pos =>
      have hV:hlV 72 H = .nils:=(by simp[hlV,cH]);have hQ:hlO 72 H=[]:=by simp[hlO,cH]
     case' neg =>
      have hV:hlV 72 H = .osl 72 i:=(by simp[hlV,cH,tl]);have hQ:hlO 72 H=[(72,.row 4 (H.map hoa))]:=by simp[hlO,cH]
     all_goals
      simp -implicitDefEqProofs[coT,<- hH,hV,hQ,hi,hlx,hho,wi,bb,tl];refine Qco (c3) (by simp) ?_;simp -implicitDefEqProofs[coT,<- hH,hV,hQ,hi,hlx,hho,wi,bb,tl];simp only[tk,hV2,hO2,hho];rw[<- hho,<- em]
      ((try simp only[hho]);refine Ym.sub (by simp[lk,Ya,AV.keys,hho]) ?_;simp only[hho,Wkl,Zl1,Zl0,and_true];(try simp[lk,Yc,Ya,AV.keys,hho]))
      all_goals exact ⟨by rw[<- tl,cH];rfl,cH⟩
   . intro _;have tl:hs.take hs.length=hs:=W0v;refine Qga ?_;by_cases cH:hs=[]
     . have hV:hlV 72 hs = .nils:=(by simp[hlV,cH]);have hQ:hlO 72 hs=[]:=(by simp[hlO,cH]);simp -implicitDefEqProofs[coT,tl,hV,hQ];refine Qgr ?_;simp -implicitDefEqProofs[];simp -implicitDefEqProofs[FinO,Yi,coK,fP,frzA,frz,AV.keys,pr,kN,Yg,cH]
     . have hV:hlV 72 hs = .osl 72 hs.length:=(by simp[hlV,cH]);have hQ:hlO 72 hs=[(72,.row 4 (hs.map hoa))]:=(by simp[hlO,cH]);simp -implicitDefEqProofs[coT,tl,hV,hQ];refine Qgr ?_;simp -implicitDefEqProofs[];simp -implicitDefEqProofs[FinO,Yi,coK,fP,frzA,frz,AV.keys,pr,kN,Yg,cH,hoa,AV.pure]
     end
def cpS (O:AV) (B:List (List AV)) (r:List Iss) (i:Nat):St :=
 ⟨[(31,.int .i64 i),(30,.int .i64 r.length),(29,.vsl (r.map isa)),(3,.ptr 3 0),(2,.ptr 2 0),(0,O)],coO r i++[(3,.box [coV i,.vsl B,.nils,.vsl []]),(2,.box [.nils,.nils,.nils,.nils])]⟩
def cpT (O:AV) (B:List (List AV)) (r:List Iss) (hs H:List Hld) (i:Nat):St :=
 ⟨[(60,.int .i64 i),(59,.int .i64 hs.length),(58,.vsl (hs.map hoa)),(3,.ptr 3 0),(2,.ptr 2 0),(0,O)],[(3,.box [.vsl (r.map isa),.vsl B,hlV 72 H,.vsl []]),(2,.box [.nils,.nils,.nils,.nils])]++hlO 72 H⟩
section
variable {G:Nat->Option (List AV)}
theorem ZnY:PC Tryz.prog G 155 [.vsl []] (.vsl []):=by
 refine Zao Tryz.func155 rfl (by kernel_rfl) (rc:=ZfS) (by kernel_rfl) (rs:=ZfT) (by kernel_rfl) (W0C rfl) λR _ hG hrd=>Qga ?_
 simp -implicitDefEqProofs[ZfS,ZfT,FinZ,nz]
set_option maxHeartbeats 8000000 in
theorem ZnZ (r:List Iss) (l:List Nte) (hs:List Hld) (hr:Wf r) (hl:Sml l) (hw:WfP hs []) (hne:r≠[]) (h80:r.length<=80) :
  PC Tryz.prog G 101 [ofA r l hs []] (.agg [.vsl (r.map isa),.vsl (l.map na),Yg (hs.map hoa),.vsl []]):=by
 have hhl:=hw.hl;have hdl:=hw.dl;have cN:=ZnU (G:=G) l hl;have cP:=ZnY (G:=G);have hI:=λx (hx:x∈r)=>hr.1.2 x hx
 obtain ⟨B,hB⟩ : ∃ B,B=l.map na:=⟨_,rfl⟩;obtain ⟨N,hN⟩ : ∃ N,N=AV.vsl B:=⟨_,rfl⟩;have pN:N.pure=true:=(by rw[hN,hB];simp[AV.pure,na]);have kN:=AV.pure_keys _ pN;obtain ⟨cs,hO,hc0,hc1,hc2,hc3⟩ : ∃ cs,ofA r l hs [] = .vptr cs 0/\cs[0]? = some (.vsl (r.map isa))/\cs[1]? = some (.vsl B)/\cs[2]? = some (.vsl (hs.map hoa))/\cs[3]? = some (.vsl []):=⟨_,rfl,rfl,by rw[hB];rfl,rfl,rfl⟩;have pO:=Zio r l hs [];rw[hO]at pO ⊢;have kO:=AV.pure_keys _ pO;have rN:=λρ=>AV.ren_pure (ρ:=ρ) N pN
 rw[<- hB]at cN ⊢;rw[hN]at pN kN rN
 (refine Znm rfl λR hG hrd=>Qga ?_;subst hG)
 simp -implicitDefEqProofs[Znk,Znl,hc0,hc1,hc2,hc3];refine Qco (cN) (by simp) ?_;simp -implicitDefEqProofs[hc0,hc1,hc2,hc3];refine Qco (cP) (by simp) ?_;simp -implicitDefEqProofs[hc0,hc1,hc2,hc3];refine ⟨rfl,?_⟩;refine Z8p (cpS (.vptr cs 0) B r) (λ_=>True) r.length ?_ trivial ?_ ?_
 . simp only[cpS,coV,coO,if_true,W18]
   (refine Wkc ?_;simp only[Wkl,and_true];(try simp[lk,Yc,Ya,AV.keys]))
 . intro i hi _;have wi:IntKind.i64.wrap ((i:Int)+1)=(i:Int)+1:=Yf (by omega) (by omega);have sc:=ZnQ hi;have hx2:=hI _ (W0e hi);obtain ⟨x,hx⟩ : ∃ x,x=r[i]:=⟨_,rfl⟩;have hax:isa r[i]=[.int .i64 x.d,.int .i64 x.l,.int .u8 x.k,.vsl (x.its.map ita),.vsl (x.dms.map dma)]:=(by rw[<- hx];rfl);rw[<- hx]at hx2;rw[hax]at sc;have c1:=ZnO (G:=R.G) x.its hx2.1;have c2:=ZnP (G:=R.G) x.dms hx2.2;refine Qga ?_;unfold cpS;by_cases h0i:i=0
   . subst h0i;have e0:rwI r 0=[]:=rfl;have w1:IntKind.i64.wrap 1=1:=rfl;rw[e0,W18]at sc;replace sc:rwI r 1=[[.int .i64 x.d,.int .i64 x.l,.int .u8 x.k,.vsl (x.its.map ita),.vsl (x.dms.map dma)]]:=sc;simp only[coV,coO,if_true,W18];simp -implicitDefEqProofs[hi,hax,w1];refine Qco (c1) (by simp) ?_;simp -implicitDefEqProofs[];refine Qco (c2) (by simp) ?_;simp -implicitDefEqProofs[w1];refine ⟨rfl,?_⟩;rw[sc]
     (refine Wkc ?_;simp only[Wkl,and_true];(try simp[lk,Yc,Ya,AV.keys]))
   . have b1:(i+1)*72<=70368744177664:=(by omega);have hln:=ZnR (r:=r) (i:=i) (by omega);simp only[coV,coO,h0i,if_false,W1e,W18];simp -implicitDefEqProofs[hi,hax];refine Qco (c1) (by simp) ?_;simp -implicitDefEqProofs[];refine Qco (c2) (by simp) ?_;simp -implicitDefEqProofs[b1,wi,hln];refine ⟨rfl,?_⟩;rw[<- sc]
     (refine Wkc ?_;simp only[ZnS,and_true,Wkl,and_true];(try simp[lk,Yc,Ya,AV.keys]))
 . intro _;have hr0:r.length≠0:=λe=>hne (W0l.1 e)
   have hrw:rwI r r.length=r.map isa:=(by unfold rwI;rw[W0v]);have pr:((r.map isa).all λr=>r.all AV.pure)=true:=(by simp[isa,AV.pure]);refine Qga ?_;unfold cpS;rw[show coO r r.length=[(49,.row 5 (r.map isa))] by unfold coO;rw[if_neg hr0,hrw],show coV r.length = .osl 49 r.length by unfold coV;rw[if_neg hr0]];simp -implicitDefEqProofs[];refine Qgr ?_;simp -implicitDefEqProofs[hc2];refine Z8p (λi=>cpT (.vptr cs 0) B r hs (hs.take i) i) (λ_=>True) hs.length ?_ trivial ?_ ?_
   . refine Ym.trans (Ym.frz (λk=>k == 49) _) ?_;simp only[cpT,hlV,hlO,W1g,if_true,W1G]
     ((try simp only[Yi,frzA,frzO,frz,Yh,Yj,St.get,AV.pure,pr]);refine Ym.sub (by simp[lk,Ya,AV.keys,Yi,frzA,frzO,frz,Yh,Yj,St.get,AV.pure,pr]) ?_;simp only[Yi,frzA,frzO,frz,Yh,Yj,St.get,AV.pure,pr,Wkl,and_true];(try simp[lk,Yc,Ya,AV.keys,Yi,frzA,frzO,frz,Yh,Yj,St.get,AV.pure,pr]))
   . intro i hi _;have hdi:=hdl _ (W0e hi);obtain ⟨h,hhe⟩ : ∃ h,h=hs[i]:=⟨_,rfl⟩;rw[<- hhe]at hdi;have hlx:hs[i]=h:=hhe.symm;have hho:hoa h=[.int .i64 h.id,.int .i64 h.fr,.int .i64 h.to,.vsl (h.ds.map ia)]:=rfl;have c3:=ZnW (G:=R.G) h.ds (by unfold Sml;omega);have wi:IntKind.i64.wrap ((i:Int)+1)=(i:Int)+1:=Yf (by omega) (by omega);have tk:hs.take (i+1)=hs.take i++[h]:=(by rw[W08 hi,hlx]);have tl:(hs.take i).length=i:=(by simp;omega);have bb:(i+1)*48<=70368744177664:=(by omega);obtain ⟨H,hH⟩ : ∃ H,H=hs.take i:=⟨_,rfl⟩;rw[<- hH]at tk tl;have em:(H++[h]).map hoa=H.map hoa++[hoa h]:=(by simp);have hne:¬H++[h]=[]:=(by simp);have hV2:hlV 72 (H++[h]) = .osl 72 (i+1):=(by unfold hlV;rw[if_neg hne];simp[tl]);have hO2:hlO 72 (H++[h])=[(72,.row 4 (H.map hoa++[hoa h]))]:=(by unfold hlO;rw[if_neg hne,em]);refine Qga ?_;by_cases cH:H=[]
     case' pos =>
      have hV:hlV 72 H = .nils:=(by simp[hlV,cH]);have hQ:hlO 72 H=[]:=by simp[hlO,cH]
     case' neg =>
      have hV:hlV 72 H = .osl 72 i:=(by simp[hlV,cH,tl]);have hQ:hlO 72 H=[(72,.row 4 (H.map hoa))]:=by simp[hlO,cH]
     all_goals
      simp -implicitDefEqProofs[cpT,<- hH,hV,hQ,hi,hlx,hho,wi,bb,tl];refine Qco (c3) (by simp) ?_;simp -implicitDefEqProofs[cpT,<- hH,hV,hQ,hi,hlx,hho,wi,bb,tl];simp only[tk,hV2,hO2,hho];rw[<- hho,<- em]
      ((try simp only[hho]);refine Ym.sub (by simp[lk,Ya,AV.keys,hho]) ?_;simp only[hho,Wkl,Zl0,and_true];(try simp[lk,Yc,Ya,AV.keys,hho]))
      all_goals exact ⟨by rw[<- tl,cH];rfl,cH⟩
   . intro _;have tl:hs.take hs.length=hs:=W0v;refine Qga ?_;by_cases cH:hs=[]
     . have hV:hlV 72 hs = .nils:=(by simp[hlV,cH]);have hQ:hlO 72 hs=[]:=(by simp[hlO,cH]);simp -implicitDefEqProofs[cpT,tl,hV,hQ];refine Qgr ?_;simp -implicitDefEqProofs[];simp -implicitDefEqProofs[Yg,cH,hoa,AV.pure,pr,Yh,Yj]
     . have hV:hlV 72 hs = .osl 72 hs.length:=(by simp[hlV,cH]);have hQ:hlO 72 hs=[(72,.row 4 (hs.map hoa))]:=(by simp[hlO,cH]);simp -implicitDefEqProofs[cpT,tl,hV,hQ];refine Qgr ?_;simp -implicitDefEqProofs[];simp -implicitDefEqProofs[Yg,cH,hoa,AV.pure,pr,Yh,Yj]
     end
def toN (hs:List Hld) (A:List Int):Nat:=A.foldl (λt id=>t ||| 2 ^ (hoI hs id).toNat) 0
theorem Zo0 (hs:List Hld) (A:List Int) (id:Int):toN hs (A++[id])=toN hs A ||| 2 ^ (hoI hs id).toNat:=by simp[toN]
theorem Zo1 (hs:List Hld) (k:Nat):∀ (A:List Int) (t:Nat),(A.foldl (λt id=>t ||| 2 ^ (hoI hs id).toNat) t).testBit k=(t.testBit k||A.any λid=>decide ((hoI hs id).toNat=k))
 |[],t=>by simp
 |id::A,t=>by rw[W2e,Zo1 hs k A,Nat.testBit_or,Nat.testBit_two_pow,List.any_cons,Bool.or_assoc]
theorem Zo2 (hs:List Hld) (k:Nat) (A:List Int):(toN hs A).testBit k=A.any λid=>decide ((hoI hs id).toNat=k):=by
 unfold toN;rw[Zo1];simp
theorem Zo3 (hs:List Hld):∀ (A:List Int) (t:Nat),t<256->(∀ id∈A,(hoI hs id).toNat<8)->A.foldl (λt id=>t ||| 2 ^ (hoI hs id).toNat) t<256
 |[],_,h,_=>h
 | id::A,t,h,hA=>by
   refine Zo3 hs A _ ?_ λx hx=>hA x (W0z _ hx)
   have h2:2 ^ (hoI hs id).toNat<2 ^ 8:=Nat.pow_lt_pow_right (by omega) (hA id (W0H ..));exact Nat.or_lt_two_pow (n:=8) h h2
theorem Zo4 (hs:List Hld) (A:List Int) (h:∀ id∈A,(hoI hs id).toNat<8):toN hs A<256:=Zo3 hs A 0 (by omega) h
theorem Zo5 {hs:List Hld} {id:Int} (h:0<=hoI hs id):∃ (k:Nat) (hk:k<hs.length),hoI hs id=k/\hs[k].id=id:=by
 obtain ⟨k,hk,e,f⟩:=Zl7 h;exact ⟨k,hk,e,(Zim f).2⟩
theorem Zo6 {hs:List Hld} {A:List Int} {y:Int} (hA:∀ id∈A,0<=hoI hs id) (hy:0<=hoI hs y):(toN hs A).testBit (hoI hs y).toNat=A.contains y:=by
 rw[Zo2,W2g,W14,W0w]
 constructor
 . rintro ⟨id,h1,h2⟩;have h2:=W0X h2;obtain ⟨k,hk,e,f⟩:=Zo5 (hA id h1);obtain ⟨j,hj,e2,f2⟩:=Zo5 hy;have:k=j:=(by omega);subst this;rw[<- f2,f];exact h1
 . intro h;exact ⟨y,h,by simp⟩
theorem Zo7 {hs:List Hld} {A:List Int} (hA:∀ id∈A,0<=hoI hs id):toN hs A=0↔A=[]:=by
 constructor
 . intro h
   cases A with
   |nil=>rfl
   | cons id t =>
     have h2:=Zo6 (y:=id) hA (hA id (W0H ..));rw[h]at h2;simp at h2
 . rintro rfl;rfl
theorem Zo8:∀ T:Nat,T<256->∀ k:Nat,k<8->IntKind.u64.wrap ((T % 2 ^ IntKind.u64.bits ||| ((IntKind.u64.wrap ((2:Int) ^ min k IntKind.u64.bits)) % 2 ^ IntKind.u64.bits).toNat:Nat):Int)=((T ||| 2 ^ k:Nat):Int):=by decide +kernel
theorem Zo9:∀ T:Nat,T<256->∀ k:Nat,k<8->IntKind.u64.wrap (((((T:Int).fdiv (2 ^ min k IntKind.u64.bits)) % 2 ^ IntKind.u64.bits).toNat &&& 1 % 2 ^ IntKind.u64.bits:Nat):Int)=if T.testBit k=true then 1 else 0:=by decide +kernel
def rowC (ps S:List Prt) (A B:List Int) (day:Int):List Prt:=ps.map λx=>if (decide (x∈S)&&rchB A B x)=true then { x with bk:=day,lo:=0 } else x
section
variable {ps S:List Prt} {A B:List Int} {day:Int} {y:Prt}
theorem Zoa:rowC ps [] A B day=ps:=by simp[rowC]
theorem Zob:(rowC ps S A B day).length=ps.length:=by simp[rowC]
theorem Zoc {j:Nat} (h:j<(rowC ps S A B day).length):(rowC ps S A B day)[j]=if (decide (ps[j]'(by rw[Zob]at h;exact h)∈S)&&rchB A B (ps[j]'(by rw[Zob]at h;exact h)))=true then { ps[j]'(by rw[Zob]at h;exact h) with bk:=day,lo:=0 } else ps[j]'(by rw[Zob]at h;exact h):=by simp[rowC]
theorem Zod (h:rchB A B y=false):rowC ps (S++[y]) A B day=rowC ps S A B day:=by
 unfold rowC;refine W0K λx _=>?_
 by_cases e:x=y
 . subst e;rw[h];simp
 . have:(x∈S++[y])↔x∈S:=(by simp[e]);rw[decide_eq_decide.2 this]
theorem Zoe (hp:riP ps) (h:rchB A B y=true) (hy:y ∉ S) {k:Nat} (hk:k<ps.length) (e:ps[k]=y) :
  (rowC ps S A B day)[k]'(by rw[Zob];exact hk)=y/\(rowC ps S A B day).set k { y with bk:=day,lo:=0 }=rowC ps (S++[y]) A B day:=by
 constructor
 . rw[Zoc,e,W0S hy];rfl
 . refine W1I (by simp[Zob]) λj h1 h2=>?_
   have hj:j<ps.length:=(by simpa [Zob] using h1);rw[List.getElem_set,Zoc,Zoc]
   split
   . rename_i q;subst q;rw[e,h,if_pos (by simp)]
   . rename_i q
     have:ps[j]≠y:=λq2=>by
      rcases W0R j k with c|c|c
      . have:=W0Y.1 hp j k hj hk c;rw[q2,e]at this;omega
      . exact q c.symm
      . have:=W0Y.1 hp k j hk hj c;rw[q2,e]at this;omega
     have:(ps[j]∈S++[y])↔ps[j]∈S:=(by simp[this]);rw[decide_eq_decide.2 this]
theorem Zof {l:List Nte} {hs:List Hld}:rowC ps (staL l hs ps day) A B day=ps.map (calP l hs day A B):=by
 unfold rowC calP;refine W0K λx hx=>?_
 have:(x∈staL l hs ps day)↔stB l hs day x=true:=(by unfold staL;rw[W0G];exact ⟨λh=>h.2,λh=>⟨hx,h⟩⟩);have hd:decide (x∈staL l hs ps day)=stB l hs day x:=(by rw[W2g,decide_eq_true_iff];exact this);rw[hd]
theorem Zog (h:riP ps):ps.Nodup:=h.imp λ{a b} q e=>by rw[e]at q;omega
end
def clE (r:List Iss) (l:List Nte) (hs:List Hld) (ps:List Prt) (day:Int) (A B:List Int):Int :=
 if as7 r l hs ps day 1=0 then (if (A.all λid=>decide (0<=hoI hs id))&&B.all λd=>decide (d∈nums r) then 0 else 6) else as7 r l hs ps day 1
def clA (r:List Iss) (l:List Nte) (hs:List Hld) (ps:List Prt) (day:Int) (A B:List Int):AV :=
 .tup [if clE r l hs ps day A B=0 then prA r l hs (ps.map (calP l hs day A B)) else .agg [.nils,.nils,.nils,.nils],.int .i64 (clE r l hs ps day A B)]
def cl1 (O:AV) (hs:List Hld) (day:Int) (A B:List Int) (i:Nat):St :=
 ⟨[(32,.int .i64 i),(31,.int .i64 A.length),(30,.vsl (A.map ia)),(12,.int .u64 (toN hs (A.take i):Nat)),(10,.ptr 10 0),(8,.ptr 8 0),(3,.vsl (B.map ia)),(1,.int .i64 day)],[(10,.box [O]),(8,.box [.nils,.nils,.nils,.nils])]⟩
def cl2 (O:AV) (IR NL HL:List (List AV)) (T:Nat) (ps S:List Prt) (A B:List Int) (day:Int) (i:Nat):St :=
 ⟨[(64,.int .i64 i),(63,.int .i64 S.length),(62,.vsl (S.map ptA)),(16,.ptr 16 0),(12,.int .u64 (T:Nat)),(10,.ptr 10 0),(8,.ptr 8 0),(3,.vsl (B.map ia)),(1,.int .i64 day)],[(16,.box [.vsl IR,.vsl NL,.vsl HL,.osl 921 ps.length]),(921,.row 7 ((rowC ps (S.take i) A B day).map ptA)),(10,.box [O]),(8,.box [.nils,.nils,.nils,.nils])]⟩
section
variable {G:Nat->Option (List AV)}
set_option maxHeartbeats 8000000 in
theorem Zoh (hG:GC G) (hN:GN G) (hP:GP G) (r:List Iss) (l:List Nte) (hs:List Hld) (ps:List Prt) (day:Int) (A B:List Int) (hl:WfN l) (hr:Wf r) (hne:r≠[]) (h80:r.length<=80) (hd:Sml (nums r)) (hw:WfP hs ps) (hA:Sml A) (hB:Sml B) :
  PC Tryz.prog G 40 [prA r l hs ps,.int .i64 day,.vsl (A.map ia),.vsl (B.map ia)] (clA r l hs ps day A B):=by
 have ha:=Zji hG hN hP r l hs ps day 1 hl hr hd hw;have pO:=Zio r l hs ps;have kO:=Zip r l hs ps;unfold asP at ha;unfold clA clE;by_cases h0:as7 r l hs ps day 1=0
 case neg =>
  rw[if_neg h0]at ha;simp only[if_neg h0];unfold prA at *
  (refine Znp rfl λR hG hrd=>Qga ?_;subst hG)
  simp -implicitDefEqProofs[Znn,Zno];refine Qco (ha) (by simp) ?_;simp -implicitDefEqProofs[h0]
 have k0:=(ZkC h0).1;have cS:=ZlR hG hN r l hs ps day hl hr hd hw k0;have cS:=PC.out cS (Nsub.orNil _);have hhl:=hw.hl;have cH:=λid=>ZiJ (G:=G) r l hs ps id (by unfold Sml;omega)
 rw[if_pos h0,h0]at ha;simp only[if_pos h0];have d1:ck7 r l hs ps=0:=k0;have c1:=ZnC (G:=G) r l hs ps;obtain ⟨cs,hO,hc3⟩ : ∃ cs,ofA r l hs ps = .vptr cs 0/\cs[3]? = some (.vsl (ps.map ptA)):=⟨_,rfl,rfl⟩;rw[hO]at ha pO kO cS;simp only[hO]at cH c1;unfold Sml at hA hB;obtain ⟨V,hV⟩ : ∃ V,V=AV.tup [if (if ((A.all λid=>decide (0<=hoI hs id))&&B.all λd=>decide (d∈nums r))=true then (0:Int) else 6)=0 then prA r l hs (ps.map (calP l hs day A B)) else .agg [.nils,.nils,.nils,.nils],.int .i64 (if ((A.all λid=>decide (0<=hoI hs id))&&B.all λd=>decide (d∈nums r))=true then 0 else 6)]:=⟨_,rfl⟩;rw[<- hV];have eP:prA r l hs ps = .agg [.vsl (r.map isa),.vsl (l.map na),.vsl (hs.map hoa),.vsl (ps.map ptA)]:=rfl;rw[eP]at ha ⊢
 (refine Znp rfl λR hG hrd=>Qga ?_;subst hG)
 simp -implicitDefEqProofs[Znn,Zno];refine Qco (ha) (by simp) ?_;simp -implicitDefEqProofs[];refine Z8p (cl1 (.vptr cs 0) hs day A B) (λi=>∀ id∈A.take i,0<=hoI hs id) A.length ?_ (by simp) ?_ ?_
 . unfold cl1
   ((try simp only[kO,toN]);refine Ym.sub (by simp[lk,Ya,AV.keys,kO,toN]) ?_;simp only[kO,toN,Wkl,and_true];(try simp[lk,Yc,Ya,AV.keys,kO,toN]))
 . intro i hi he;obtain ⟨id,hid⟩ : ∃ id,id=A[i]:=⟨_,rfl⟩;have hlx:A[i]=id:=hid.symm;have cI:=cH id;have tk:A.take (i+1)=A.take i++[id]:=(by rw[W08 hi,hlx]);have wi:IntKind.i64.wrap ((i:Int)+1)=(i:Int)+1:=Yf (by omega) (by omega);refine Qga ?_;by_cases hc:0<=hoI hs id
   . obtain ⟨k,hk,e,f⟩:=Zo5 hc;rw[e]at cI
     have hT:toN hs (A.take i)<256:=Zo4 hs _ λx hx=>by
      obtain ⟨k,hk,e,f⟩:=Zo5 (he x hx);omega
     have sh:=Zo8 _ hT k (by omega);have tn:toN hs (A.take (i+1))=toN hs (A.take i) ||| 2 ^ k:=by rw[tk,Zo0,e];rfl
     obtain ⟨T,hTe⟩ : ∃ T,T=toN hs (A.take i):=⟨_,rfl⟩;rw[<- hTe]at sh tn hT;have hw1:cl1 (.vptr cs 0) hs day A B i=⟨[(32,.int .i64 i),(31,.int .i64 A.length),(30,.vsl (A.map ia)),(12,.int .u64 (T:Nat)),(10,.ptr 10 0),(8,.ptr 8 0),(3,.vsl (B.map ia)),(1,.int .i64 day)],[(10,.box [.vptr cs 0]),(8,.box [.nils,.nils,.nils,.nils])]⟩:=(by unfold cl1;rw[hTe]);have hw2:cl1 (.vptr cs 0) hs day A B (i+1)=⟨[(32,.int .i64 (i+1:Nat)),(31,.int .i64 A.length),(30,.vsl (A.map ia)),(12,.int .u64 ((T ||| 2 ^ k:Nat):Int)),(10,.ptr 10 0),(8,.ptr 8 0),(3,.vsl (B.map ia)),(1,.int .i64 day)],[(10,.box [.vptr cs 0]),(8,.box [.nils,.nils,.nils,.nils])]⟩:=(by unfold cl1;rw[tn]);rw[hw1];simp -implicitDefEqProofs[hi,hlx,ia];refine Yd.of cI (by simp[pO,AV.pure]) ?_;have hk0:¬((k:Int)<0):=(by omega);simp -implicitDefEqProofs[wi,sh,hk0];refine ⟨?_,λx hx=>?_⟩
     . rw[hw2]
       ((try simp only[kO]);refine Ym.sub (by simp[lk,Ya,AV.keys,kO]) ?_;simp only[kO,Wkl,and_true];(try simp[lk,Yc,Ya,AV.keys,kO]))
     . rw[tk]at hx;rcases W0h.1 hx with q|q
       . exact he x q
       . rw[W0B.1 q];exact hc
   . have hV2:V = .tup [.agg [.nils,.nils,.nils,.nils],.int .i64 6]:=by
      have:(A.all λid=>decide (0<=hoI hs id))=false:=by
       rw[List.all_eq_false];exact ⟨id,by rw[hid];exact W0e hi,by simpa using hc⟩
      rw[hV,this];rfl
     have hc2:hoI hs id<0:=(by omega);unfold cl1;simp -implicitDefEqProofs[hi,hlx,ia];refine Yd.of cI (by simp[pO,AV.pure]) ?_;simp -implicitDefEqProofs[hc2];refine Qgr ?_;simp -implicitDefEqProofs[hV2]
 . intro he;rw[W0v]at he
   have hT:toN hs A<256:=Zo4 hs _ λx hx=>by
    obtain ⟨k,hk,e,f⟩:=Zo5 (he x hx);omega
   refine Qga ?_;unfold cl1;rw[W0v];have tz:=Zo7 he;have th:=λy hy=>Zo6 (y:=y) he hy
   generalize toN hs A=T at *;simp -implicitDefEqProofs[];refine Qgr ?_;simp -implicitDefEqProofs[];have cB:=Z9g (G:=R.G) 100 [.vptr [.vptr cs 0] 0] (λd=>!decide (d∈nums r)) B (by simp[AV.pure]) hB (λd _=>c1 d hd)
   (first|refine Yd.flat (cB) (by simp[AV.flat]) (by simp) ?_|refine Ye.flat (cB) (by simp[AV.flat]) (by simp) ?_)
   have hA':(A.all λid=>decide (0<=hoI hs id))=true:=W03.2 λx hx=>by simpa using he x hx
   rw[hA',W1k]at hV
   cases hBB:B.any λd=>!decide (d∈nums r) with
   | true =>
     have hB':(B.all λd=>decide (d∈nums r))=false:=by
      rw[W14]at hBB;obtain ⟨d,h1,h2⟩:=hBB;rw[List.all_eq_false];exact ⟨d,h1,by simpa using h2⟩
     rw[hB']at hV;simp -implicitDefEqProofs[hV]
   |false =>
   have hB':(B.all λd=>decide (d∈nums r))=true:=by
    rw[W26]at hBB;exact W03.2 λd h1=>by simpa using hBB d h1
   rw[hB']at hV;simp only[if_true]at hV;have co:=ZnJ (G:=R.G) T hT;have oz:=ZnH T hT;have oB:=ZnI T hT;have ws:IntKind.i64.wrap (ocF T+(B.length:Int))=ocF T+(B.length:Int):=Yf (by omega) (by omega);obtain ⟨IR,hIR⟩ : ∃ IR,IR=r.map isa:=⟨_,rfl⟩;obtain ⟨NL,hNL⟩ : ∃ NL,NL=l.map na:=⟨_,rfl⟩;obtain ⟨HL,hHL⟩ : ∃ HL,HL=hs.map hoa:=⟨_,rfl⟩;have pIR:(IR.all λr=>r.all AV.pure)=true:=(by rw[hIR];simp[isa,AV.pure]);have pNL:(NL.all λr=>r.all AV.pure)=true:=(by rw[hNL];simp[na,AV.pure]);have pHL:(HL.all λr=>r.all AV.pure)=true:=(by rw[hHL];simp[hoa,ia,AV.pure]);by_cases hps:ps=[]
   . subst hps;have cc:=ZnZ (G:=R.G) r l hs hr hl.1 hw hne h80;have cc:=PC.out (w:=.agg [.vsl (r.map isa),.vsl (l.map na),.vsl (hs.map hoa),.vsl []]) cc (Nsub.agg ⟨.rfl',.rfl',.orNil _,.rfl',trivial⟩);rw[hO,<- hIR,<- hNL,<- hHL]at cc;have hV:V = .tup [.agg [.vsl IR,.vsl NL,.vsl HL,.vsl []],.int .i64 0]:=(by rw[hV,hIR,hNL,hHL];rfl);have cS:PC Tryz.prog R.G 91 [.vptr cs 0,.int .i64 day] (.vsl []):=cS;simp -implicitDefEqProofs[];refine Yd.of cc (by simp[pO,AV.pure]) ?_;simp -implicitDefEqProofs[];refine Yd.of co (by simp[AV.pure]) ?_;simp -implicitDefEqProofs[ws];by_cases z:ocF T+(B.length:Int)=0
     . rw[W0M z];simp -implicitDefEqProofs[hV,pIR,pNL,pHL]
     . rw[W0S z];simp -implicitDefEqProofs[];refine Yd.of cS (by simp[pO,AV.pure]) ?_;simp -implicitDefEqProofs[];refine Z8p (λi=>⟨[(64,.int .i64 i),(63,.int .i64 0),(16,.ptr 16 0),(8,.ptr 8 0)],[(16,.box [.vsl IR,.vsl NL,.vsl HL,.vsl []]),(8,.box [.nils,.nils,.nils,.nils])]⟩) (λ_=>True) 0 ?_ trivial (λi hi=>absurd hi (by omega)) ?_
       . (refine Wkc ?_;simp only[Wkl,and_true];(try simp[lk,Yc,Ya,AV.keys]))
       . intro _;refine Qga ?_;simp -implicitDefEqProofs[];refine Qgr ?_;simp -implicitDefEqProofs[hV,pIR,pNL,pHL]
   . have hhs:hs≠[]:=λe=>by
      cases ps with
      |nil=>exact hps rfl
      | cons x t =>
        have:=(Zlm k0 (W0H ..)).1;rw[e]at this;exact absurd this (by simp[hoI,fstOf])
     have cc:=ZnX (G:=R.G) r l hs ps hr hl.1 hw hne h80 hps;have eh:Yg (hs.map hoa) = .vsl (hs.map hoa):=(by unfold Yg;rw[if_neg (by simpa using hhs)]);rw[eh,hO,<- hIR,<- hNL,<- hHL]at cc;have hV:V = .tup [.agg [.vsl IR,.vsl NL,.vsl HL,.vsl ((ps.map (calP l hs day A B)).map ptA)],.int .i64 0]:=(by rw[hV,hIR,hNL,hHL];rfl);have rIR:=λρ=>AV.ren_pure (ρ:=ρ) (.vsl IR) (by simpa [AV.pure] using pIR)
     have rNL:=λρ=>AV.ren_pure (ρ:=ρ) (.vsl NL) (by simpa [AV.pure] using pNL)
     have rHL:=λρ=>AV.ren_pure (ρ:=ρ) (.vsl HL) (by simpa [AV.pure] using pHL)
     have kIR:=AV.pure_keys (.vsl IR) (by simpa [AV.pure] using pIR);have kNL:=AV.pure_keys (.vsl NL) (by simpa [AV.pure] using pNL);have kHL:=AV.pure_keys (.vsl HL) (by simpa [AV.pure] using pHL);simp -implicitDefEqProofs[];refine Yd.sem (Z1B.objs cc (λk=>k+300) (by simp) (by simp[St.get,lk]) (by simp[AV.pure,pO]) rfl rfl) ?_;simp -implicitDefEqProofs[Yl,ZlO,AV.ren,rIR,rNL,rHL];refine Yd.of co (by simp[AV.pure]) ?_;simp -implicitDefEqProofs[ws];by_cases z:ocF T+(B.length:Int)=0
     . have hA0:A=[]:=tz.1 (oz.1 (by omega));have hB0:B=[]:=W0l.1 (by omega)
       have hm:ps.map (calP l hs day A B)=ps:=by
        refine (W0K λx _=>?_).trans (W23 _);unfold calP rchB;rw[hA0,hB0];simp
       rw[W0M z];rw[hm]at hV;have pP:((ps.map ptA).all λr=>r.all AV.pure)=true:=(by simp[ptA,AV.pure]);simp -implicitDefEqProofs[hV,pIR,pNL,pHL,pP]
     . rw [W0S z];simp -implicitDefEqProofs[];refine Yd.of cS (by simp[pO,AV.pure]) ?_;simp -implicitDefEqProofs[];refine Z8p (cl2 (.vptr cs 0) IR NL HL T ps (staL l hs ps day) A B day) (λ_=>True) (staL l hs ps day).length ?_ trivial ?_ ?_
       . unfold cl2;rw[W1g,Zoa]
         ((try simp only[kO,kIR,kNL,kHL]);refine Ym.sub (by simp[lk,Ya,AV.keys,kO,kIR,kNL,kHL]) ?_;simp only[kO,kIR,kNL,kHL,Wkl,Zl1,and_true];(try simp[lk,Yc,Ya,AV.keys,kO,kIR,kNL,kHL]))
       . intro i hi _;have hsub:∀ y∈staL l hs ps day,y∈ps:=λy hy=>(W0G.1 hy).1
         have hrp:riP ps:=(Zil.1 (Zje.1 k0).2).2.2.1;have hSn:(staL l hs ps day).Nodup:=(Zog hrp).filter _;have hSl:(staL l hs ps day).length<=ps.length:=W0D ..;generalize staL l hs ps day=S at *;obtain ⟨y,hy⟩ : ∃ y,y=S[i]:=⟨_,rfl⟩;have hly:S[i]=y:=hy.symm;have hyp:y∈ps:=hsub y (by rw[hy];exact W0e hi);have tk:S.take (i+1)=S.take i++[y]:=by rw[W08 hi,hly]
         have hyn:y ∉ S.take i:=λh=>by
          obtain ⟨j,hj,e⟩:=W0k h;rw[W1V]at e;have hji:j<i:=(by simp at hj;omega);have:=(List.getElem_inj hSn).1 (e.trans hy);omega
         have wi:IntKind.i64.wrap ((i:Int)+1)=((i+1:Nat):Int):=Yf (by omega) (by have:=hw.pl;omega);have hpy:ptA y=[.int .i64 y.no,.int .i64 y.dy,.int .i64 y.ho,.int .i64 y.dw,.int .i64 y.lt,.int .i64 y.bk,.int .u8 y.lo]:=rfl;have cI:=cH y.ho;obtain ⟨k,hk,e,f⟩:=Zo5 (Zlm k0 hyp).1;have thy:=th y.ho (Zlm k0 hyp).1;rw[e]at cI thy;have thy:T.testBit k=A.contains y.ho:=thy;have sr:=Zo9 T hT k (by omega);rw[thy]at sr;have cD:=Zei (G:=R.G) B y.dw hB;have hw1:∀ X,(rowC ps (S.take i) A B day).map ptA=X->cl2 (.vptr cs 0) IR NL HL T ps S A B day i=⟨[(64,.int .i64 i),(63,.int .i64 S.length),(62,.vsl (S.map ptA)),(16,.ptr 16 0),(12,.int .u64 (T:Nat)),(10,.ptr 10 0),(8,.ptr 8 0),(3,.vsl (B.map ia)),(1,.int .i64 day)],[(16,.box [.vsl IR,.vsl NL,.vsl HL,.osl 921 ps.length]),(921,.row 7 X),(10,.box [.vptr cs 0]),(8,.box [.nils,.nils,.nils,.nils])]⟩:=λX hX=>by unfold cl2;rw[hX]
         have hw2:∀ X,(rowC ps (S.take (i+1)) A B day).map ptA=X->cl2 (.vptr cs 0) IR NL HL T ps S A B day (i+1)=⟨[(64,.int .i64 (i+1:Nat)),(63,.int .i64 S.length),(62,.vsl (S.map ptA)),(16,.ptr 16 0),(12,.int .u64 (T:Nat)),(10,.ptr 10 0),(8,.ptr 8 0),(3,.vsl (B.map ia)),(1,.int .i64 day)],[(16,.box [.vsl IR,.vsl NL,.vsl HL,.osl 921 ps.length]),(921,.row 7 X),(10,.box [.vptr cs 0]),(8,.box [.nils,.nils,.nils,.nils])]⟩:=λX hX=>by unfold cl2;rw[hX]
         obtain ⟨j,hj,ej⟩:=W0k hyp;have cX:=ZnA (G:=R.G) y ps (by have:=hw.pl;unfold Sml;omega)
         rw[Z9c hj (by simp[ej]) (λm hm hmj=>W0S λq=>by
          have:=ZnD hrp hmj hj;rw[ej,<- q]at this;omega),hpy]at cX
         have hset:=λh=>Zoe (S:=S.take i) (A:=A) (B:=B) (day:=day) hrp (y:=y) h hyn hj ej
         have hXl:((rowC ps (S.take i) A B day).map ptA).length=ps.length:=(by rw[W0N,Zob]);have hXj:∀ h:rchB A B y=true,((rowC ps (S.take i) A B day).map ptA)[j]'(by rw[hXl];exact hj)=[.int .i64 y.no,.int .i64 y.dy,.int .i64 y.ho,.int .i64 y.dw,.int .i64 y.lt,.int .i64 y.bk,.int .u8 y.lo]:=λh=>by rw[W1w,(hset h).1,hpy]
         have hXs:∀ h:rchB A B y=true,((rowC ps (S.take i) A B day).map ptA).set j [.int .i64 y.no,.int .i64 y.dy,.int .i64 y.ho,.int .i64 y.dw,.int .i64 y.lt,.int .i64 day,.int .u8 0]=(rowC ps (S.take (i+1)) A B day).map ptA:=λh=>by
          rw[tk,<- (hset h).2,W2q];rfl
         obtain ⟨X,hX⟩ : ∃ X,X=(rowC ps (S.take i) A B day).map ptA:=⟨_,rfl⟩;simp only[<- hX]at hXl hXj hXs;refine Qga ?_;by_cases c1:A.contains y.ho=true
         . have hR:rchB A B y=true:=(by unfold rchB;rw[c1];rfl);rw[hw1 X hX.symm];rw[c1]at sr;simp -implicitDefEqProofs[hi,hly,hpy];refine Yd.of cI (by simp[pO,AV.pure]) ?_;rw[if_pos rfl]at sr;have hXj:=hXj hR;have hXs:=hXs hR;simp -implicitDefEqProofs[sr,hc3];refine Qco (cX) (by simp) ?_;simp -implicitDefEqProofs[hXl,hj,hXj,wi];refine ⟨rfl,rfl,?_⟩;rw[hXs,hw2 _ rfl]
           ((try simp only[kO,kIR,kNL,kHL]);refine Ym.sub (by simp[lk,Ya,AV.keys,kO,kIR,kNL,kHL]) ?_;simp only[kO,kIR,kNL,kHL,Wkl,Zl1,and_true];(try simp[lk,Yc,Ya,AV.keys,kO,kIR,kNL,kHL]))
         . have c1:A.contains y.ho=false:=(by simpa using c1);rw[hw1 X hX.symm];rw[c1]at sr;simp -implicitDefEqProofs[hi,hly,hpy];refine Yd.of cI (by simp[pO,AV.pure]) ?_;rw[if_neg (by simp)]at sr;simp -implicitDefEqProofs[sr];refine Yd.of cD (by simp[AV.pure,ia]) ?_;by_cases c2:y.dw∈B
           . have hR:rchB A B y=true:=(by unfold rchB;rw[c1,W1O,W0w];exact c2);have hXj:=hXj hR;have hXs:=hXs hR;simp -implicitDefEqProofs[c2,hc3];refine Qco (cX) (by simp) ?_;simp -implicitDefEqProofs[hXl,hj,hXj,wi];refine ⟨rfl,rfl,?_⟩;rw[hXs,hw2 _ rfl]
             ((try simp only[kO,kIR,kNL,kHL]);refine Ym.sub (by simp[lk,Ya,AV.keys,kO,kIR,kNL,kHL]) ?_;simp only[kO,kIR,kNL,kHL,Wkl,Zl1,and_true];(try simp[lk,Yc,Ya,AV.keys,kO,kIR,kNL,kHL]))
           . have hR:rchB A B y=false:=(by unfold rchB;rw[c1,W1O,Bool.eq_false_iff,ne_eq,W0w];exact c2);simp -implicitDefEqProofs[c2,wi];rw[hw2 _ rfl,tk,Zod hR,hX]
             ((try simp only[kO,kIR,kNL,kHL]);refine Ym.sub (by simp[lk,Ya,AV.keys,kO,kIR,kNL,kHL]) ?_;simp only[kO,kIR,kNL,kHL,Wkl,Zl1,and_true];(try simp[lk,Yc,Ya,AV.keys,kO,kIR,kNL,kHL]))
       . intro _;refine Qga ?_;unfold cl2;rw[W0v,Zof];have hQl:(ps.map (calP l hs day A B)).length=ps.length:=(by simp);generalize ps.map (calP l hs day A B)=Q at *;simp -implicitDefEqProofs[];refine Qgr ?_;have pP:((Q.map ptA).all λr=>r.all AV.pure)=true:=(by simp[ptA,AV.pure]);simp -implicitDefEqProofs[hV,pIR,pNL,pHL,pP,hQl]
end
def snE (r:List Iss) (l:List Nte) (hs:List Hld) (ps:List Prt) (x:Prt):Int :=
 if ck7 r l hs ps=0 then (if ps.length=30 then 9 else if ck7 r l hs (putP ps x (plP ps x))=0 then 0 else 70) else ck7 r l hs ps
def snA (r:List Iss) (l:List Nte) (hs:List Hld) (ps:List Prt) (x:Prt):AV :=
 .tup [if snE r l hs ps x=0 then prA r l hs (putP ps x (plP ps x)) else .agg [.nils,.nils,.nils,.nils],.int .i64 (snE r l hs ps x)]
section
variable {G:Nat->Option (List AV)}
theorem Zoi (l:List Prt) (x:Prt):putP l x l.length=l++[x]:=by unfold putP;simp
theorem Zoj (l:List Prt) (x:Prt) (hne:l≠[]) (hl:l.length<=41) :
  PB Tryz.prog G 108 [(1000,.row 7 (l.map ptA))] [.osl 1000 l.length,.int .i64 l.length,.vsl [ptA x]] (.osl 1000 (l.length+1)) [(1000,.row 7 ((putP l x l.length).map ptA))]:=by
 rw[Zoi];have b1:(l.length+1)*56<=70368744177664:=(by omega);have hpx:ptA x=[.int .i64 x.no,.int .i64 x.dy,.int .i64 x.ho,.int .i64 x.dw,.int .i64 x.lt,.int .i64 x.bk,.int .u8 x.lo]:=rfl
 (refine ZmV (W0C rfl) λR hG hrd=>Qga ?_;subst hG)
 simp -implicitDefEqProofs[ZmT,ZmU,hpx,b1];have e:l.map ptA++[[.int .i64 x.no,.int .i64 x.dy,.int .i64 x.ho,.int .i64 x.dw,.int .i64 x.lt,.int .i64 x.bk,.int .u8 x.lo]]=(l++[x]).map ptA:=(by rw[W0r];rfl);rw[e]
 have fP:∀ ok st,((l++[x]).map ptA).map (λr=>r.map (frzA ok st))=(l++[x]).map ptA:=λok st=>by
  rw[W10];refine W0K λp _=>?_
  simp[ptA,frzA,frz,AV.keys]
 generalize (l++[x]).map ptA=X at *;simp -implicitDefEqProofs[FinB,Yi,newK,frzA,frzO,frz,AV.keys,fP]
theorem Zok (l:List Prt) (x:Prt) (i:Nat) (hi:i<=l.length) (hne:l≠[]) (hl:l.length<=41) :
  PB Tryz.prog G 108 [(1000,.row 7 (l.map ptA))] [.osl 1000 l.length,.int .i64 i,.vsl [ptA x]] (.osl 1000 (l.length+1)) [(1000,.row 7 ((putP l x i).map ptA))]:=by
 by_cases h:i<l.length
 . exact Zn7 l x i h hl
 . obtain rfl:i=l.length:=(by omega);exact Zoj l x hne hl
set_option maxHeartbeats 8000000 in
theorem Zol (hG:GC G) (hN:GN G) (hP:GP G) (r:List Iss) (l:List Nte) (hs:List Hld) (ps:List Prt) (x:Prt) (hl:WfN l) (hr:Wf r) (hne:r≠[]) (h80:r.length<=80) (hd:Sml (nums r)) (hw:WfP hs ps) (hx:POk x) (hps:ps≠[]) :
  PC Tryz.prog G 42 [prA r l hs ps,.agg (ptA x)] (snA r l hs ps x):=by
 have ho:=Zjg hG hN hP r l hs ps hl hr hd hw;have pO:=Zio r l hs ps;have kO:=Zip r l hs ps;have hpx:ptA x=[.int .i64 x.no,.int .i64 x.dy,.int .i64 x.ho,.int .i64 x.dw,.int .i64 x.lt,.int .i64 x.bk,.int .u8 x.lo]:=rfl;have eP:prA r l hs ps = .agg [.vsl (r.map isa),.vsl (l.map na),.vsl (hs.map hoa),.vsl (ps.map ptA)]:=rfl;unfold opP at ho;unfold snA snE;by_cases h0:ck7 r l hs ps=0
 case neg =>
  rw[if_neg h0]at ho;simp only[if_neg h0];rw[eP]at ho ⊢
  (refine Zny rfl λR hG hrd=>Qga ?_;subst hG)
  simp -implicitDefEqProofs[Znw,Znx,hpx];refine Qco (ho) (by simp) ?_;simp -implicitDefEqProofs[h0]
 rw[if_pos h0,h0]at ho;simp only[if_pos h0];by_cases h30:ps.length=30
 . simp only[if_pos h30];rw[eP]at ho ⊢
   (refine Zny rfl λR hG hrd=>Qga ?_;subst hG)
   simp -implicitDefEqProofs[Znw,Znx,hpx];refine Qco (ho) (by simp) ?_;simp -implicitDefEqProofs[h30]
 simp only[if_neg h30];have hB:=Zil.1 (Zje.1 h0).2;have h30':ps.length<=30:=hB.2.1;have hrp:riP ps:=hB.2.2.1;have hpl:plP ps x<=ps.length:=List.countP_le_length;have hQl:(putP ps x (plP ps x)).length=ps.length+1:=ZfA
 have hw':WfP hs (putP ps x (plP ps x)):=⟨hw.hl,by omega,hw.dl,λy hy=>by
  rcases Zfz.1 hy with rfl|hy
  . exact hx
  . exact hw.po y hy⟩
 have cK:=Zjh hG hN hP r l hs (putP ps x (plP ps x)) hl hr hd hw'
 have hhs:hs≠[]:=λe=>by
  cases ps with
  |nil=>exact hps rfl
  | cons y t =>
    have:=(Zlm h0 (W0H ..)).1;rw[e]at this;exact absurd this (by simp[hoI,fstOf])
 have eh:Yg (hs.map hoa) = .vsl (hs.map hoa):=(by unfold Yg;rw[if_neg (by simpa using hhs)]);have cc:=ZnX (G:=G) r l hs ps hr hl.1 hw hne h80 hps;have cb:=ZnG (G:=G) 106 x ps (by unfold Sml;omega) hrp (λz _=>ZnB z x.no);have ci:=Zok (G:=G) ps x (plP ps x) hpl hps (by omega);obtain ⟨cs,hO⟩ : ∃ cs,ofA r l hs ps = .vptr cs 0:=⟨_,rfl⟩;have eQ:prA r l hs (putP ps x (plP ps x)) = .agg [.vsl (r.map isa),.vsl (l.map na),.vsl (hs.map hoa),.vsl ((putP ps x (plP ps x)).map ptA)]:=rfl;rw[eP]at ho ⊢;rw[eQ]at cK ⊢;rw[eh]at cc;rw[hO]at ho pO kO cc;obtain ⟨IR,hIR⟩ : ∃ IR,IR=r.map isa:=⟨_,rfl⟩;obtain ⟨NL,hNL⟩ : ∃ NL,NL=l.map na:=⟨_,rfl⟩;obtain ⟨HL,hHL⟩ : ∃ HL,HL=hs.map hoa:=⟨_,rfl⟩;have pIR:(IR.all λr=>r.all AV.pure)=true:=(by rw[hIR];simp[isa,AV.pure]);have pNL:(NL.all λr=>r.all AV.pure)=true:=(by rw[hNL];simp[na,AV.pure]);have pHL:(HL.all λr=>r.all AV.pure)=true:=(by rw[hHL];simp[hoa,ia,AV.pure]);rw[<- hIR,<- hNL,<- hHL]at ho cK cc ⊢;have pP:((ps.map ptA).all λr=>r.all AV.pure)=true:=(by simp[ptA,AV.pure]);have pQ:(((putP ps x (plP ps x)).map ptA).all λr=>r.all AV.pure)=true:=(by simp[ptA,AV.pure]);have rIR:=λρ=>AV.ren_pure (ρ:=ρ) (.vsl IR) (by simpa [AV.pure] using pIR)
 have rNL:=λρ=>AV.ren_pure (ρ:=ρ) (.vsl NL) (by simpa [AV.pure] using pNL)
 have rHL:=λρ=>AV.ren_pure (ρ:=ρ) (.vsl HL) (by simpa [AV.pure] using pHL)
 have kIR:=AV.pure_keys (.vsl IR) (by simpa [AV.pure] using pIR);have kNL:=AV.pure_keys (.vsl NL) (by simpa [AV.pure] using pNL);have kHL:=AV.pure_keys (.vsl HL) (by simpa [AV.pure] using pHL);have rPs:=λρ=>AObj.ren_pure (ρ:=ρ) (sz:=7) pP
 have rQs:=λρ=>AObj.ren_pure (ρ:=ρ) (sz:=7) pQ
 have kPs:=λo=>Zl1 o ps
 generalize hX:ps.map ptA=X at *;generalize hY:(putP ps x (plP ps x)).map ptA=Y at *
 (refine Zny rfl λR hG hrd=>Qga ?_;subst hG)
 simp -implicitDefEqProofs[Znw,Znx,hpx];refine Qco (ho) (by simp) ?_;have hXl:X.length=ps.length:=(by rw[<- hX];simp);have hYl:Y.length=ps.length+1:=(by rw[<- hY];simp[hQl]);have h30i:¬((ps.length:Int)=30):=(by omega);simp -implicitDefEqProofs[h30i,hXl];refine Yd.sem (Z1B.objs cc (λk=>k+300) (by simp) (by simp[St.get,lk]) (by simp[AV.pure,pO]) rfl rfl) ?_;simp -implicitDefEqProofs[Yl,rPs,AV.ren,rIR,rNL,rHL];refine Yd.flat cb (by simp[AV.flat]) (by simp[Yj,snap,Yh,okAll,St.get,lk,hXl,pP,AV.pure]) ?_;simp -implicitDefEqProofs[];refine Yd.sem (Z1B.byref ci (λ_=>921) (by simp) (by simp) (by simp[St.get,lk,rPs]) (by simp only[W0g,W0Q,or_false,forall_eq];exact kPs _) (by simp[Ya,AV.keys,lk,ptA]) rfl (by simp[AV.ren,ptA]) rfl rfl) ?_;simp -implicitDefEqProofs[Yl,rQs,AV.ren];refine Yd.flat cK (by simp[AV.flat]) (by simp[Yj,snap,Yh,okAll,St.get,lk,hYl,pQ,pIR,pNL,pHL,AV.pure]) ?_;by_cases hk:ck7 r l hs (putP ps x (plP ps x))=0
 . simp -implicitDefEqProofs[hk,hYl,pQ,pIR,pNL,pHL]
 . simp -implicitDefEqProofs[hk]
end
def NsubR:List (List AV)->List (List AV)->Prop
 |[],[]=>True
 |x::xs,y::ys=>NsubL x y/\NsubR xs ys
 |_,_=>False
theorem NsubR.len:∀ {xs ys:List (List AV)},NsubR xs ys->xs.length=ys.length
 |[],[],_=>rfl
 |_::_,_::_,h=>by simp only[W1p,NsubR.len h.2]
 |[],_::_,h=>h.elim
 |_::_,[],h=>h.elim
theorem NsubR.at:∀ {xs ys:List (List AV)},NsubR xs ys->∀ (i:Nat) (y:List AV),ys[i]? = some y->∃ x,xs[i]? = some x/\NsubL x y
 |[],[],_,i,y,h=>by simp at h
 | x::xs,y::ys,h,0,z,e=>by
   simp only[W2h,W00]at e;subst e;exact ⟨x,rfl,h.1⟩
 | x::xs,y::ys,h,i+1,z,e=>by
   simp only[List.getElem?_cons_succ]at e;obtain ⟨w,h1,h2⟩:=NsubR.at h.2 i z e;exact ⟨w,by simpa using h1,h2⟩
 |[],_::_,h,_,_,_=>h.elim
 |_::_,[],h,_,_,_=>h.elim
theorem Nsub.vsl {xs ys:List (List AV)} (h:NsubR xs ys):Nsub (.vsl xs) (.vsl ys):=λM W u hu=>by
 have hl:=h.len
 cases hu with
 | vsl _ a cap sz b o f hcap hmax ha hn hs hc hr =>
   rw[hl];refine .vsl ys a cap sz b o f (by omega) hmax (λe=>ha λe2=>e ?_) (λe=>⟨?_,(hn e).2⟩) (λr hr=>?_) (λi j hi hj=>hc i j (by omega) hj) λi j ρ x hρ hx=>?_
   . rw[e2]at hl;exact List.eq_nil_of_length_eq_zero hl.symm
   . have:=(hn e).1;rw[this]at hl;exact List.eq_nil_of_length_eq_zero hl.symm
   . obtain ⟨i,hi,rfl⟩:=W0k hr;obtain ⟨x,hx,h2⟩:=h.at i _ (W07 hi);rw[<- h2.len];exact hs x (W0d hx)
   . obtain ⟨y,hy,h2⟩:=h.at i ρ hρ;obtain ⟨z,hz,h3⟩:=h2.at j x hx;exact h3 _ _ _ (hr i j y z hy hz)
def exG:List Iss:=[
 ⟨10,1,1,[(20,2),(30,1)],[]⟩,⟨10,2,1,[(20,1),(30,2),(40,2)],[]⟩,⟨20,1,1,[(30,3),(50,1)],[]⟩,
 ⟨30,1,2,[],[⟨150,100,200⟩]⟩,⟨30,2,2,[],[⟨150,120,200⟩]⟩,⟨40,1,2,[],[]⟩,⟨50,1,3,[],[]⟩]
def exP2:List Prt:=[⟨1,10,1,30,1,300,0⟩,⟨2,120,1,30,2,-1,0⟩,⟨3,10,2,30,1,-1,0⟩,⟨4,10,3,30,1,-1,1⟩,⟨5,10,3,10,1,-1,0⟩,⟨6,210,1,10,2,-1,0⟩,⟨7,10,1,10,1,205,0⟩]
def exX:Prt:=⟨8,300,1,10,1,-1,0⟩
def exP3:List Prt:=exP1++[exX]
theorem ex_wr:Wf exG:=by
 refine ⟨⟨by unfold Sml;decide,?_⟩,by decide⟩;unfold Sml;decide
theorem ex_wl:WfN exN:=⟨by unfold Sml;decide,by decide⟩
theorem ex_nu:nums exG=[10,20,30,40,50]:=by decide +kernel
theorem ex_sn:Sml (nums exG):=by rw[ex_nu];unfold Sml;decide
theorem ex_w1:WfP exH exP1:=⟨by decide,by decide,by decide,by unfold POk;decide⟩
theorem ex_w2:WfP exH exP2:=⟨by decide,by decide,by decide,by unfold POk;decide⟩
theorem ex_w3:WfP exH exP3:=⟨by decide,by decide,by decide,by unfold POk;decide⟩
theorem ex_c1:ck7 exG exN exH exP1=0:=by decide +kernel
theorem ex_c3:ck7 exG exN exH exP3=0:=by decide +kernel
theorem ex_a1:as7 exG exN exH exP1 300 1=0:=by decide +kernel
theorem ex_a2:as7 exG exN exH exP2 300 1=0:=by decide +kernel
theorem ex_he:heE exG exN exH exP1 300 3=([5],[4],0):=by decide +kernel
theorem ex_ne:neE exG exN exH exP1 1 10=[1,2]:=by
 have h:ab7 exG exN exH exP1 0 1 1 [10]=0:=(by decide +kernel);have e:hoF exH 1=some ⟨1,6,9,[10,30]⟩:=rfl;rw[neE,if_pos h,ndI,e];exact ex_nd
theorem ex_ms:msE exG exN exH exP1 300 1=[(10,1)]:=by
 have h:ab7 exG exN exH exP1 300 1 1 []=0:=(by decide +kernel);have e:hoF exH 1=some ⟨1,6,9,[10,30]⟩:=rfl;rw[msE,if_pos h,misI,e];show misL _ _ _ _=_;unfold misL;simp only[ZfE,ZfC]
 decide +kernel
theorem Zom:msE exG exN exH exP3 300 1=[]:=by
 have h:ab7 exG exN exH exP3 300 1 1 []=0:=(by decide +kernel);have e:hoF exH 1=some ⟨1,6,9,[10,30]⟩:=rfl;rw[msE,if_pos h,misI,e];show misL _ _ _ _=_;unfold misL;simp only[ZfE,ZfC]
 decide +kernel
theorem Zon:sta7E exG exN exH exP1 300=[1,3,4]:=by rw[sta7E,if_pos ex_a1,ZfG];rfl
theorem Zoo:exP1.map (calP exN exH 300 [1] [])=exP2:=by
 have e:calP exN exH 300 [1] []=λx=>if ((outB x 300&&match hoF exH x.ho with
   |some h=>h.ds.contains x.dw && !(ndsU [102] exN h x.dw).contains x.lt
   |none=>false)&&rchB [1] [] x)=true then { x with bk:=300,lo:=0 } else x:=by
  funext x
  unfold calP stB;simp only[ZfE,ZfC]
  cases hoF exH x.ho <;> rfl
 rw[e];decide +kernel
theorem Zop:sta7E exG exN exH exP2 300=[3,4]:=by
 rw[sta7E,if_pos ex_a2,ZfF,ZfC];decide +kernel
theorem Zoq:exH.map (·.id)=[1,2,3]:=rfl
theorem Zor:ca7E exG exN exH exP1 300=([],[30]):=by rw[ca7E,if_pos ex_a1,Zoq,ex_nu];exact ex_ca
theorem Zos:pr7E exG exN exH exP1 300=[1]:=by
 have e:=ex_ca;rw[exDl]at e;rw[pr7E,if_pos ex_a1,Zoq,ex_nu,e,ZfG];rfl
theorem ex_pl:plP exP1 exX=7:=by decide +kernel
theorem Zot:putP exP1 exX 7=exP3:=rfl
theorem Zou:snE exG exN exH exP1 exX=0:=by
 have h:¬exP1.length=30:=(by decide);rw[snE,if_pos ex_c1,if_neg h,ex_pl,Zot,if_pos ex_c3]
theorem Zov:wgE exG exN exH exP1 300 2 30 418=2:=by
 have h:ab7 exG exN exH exP1 300 418 2 [30]=0:=(by decide +kernel);rw[wgE,if_pos h,ex_po];decide +kernel
theorem Zow:wgE exG exN exH exP1 300 1 10 9=1:=by
 have h:ab7 exG exN exH exP1 300 9 1 [10]=0:=(by decide +kernel);rw[wgE,if_pos h,ZfH];decide +kernel
theorem Zox:wgE exG exN exH exP1 300 1 30 6=0:=by
 have h:ab7 exG exN exH exP1 300 6 1 [30]=0:=(by decide +kernel);rw[wgE,if_pos h,ZfI];decide +kernel
section
variable {G:Nat->Option (List AV)}
theorem Zoy (d l:Int):PC Tryz.prog G 47 [.int .i64 d,.int .i64 l] (.agg [.int .i64 d,.int .i64 l]):=by
 (refine Z5K rfl λR hG hrd=>Qga ?_;subst hG)
 simp -implicitDefEqProofs[Z5I,Z5J]
theorem Zoz (n d h a b:Int):PC Tryz.prog G 48 [.int .i64 n,.int .i64 d,.int .i64 h,.agg [.int .i64 a,.int .i64 b]] (.agg [.int .i64 n,.int .i64 d,.int .i64 h,.int .i64 a,.int .i64 b,.int .i64 (-1),.int .u8 0]):=by
 (refine Z5N rfl λR hG hrd=>Qga ?_;subst hG)
 simp -implicitDefEqProofs[Z5L,Z5M]
theorem ZoA:PC Tryz.prog G 110 [] (.agg [.vsl (exG.map isa),.vsl (exN.map na)]):=by
 refine PC.out (v:=.agg [.vsl [[.int .i64 10,.int .i64 1,.int .u8 1,.vsl [[.int .i64 20,.int .i64 2],[.int .i64 30,.int .i64 1]],.nils],
  [.int .i64 10,.int .i64 2,.int .u8 1,.vsl [[.int .i64 20,.int .i64 1],[.int .i64 30,.int .i64 2],[.int .i64 40,.int .i64 2]],.nils],
  [.int .i64 20,.int .i64 1,.int .u8 1,.vsl [[.int .i64 30,.int .i64 3],[.int .i64 50,.int .i64 1]],.nils],
  [.int .i64 30,.int .i64 1,.int .u8 2,.nils,.vsl [[.int .i64 150,.int .i64 100,.int .i64 200]]],
  [.int .i64 30,.int .i64 2,.int .u8 2,.nils,.vsl [[.int .i64 150,.int .i64 120,.int .i64 200]]],
  [.int .i64 40,.int .i64 1,.int .u8 2,.nils,.nils],[.int .i64 50,.int .i64 1,.int .u8 3,.nils,.nils]],.vsl (exN.map na)]) ?_ ?_
 . have r2:List.range 2=[0,1]:=rfl;have r3:List.range 3=[0,1,2]:=rfl;have r4:List.range 4=[0,1,2,3]:=rfl;have r7:List.range 7=[0,1,2,3,4,5,6]:=rfl
   (refine Z5Q rfl λR hG hrd=>Qga ?_;subst hG)
   simp -implicitDefEqProofs[Z5O,Z5P,r2,r3,r4,r7]
   try rfl
 . refine .agg ⟨.vsl ?_,.rfl',trivial⟩;have n:=@Nsub.rfl';exact ⟨⟨n,n,n,n,.nils,trivial⟩,⟨n,n,n,n,.nils,trivial⟩,⟨n,n,n,n,.nils,trivial⟩,⟨n,n,n,.nils,n,trivial⟩,⟨n,n,n,.nils,n,trivial⟩,⟨n,n,n,.nils,.nils,trivial⟩,⟨n,n,n,.nils,.nils,trivial⟩,trivial⟩
set_option maxHeartbeats 4000000 in
set_option maxRecDepth 100000 in
theorem ZoB:PC Tryz.prog G 45 [] (prA exG exN exH exP1):=by
 have hN:=ZoA (G:=G);have r2:List.range 2=[0,1]:=rfl;have r3:List.range 3=[0,1,2]:=rfl;have r7:List.range 7=[0,1,2,3,4,5,6]:=rfl;unfold prA
 (refine Z5T rfl λR hG hrd=>Qga ?_;subst hG)
 simp -implicitDefEqProofs[Z5R,Z5S,r2,r3,r7]
 repeat
  first
   |refine Qco (Zoy _ _) (by simp) ?_
   |refine Qco (Zoz _ _ _ _ _) (by simp) ?_
   |refine Qco (hN) (by simp) ?_
  simp -implicitDefEqProofs[r2,r3,r7]
 exact ⟨rfl,rfl,rfl⟩
theorem ZoC (a w:List Int) (e:Int) (ha:Sml a):PC Tryz.prog G 46 [.vsl (a.map ia),.int .i64 e,.vsl (w.map ia)] (.bool (decide (e=0)&&decide (a=w))):=by
 have c:=Z8w (G:=G) a w ha;by_cases h:e=0
 . subst h
   (refine Z5W rfl λR hG hrd=>Qga ?_;subst hG)
   simp -implicitDefEqProofs[Z5U,Z5V];refine Qco (c) (by simp) ?_;simp -implicitDefEqProofs[]
 . (refine Z5W rfl λR hG hrd=>Qga ?_;subst hG)
   simp -implicitDefEqProofs[Z5U,Z5V,h]
theorem ZoD (hG:GC G) (hN:GN G) (hP:GP G) (h d m w:Int) (hv:wgA exG exN exH exP1 300 h d m = .tup [.int .u8 w,.int .i64 0]) :
  PC Tryz.prog G 109 [.int .i64 h,.int .i64 d,.int .i64 m,.int .u8 w] (.bool true):=by
 have hp:=ZoB (G:=G);have c:=Zlt hG hN hP exG exN exH exP1 300 h d m ex_wl ex_wr ex_sn ex_w1;rw[hv]at c;unfold prA at hp c
 (refine Z5Z rfl λR hG hrd=>Qga ?_;subst hG)
 simp -implicitDefEqProofs[Z5X,Z5Y];refine Qco (hp) (by simp) ?_;simp -implicitDefEqProofs[];refine Qco (c) (by simp) ?_;simp -implicitDefEqProofs[]
set_option maxHeartbeats 8000000 in
set_option maxRecDepth 100000 in
theorem ZoE (hG:GC G) (hN:GN G) (hP:GP G):PC Tryz.prog G 44 [] (.bool true):=by
 have hp:=ZoB (G:=G);have hb:ck7 exG exN exH exP1=0->(∀ x∈exP1,0<=x.lt/\x.lt<=8)/\∀ x∈exP1,0<=x.lo/\x.lo<=2:=λ_=>⟨by decide,by decide⟩
 have h6:7<=80:=(by decide);have cHe:=ZkJ hG hN hP exG exN exH exP1 300 3 ex_wl ex_wr ex_sn ex_w1 (λh=>(hb h).2);have cWk:=ZkI hG hN hP exG exN exH exP1 300 3 30 ex_wl ex_wr ex_sn ex_w1 hb;have cNe:=Zll hG hN hP exG exN exH exP1 1 10 ex_wl ex_wr ex_sn ex_w1;have cMs:=ZmS hG hN hP exG exN exH exP1 300 1 ex_wl ex_wr ex_sn ex_w1;have cM3:=ZmS hG hN hP exG exN exH exP3 300 1 ex_wl ex_wr ex_sn ex_w3;have cSt:=ZlW hG hN hP exG exN exH exP1 300 ex_wl ex_wr ex_sn ex_w1;have cS2:=ZlW hG hN hP exG exN exH exP2 300 ex_wl ex_wr ex_sn ex_w2;have cCa:=ZmM hG hN hP exG exN exH exP1 300 ex_wl ex_wr ex_sn ex_w1;have cPr:=ZmN hG hN hP exG exN exH exP1 300 ex_wl ex_wr ex_sn ex_w1;have cCl:=Zoh hG hN hP exG exN exH exP1 300 [1] [] ex_wl ex_wr (by decide) (by decide) ex_sn ex_w1 (by unfold Sml;decide) (by unfold Sml;decide);have cSd:=Zol hG hN hP exG exN exH exP1 exX ex_wl ex_wr (by decide) (by decide) ex_sn ex_w1 (by unfold POk;decide) (by decide);have a0:ab7 exG exN exH exP1 300 1 3 [30]=0:=(by decide +kernel);have a1:ab7 exG exN exH exP1 0 1 1 [10]=0:=(by decide +kernel);have a2:ab7 exG exN exH exP1 300 1 1 []=0:=(by decide +kernel);have a3:ab7 exG exN exH exP3 300 1 1 []=0:=by decide +kernel
 have e1:clE exG exN exH exP1 300 [1] []=0:=by
  have h:((([1]:List Int).all λid=>decide (0<=hoI exH id))&&([]:List Int).all λd=>decide (d∈nums exG))=true:=(by decide +kernel);rw[clE,if_pos ex_a1,if_pos h]
 rw[heA,ex_he]at cHe;rw[if_pos a0,ex_wk]at cWk;rw[neA,ex_ne,a1]at cNe;rw[msA,ex_ms,a2]at cMs;rw[msA,Zom,a3]at cM3;rw[stA7,Zon,ex_a1]at cSt;rw[stA7,Zop,ex_a2]at cS2;rw[ca7A,Zor,ex_a1]at cCa;rw[pr7A,Zos,ex_a1]at cPr;rw[clA,e1,if_pos rfl,Zoo]at cCl;rw[snA,Zou,if_pos rfl,ex_pl,Zot]at cSd;have cHe:=PC.out (w:=.tup [.vsl (([5]:List Int).map ia),.vsl (([4]:List Int).map ia),.int .i64 0]) cHe (Nsub.tup ⟨.orNil _,.orNil _,.rfl',trivial⟩);have cNe:=PC.out (w:=.tup [.vsl (([1,2]:List Int).map ia),.int .i64 0]) cNe (Nsub.tup ⟨.orNil _,.rfl',trivial⟩);have cMs:=PC.out (w:=.tup [.vsl (([(10,1)]:List Rf).map ita),.int .i64 0]) cMs (Nsub.tup ⟨.orNil _,.rfl',trivial⟩);have cM3:=PC.out (w:=.tup [.vsl (([]:List Rf).map ita),.int .i64 0]) cM3 (Nsub.tup ⟨.orNil _,.rfl',trivial⟩);have cSt:=PC.out (w:=.tup [.vsl (([1,3,4]:List Int).map ia),.int .i64 0]) cSt (Nsub.tup ⟨.orNil _,.rfl',trivial⟩);have cS2:=PC.out (w:=.tup [.vsl (([3,4]:List Int).map ia),.int .i64 0]) cS2 (Nsub.tup ⟨.orNil _,.rfl',trivial⟩);have cCa:=PC.out (w:=.tup [.vsl (([]:List Int).map ia),.vsl (([30]:List Int).map ia),.int .i64 0]) cCa (Nsub.tup ⟨.orNil _,.orNil _,.rfl',trivial⟩);have cPr:=PC.out (w:=.tup [.vsl (([1]:List Int).map ia),.int .i64 0]) cPr (Nsub.tup ⟨.orNil _,.rfl',trivial⟩);have cCl:=PC.sub cCl (xs:=[prA exG exN exH exP1,.int .i64 300,.vsl (([1]:List Int).map ia),.nils]) ⟨.rfl',.rfl',.rfl',.nils,trivial⟩;have s1:=ZoC (G:=G) [5] [5] 0 (by unfold Sml;decide);have s2:=ZoC (G:=G) [4] [4] 0 (by unfold Sml;decide);have s3:=ZoC (G:=G) [0,1] [0,1] 0 (by unfold Sml;decide);have s4:=ZoC (G:=G) [1,2] [1,2] 0 (by unfold Sml;decide);have s5:=ZoC (G:=G) [1,3,4] [1,3,4] 0 (by unfold Sml;decide);have s6:=PC.sub (ZoC (G:=G) [] [] 0 (by unfold Sml;decide)) (xs:=[.vsl [],.int .i64 0,.nils]) ⟨.rfl',.rfl',.nils,trivial⟩;have s7:=ZoC (G:=G) [30] [30] 0 (by unfold Sml;decide);have s8:=ZoC (G:=G) [1] [1] 0 (by unfold Sml;decide);have s9:=ZoC (G:=G) [3,4] [3,4] 0 (by unfold Sml;decide);have sr:=Zeq (G:=G) [(10,1)] [(10,1)] (by unfold Sml;decide);have b0:ab7 exG exN exH exP1 300 418 2 [30]=0:=(by decide +kernel);have b1:ab7 exG exN exH exP1 300 9 1 [10]=0:=(by decide +kernel);have b2:ab7 exG exN exH exP1 300 6 1 [30]=0:=(by decide +kernel);have w1:=ZoD hG hN hP 2 30 418 2 (by rw[wgA,Zov,b0]);have w2:=ZoD hG hN hP 1 10 9 1 (by rw[wgA,Zow,b1]);have w3:=ZoD hG hN hP 1 30 6 0 (by rw[wgA,Zox,b2]);simp only[W1i,Bool.and_self,W0F,W1d,ia,ita]at cHe cWk cNe cMs cM3 cSt cS2 cCa cPr cCl s1 s2 s3 s4 s5 s6 s7 s8 s9 sr;have hX:ptA exX=[.int .i64 8,.int .i64 300,.int .i64 1,.int .i64 10,.int .i64 1,.int .i64 (-1),.int .u8 0]:=rfl;rw[hX]at cSd;unfold prA at hp cHe cWk cNe cMs cM3 cSt cS2 cCa cPr cCl cSd
 (refine Z62 rfl λR hG hrd=>Qga ?_;subst hG)
 simp -implicitDefEqProofs[Z60,Z61]
 repeat
  first
   |refine Qco (Zoy _ _) (by simp) ?_
   |refine Qco (Zoz _ _ _ _ _) (by simp) ?_
   |refine Qco (hp) (by simp) ?_
   |refine Qco (cHe) (by simp) ?_
   |refine Qco (cWk) (by simp) ?_
   |refine Qco (cNe) (by simp) ?_
   |refine Qco (cMs) (by simp) ?_
   |refine Qco (cSt) (by simp) ?_
   |refine Qco (cCa) (by simp) ?_
   |refine Qco (cPr) (by simp) ?_
   |refine Qco (cCl) (by simp) ?_
   |refine Qco (cS2) (by simp) ?_
   |refine Qco (cSd) (by simp) ?_
   |refine Qco (cM3) (by simp) ?_
   |refine Qco (s1) (by simp) ?_
   |refine Qco (s2) (by simp) ?_
   |refine Qco (s3) (by simp) ?_
   |refine Qco (s4) (by simp) ?_
   |refine Qco (s5) (by simp) ?_
   |refine Qco (s6) (by simp) ?_
   |refine Qco (s7) (by simp) ?_
   |refine Qco (s8) (by simp) ?_
   |refine Qco (s9) (by simp) ?_
   |refine Qco (sr) (by simp) ?_
   |refine Qco (w1) (by simp) ?_
   |refine Qco (w2) (by simp) ?_
   |refine Qco (w3) (by simp) ?_
  simp -implicitDefEqProofs[]
end
def dy7 (n:Int):Int:=n.tmod 14611
theorem ZoF {n:Int} (h:0<=n):0<=dy7 n/\dy7 n<=14610:=by
 have h1:=Int.tmod_nonneg 14611 h;have h2:=Int.tmod_lt_of_pos n (b:=14611) (by omega);unfold dy7;omega
section
variable {G:Nat->Option (List AV)}
theorem ZoG (n:Int) (h0:0<=n) (h1:n<=65535):PC Tryz.prog G 50 [.int .u16 n] (.int .i64 (dy7 n)):=by
 have w1:IntKind.i64.wrap n=n:=Yf (by omega) (by omega)
 (refine Z5B rfl λR hG hrd=>Qga ?_;subst hG)
 simp -implicitDefEqProofs[Z5z,Z5A,w1,dy7]
theorem ZoH (r:List Iss) (l:List Nte) (hs:List Hld) (ps:List Prt) (hl:∀ x∈l,NOk7 x) (hr:∀ x∈r,KOk x) (hp:∀ x∈ps,POk x) :
  PC Tryz.prog G 49 [prA r l hs ps] (.bool (!gr7 r l hs ps&&decide (ck7 r l hs ps=0))):=by
 have cg:=Zl3 (G:=G) r l hs ps
 cases hg:gr7 r l hs ps with
 | true =>
   rw[hg]at cg;unfold prA at *
   (refine Z5y rfl λR hG hrd=>Qga ?_;subst hG)
   simp -implicitDefEqProofs[Z5w,Z5x];refine Qco (cg) (by simp) ?_;simp -implicitDefEqProofs[]
 | false =>
   obtain ⟨wl,wr,wd,wp⟩:=Zl6 hg hr hl hp;have cc:=ZkB (G:=G) r l hs ps wl wr wd wp;rw[hg]at cg;unfold prA at *
   (refine Z5y rfl λR hG hrd=>Qga ?_;subst hG)
   simp -implicitDefEqProofs[Z5w,Z5x];refine Qco (cg) (by simp) ?_;simp -implicitDefEqProofs[];refine Qco (cc) (by simp) ?_;simp -implicitDefEqProofs[]
theorem ZoI (l:List Int) (n:Int) (hl:Sml l):PC Tryz.prog G 52 [.vsl (l.map ia),.int .i64 n] (.bool (decide (n∈l))):=by
 unfold Sml at hl
 (refine Z5E rfl λR hG hrd=>Qga ?_;subst hG)
 simp -implicitDefEqProofs[Z5C,Z5D];refine Z8p (λi=>⟨[(9,.int .i64 i),(8,.int .i64 l.length),(7,.vsl (l.map ia)),(1,.int .i64 n)],[]⟩) (λi=>∀ j (h:j<l.length),j<i->l[j]≠n) l.length (by (first|exact Wka|exact Wkb)) (by simp) ?_ ?_
 . intro i hi he;have w1:IntKind.i64.wrap ((i:Int)+1)=((i+1:Nat):Int):=Yf (by omega) (by omega);refine Qga ?_;by_cases h:l[i]=n
   . have hm:n∈l:=h ▸ W0e hi;simp -implicitDefEqProofs[hi,ia,h];refine Qgr ?_;simp -implicitDefEqProofs[hm]
   . simp -implicitDefEqProofs[hi,ia,h,w1];refine ⟨(by (first|exact Wka|exact Wkb)),λj q1 q2=>?_⟩;by_cases e:j=i
     . subst e;exact h
     . exact he j q1 (by omega)
 . intro he
   have hm:n ∉ l:=λh=>by
    obtain ⟨j,hj,e⟩:=W0k h;exact he j hj hj e
   refine Qga ?_;simp -implicitDefEqProofs[];refine Qgr ?_;simp -implicitDefEqProofs[hm]
theorem ZoJ (l:List Int) (hl:Sml l) (h:l.Pairwise (· < ·)):PC Tryz.prog G 51 [.vsl (l.map ia)] (.bool true):=by
 unfold Sml at hl
 (refine Z5H rfl λR hG hrd=>Qga ?_;subst hG)
 simp -implicitDefEqProofs[Z5F,Z5G];refine Z8p (λi=>⟨[(6,.int .i64 i),(5,.int .i64 l.length),(0,.vsl (l.map ia))],[]⟩) (λ_=>True) l.length (by (first|exact Wka|exact Wkb)) trivial ?_ ?_
 . intro i hi _;have w1:IntKind.i64.wrap ((i:Int)+1)=((i+1:Nat):Int):=Yf (by omega) (by omega);refine Qga ?_
   cases i with
   | zero =>
     have w2:IntKind.i64.wrap 1=1:=rfl;simp -implicitDefEqProofs[hi,w2];refine ⟨rfl,?_⟩
     (first|exact Wka|exact Wkb)
   | succ i =>
     have w2:IntKind.i64.wrap (i:Int)=(i:Int):=Yf (by omega) (by omega);have hi2:i<l.length:=(by omega);have k0:(0:Int)<(i:Int)+1:=(by omega);have kt:((i:Int)+1).toNat=i+1:=(by omega);have k1:(0:Int)<=(i:Int)+1:=(by omega);have hlt:l[i]<l[i+1]:=W0Y.1 h i (i+1) hi2 hi (by omega);have hn:¬l[i+1]<=l[i]:=(by omega);have hiI:(i:Int)+1<(l.length:Int):=(by omega);have w3:IntKind.i64.wrap ((i:Int)+1+1)=(i:Int)+1+1:=Yf (by omega) (by omega);simp -implicitDefEqProofs[hi,hi2,hiI,w2,w3,k0,k1,kt,ia,hn];refine ⟨rfl,?_⟩
     (first|exact Wka|exact Wkb)
 . intro _;refine Qga ?_;simp -implicitDefEqProofs[];refine Qgr ?_;simp -implicitDefEqProofs[]
end
theorem ZoK {ps:List Prt} (h:ps.Pairwise λx y=>x.no<y.no) (p:Prt->Bool) {x:Prt} (hx:x∈ps):x.no∈(ps.filter p).map (·.no)↔p x=true:=by
 rw[W0i]
 constructor
 . rintro ⟨y,hy,e⟩;obtain ⟨h1,h2⟩:=W0G.1 hy
   have:y=x:=by
    obtain ⟨i,hi,rfl⟩:=W0k h1;obtain ⟨j,hj,rfl⟩:=W0k hx;rcases W0R i j with c|c|c
    . have:=W0Y.1 h i j hi hj c;omega
    . subst c;rfl
    . have:=W0Y.1 h j i hj hi c;omega
   rw[<- this];exact h2
 . intro q;exact ⟨x,W0G.2 ⟨hx,q⟩,rfl⟩
theorem no_lt {ps:List Prt} (h:ps.Pairwise λx y=>x.no<y.no) (p:Prt->Bool):((ps.filter p).map (·.no)).Pairwise (· < ·):=W2n.2 (h.filter p)
section
variable {r:List Iss} {l:List Nte} {hs:List Hld} {ps:List Prt} {day:Int}
theorem ZoL {ids:List Int} {s:Nat} {x:Int} (h:x∈bitL ids s):x∈ids:=by
 unfold bitL at h;obtain ⟨i,hi,rfl⟩:=W0i.1 h;have hlt:=W1u.1 (W0G.1 hi).1;rw[W0j,W07 hlt];exact W0e hlt
theorem ho_in {id:Int} (h:id∈hs.map (·.id)):0<=hoI hs id:=by
 have:=hoF_I hs id
 have h2:(hoF hs id).isSome=true:=by
  obtain ⟨x,hx,e⟩:=W0i.1 h;unfold hoF;rw[List.find?_isSome];exact ⟨x,hx,by simp[e]⟩
 rw[h2]at this;exact W0X this
theorem ca_in (L:List Prt):(∀ id∈(caE (hs.map (·.id)) (nums r) L).1,0<=hoI hs id)/\∀ d∈(caE (hs.map (·.id)) (nums r) L).2,d∈nums r:=by
 obtain ⟨s,-,e⟩:=ZbN (hs.map (·.id)) (nums r) L;rw[e];unfold plN;exact ⟨λid h=>ho_in (ZoL h),λd h=>by unfold ndL at h;exact (W0G.1 h).1⟩
theorem ZoM (h0:ck7 r l hs ps=0) (hd:0<=day) :
  staL l hs (ps.map (calP l hs day (caE (hs.map (·.id)) (nums r) (staL l hs ps day)).1 (caE (hs.map (·.id)) (nums r) (staL l hs ps day)).2)) day=[]:=by
 rw[Zfs hd,W2m];intro x hx;have:=Zft (ids:=hs.map (·.id)) hx (Zlm h0 (W0G.1 hx).1).2;simp[this]
theorem ZoN (h0:ck7 r l hs ps=0) (hd:0<=day/\day<=14610) (a b:List Int):ck7 r l hs (ps.map (calP l hs day a b))=0:=Zje.2 ⟨(Zje.1 h0).1,Zin hd (Zje.1 h0).2⟩
theorem ZoO (hg:gr7 r l hs ps=false) (a b:List Int):gr7 r l hs (ps.map (calP l hs day a b))=false:=by
 unfold gr7 at *;rw[W0N];exact hg
theorem ZoP (hp:∀ x∈ps,POk x) (a b:List Int):∀ x∈ps.map (calP l hs day a b),POk x:=λx hx=>by
 obtain ⟨y,hy,rfl⟩:=W0i.1 hx;unfold calP;split
 . exact ⟨by simp,by simp⟩
 . exact hp y hy
end
def rcS (P2:List AV) (N a b:List Int) (day:Int) (ps:List Prt) (i:Nat):St :=
 ⟨[(99,.int .i64 i),(98,.int .i64 ps.length),(97,.vsl (ps.map ptA)),(15,.int .i64 0),(14,.vsl []),(12,.ptr 12 0),(10,.vsl (b.map ia)),(9,.vsl (a.map ia)),(7,.vsl (N.map ia)),(6,.int .i64 day),(5,.bool true)],[(12,.box P2)]⟩
section
variable {G:Nat->Option (List AV)}
set_option maxHeartbeats 4000000 in
theorem ZoQ (hG:GC G) (hN:GN G) (hP:GP G) (r:List Iss) (l:List Nte) (hs:List Hld) (ps:List Prt) (d:Int) (hr:∀ x∈r,KOk x) (hl:∀ x∈l,NOk7 x) (hp:∀ x∈ps,POk x) (hdd:0<=d/\d<=65535) :
  PC Tryz.prog G 8 [prA r l hs ps,.int .u16 d] (.bool true):=by
 have hA:=ZoE hG hN hP;have hR:=ZoH (G:=G) r l hs ps hl hr hp;obtain ⟨hd0,hd1⟩:=hdd;have hD:=ZoG (G:=G) d hd0 hd1
 cases hb:!gr7 r l hs ps&&decide (ck7 r l hs ps=0) with
 | false =>
   rw[hb]at hR;unfold prA at *
   (refine Z5v rfl λR hG hrd=>Qga ?_;subst hG)
   simp -implicitDefEqProofs[Z5t,Z5u];refine Qco (hA) (by simp) ?_;simp -implicitDefEqProofs[];refine Qco (hR) (by simp) ?_;simp -implicitDefEqProofs[]
 |true =>
 rw[hb]at hR;rw[W01,W1C,W0b]at hb;obtain ⟨hg,h0⟩:=hb;obtain ⟨wl,wr,wd,wp⟩:=Zl6 hg hr hl hp;have hdy:=ZoF hd0;obtain ⟨day,hday⟩ : ∃ day,day=dy7 d:=⟨_,rfl⟩;rw[<- hday]at hD hdy;have hrng:inR day 0 14610=true:=(by simp[inR];omega);have a1:as7 r l hs ps day 1=0:=(by rw[as7,if_pos h0,if_pos ⟨hrng,rfl⟩]);obtain ⟨c,hc⟩ : ∃ c,c=caE (hs.map (·.id)) (nums r) (staL l hs ps day):=⟨_,rfl⟩;obtain ⟨P2,hP2⟩ : ∃ P2,P2=ps.map (calP l hs day c.1 c.2):=⟨_,rfl⟩;have h02:ck7 r l hs P2=0:=(by rw[hP2];exact ZoN h0 hdy _ _);have hg2:gr7 r l hs P2=false:=(by rw[hP2];exact ZoO hg _ _);have hp2:∀ x∈P2,POk x:=(by rw[hP2];exact ZoP hp _ _);have a2:as7 r l hs P2 day 1=0:=(by rw[as7,if_pos h02,if_pos ⟨hrng,rfl⟩]);obtain ⟨-,-,-,wp2⟩:=Zl6 hg2 hr hl hp2;have hin:=ca_in (r:=r) (hs:=hs) (staL l hs ps day);have hno:=ZoM (l:=l) h0 hdy.1;rw[<- hc]at hin hno;rw[<- hP2]at hno;obtain ⟨h6,n60,hne,-,hnl⟩:=ZmK h0;have hlen:P2.length=ps.length:=(by rw[hP2];simp);have hrp:riP ps:=(Zil.1 (Zje.1 h0).2).2.2.1;have hOH:=Zik (Zil.1 (Zje.1 h0).2).1.1 (Zil.1 (Zje.1 h0).2).1.2;have hcs:=ZmJ (r:=r) (hs:=hs) (L:=staL l hs ps day) h6 n60;rw[<- hc]at hcs;have s3:Sml c.1:=(by unfold Sml;omega);have s4:Sml c.2:=(by unfold Sml;omega);have c3:=ZlW hG hN hP r l hs ps day wl wr wd wp;have c5:=ZmM hG hN hP r l hs ps day wl wr wd wp;have c6:=Zoh hG hN hP r l hs ps day c.1 c.2 wl wr hne (by omega) wd wp s3 s4;have c7:=ZoH (G:=G) r l hs P2 hl hr hp2;have c8:=ZlW hG hN hP r l hs P2 day wl wr wd wp2
 have e6:clE r l hs ps day c.1 c.2=0:=by
  have h:((c.1.all λid=>decide (0<=hoI hs id))&&c.2.all λd=>decide (d∈nums r))=true:=by
   rw[W01,W03,W03];exact ⟨λx hx=>W0M (hin.1 x hx),λx hx=>W0M (hin.2 x hx)⟩
  rw[clE,if_pos a1,if_pos h]
 rw[clA,e6,if_pos rfl,<- hP2]at c6;rw[stA7,sta7E,if_pos a1,a1]at c3;rw[stA7,sta7E,if_pos a2,a2,hno]at c8;rw[ca7A,ca7E,if_pos a1,<- hc,a1]at c5;rw[hg2,h02]at c7;obtain ⟨N,hNN⟩ : ∃ N,N=(staL l hs ps day).map (·.no):=⟨_,rfl⟩;rw[<- hNN]at c3;have c3:=PC.out (w:=.tup [.vsl (N.map ia),.int .i64 0]) c3 (Nsub.tup ⟨.orNil _,.rfl',trivial⟩);have c5:=PC.out (w:=.tup [.vsl (c.1.map ia),.vsl (c.2.map ia),.int .i64 0]) c5 (Nsub.tup ⟨.orNil _,.orNil _,.rfl',trivial⟩);have c8:=PC.out (w:=.tup [.vsl [],.int .i64 0]) c8 (Nsub.tup ⟨.orNil _,.rfl',trivial⟩)
 have hNs:Sml N:=by
  have:=ZlV (l:=l) (hs:=hs) (ps:=ps) (day:=day);have:=wp.pl;rw[hNN];unfold Sml;rw[W0N];omega
 have hNlt:N.Pairwise (· < ·):=(by rw[hNN];exact no_lt hrp _);have hcl:=Zib (L:=staL l hs ps day) hOH.lt hnl;rw[<- hc]at hcl;have g1:=ZoJ (G:=G) N hNs hNlt;have g2:=ZoJ (G:=G) c.1 s3 hcl.1;have g3:=ZoJ (G:=G) c.2 s4 hcl.2;unfold prA at *
 (refine Z5v rfl λR hG hrd=>Qga ?_;subst hG)
 simp -implicitDefEqProofs[Z5t,Z5u];refine Qco (hA) (by simp) ?_;simp -implicitDefEqProofs[];refine Qco (hR) (by simp) ?_;simp -implicitDefEqProofs[];refine Qco (hD) (by simp) ?_;simp -implicitDefEqProofs[];refine Qco (c3) (by simp) ?_;simp -implicitDefEqProofs[];refine Qco (c5) (by simp) ?_;simp -implicitDefEqProofs[];refine Qco (c6) (by simp) ?_;simp -implicitDefEqProofs[];refine Qco (g1) (by simp) ?_;simp -implicitDefEqProofs[];refine Qco (g2) (by simp) ?_;simp -implicitDefEqProofs[];refine Qco (g3) (by simp) ?_;simp -implicitDefEqProofs[];refine Qco (c7) (by simp) ?_;simp -implicitDefEqProofs[hlen];refine Qco (c8) (by simp) ?_;simp -implicitDefEqProofs[];obtain ⟨B,hB⟩ : ∃ B:List AV,B=[.vsl (r.map isa),.vsl (l.map na),.vsl (hs.map hoa),.vsl (P2.map ptA)]:=⟨_,rfl⟩;have hB3:B[3]? = some (.vsl (P2.map ptA)):=(by rw[hB];rfl);have kB:∀ o,Yc o (.box B)=true:=λo=>by rw[hB];simp[Yc,Ya,AV.keys,isa,na,hoa,ptA]
 rw[<- hB];refine Z8p (rcS B N c.1 c.2 day ps) (λ_=>True) ps.length ?_ trivial ?_ ?_
 . unfold rcS
   (refine Wkc ?_;simp only[kB,Wkl,and_true];(try simp[lk,Yc,Ya,AV.keys]))
 . intro i hi _;have wi:IntKind.i64.wrap ((i:Int)+1)=((i+1:Nat):Int):=Yf (by omega) (by have:=wp.pl;omega);have hi2:i<P2.length:=(by omega);obtain ⟨y,hy⟩ : ∃ y,y=ps[i]:=⟨_,rfl⟩;have hly:ps[i]=y:=hy.symm;have hyp:y∈ps:=(by rw[hy];exact W0e hi);have hz:P2[i]=calP l hs day c.1 c.2 y:=(by simp only[hP2,W1w,hly]);have hpy:ptA y=[.int .i64 y.no,.int .i64 y.dy,.int .i64 y.ho,.int .i64 y.dw,.int .i64 y.lt,.int .i64 y.bk,.int .u8 y.lo]:=rfl;have hmem:=ZoK hrp (stB l hs day) hyp;have cN:=ZoI (G:=R.G) N y.no hNs;have ca:=ZoI (G:=R.G) c.1 y.ho s3;have cb:=ZoI (G:=R.G) c.2 y.dw s4;refine Qga ?_;unfold rcS
   cases hst:stB l hs day y with
   | false =>
     have hn:¬y.no∈N:=λh=>by
      rw[hNN]at h;have:=hmem.1 h;rw[hst]at this;cases this
     have hz2:P2[i]=y:=(by rw[hz];unfold calP;rw[hst];rfl);rw[W0S hn]at cN;simp -implicitDefEqProofs[hi,hi2,hly,hz2,hpy,hB3];refine Qco (cN) (by simp) ?_;simp -implicitDefEqProofs[hB3,hi2,hz2,hpy,eqL,eq1,wi]
     (refine Wkc ?_;simp only[kB,Wkl,and_true];(try simp[lk,Yc,Ya,AV.keys]))
   | true =>
     have hn:y.no∈N:=(by rw[hNN];exact hmem.2 hst);have hrc:rchB c.1 c.2 y=true:=(by rw[hc];exact Zft (W0G.2 ⟨hyp,hst⟩) (Zlm h0 hyp).2);have hz2:P2[i]={ y with bk:=day,lo:=0 }:=(by rw[hz];unfold calP;rw[hst,hrc];rfl);have hpz:ptA { y with bk:=day,lo:=0 }=[.int .i64 y.no,.int .i64 y.dy,.int .i64 y.ho,.int .i64 y.dw,.int .i64 y.lt,.int .i64 day,.int .u8 0]:=rfl;rw[W0M hn]at cN;simp -implicitDefEqProofs[hi,hi2,hly,hz2,hpy,hpz,hB3];refine Qco (cN) (by simp) ?_;simp -implicitDefEqProofs[hB3,hi2,hz2,hpy,hpz,eqL,eq1,wi];by_cases q:y.ho∈c.1
     . rw[W0M q]at ca;refine Qco (ca) (by simp) ?_;simp -implicitDefEqProofs[wi]
       (refine Wkc ?_;simp only[kB,Wkl,and_true];(try simp[lk,Yc,Ya,AV.keys]))
     . rw[W0S q]at ca
       have q2:y.dw∈c.2:=by
        unfold rchB at hrc;rw[W0T,W0w,W0w]at hrc;exact hrc.resolve_left q
       rw[W0M q2]at cb;refine Qco (ca) (by simp) ?_;simp -implicitDefEqProofs[];refine Qco (cb) (by simp) ?_;simp -implicitDefEqProofs[wi]
       (refine Wkc ?_;simp only[kB,Wkl,and_true];(try simp[lk,Yc,Ya,AV.keys]))
 . intro _;refine Qga ?_;unfold rcS;simp -implicitDefEqProofs[];refine Qgr ?_;simp -implicitDefEqProofs[]
end
theorem ZoR {xs:List AV} (h:TVs [.int .i64] xs):∃ n:Int,xs=ia n:=by
 obtain ⟨x0,_,rfl,h0,h⟩:=h.cons_inv;obtain rfl:=h.nil_inv;obtain ⟨n,rfl,-⟩:=h0.int_inv;exact ⟨n,rfl⟩
open Go.ChangeShapes Go.WideShapes Go.ChangeAt Go.WideMaps Go.WideElems Go.RowKit Go.Deep
def laid7:List (String×DataW Unit):=[("blueline/sheet.checks",Rows.laid_blueline_sheet_checks),("blueline/note.checks",Rows.laid_blueline_note_checks),("blueline/recall.checks",Rows.laid_blueline_recall_checks)]
theorem ZoS (os:Os) (args:Array Value):laidMetH Tryz.prog laid7 ((World.doorLaid Tryz.prog 41 os).forCall (λ_ _=>0) ⟨#[],args,[]⟩).memory :=
 laidMetH_of_parts3 (fuel:=8) (laidMet_of_run' 8 (by kernel_rfl) (by kernel_rfl)) (by kernel_rfl) (by kernel_rfl)
theorem cellF {W:World} {fuel:Nat} {c:Value} {y:DataW (List UInt8)×List MemPlace} {tE:Nat} {fld:Field} {ps rs:Array TypeId} {vd:Bool} {b:UInt8} {s:List UInt8} {f0:FuncId}
  (uE:Tryz.prog.underlying tE=some (.struct #[fld])) (hfo:fld.offset=0) (uF:Tryz.prog.underlying fld.type=some (.func ps rs vd)) (cF:Tryz.prog.cellsOf fld.type=1)
  (hone:((List.range Tryz.prog.funcs.size).filter λf=>(Tryz.prog.funcs[f]?).any (·.name.toUTF8.data.toList == b::s))=[f0])
  (h:DataW.trod (funcToken Tryz.prog) Tryz.prog W 0 (λ_=>true) true fuel tE [c]=some y) (hy:y.1 = .agg [.held (b::s)]):c = .func (.func f0) #[] #[]:=by
 obtain ⟨y0,n,rfl,-,h0⟩:=trod_struct1 uE h;rw[hfo,W1P,cF]at h0;simp only[DataW.agg.injEq,W2f,and_true]at hy;exact func_of_trod (q:=y0.2) uF hone (by rw[<- hy];simpa using h0)
theorem ZoT {W:World} {laid:List (String×DataW Unit)} {nm:String} {d:DataW Unit} {g tA tE:Nat} {fld:Field} {ps rs:Array TypeId} {vd:Bool} {n:Nat} (toks:List (List UInt8)) (fs:List FuncId)
  (h:laidMetH Tryz.prog laid W) (hm:(nm,DataW.iface "func table" d)∈laid) (hg:Tryz.prog.globalNamed nm=some g) (ht:(Tryz.prog.globals[g]?).map (·.type)=some tA)
  (uA:Tryz.prog.underlying tA=some (.array n tE)) (uE:Tryz.prog.underlying tE=some (.struct #[fld])) (hfo:fld.offset=0) (uF:Tryz.prog.underlying fld.type=some (.func ps rs vd))
  (cA:Tryz.prog.cellsOf tA=n) (cE:Tryz.prog.cellsOf tE=1) (cF:Tryz.prog.cellsOf fld.type=1) (hl1:toks.length=n) (hl2:fs.length=n)
  (hd0:(d.funcsOut:DataW (List UInt8)) = .agg (toks.map λs=>.agg [.held s]))
  (hone:∀ (i:Nat) (s:List UInt8) (f:FuncId),toks[i]? = some s->fs[i]? = some f->∃ b r,s=b::r/\((List.range Tryz.prog.funcs.size).filter λf=>(Tryz.prog.funcs[f]?).any (·.name.toUTF8.data.toList == b::r))=[f]) :
  ∃ t fr,W.heap[g]? = some (.cells ((fs.map λf=>Value.func (.func f) #[] #[]).toArray) t fr):=by
 obtain ⟨g',t,cs,fuel,p,hg',ht',hv,hd⟩:=h.funcs hm;obtain rfl:=W1L (hg.symm.trans hg');obtain rfl:=W1L (ht.symm.trans ht');obtain ⟨xs,m,rfl,hx,hlen,hn,hel⟩:=DataW.trod_array uA hd;rw[cA]at hlen;rw[cE]at hel;rw[hd0,W06,DataW.agg.injEq]at hx;have hx:=hx.1
 have hcs:cs.toList=fs.map λf=>Value.func (.func f) #[] #[]:=by
  refine List.ext_getElem? λi=>?_
  by_cases hi:i<n
  . have e:=hel i hi;have h1:i<xs.length:=(by omega);have h2:i<toks.length:=(by omega);have h3:i<fs.length:=(by omega);have h4:i<cs.toList.length:=(by omega);obtain ⟨b,r,hb,ho⟩:=hone i _ _ (W07 h2) (W07 h3);rw[Nat.mul_one,W0x h4,W1Z,W1g,W07 h1]at e;have ey:=congrArg (λl=>l[i]?) hx;simp only[W09,W07 h2,W07 h1,W0m,W00]at ey;rw[hb]at ey;have:=cellF uE hfo uF cF ho e ey.symm;rw[W07 h4,W09,W07 h3,this];rfl
  . rw[W25 (by omega),W25 (by simp;omega)]
 simp only[World.var?,hg,W1o]at hv
 split at hv
 . rename_i cs' t fr heq;injection hv with hv
   have e:cs=(fs.map λf=>Value.func (.func f) #[] #[]).toArray:=(by rw[<- hcs]);exact ⟨t,fr,by rw[heq,hv,e]⟩
 . cases hv
def TabB (W:World) (g:Nat) (fs:List FuncId):Prop:=∃ t fr,W.heap[g]? = some (.cells ((fs.map λf=>Value.func (.func f) #[] #[]).toArray) t fr)
def tabA (fs:List FuncId):List AV:=fs.map λf=>.func (.func f) [] []
theorem ZoU {W:World} {g:Nat} {fs:List FuncId} (h:TabB W g fs):PV noM W (.vptr (tabA fs) 0) (.pointer (some ⟨g,0,none⟩)):=by
 obtain ⟨t,fr,hb⟩:=h;refine .vptr _ 0 g 0 (λj=>(((fs.map λf=>Value.func (.func f) #[] #[]).toArray)[j]?).getD undef) (W0c.1 hb).1 id ?_ ?_
 . intro j hj;have hj':j<fs.length:=(by simpa [tabA] using hj);simp[World.cell?,hb,hj']
 . intro j x hx;unfold tabA at hx;rw[W09,W04]at hx;obtain ⟨f,hf,rfl⟩:=hx;have hj':=(W02.1 hf).1;have e:((fs.map λf=>Value.func (.func f) #[] #[]).toArray)[j]? = some (.func (.func f) #[] #[]):=(by simp[hf]);rw[e];exact .func _ [] [] #[] #[] rfl rfl (by simp) (by simp)
def fsC:List FuncId:=[260,261,262,263]
def fsN:List FuncId:=[237,238,239,240,242,243,246,248]
def fsR:List FuncId:=[252,253,254,257,258]
set_option maxRecDepth 100000 in
theorem ZoV {W:World} (h:laidMetH Tryz.prog laid7 W):TabB W 0 fsN :=
 ZoT [[98,108,117,101,108,105,110,101,47,110,111,116,101,46,99,104,101,99,107,115,36,49],[98,108,117,101,108,105,110,101,47,110,111,116,101,46,99,104,101,99,107,115,36,50],[98,108,117,101,108,105,110,101,47,110,111,116,101,46,99,104,101,99,107,115,36,51],[98,108,117,101,108,105,110,101,47,110,111,116,101,46,99,104,101,99,107,115,36,52],[98,108,117,101,108,105,110,101,47,110,111,116,101,46,99,104,101,99,107,115,36,53],[98,108,117,101,108,105,110,101,47,110,111,116,101,46,99,104,101,99,107,115,36,54],[98,108,117,101,108,105,110,101,47,110,111,116,101,46,99,104,101,99,107,115,36,55],[98,108,117,101,108,105,110,101,47,110,111,116,101,46,99,104,101,99,107,115,36,56]] fsN h (W0z _ (W0H ..)) (by kernel_rfl) (by kernel_rfl) Tryz.underlying235 (fld:=_) Tryz.underlying234 rfl Tryz.underlying208 (by kernel_rfl) (by kernel_rfl) (by kernel_rfl) rfl rfl rfl
 (λi s f hs hf=>by
  match i,hs,hf with
  |0,hs,hf=>cases hs;cases hf;exact ⟨_,_,rfl,by kernel_rfl⟩
  |1,hs,hf=>cases hs;cases hf;exact ⟨_,_,rfl,by kernel_rfl⟩
  |2,hs,hf=>cases hs;cases hf;exact ⟨_,_,rfl,by kernel_rfl⟩
  |3,hs,hf=>cases hs;cases hf;exact ⟨_,_,rfl,by kernel_rfl⟩
  |4,hs,hf=>cases hs;cases hf;exact ⟨_,_,rfl,by kernel_rfl⟩
  |5,hs,hf=>cases hs;cases hf;exact ⟨_,_,rfl,by kernel_rfl⟩
  |6,hs,hf=>cases hs;cases hf;exact ⟨_,_,rfl,by kernel_rfl⟩
  |7,hs,hf=>cases hs;cases hf;exact ⟨_,_,rfl,by kernel_rfl⟩
  |i+8,hs,_=>simp at hs)
set_option maxRecDepth 100000 in
theorem ZoW {W:World} (h:laidMetH Tryz.prog laid7 W):TabB W 2 fsC :=
 ZoT [[98,108,117,101,108,105,110,101,47,115,104,101,101,116,46,99,104,101,99,107,115,36,49],[98,108,117,101,108,105,110,101,47,115,104,101,101,116,46,99,104,101,99,107,115,36,50],[98,108,117,101,108,105,110,101,47,115,104,101,101,116,46,99,104,101,99,107,115,36,51],[98,108,117,101,108,105,110,101,47,115,104,101,101,116,46,99,104,101,99,107,115,36,52]] fsC h (W0H ..) (by kernel_rfl) (by kernel_rfl) Tryz.underlying264 (fld:=_) Tryz.underlying263 rfl Tryz.underlying262 (by kernel_rfl) (by kernel_rfl) (by kernel_rfl) rfl rfl rfl
 (λi s f hs hf=>by
  match i,hs,hf with
  |0,hs,hf=>cases hs;cases hf;exact ⟨_,_,rfl,by kernel_rfl⟩
  |1,hs,hf=>cases hs;cases hf;exact ⟨_,_,rfl,by kernel_rfl⟩
  |2,hs,hf=>cases hs;cases hf;exact ⟨_,_,rfl,by kernel_rfl⟩
  |3,hs,hf=>cases hs;cases hf;exact ⟨_,_,rfl,by kernel_rfl⟩
  |i+4,hs,_=>simp at hs)
set_option maxRecDepth 100000 in
theorem ZoX {W:World} (h:laidMetH Tryz.prog laid7 W):TabB W 1 fsR :=
 ZoT [[98,108,117,101,108,105,110,101,47,114,101,99,97,108,108,46,99,104,101,99,107,115,36,49],[98,108,117,101,108,105,110,101,47,114,101,99,97,108,108,46,99,104,101,99,107,115,36,50],[98,108,117,101,108,105,110,101,47,114,101,99,97,108,108,46,99,104,101,99,107,115,36,51],[98,108,117,101,108,105,110,101,47,114,101,99,97,108,108,46,99,104,101,99,107,115,36,52],[98,108,117,101,108,105,110,101,47,114,101,99,97,108,108,46,99,104,101,99,107,115,36,53]] fsR h (W0z _ (W0z _ (W0H ..))) (by kernel_rfl) (by kernel_rfl) Tryz.underlying245 (fld:=_) Tryz.underlying244 rfl Tryz.underlying242 (by kernel_rfl) (by kernel_rfl) (by kernel_rfl) rfl rfl rfl
 (λi s f hs hf=>by
  match i,hs,hf with
  |0,hs,hf=>cases hs;cases hf;exact ⟨_,_,rfl,by kernel_rfl⟩
  |1,hs,hf=>cases hs;cases hf;exact ⟨_,_,rfl,by kernel_rfl⟩
  |2,hs,hf=>cases hs;cases hf;exact ⟨_,_,rfl,by kernel_rfl⟩
  |3,hs,hf=>cases hs;cases hf;exact ⟨_,_,rfl,by kernel_rfl⟩
  |4,hs,hf=>cases hs;cases hf;exact ⟨_,_,rfl,by kernel_rfl⟩
  |i+5,hs,_=>simp at hs)
def G7:Nat->Option (List AV):=λg=>if g=2 then some (tabA fsC) else if g=0 then some (tabA fsN) else if g=1 then some (tabA fsR) else none
theorem ZoY:GC G7:=rfl
theorem ZoZ:GN G7:=rfl
theorem Zp0:GP G7:=rfl
theorem Zp1 {W:World} (h:laidMetH Tryz.prog laid7 W):GR G7 noM W:=by
 intro g cs hg;simp only[G7]at hg
 split at hg
 . rename_i e;subst e;cases hg;exact ZoU (ZoW h)
 . split at hg
   . rename_i e;subst e;cases hg;exact ZoU (ZoV h)
   . split at hg
     . rename_i e;subst e;cases hg;exact ZoU (ZoX h)
     . cases hg
def nteK:List TY:=[.int .i64,.int .i64,.int .u8,.int .i64,.int .i64,.int .i64,.int .i64,.int .i64,.bool,.int .u8]
def hldK:List TY:=[.int .i64,.int .i64,.int .i64,.sl [.int .i64]]
def prtK:List TY:=[.int .i64,.int .i64,.int .i64,.int .i64,.int .i64,.int .i64,.int .u8]
def prsK:List TY:=[.sl isK2,.sl nteK,.sl hldK,.sl prtK]
theorem Zp2 {xs:List AV} (h:TVs nteK xs):∃ x:Nte,xs=na x/\NOk7 x:=by
 obtain ⟨x0,_,rfl,h0,h⟩:=h.cons_inv;obtain ⟨x1,_,rfl,h1,h⟩:=h.cons_inv;obtain ⟨x2,_,rfl,h2,h⟩:=h.cons_inv;obtain ⟨x3,_,rfl,h3,h⟩:=h.cons_inv;obtain ⟨x4,_,rfl,h4,h⟩:=h.cons_inv;obtain ⟨x5,_,rfl,h5,h⟩:=h.cons_inv;obtain ⟨x6,_,rfl,h6,h⟩:=h.cons_inv;obtain ⟨x7,_,rfl,h7,h⟩:=h.cons_inv;obtain ⟨x8,_,rfl,h8,h⟩:=h.cons_inv;obtain ⟨x9,_,rfl,h9,h⟩:=h.cons_inv;obtain rfl:=h.nil_inv;obtain ⟨v0,rfl,-⟩:=h0.int_inv;obtain ⟨v1,rfl,-⟩:=h1.int_inv;obtain ⟨v2,rfl,k2⟩:=h2.int_inv;obtain ⟨v3,rfl,-⟩:=h3.int_inv;obtain ⟨v4,rfl,-⟩:=h4.int_inv;obtain ⟨v5,rfl,-⟩:=h5.int_inv;obtain ⟨v6,rfl,-⟩:=h6.int_inv;obtain ⟨v7,rfl,-⟩:=h7.int_inv;obtain ⟨v8,rfl⟩:=h8.bool_inv;obtain ⟨v9,rfl,k9⟩:=h9.int_inv;obtain ⟨a2,b2⟩:=bounds_u8 k2;obtain ⟨a9,b9⟩:=bounds_u8 k9;exact ⟨⟨v0,v1,v2,v3,v4,v5,v6,v7,v8,v9⟩,rfl,a2,b2,a9,b9⟩
theorem Zp3 {xs:List AV} (h:TVs hldK xs):∃ x:Hld,xs=hoa x:=by
 obtain ⟨x0,_,rfl,h0,h⟩:=h.cons_inv;obtain ⟨x1,_,rfl,h1,h⟩:=h.cons_inv;obtain ⟨x2,_,rfl,h2,h⟩:=h.cons_inv;obtain ⟨x3,_,rfl,h3,h⟩:=h.cons_inv;obtain rfl:=h.nil_inv;obtain ⟨v0,rfl,-⟩:=h0.int_inv;obtain ⟨v1,rfl,-⟩:=h1.int_inv;obtain ⟨v2,rfl,-⟩:=h2.int_inv;obtain ⟨rows,rfl,-,g⟩:=h3.sl_inv;obtain ⟨ds,rfl⟩:=ZkP (f:=ia) λr hr=>ZoR (g r hr)
 exact ⟨⟨v0,v1,v2,ds⟩,rfl⟩
theorem Zp4 {xs:List AV} (h:TVs prtK xs):∃ x:Prt,xs=ptA x/\POk x:=by
 obtain ⟨x0,_,rfl,h0,h⟩:=h.cons_inv;obtain ⟨x1,_,rfl,h1,h⟩:=h.cons_inv;obtain ⟨x2,_,rfl,h2,h⟩:=h.cons_inv;obtain ⟨x3,_,rfl,h3,h⟩:=h.cons_inv;obtain ⟨x4,_,rfl,h4,h⟩:=h.cons_inv;obtain ⟨x5,_,rfl,h5,h⟩:=h.cons_inv;obtain ⟨x6,_,rfl,h6,h⟩:=h.cons_inv;obtain rfl:=h.nil_inv;obtain ⟨v0,rfl,-⟩:=h0.int_inv;obtain ⟨v1,rfl,-⟩:=h1.int_inv;obtain ⟨v2,rfl,-⟩:=h2.int_inv;obtain ⟨v3,rfl,-⟩:=h3.int_inv;obtain ⟨v4,rfl,-⟩:=h4.int_inv;obtain ⟨v5,rfl,-⟩:=h5.int_inv;obtain ⟨v6,rfl,k6⟩:=h6.int_inv;exact ⟨⟨v0,v1,v2,v3,v4,v5,v6⟩,rfl,bounds_u8 k6⟩
theorem Zp5 {xs:List AV} (h:TVs prsK xs):∃ (r:List Iss) (l:List Nte) (hs:List Hld) (ps:List Prt),AV.agg xs=prA r l hs ps/\(∀ x∈r,KOk x)/\(∀ x∈l,NOk7 x)/\∀ x∈ps,POk x:=by
 obtain ⟨x0,_,rfl,h0,h⟩:=h.cons_inv;obtain ⟨x1,_,rfl,h1,h⟩:=h.cons_inv;obtain ⟨x2,_,rfl,h2,h⟩:=h.cons_inv;obtain ⟨x3,_,rfl,h3,h⟩:=h.cons_inv;obtain rfl:=h.nil_inv;obtain ⟨rows,rfl,-,g⟩:=h0.sl_inv;obtain ⟨r,rfl,hr⟩:=ZkX (f:=isa) (p:=KOk) λr hr=>ZkW (g r hr)
 obtain ⟨rows,rfl,-,g⟩:=h1.sl_inv;obtain ⟨l,rfl,hl⟩:=ZkX (f:=na) (p:=NOk7) λr hr=>Zp2 (g r hr)
 obtain ⟨rows,rfl,-,g⟩:=h2.sl_inv;obtain ⟨hs,rfl⟩:=ZkP (f:=hoa) λr hr=>Zp3 (g r hr)
 obtain ⟨rows,rfl,-,g⟩:=h3.sl_inv;obtain ⟨ps,rfl,hp⟩:=ZkX (f:=ptA) (p:=POk) λr hr=>Zp4 (g r hr)
 exact ⟨r,l,hs,ps,rfl,hr,hl,hp⟩
theorem Zp6 {P:Program} {f:FuncId} {fn:Func} {s:ChangeSpec} {c:OpenClaim}
  (h1:c.wf (OpenSpec.ofChange s)=true) (h1a:laidOutB P=true) (h1b:mapsRowed P=true)
  (h2:(fn.params.all (P.readableRec ·)&&namedTie P c.named s.vars&&(c.stops == [])&&(P.stops == [])&&(c.knobs == [])&&(P.stopKnobs == []))=true)
  (h3:(c.inPlace == P.inPlace f)=true) (h4:(c.unfollowed == P.unfollowed f)=true) (h5:(c.recurses == P.recurses f)=true) (h6:(c.named == P.varsNamed f)=true)
  (h7:((c.maps == (fn.params.toList++s.plain.varTypes P).any (P.mapsRec ·))&&(c.ifaces == (fn.params.toList++s.plain.varTypes P).any (P.ifacesRec ·))&&(c.mapsOut == P.mapsAmong fn.resultTypes.toList)&&(c.loops == (fn.params.toList++s.plain.varTypes P).any (P.loopsFrom ·))&&(c.wideKeys == (fn.params.toList++s.plain.varTypes P++fn.resultTypes.toList).any (P.wideKeysFrom ·))&&s.vars.all (P.varReadable ·)&&fn.resultTypes.all (λt=>P.readableRec t&&decide (t<P.types.size))&&(c.ifacesOut == fn.resultTypes.toList.any (P.ifacesRec ·))&&(c.loopsOut == fn.resultTypes.toList.any (P.loopsFrom ·)))=true)
  (h8:(c.plainKeys == P.plainKeys)=true) (h9:c.shortTexts.isNone=true) (h10:P.stopsHeard=true) (h11:P.mayEnter=true) (h12:(c.lifted == P.liftsFinal)=true) (h13:(P.make == some c.make)=true)
  (h14:((c.kinds == (if c.domain.isEmpty then [] else fn.params.toList.map λt=>match P.underlying t with|some (.int k)=>some k|_=>none))&&(c.pinned == c.pinnedBy)&&(c.veiled == (fn.params.toList++s.plain.varTypes P++fn.resultTypes.toList).any (P.veiledRec ·))&&c.veiledFits P fn.params.toList (fn.params.toList++s.plain.varTypes P++fn.resultTypes.toList))=true) :
  joinedFacts P f fn s c=true:=by
 rw[Bool.and_eq_true,Bool.and_eq_true,Bool.and_eq_true,Bool.and_eq_true,Bool.and_eq_true]at h2;rw[Bool.and_eq_true,Bool.and_eq_true,Bool.and_eq_true,Bool.and_eq_true,Bool.and_eq_true,Bool.and_eq_true,Bool.and_eq_true,Bool.and_eq_true]at h7;obtain ⟨⟨⟨⟨⟨a1,a2⟩,a3⟩,a4⟩,a5⟩,a6⟩:=h2;obtain ⟨⟨⟨⟨⟨⟨⟨⟨b1,b2⟩,b3⟩,b4⟩,b5⟩,b6⟩,b7⟩,b8⟩,b9⟩:=h7;unfold joinedFacts;rw[h1,h1a,h1b,a1,a2,a3,a4,a5,a6,h3,h4,h5,h6,b1,b2,b3,b4,b5,b6,b7,b8,b9,h8,h9,h10,h11,h12,h13];simp only[Bool.true_and];exact h14
theorem Zp7:laidOutB Tryz.prog=true:=by kernel_rfl
theorem Zp8:mapsRowed Tryz.prog=true:=by kernel_rfl
theorem Zp9:(false == Tryz.prog.plainKeys)=true:=by kernel_rfl
theorem Zpa:Tryz.prog.stopsHeard=true:=by kernel_rfl
theorem Zpb:Tryz.prog.mayEnter=true:=by kernel_rfl
theorem Zpc:(Rows.recallHoldsRow.lifted == Tryz.prog.liftsFinal)=true:=by kernel_rfl
theorem Zpd:(Tryz.prog.make == some Rows.recallHoldsRow.make)=true:=by kernel_rfl
theorem Zpe:Tryz.prog.mainIs=some (true, "c78c3ff270fe74a990be3be0c8d074bef76ac0378b180a9ded0d213bc229583d".toList):=by kernel_rfl
theorem Zpf:false=Tryz.prog.looks []:=by kernel_rfl
end Go.Proofs.YtcdlimgkliklhaaGreatDoor
