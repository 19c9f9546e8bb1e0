/-
  What the rows of layer 2 share: the list of checks as the rows list it; registers that came in.
-/
import Derived.Test.YtcdlimgkliklhaaGreatDoorJTdToEm
import Derived.Test.YtcdlimgkliklhaaGreatDoorJOpenToOpen
import Derived.Test.YtcdlimgkliklhaaGreatDoorJRowToRow
import Derived.Test.YtcdlimgkliklhaaGreatDoorJEfToTj
import Derived.Test.YtcdlimgkliklhaaGreatDoorJRcYToEe
import Derived.Test.YtcdlimgkliklhaaGreatDoorTie
import Derived.Test.YtcdlimgkliklhaaGreatDoorCards
set_option linter.all false
set_option linter.unusedSimpArgs false
set_option linter.unusedVariables false
set_option linter.unusedSectionVars false
namespace Go.Proofs.YtcdlimgkliklhaaGreatDoor
open Go.ChangeShapes Go.WideShapes Go.ChangeAt Go.WideMaps Go.WideElems Go.RowKit Go.Deep
theorem own:ownKnob Tryz.prog.godebug=none:=by kernel_rfl
theorem Zi1:laidOutB Tryz.prog=true:=by kernel_rfl
theorem cF:Tryz.prog.cellsOf 262=1:=by kernel_rfl
theorem Zi2 {P:Program} {G:Nat->Option (List AV)} {f:FuncId} {args:List AV} {W:World} {vs:Array Value} (h:PC P G f args (.bool true)) (hG:GR G noM W) (hs:vs.size=args.length)
  (hv:∀ (i:Nat) (x:AV) (u:Value),args[i]? = some x->vs[i]? = some u->PV noM W x u):Calls P f vs W λe W'=>e = .returned (.bool true)/\Ext W W' :=
 (h.2 noM W vs (λ_ h=>h.elim) hG hs hv).mono λe W' ⟨v,h1,h2,h3⟩=>by
  cases h2
  exact ⟨h1,h3⟩
def itK:List TY:=[.int .i64,.int .i64]
def dmK:List TY:=[.int .i64,.int .i64,.int .i64]
def isK2:List TY:=[.int .i64,.int .i64,.int .u8,.sl itK,.sl dmK]
theorem Zi3 {xs:List AV} (h:TVs itK xs):∃ p:Int×Int,xs=ita p:=by
 obtain ⟨x0,_,rfl,h0,h⟩:=h.cons_inv;obtain ⟨x1,_,rfl,h1,h⟩:=h.cons_inv;obtain rfl:=h.nil_inv;obtain ⟨n,rfl,-⟩:=h0.int_inv;obtain ⟨l,rfl,-⟩:=h1.int_inv;exact ⟨(n,l),rfl⟩
theorem Zi4 {xs:List AV} (h:TVs dmK xs):∃ d:Dm,xs=dma d:=by
 obtain ⟨x0,_,rfl,h0,h⟩:=h.cons_inv;obtain ⟨x1,_,rfl,h1,h⟩:=h.cons_inv;obtain ⟨x2,_,rfl,h2,h⟩:=h.cons_inv;obtain rfl:=h.nil_inv;obtain ⟨n,rfl,-⟩:=h0.int_inv;obtain ⟨l,rfl,-⟩:=h1.int_inv;obtain ⟨u,rfl,-⟩:=h2.int_inv;exact ⟨⟨n,l,u⟩,rfl⟩
def KOk (x:Iss):Prop:=0<=x.k/\x.k<=255
theorem Zi5 {xs:List AV} (h:TVs isK2 xs):∃ x:Iss,xs=isa x/\KOk x:=by
 obtain ⟨x0,_,rfl,h0,h⟩:=h.cons_inv;obtain ⟨x1,_,rfl,h1,h⟩:=h.cons_inv;obtain ⟨x2,_,rfl,h2,h⟩:=h.cons_inv;obtain ⟨x3,_,rfl,h3,h⟩:=h.cons_inv;obtain ⟨x4,_,rfl,h4,h⟩:=h.cons_inv;obtain rfl:=h.nil_inv;obtain ⟨n,rfl,-⟩:=h0.int_inv;obtain ⟨l,rfl,-⟩:=h1.int_inv;obtain ⟨k,rfl,hk⟩:=h2.int_inv;obtain ⟨r3,rfl,-,g3⟩:=h3.sl_inv;obtain ⟨r4,rfl,-,g4⟩:=h4.sl_inv;obtain ⟨its,rfl⟩:=ZhY (f:=ita) λr hr=>Zi3 (g3 r hr)
 obtain ⟨dms,rfl⟩:=ZhY (f:=dma) λr hr=>Zi4 (g4 r hr)
 exact ⟨⟨n,l,k,its,dms⟩,rfl,bounds_u8 hk⟩
theorem Zi6 {α β:Type} {f:α->β} {p:α->Prop} {rows:List β} (h:∀ r∈rows,∃ d,r=f d/\p d):∃ l:List α,rows=l.map f/\∀ x∈l,p x:=by
 induction rows with
 |nil=>exact ⟨[],rfl,by simp⟩
 | cons r rows ih =>
   obtain ⟨d,rfl,hd⟩:=h r (List.mem_cons_self ..);obtain ⟨l,rfl,hl⟩:=ih λr hr=>h r (List.mem_cons_of_mem _ hr)
   exact ⟨d::l,rfl,λx hx=>by
    rcases List.mem_cons.1 hx with rfl|hx
    . exact hd
    . exact hl x hx⟩
theorem Zi7 {G:Nat->Option (List AV)} (r:List Iss):PC Tryz.prog G 125 [rega r] (.bool (Zaa r)):=by
 by_cases h1:80<r.length
 . (refine Z9O rfl λR hG hrd=>Qga ?_;subst hG)
   have h1':(80:Int)<r.length:=(by omega);simp -implicitDefEqProofs[Z9M,Z9N,rega,h1',Zaa,h1]
 . exact Zae r (by unfold Sml;omega)
theorem Zi8 {r:List Iss} (h:Zaa r=false) (hk:∀ x∈r,KOk x):Wf r:=by
 simp only[Zaa,Bool.or_eq_false_iff,decide_eq_false_iff_not,List.any_eq_false,Bool.or_eq_true,decide_eq_true_eq,not_or]at h;exact ⟨⟨by unfold Sml;omega,λx hx=>by have:=h.2 x hx;unfold Sml;omega⟩,hk⟩
def gr7 (r:List Iss) (l:List Nte) (hs:List Hld) (ps:List Prt):Bool:=Zaa r||decide (16<l.length)||decide (8<hs.length)||decide (40<ps.length)||hs.any λh=>decide (20<h.ds.length)
theorem Zi9 (o:List (Nat×AObj)) (l:List Hld):Yc o (.row 4 (l.map hoa))=true:=by
 simp only[Yc,List.all_eq_true,List.mem_map];rintro x ⟨y,-,rfl⟩ v hv;simp only[hoa,List.mem_cons,List.not_mem_nil,or_false]at hv;rcases hv with rfl|rfl|rfl|rfl <;> simp[Ya,AV.keys]
def hlV (k:Nat) (H:List Hld):AV:=if H=[] then .nils else .osl k H.length
def hlO (k:Nat) (H:List Hld):List (Nat×AObj):=if H=[] then [] else [(k,.row 4 (H.map hoa))]
def tw7 (B:List AV) (R L:AV) (hs:List Hld) (P:AV) (i:Nat):St :=
 ⟨[(4,.int .i64 i),(3,.ptr 3 0),(2,.ptr 2 0),(1,.ptr 1 0)],[(1,.box B),(2,.box [.nils,.nils,.nils,.nils]),(3,.box [R,L,hlV 35 (hs.take i),P])]++hlO 35 (hs.take i)⟩
section
variable {G:Nat->Option (List AV)}
theorem Zia (r:List Iss) (l:List Nte):PC Tryz.prog G 67 [.agg [.vsl (r.map isa),.vsl (l.map na)]] (.bool (Zaa r||decide (16<l.length))):=by
 have hg:=Zi7 (G:=G) r;rw[rega]at hg
 (refine Zdu rfl λR hG hrd=>Qga ?_;subst hG)
 simp -implicitDefEqProofs[Zds,Zdt];refine Qco (hg) (by simp) ?_
 cases q:Zaa r
 . have e:decide ((16:Int)<l.length)=decide (16<l.length):=(by rw[decide_eq_decide];omega);simp -implicitDefEqProofs[e]
 . simp -implicitDefEqProofs[]
theorem Zib (r:List Iss) (l:List Nte) (hs:List Hld) (ps:List Prt):PC Tryz.prog G 17 [prA r l hs ps] (.bool (gr7 r l hs ps)):=by
 have hg:=Zia (G:=G) r l;unfold gr7 prA;generalize (Zaa r||decide (16<l.length))=g at *;refine Z7b rfl λR hG hrd=>?_
 subst hG;refine Qga ?_;simp -implicitDefEqProofs[Z79,Z7a];refine Qco (hg) (by simp) ?_
 cases g
 case true=>simp -implicitDefEqProofs[]
 by_cases h8:8<hs.length
 . have h8':(8:Int)<hs.length:=(by omega);simp -implicitDefEqProofs[h8,h8']
 have h8':¬(8:Int)<hs.length:=(by omega);by_cases h40:40<ps.length
 . have h40':(40:Int)<ps.length:=(by omega);simp -implicitDefEqProofs[h8,h8',h40,h40']
 have h40':¬(40:Int)<ps.length:=(by omega);simp -implicitDefEqProofs[h8',h40'];refine Z9U (λi=>⟨[(3,.int .i64 i),(1,.ptr 1 0)],[(1,.box [.vsl (r.map isa),.vsl (l.map na),.vsl (hs.map hoa),.vsl (ps.map ptA)])]⟩) (λi=>∀ j (h:j<hs.length),j<i->¬20<hs[j].ds.length) hs.length ?_ (by simp) ?_ ?_
 . (refine Ym.sub (by simp[lk,Ya,AV.keys]) ?_;simp only[Wkl,and_true];(try simp[lk,Yc,Ya,AV.keys]))
 . intro i hi he;have wi:IntKind.i64.wrap ((i:Int)+1)=(i:Int)+1:=Yf (by omega) (by omega);refine Qga ?_;by_cases q:20<hs[i].ds.length
   . have q':(20:Int)<hs[i].ds.length:=(by omega);have e:(hs.any λh=>decide (20<h.ds.length))=true:=List.any_eq_true.2 ⟨_,List.getElem_mem hi,by simpa using q⟩;simp -implicitDefEqProofs[hi,hoa,q'];refine Qgr ?_;rw[e];simp -implicitDefEqProofs[]
   . have q':¬(20:Int)<hs[i].ds.length:=(by omega);simp -implicitDefEqProofs[hi,hoa,q',wi];refine ⟨?_,λj h1 h2=>?_⟩
     . (refine Ym.sub (by simp[lk,Ya,AV.keys]) ?_;simp only[Wkl,and_true];(try simp[lk,Yc,Ya,AV.keys]))
     . rcases Nat.lt_or_ge j i with h4|h4
       . have:=he j h1 h4;omega
       . obtain rfl:j=i:=(by omega);omega
 . intro he
   have e:(hs.any λh=>decide (20<h.ds.length))=false:=List.any_eq_false.2 λx hx=>by
    obtain ⟨j,hj,rfl⟩:=List.getElem_of_mem hx;simpa using he j hj hj
   refine Qga ?_;simp -implicitDefEqProofs[];refine Qgr ?_;simp -implicitDefEqProofs[h8,h40,e]
theorem Zic (r:List Iss) (l:List Nte) (hs:List Hld) (ps:List Prt) (hr:SmlR r) (hl:Sml l) (hw:WfP hs ps):PC Tryz.prog G 26 [prA r l hs ps,prA r l hs ps] (.bool true):=by
 have c1:=ZfB (G:=G) r r l l hr hl;rw[decide_eq_true ⟨rfl,rfl⟩]at c1;have c2:=λh (hh:h∈hs)=>Za1 (G:=G) h.ds h.ds (by have:=hw.dl h hh;unfold Sml;omega)
 have hhl:=hw.hl;have hpl:=hw.pl;unfold prA;refine Z7e rfl λR hG hrd=>?_
 subst hG;refine Qga ?_;simp -implicitDefEqProofs[Z7c,Z7d];refine Qco (c1) (by simp) ?_;simp -implicitDefEqProofs[];refine Z9U (λi=>⟨[(5,.int .i64 i),(2,.ptr 2 0),(3,.ptr 3 0)],[(2,.box [.vsl (r.map isa),.vsl (l.map na),.vsl (hs.map hoa),.vsl (ps.map ptA)]),(3,.box [.vsl (r.map isa),.vsl (l.map na),.vsl (hs.map hoa),.vsl (ps.map ptA)])]⟩) (λ_=>True) hs.length ?_ trivial ?_ ?_
 . (refine Ym.sub (by simp[lk,Ya,AV.keys]) ?_;simp only[Wkl,and_true];(try simp[lk,Yc,Ya,AV.keys]))
 . intro i hi _;have c2:=c2 _ (List.getElem_mem hi);rw[decide_eq_true rfl]at c2;have wi:IntKind.i64.wrap ((i:Int)+1)=(i:Int)+1:=Yf (by omega) (by omega);refine Qga ?_;simp -implicitDefEqProofs[hi,hoa];refine ⟨rfl,?_⟩;refine Qco (c2) (by simp) ?_;simp -implicitDefEqProofs[wi]
   (refine Ym.sub (by simp[lk,Ya,AV.keys]) ?_;simp only[Wkl,and_true];(try simp[lk,Yc,Ya,AV.keys]))
 . intro _;refine Qga ?_;simp -implicitDefEqProofs[];refine Qgr ?_;simp -implicitDefEqProofs[];refine Z9U (λi=>⟨[(8,.int .i64 i),(2,.ptr 2 0),(3,.ptr 3 0)],[(2,.box [.vsl (r.map isa),.vsl (l.map na),.vsl (hs.map hoa),.vsl (ps.map ptA)]),(3,.box [.vsl (r.map isa),.vsl (l.map na),.vsl (hs.map hoa),.vsl (ps.map ptA)])]⟩) (λ_=>True) ps.length ?_ trivial ?_ ?_
   . (refine Ym.sub (by simp[lk,Ya,AV.keys]) ?_;simp only[Wkl,and_true];(try simp[lk,Yc,Ya,AV.keys]))
   . intro i hi _;have wi:IntKind.i64.wrap ((i:Int)+1)=(i:Int)+1:=Yf (by omega) (by omega);refine Qga ?_;simp -implicitDefEqProofs[hi,ptA,wi];refine ⟨rfl,?_⟩
     (refine Ym.sub (by simp[lk,Ya,AV.keys]) ?_;simp only[Wkl,and_true];(try simp[lk,Yc,Ya,AV.keys]))
   . intro _;refine Qga ?_;simp -implicitDefEqProofs[];refine Qgr ?_;simp -implicitDefEqProofs[]
set_option maxHeartbeats 1000000 in
theorem Zid (r:List Iss) (l:List Nte) (hs:List Hld) (ps:List Prt) (hr:SmlR r) (hl:Sml l) (hw:WfP hs ps):PC Tryz.prog G 18 [prA r l hs ps] (prA r l hs ps):=by
 have c1:=ZfC (G:=G) r l hr hl;have hhl:=hw.hl;have hpl:=hw.pl;have hdl:=hw.dl;have b2:ps.length*56<=70368744177664:=(by omega);refine PC.out (v:=.agg [.vsl (r.map isa),.vsl (l.map na),Yg (hs.map hoa),.vsl (ps.map ptA)]) ?_ (Nsub.agg ⟨.rfl',.rfl',.orNil _,.rfl',trivial⟩);obtain ⟨B,hB⟩ : ∃ B:List AV,B=[.vsl (r.map isa),.vsl (l.map na),.vsl (hs.map hoa),.vsl (ps.map ptA)]:=⟨_,rfl⟩;unfold prA;rw[<- hB];refine Z7h rfl λR hG hrd=>?_
 subst hG;refine Qga ?_;simp -implicitDefEqProofs[Z7f,Z7g,hB];refine Qco (c1) (by simp) ?_;by_cases p0:ps=[]
 case' pos =>
  simp only[p0,List.map_nil]at hB;simp -implicitDefEqProofs[p0]
 case' neg=>simp -implicitDefEqProofs[p0,b2,ptA]
 all_goals
  refine ⟨rfl,?_⟩;rw[<- hB];refine Z9U (tw7 B (.vsl (r.map isa)) (.vsl (l.map na)) hs (.vsl (ps.map ptA))) (λ_=>True) hs.length ?_ trivial ?_ ?_
  . refine Ym.trans (Ym.frz (λk=>k == 9) _) ?_;simp only[tw7,hlV,hlO,List.take_zero,if_true,hB,List.append_nil]
    ((try simp only[Yi,frzA,frzO,frz,Yh,Yj,St.get,AV.pure,p0,ptA]);refine Ym.sub (by simp[lk,Ya,AV.keys,Yi,frzA,frzO,frz,Yh,Yj,St.get,AV.pure,p0,ptA]) ?_;simp only[Yi,frzA,frzO,frz,Yh,Yj,St.get,AV.pure,p0,ptA,Wkl,and_true];(try simp[lk,Yc,Ya,AV.keys,Yi,frzA,frzO,frz,Yh,Yj,St.get,AV.pure,p0,ptA]))
  . intro i hi _;have hdi:=hdl _ (List.getElem_mem hi);obtain ⟨h,hhe⟩ : ∃ h,h=hs[i]:=⟨_,rfl⟩;rw[<- hhe]at hdi;have hlx:hs[i]=h:=hhe.symm;have hho:hoa h=[.int .i64 h.id,.int .i64 h.fr,.int .i64 h.to,.vsl (h.ds.map ia)]:=rfl;have wi:IntKind.i64.wrap ((i:Int)+1)=(i:Int)+1:=Yf (by omega) (by omega);have tk:hs.take (i+1)=hs.take i++[h]:=(by rw[List.take_succ_eq_append_getElem hi,hlx]);have tl:(hs.take i).length=i:=(by simp;omega);have bb:(i+1)*48<=70368744177664:=(by omega);have b3:h.ds.length*8<=70368744177664:=(by omega);obtain ⟨H,hH⟩ : ∃ H,H=hs.take i:=⟨_,rfl⟩;rw[<- hH]at tk tl;have em:(H++[h]).map hoa=H.map hoa++[hoa h]:=(by simp);have hne:¬H++[h]=[]:=(by simp);have hV2:hlV 35 (H++[h]) = .osl 35 (i+1):=(by unfold hlV;rw[if_neg hne];simp[tl]);have hO2:hlO 35 (H++[h])=[(35,.row 4 (H.map hoa++[hoa h]))]:=by unfold hlO;rw[if_neg hne,em]
    have pH:∀ ok st,(H.map hoa).map (λr=>r.map (frzA ok st))=H.map hoa:=λok st=>by
     rw[List.map_map]
     congr 1
     funext x;simp[hoa,frzA,frz,AV.keys]
    refine Yb mixed 15 ?_;by_cases cH:H=[]
    case' pos =>
     have hV:hlV 35 H = .nils:=(by simp[hlV,cH]);have hQ:hlO 35 H=[]:=by simp[hlO,cH]
    case' neg =>
     have hV:hlV 35 H = .osl 35 i:=(by simp[hlV,cH,tl]);have hQ:hlO 35 H=[(35,.row 4 (H.map hoa))]:=by simp[hlO,cH]
    all_goals
     by_cases d0:h.ds=[]
     case' pos=>simp -implicitDefEqProofs[tw7,<- hH,hV,hQ,hB,hi,hlx,hho,d0,wi,bb,tl]
     case' neg=>simp -implicitDefEqProofs[tw7,<- hH,hV,hQ,hB,hi,hlx,hho,d0,ia,wi,bb,b3,tl]
     all_goals
      refine GO0 (Z2L (st':=⟨[(5,.ptr 5 0),(4,.int .i64 i),(3,.ptr 3 0),(2,.ptr 2 0),(1,.ptr 1 0)],[(1,.box [.vsl (r.map isa),.vsl (l.map na),.vsl (hs.map hoa),.vsl (ps.map ptA)]),(2,.box [.nils,.nils,.nils,.nils]),(3,.box [.vsl (r.map isa),.vsl (l.map na),hlV 35 H,.vsl (ps.map ptA)]),(5,.box [.int .i64 h.id,.int .i64 h.fr,.int .i64 h.to,.vsl (h.ds.map ia)])]++hlO 35 H⟩) (Ym.trans (Ym.frz (λk=>k == 26) _) ?_) ?_)
      . simp only[hV,hQ]
        ((try simp only[Yi,frzA,frzO,frz,Yh,Yj,St.get,pH,d0,AV.pure,ia]);refine Ym.sub (by simp[lk,Ya,AV.keys,Yi,frzA,frzO,frz,Yh,Yj,St.get,pH,d0,AV.pure,ia]) ?_;simp only[Yi,frzA,frzO,frz,Yh,Yj,St.get,pH,d0,AV.pure,ia,Wkl,Zi9,and_true];(try simp[lk,Yc,Ya,AV.keys,Yi,frzA,frzO,frz,Yh,Yj,St.get,pH,d0,AV.pure,ia]))
        all_goals exact p0
      . refine Qga ?_;simp -implicitDefEqProofs[hV,hQ,wi,bb,tl];refine Qgr ?_;simp -implicitDefEqProofs[wi];simp only[tw7,tk,hV2,hO2,hB,hho];rw[<- hho,<- em]
        ((try simp only[hho,p0]);refine Ym.sub (by simp[lk,Ya,AV.keys,hho,p0]) ?_;simp only[hho,p0,Wkl,Zi9,and_true];(try simp[lk,Yc,Ya,AV.keys,hho,p0]))
        all_goals exact ⟨by rw[<- tl,cH];rfl,cH⟩
  . intro _;have tl:hs.take hs.length=hs:=List.take_length;refine Qga ?_;by_cases cH:hs=[]
    . have hV:hlV 35 hs = .nils:=(by simp[hlV,cH]);have hQ:hlO 35 hs=[]:=(by simp[hlO,cH]);simp -implicitDefEqProofs[tw7,tl,hV,hQ,hB];refine Qgr ?_;simp -implicitDefEqProofs[Yg,cH,p0,AV.pure,ptA]
    . have hV:hlV 35 hs = .osl 35 hs.length:=(by simp[hlV,cH]);have hQ:hlO 35 hs=[(35,.row 4 (hs.map hoa))]:=(by simp[hlO,cH]);simp -implicitDefEqProofs[tw7,tl,hV,hQ,hB];refine Qgr ?_;simp -implicitDefEqProofs[Yg,cH,hoa,p0,AV.pure,ptA]
end
theorem Zie {r:List Iss} (hr:openV r=0) {d:Int} {y:Int} (h:(findN d y r).isSome=true):0<=y/\y<=8:=by
 obtain ⟨x,hx⟩:=Option.isSome_iff_exists.1 h;obtain ⟨h1,h2,h3⟩:=ZaJ hx;have h4:=ZfR hr;simp only[Zaj,Bool.and_eq_true,List.all_eq_true]at h4;have h5:=h4.1.1.1.2 _ h1;simp only[issB,headB,Bool.and_eq_true]at h5;have h6:1<=x.l/\x.l<=8:=(by simpa [inR] using h5.1.1.1.1.2);omega
theorem Zif {r:List Iss} {l:List Nte} {hs:List Hld} {ps:List Prt} (hp:∀ x∈ps,POk x) (h:ck7 r l hs ps=0):(∀ x∈ps,0<=x.lt/\x.lt<=8)/\∀ x∈ps,0<=x.lo/\x.lo<=2:=by
 obtain ⟨h1,h2⟩:=Zgt.1 h;have h3:=(ZfV.1 h2).2.2.2;refine ⟨λx hx=>?_,λx hx=>?_⟩
 . have h4:=h3 x hx;simp only[prB,Bool.and_eq_true]at h4;exact Zie (Zgu h1) h4.1.2
 . have h4:=h3 x hx;simp only[prB,Bool.and_eq_true,decide_eq_true_eq]at h4;exact ⟨(hp x hx).1,h4.1.1.2⟩
theorem Zig {r:List Iss} {l:List Nte} {hs:List Hld} {ps:List Prt} (h:gr7 r l hs ps=false) (hr:∀ x∈r,KOk x) (hl:∀ x∈l,NOk7 x) (hp:∀ x∈ps,POk x):WfN l/\Wf r/\Sml (nums r)/\WfP hs ps:=by
 simp only[gr7,Bool.or_eq_false_iff,decide_eq_false_iff_not,List.any_eq_false,decide_eq_true_eq]at h;have hw:=Zi8 h.1.1.1.1 hr;exact ⟨⟨by unfold Sml;omega,hl⟩,hw,Zcf hw.1.1,by omega,by omega,λx hx=>by have:=h.2 x hx;omega,hp⟩
def wkE (r:List Iss) (l:List Nte) (hs:List Hld) (ps:List Prt) (day id d:Int):List Int:=if ab7 r l hs ps day 1 id [d]=0 then wkL ps day id d else []
theorem wkE_v {r:List Iss} {l:List Nte} {hs:List Hld} {ps:List Prt} {day id d:Int}:(if ab7 r l hs ps day 1 id [d]=0 then AV.tup [.vsl ((wkL ps day id d).map ia),.int .i64 0] else .tup [.nils,.int .i64 (ab7 r l hs ps day 1 id [d])]) = .tup [Yg ((wkE r l hs ps day id d).map ia),.int .i64 (ab7 r l hs ps day 1 id [d])]:=by
 unfold wkE;by_cases h:ab7 r l hs ps day 1 id [d]=0
 . rw[if_pos h,if_pos h,h];simp[wkL,Yg]
 . rw[if_neg h,if_neg h];simp[Yg]
section
variable {G:Nat->Option (List AV)}
set_option maxHeartbeats 1000000 in
theorem Zih (hG:GC G) (hN:GN G) (hP:GP G) (r:List Iss) (l:List Nte) (hs:List Hld) (ps:List Prt) (day id d:Int) (hr:∀ x∈r,KOk x) (hl:∀ x∈l,NOk7 x) (hp:∀ x∈ps,POk x) :
  PC Tryz.prog G 3 [prA r l hs ps,.int .i64 day,.int .i64 id,.int .i64 d] (.bool true):=by
 have c1:=Zib (G:=G) r l hs ps
 cases h:gr7 r l hs ps
 case true =>
  rw[h]at c1;unfold prA at *
  (refine Z7k rfl λR hG hrd=>Qga ?_;subst hG)
  simp -implicitDefEqProofs[Z7i,Z7j];refine Qco (c1) (by simp) ?_;simp -implicitDefEqProofs[]
 obtain ⟨wl,wr,wd,wp⟩:=Zig h hr hl hp;have hb:=Zif (r:=r) (l:=l) (hs:=hs) hp;have c2:=Zid (G:=G) r l hs ps wr.1 wl.1 wp;have c3:=ZhS hG hN hP r l hs ps day id wl wr wd wp λh=>(hb h).2
 have c4:=ZhH (G:=G) r l hs ps day id wl wr wd wp;have c5:=ZhQ hG hN hP r l hs ps day id d wl wr wd wp hb;have c6:=ZhR (G:=G) r l hs ps day id d wl wr wd wp hb;rw[wkE_v]at c5 c6;have c7:=Zgw hG hN hP r l hs ps wl wr wd wp;have c8:=ZgI (G:=G) r l hs ps wl wr wd wp
 have s1:Sml (heE r l hs ps day id).1:=by
  unfold heE
  split
  . have:=Zg6 (helP id day 0) (·.no) ps ps.length;have:=wp.pl;unfold Sml helK;simp only;omega
  . simp[Sml]
 have s2:Sml (heE r l hs ps day id).2.1:=by
  unfold heE
  split
  . have:=Zg6 (helP id day 1) (·.no) ps ps.length;have:=wp.pl;unfold Sml helK;simp only;omega
  . simp[Sml]
 have s3:Sml (wkE r l hs ps day id d):=by
  unfold wkE
  split
  . unfold wkL Sml;have:=List.length_filter_le (λn=>decide (sureM ps day id d<n)&&(perhL ps day id d).contains n) r9;have h9:r9.length=9:=rfl;simp only[List.length_cons];omega
  . simp[Sml]
 have c9:=PC.sub (Za1 (G:=G) _ (heE r l hs ps day id).1 s1) (xs:=[Yg ((heE r l hs ps day id).1.map ia),Yg ((heE r l hs ps day id).1.map ia)]) ⟨.orNil _,.orNil _,trivial⟩;have c10:=PC.sub (Za1 (G:=G) _ (heE r l hs ps day id).2.1 s2) (xs:=[Yg ((heE r l hs ps day id).2.1.map ia),Yg ((heE r l hs ps day id).2.1.map ia)]) ⟨.orNil _,.orNil _,trivial⟩;have c11:=PC.sub (Za1 (G:=G) _ (wkE r l hs ps day id d) s3) (xs:=[Yg ((wkE r l hs ps day id d).map ia),Yg ((wkE r l hs ps day id d).map ia)]) ⟨.orNil _,.orNil _,trivial⟩;have c12:=Zic (G:=G) r l hs ps wr.1 wl.1 wp;rw[h]at c1;have p1:=Zft (l:=(heE r l hs ps day id).1.map ia) (by simp[ia,AV.pure]);have k1:=Zfu ((heE r l hs ps day id).1.map ia);have p2:=Zft (l:=(heE r l hs ps day id).2.1.map ia) (by simp[ia,AV.pure]);have k2:=Zfu ((heE r l hs ps day id).2.1.map ia);have p3:=Zft (l:=(wkE r l hs ps day id d).map ia) (by simp[ia,AV.pure]);have k3:=Zfu ((wkE r l hs ps day id d).map ia);unfold heA at c3 c4;have pp:(prA r l hs ps).pure=true:=(by simp[prA,AV.pure,isa,na,hoa,ia,ptA]);unfold prA at *;generalize Yg ((heE r l hs ps day id).1.map ia)=V1 at *;generalize Yg ((heE r l hs ps day id).2.1.map ia)=V2 at *;generalize Yg ((wkE r l hs ps day id d).map ia)=V3 at *;generalize (heE r l hs ps day id).2.2=e1 at *;generalize ab7 r l hs ps day 1 id [d]=e2 at *
 (refine Z7k rfl λR hG hrd=>Qga ?_;subst hG)
 simp -implicitDefEqProofs[Z7i,Z7j];refine Qco (c1) (by simp) ?_;simp -implicitDefEqProofs[];refine Qco (c2) (by simp) ?_;simp -implicitDefEqProofs[];refine Qco (c3) (by simp) ?_;simp -implicitDefEqProofs[];refine Qco (c4) (by simp) ?_;simp -implicitDefEqProofs[];refine Qco (c5) (by simp) ?_;simp -implicitDefEqProofs[];refine Qco (c6) (by simp) ?_;simp -implicitDefEqProofs[];refine Ye.of c7 (by simp[pp]) ?_;simp -implicitDefEqProofs[];refine Ye.of c8 (by simp[pp]) ?_;simp -implicitDefEqProofs[];refine Ye.of c9 (by simp[p1]) ?_;simp -implicitDefEqProofs[];refine Ye.of c10 (by simp[p2]) ?_;simp -implicitDefEqProofs[];refine Ye.of c11 (by simp[p3]) ?_;simp -implicitDefEqProofs[];refine Ye.of c12 (by simp[pp]) ?_;simp -implicitDefEqProofs[k1,k2,k3];rfl
end
theorem Zii {xs:List AV} (h:TVs [.int .i64] xs):∃ n:Int,xs=ia n:=by
 obtain ⟨x0,_,rfl,h0,h⟩:=h.cons_inv;obtain rfl:=h.nil_inv;obtain ⟨n,rfl,-⟩:=h0.int_inv;exact ⟨n,rfl⟩
open Go.ChangeShapes Go.WideShapes Go.ChangeAt Go.WideMaps Go.WideElems Go.RowKit Go.Deep
def laid7:List (String×DataW Unit):=[("blueline/sheet.checks",Rows.laid_blueline_sheet_checks),("blueline/note.checks",Rows.laid_blueline_note_checks),("blueline/recall.checks",Rows.laid_blueline_recall_checks)]
theorem Zij (os:Os) (args:Array Value):laidMetH Tryz.prog laid7 ((World.doorLaid Tryz.prog 41 os).forCall (λ_ _=>0) ⟨#[],args,[]⟩).memory :=
 laidMetH_of_parts3 (fuel:=8) (laidMet_of_run' 8 (by kernel_rfl) (by kernel_rfl)) (by kernel_rfl) (by kernel_rfl)
theorem cellF {W:World} {fuel:Nat} {c:Value} {y:DataW (List UInt8)×List MemPlace} {tE:Nat} {fld:Field} {ps rs:Array TypeId} {vd:Bool} {b:UInt8} {s:List UInt8} {f0:FuncId}
  (uE:Tryz.prog.underlying tE=some (.struct #[fld])) (hfo:fld.offset=0) (uF:Tryz.prog.underlying fld.type=some (.func ps rs vd)) (cF:Tryz.prog.cellsOf fld.type=1)
  (hone:((List.range Tryz.prog.funcs.size).filter λf=>(Tryz.prog.funcs[f]?).any (·.name.toUTF8.data.toList == b::s))=[f0])
  (h:DataW.trod (funcToken Tryz.prog) Tryz.prog W 0 (λ_=>true) true fuel tE [c]=some y) (hy:y.1 = .agg [.held (b::s)]):c = .func (.func f0) #[] #[]:=by
 obtain ⟨y0,n,rfl,-,h0⟩:=trod_struct1 uE h;rw[hfo,List.drop_zero,cF]at h0;simp only[DataW.agg.injEq,List.cons.injEq,and_true]at hy;exact func_of_trod (q:=y0.2) uF hone (by rw[<- hy];simpa using h0)
theorem Zik {W:World} {laid:List (String×DataW Unit)} {nm:String} {d:DataW Unit} {g tA tE:Nat} {fld:Field} {ps rs:Array TypeId} {vd:Bool} {n:Nat} (toks:List (List UInt8)) (fs:List FuncId)
  (h:laidMetH Tryz.prog laid W) (hm:(nm,DataW.iface "func table" d)∈laid) (hg:Tryz.prog.globalNamed nm=some g) (ht:(Tryz.prog.globals[g]?).map (·.type)=some tA)
  (uA:Tryz.prog.underlying tA=some (.array n tE)) (uE:Tryz.prog.underlying tE=some (.struct #[fld])) (hfo:fld.offset=0) (uF:Tryz.prog.underlying fld.type=some (.func ps rs vd))
  (cA:Tryz.prog.cellsOf tA=n) (cE:Tryz.prog.cellsOf tE=1) (cF:Tryz.prog.cellsOf fld.type=1) (hl1:toks.length=n) (hl2:fs.length=n)
  (hd0:(d.funcsOut:DataW (List UInt8)) = .agg (toks.map λs=>.agg [.held s]))
  (hone:∀ (i:Nat) (s:List UInt8) (f:FuncId),toks[i]? = some s->fs[i]? = some f->∃ b r,s=b::r/\((List.range Tryz.prog.funcs.size).filter λf=>(Tryz.prog.funcs[f]?).any (·.name.toUTF8.data.toList == b::r))=[f]) :
  ∃ t fr,W.heap[g]? = some (.cells ((fs.map λf=>Value.func (.func f) #[] #[]).toArray) t fr):=by
 obtain ⟨g',t,cs,fuel,p,hg',ht',hv,hd⟩:=h.funcs hm;obtain rfl:=Option.some.inj (hg.symm.trans hg');obtain rfl:=Option.some.inj (ht.symm.trans ht');obtain ⟨xs,m,rfl,hx,hlen,hn,hel⟩:=DataW.trod_array uA hd;rw[cA]at hlen;rw[cE]at hel;rw[hd0,Prod.mk.injEq,DataW.agg.injEq]at hx;have hx:=hx.1
 have hcs:cs.toList=fs.map λf=>Value.func (.func f) #[] #[]:=by
  refine List.ext_getElem? λi=>?_
  by_cases hi:i<n
  . have e:=hel i hi;have h1:i<xs.length:=(by omega);have h2:i<toks.length:=(by omega);have h3:i<fs.length:=(by omega);have h4:i<cs.toList.length:=(by omega);obtain ⟨b,r,hb,ho⟩:=hone i _ _ (List.getElem?_eq_getElem h2) (List.getElem?_eq_getElem h3);rw[Nat.mul_one,List.drop_eq_getElem_cons h4,List.take_succ_cons,List.take_zero,List.getElem?_eq_getElem h1]at e;have ey:=congrArg (λl=>l[i]?) hx;simp only[List.getElem?_map,List.getElem?_eq_getElem h2,List.getElem?_eq_getElem h1,Option.map_some,Option.some.injEq]at ey;rw[hb]at ey;have:=cellF uE hfo uF cF ho e ey.symm;rw[List.getElem?_eq_getElem h4,List.getElem?_map,List.getElem?_eq_getElem h3,this];rfl
  . rw[List.getElem?_eq_none (by omega),List.getElem?_eq_none (by simp;omega)]
 simp only[World.var?,hg,Option.bind_some]at hv
 split at hv
 . rename_i cs' t fr heq;injection hv with hv
   have e:cs=(fs.map λf=>Value.func (.func f) #[] #[]).toArray:=(by rw[<- hcs]);exact ⟨t,fr,by rw[heq,hv,e]⟩
 . cases hv
def TabB (W:World) (g:Nat) (fs:List FuncId):Prop:=∃ t fr,W.heap[g]? = some (.cells ((fs.map λf=>Value.func (.func f) #[] #[]).toArray) t fr)
def tabA (fs:List FuncId):List AV:=fs.map λf=>.func (.func f) [] []
theorem Zil {W:World} {g:Nat} {fs:List FuncId} (h:TabB W g fs):PV noM W (.vptr (tabA fs) 0) (.pointer (some ⟨g,0,none⟩)):=by
 obtain ⟨t,fr,hb⟩:=h;refine .vptr _ 0 g 0 (λj=>(((fs.map λf=>Value.func (.func f) #[] #[]).toArray)[j]?).getD undef) (Array.getElem?_eq_some_iff.1 hb).1 id ?_ ?_
 . intro j hj;have hj':j<fs.length:=(by simpa [tabA] using hj);simp[World.cell?,hb,hj']
 . intro j x hx;unfold tabA at hx;rw[List.getElem?_map,Option.map_eq_some_iff]at hx;obtain ⟨f,hf,rfl⟩:=hx;have hj':=(List.getElem?_eq_some_iff.1 hf).1;have e:((fs.map λf=>Value.func (.func f) #[] #[]).toArray)[j]? = some (.func (.func f) #[] #[]):=(by simp[hf]);rw[e];exact .func _ [] [] #[] #[] rfl rfl (by simp) (by simp)
def fsC:List FuncId:=[260,261,262,263]
def fsN:List FuncId:=[237,238,239,240,242,243,246,248]
def fsR:List FuncId:=[252,253,254,257,258]
set_option maxRecDepth 100000 in
theorem Zim {W:World} (h:laidMetH Tryz.prog laid7 W):TabB W 0 fsN :=
 Zik [[98,108,117,101,108,105,110,101,47,110,111,116,101,46,99,104,101,99,107,115,36,49],[98,108,117,101,108,105,110,101,47,110,111,116,101,46,99,104,101,99,107,115,36,50],[98,108,117,101,108,105,110,101,47,110,111,116,101,46,99,104,101,99,107,115,36,51],[98,108,117,101,108,105,110,101,47,110,111,116,101,46,99,104,101,99,107,115,36,52],[98,108,117,101,108,105,110,101,47,110,111,116,101,46,99,104,101,99,107,115,36,53],[98,108,117,101,108,105,110,101,47,110,111,116,101,46,99,104,101,99,107,115,36,54],[98,108,117,101,108,105,110,101,47,110,111,116,101,46,99,104,101,99,107,115,36,55],[98,108,117,101,108,105,110,101,47,110,111,116,101,46,99,104,101,99,107,115,36,56]] fsN h (List.mem_cons_of_mem _ (List.mem_cons_self ..)) (by kernel_rfl) (by kernel_rfl) Tryz.underlying235 (fld:=_) Tryz.underlying234 rfl Tryz.underlying208 (by kernel_rfl) (by kernel_rfl) (by kernel_rfl) rfl rfl rfl
 (λi s f hs hf=>by
  match i,hs,hf with
  |0,hs,hf=>cases hs;cases hf;exact ⟨_,_,rfl,by kernel_rfl⟩
  |1,hs,hf=>cases hs;cases hf;exact ⟨_,_,rfl,by kernel_rfl⟩
  |2,hs,hf=>cases hs;cases hf;exact ⟨_,_,rfl,by kernel_rfl⟩
  |3,hs,hf=>cases hs;cases hf;exact ⟨_,_,rfl,by kernel_rfl⟩
  |4,hs,hf=>cases hs;cases hf;exact ⟨_,_,rfl,by kernel_rfl⟩
  |5,hs,hf=>cases hs;cases hf;exact ⟨_,_,rfl,by kernel_rfl⟩
  |6,hs,hf=>cases hs;cases hf;exact ⟨_,_,rfl,by kernel_rfl⟩
  |7,hs,hf=>cases hs;cases hf;exact ⟨_,_,rfl,by kernel_rfl⟩
  |i+8,hs,_=>simp at hs)
set_option maxRecDepth 100000 in
theorem Zin {W:World} (h:laidMetH Tryz.prog laid7 W):TabB W 2 fsC :=
 Zik [[98,108,117,101,108,105,110,101,47,115,104,101,101,116,46,99,104,101,99,107,115,36,49],[98,108,117,101,108,105,110,101,47,115,104,101,101,116,46,99,104,101,99,107,115,36,50],[98,108,117,101,108,105,110,101,47,115,104,101,101,116,46,99,104,101,99,107,115,36,51],[98,108,117,101,108,105,110,101,47,115,104,101,101,116,46,99,104,101,99,107,115,36,52]] fsC h (List.mem_cons_self ..) (by kernel_rfl) (by kernel_rfl) Tryz.underlying264 (fld:=_) Tryz.underlying263 rfl Tryz.underlying262 (by kernel_rfl) (by kernel_rfl) (by kernel_rfl) rfl rfl rfl
 (λi s f hs hf=>by
  match i,hs,hf with
  |0,hs,hf=>cases hs;cases hf;exact ⟨_,_,rfl,by kernel_rfl⟩
  |1,hs,hf=>cases hs;cases hf;exact ⟨_,_,rfl,by kernel_rfl⟩
  |2,hs,hf=>cases hs;cases hf;exact ⟨_,_,rfl,by kernel_rfl⟩
  |3,hs,hf=>cases hs;cases hf;exact ⟨_,_,rfl,by kernel_rfl⟩
  |i+4,hs,_=>simp at hs)
set_option maxRecDepth 100000 in
theorem Zio {W:World} (h:laidMetH Tryz.prog laid7 W):TabB W 1 fsR :=
 Zik [[98,108,117,101,108,105,110,101,47,114,101,99,97,108,108,46,99,104,101,99,107,115,36,49],[98,108,117,101,108,105,110,101,47,114,101,99,97,108,108,46,99,104,101,99,107,115,36,50],[98,108,117,101,108,105,110,101,47,114,101,99,97,108,108,46,99,104,101,99,107,115,36,51],[98,108,117,101,108,105,110,101,47,114,101,99,97,108,108,46,99,104,101,99,107,115,36,52],[98,108,117,101,108,105,110,101,47,114,101,99,97,108,108,46,99,104,101,99,107,115,36,53]] fsR h (List.mem_cons_of_mem _ (List.mem_cons_of_mem _ (List.mem_cons_self ..))) (by kernel_rfl) (by kernel_rfl) Tryz.underlying245 (fld:=_) Tryz.underlying244 rfl Tryz.underlying242 (by kernel_rfl) (by kernel_rfl) (by kernel_rfl) rfl rfl rfl
 (λi s f hs hf=>by
  match i,hs,hf with
  |0,hs,hf=>cases hs;cases hf;exact ⟨_,_,rfl,by kernel_rfl⟩
  |1,hs,hf=>cases hs;cases hf;exact ⟨_,_,rfl,by kernel_rfl⟩
  |2,hs,hf=>cases hs;cases hf;exact ⟨_,_,rfl,by kernel_rfl⟩
  |3,hs,hf=>cases hs;cases hf;exact ⟨_,_,rfl,by kernel_rfl⟩
  |4,hs,hf=>cases hs;cases hf;exact ⟨_,_,rfl,by kernel_rfl⟩
  |i+5,hs,_=>simp at hs)
def G7:Nat->Option (List AV):=λg=>if g=2 then some (tabA fsC) else if g=0 then some (tabA fsN) else if g=1 then some (tabA fsR) else none
theorem Zip:GC G7:=rfl
theorem Ziq:GN G7:=rfl
theorem Zir:GP G7:=rfl
theorem Zis {W:World} (h:laidMetH Tryz.prog laid7 W):GR G7 noM W:=by
 intro g cs hg;simp only[G7]at hg
 split at hg
 . rename_i e;subst e;cases hg;exact Zil (Zin h)
 . split at hg
   . rename_i e;subst e;cases hg;exact Zil (Zim h)
   . split at hg
     . rename_i e;subst e;cases hg;exact Zil (Zio h)
     . cases hg
def nteK:List TY:=[.int .i64,.int .i64,.int .u8,.int .i64,.int .i64,.int .i64,.int .i64,.int .i64,.bool,.int .u8]
def hldK:List TY:=[.int .i64,.int .i64,.int .i64,.sl [.int .i64]]
def prtK:List TY:=[.int .i64,.int .i64,.int .i64,.int .i64,.int .i64,.int .i64,.int .u8]
def prsK:List TY:=[.sl isK2,.sl nteK,.sl hldK,.sl prtK]
theorem Zit {xs:List AV} (h:TVs nteK xs):∃ x:Nte,xs=na x/\NOk7 x:=by
 obtain ⟨x0,_,rfl,h0,h⟩:=h.cons_inv;obtain ⟨x1,_,rfl,h1,h⟩:=h.cons_inv;obtain ⟨x2,_,rfl,h2,h⟩:=h.cons_inv;obtain ⟨x3,_,rfl,h3,h⟩:=h.cons_inv;obtain ⟨x4,_,rfl,h4,h⟩:=h.cons_inv;obtain ⟨x5,_,rfl,h5,h⟩:=h.cons_inv;obtain ⟨x6,_,rfl,h6,h⟩:=h.cons_inv;obtain ⟨x7,_,rfl,h7,h⟩:=h.cons_inv;obtain ⟨x8,_,rfl,h8,h⟩:=h.cons_inv;obtain ⟨x9,_,rfl,h9,h⟩:=h.cons_inv;obtain rfl:=h.nil_inv;obtain ⟨v0,rfl,-⟩:=h0.int_inv;obtain ⟨v1,rfl,-⟩:=h1.int_inv;obtain ⟨v2,rfl,k2⟩:=h2.int_inv;obtain ⟨v3,rfl,-⟩:=h3.int_inv;obtain ⟨v4,rfl,-⟩:=h4.int_inv;obtain ⟨v5,rfl,-⟩:=h5.int_inv;obtain ⟨v6,rfl,-⟩:=h6.int_inv;obtain ⟨v7,rfl,-⟩:=h7.int_inv;obtain ⟨v8,rfl⟩:=h8.bool_inv;obtain ⟨v9,rfl,k9⟩:=h9.int_inv;obtain ⟨a2,b2⟩:=bounds_u8 k2;obtain ⟨a9,b9⟩:=bounds_u8 k9;exact ⟨⟨v0,v1,v2,v3,v4,v5,v6,v7,v8,v9⟩,rfl,a2,b2,a9,b9⟩
theorem Ziu {xs:List AV} (h:TVs hldK xs):∃ x:Hld,xs=hoa x:=by
 obtain ⟨x0,_,rfl,h0,h⟩:=h.cons_inv;obtain ⟨x1,_,rfl,h1,h⟩:=h.cons_inv;obtain ⟨x2,_,rfl,h2,h⟩:=h.cons_inv;obtain ⟨x3,_,rfl,h3,h⟩:=h.cons_inv;obtain rfl:=h.nil_inv;obtain ⟨v0,rfl,-⟩:=h0.int_inv;obtain ⟨v1,rfl,-⟩:=h1.int_inv;obtain ⟨v2,rfl,-⟩:=h2.int_inv;obtain ⟨rows,rfl,-,g⟩:=h3.sl_inv;obtain ⟨ds,rfl⟩:=ZhY (f:=ia) λr hr=>Zii (g r hr)
 exact ⟨⟨v0,v1,v2,ds⟩,rfl⟩
theorem Ziv {xs:List AV} (h:TVs prtK xs):∃ x:Prt,xs=ptA x/\POk x:=by
 obtain ⟨x0,_,rfl,h0,h⟩:=h.cons_inv;obtain ⟨x1,_,rfl,h1,h⟩:=h.cons_inv;obtain ⟨x2,_,rfl,h2,h⟩:=h.cons_inv;obtain ⟨x3,_,rfl,h3,h⟩:=h.cons_inv;obtain ⟨x4,_,rfl,h4,h⟩:=h.cons_inv;obtain ⟨x5,_,rfl,h5,h⟩:=h.cons_inv;obtain ⟨x6,_,rfl,h6,h⟩:=h.cons_inv;obtain rfl:=h.nil_inv;obtain ⟨v0,rfl,-⟩:=h0.int_inv;obtain ⟨v1,rfl,-⟩:=h1.int_inv;obtain ⟨v2,rfl,-⟩:=h2.int_inv;obtain ⟨v3,rfl,-⟩:=h3.int_inv;obtain ⟨v4,rfl,-⟩:=h4.int_inv;obtain ⟨v5,rfl,-⟩:=h5.int_inv;obtain ⟨v6,rfl,k6⟩:=h6.int_inv;exact ⟨⟨v0,v1,v2,v3,v4,v5,v6⟩,rfl,bounds_u8 k6⟩
theorem Ziw {xs:List AV} (h:TVs prsK xs):∃ (r:List Iss) (l:List Nte) (hs:List Hld) (ps:List Prt),AV.agg xs=prA r l hs ps/\(∀ x∈r,KOk x)/\(∀ x∈l,NOk7 x)/\∀ x∈ps,POk x:=by
 obtain ⟨x0,_,rfl,h0,h⟩:=h.cons_inv;obtain ⟨x1,_,rfl,h1,h⟩:=h.cons_inv;obtain ⟨x2,_,rfl,h2,h⟩:=h.cons_inv;obtain ⟨x3,_,rfl,h3,h⟩:=h.cons_inv;obtain rfl:=h.nil_inv;obtain ⟨rows,rfl,-,g⟩:=h0.sl_inv;obtain ⟨r,rfl,hr⟩:=Zi6 (f:=isa) (p:=KOk) λr hr=>Zi5 (g r hr)
 obtain ⟨rows,rfl,-,g⟩:=h1.sl_inv;obtain ⟨l,rfl,hl⟩:=Zi6 (f:=na) (p:=NOk7) λr hr=>Zit (g r hr)
 obtain ⟨rows,rfl,-,g⟩:=h2.sl_inv;obtain ⟨hs,rfl⟩:=ZhY (f:=hoa) λr hr=>Ziu (g r hr)
 obtain ⟨rows,rfl,-,g⟩:=h3.sl_inv;obtain ⟨ps,rfl,hp⟩:=Zi6 (f:=ptA) (p:=POk) λr hr=>Ziv (g r hr)
 exact ⟨r,l,hs,ps,rfl,hr,hl,hp⟩
theorem Zix {P:Program} {f:FuncId} {fn:Func} {s:ChangeSpec} {c:OpenClaim}
  (h1:c.wf (OpenSpec.ofChange s)=true) (h1a:laidOutB P=true) (h1b:mapsRowed P=true)
  (h2:(fn.params.all (P.readableRec ·)&&namedTie P c.named s.vars&&(c.stops == [])&&(P.stops == [])&&(c.knobs == [])&&(P.stopKnobs == []))=true)
  (h3:(c.inPlace == P.inPlace f)=true) (h4:(c.unfollowed == P.unfollowed f)=true) (h5:(c.recurses == P.recurses f)=true) (h6:(c.named == P.varsNamed f)=true)
  (h7:((c.maps == (fn.params.toList++s.plain.varTypes P).any (P.mapsRec ·))&&(c.ifaces == (fn.params.toList++s.plain.varTypes P).any (P.ifacesRec ·))&&(c.mapsOut == P.mapsAmong fn.resultTypes.toList)&&(c.loops == (fn.params.toList++s.plain.varTypes P).any (P.loopsFrom ·))&&(c.wideKeys == (fn.params.toList++s.plain.varTypes P++fn.resultTypes.toList).any (P.wideKeysFrom ·))&&s.vars.all (P.varReadable ·)&&fn.resultTypes.all (λt=>P.readableRec t&&decide (t<P.types.size))&&(c.ifacesOut == fn.resultTypes.toList.any (P.ifacesRec ·))&&(c.loopsOut == fn.resultTypes.toList.any (P.loopsFrom ·)))=true)
  (h8:(c.plainKeys == P.plainKeys)=true) (h9:c.shortTexts.isNone=true) (h10:P.stopsHeard=true) (h11:P.mayEnter=true) (h12:(c.lifted == P.liftsFinal)=true) (h13:(P.make == some c.make)=true)
  (h14:((c.kinds == (if c.domain.isEmpty then [] else fn.params.toList.map λt=>match P.underlying t with|some (.int k)=>some k|_=>none))&&(c.pinned == c.pinnedBy)&&(c.veiled == (fn.params.toList++s.plain.varTypes P++fn.resultTypes.toList).any (P.veiledRec ·))&&c.veiledFits P fn.params.toList (fn.params.toList++s.plain.varTypes P++fn.resultTypes.toList))=true) :
  joinedFacts P f fn s c=true:=by
 rw[Bool.and_eq_true,Bool.and_eq_true,Bool.and_eq_true,Bool.and_eq_true,Bool.and_eq_true]at h2;rw[Bool.and_eq_true,Bool.and_eq_true,Bool.and_eq_true,Bool.and_eq_true,Bool.and_eq_true,Bool.and_eq_true,Bool.and_eq_true,Bool.and_eq_true]at h7;obtain ⟨⟨⟨⟨⟨a1,a2⟩,a3⟩,a4⟩,a5⟩,a6⟩:=h2;obtain ⟨⟨⟨⟨⟨⟨⟨⟨b1,b2⟩,b3⟩,b4⟩,b5⟩,b6⟩,b7⟩,b8⟩,b9⟩:=h7;unfold joinedFacts;rw[h1,h1a,h1b,a1,a2,a3,a4,a5,a6,h3,h4,h5,h6,b1,b2,b3,b4,b5,b6,b7,b8,b9,h8,h9,h10,h11,h12,h13];simp only[Bool.true_and];exact h14
theorem Ziy:laidOutB Tryz.prog=true:=by kernel_rfl
theorem Ziz:mapsRowed Tryz.prog=true:=by kernel_rfl
theorem ZiA:(false == Tryz.prog.plainKeys)=true:=by kernel_rfl
theorem ZiB:Tryz.prog.stopsHeard=true:=by kernel_rfl
theorem ZiC:Tryz.prog.mayEnter=true:=by kernel_rfl
theorem ZiD:(Rows.recallHoldsRow.lifted == Tryz.prog.liftsFinal)=true:=by kernel_rfl
theorem ZiE:(Tryz.prog.make == some Rows.recallHoldsRow.make)=true:=by kernel_rfl
theorem ZiF:Tryz.prog.mainIs=some (true, "c78c3ff270fe74a990be3be0c8d074bef76ac0378b180a9ded0d213bc229583d".toList):=by kernel_rfl
theorem ZiG:false=Tryz.prog.looks []:=by kernel_rfl
end Go.Proofs.YtcdlimgkliklhaaGreatDoor
