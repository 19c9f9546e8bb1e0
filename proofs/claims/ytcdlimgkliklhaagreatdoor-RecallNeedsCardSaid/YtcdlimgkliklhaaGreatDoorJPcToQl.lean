/-
  What the program's functions on prints compute: whether holders and prints are valid; offices.
-/
import Derived.Test.YtcdlimgkliklhaaGreatDoorJNjToPd
import Derived.Shelf.Sort.Plain
import Derived.Test.YtcdlimgkliklhaaGreatDoorProg
import Derived.Test.YtcdlimgkliklhaaGreatDoorJEfToGf
import Derived.Test.YtcdlimgkliklhaaGreatDoorJRcbToEe
import Derived.Test.YtcdlimgkliklhaaGreatDoorJAmLToAmX
import Derived.Test.YtcdlimgkliklhaaGreatDoorJOpenToOpen
import Derived.Test.YtcdlimgkliklhaaGreatDoorJRowToRow
set_option linter.all false
set_option linter.unusedSimpArgs false
set_option linter.unusedVariables false
set_option linter.unusedSectionVars false
namespace Go.Proofs.YtcdlimgkliklhaaGreatDoor
open Go.RowKit
def K5p:List AV:=[.func (.func 252) [] [],.func (.func 253) [] [],.func (.func 254) [] [],.func (.func 257) [] [],.func (.func 258) [] []]
def GP (G:Nat->Option (List AV)):Prop:=G 1=some K5p
def ckP (r:List Iss) (hs:List Hld) (x:Prt):Nat->Bool
 |0=>inR x.no 1 9999&&inR x.dy 0 14610
 |1=>decide (0<=hoI hs x.ho)
 |2=>(findN x.dw x.lt r).isSome
 |3=>decide (x.lo<=2)
 |_=>decide (x.bk = -1)||(inR x.bk x.dy 14610&&decide (x.lo=0))
theorem hoF_I (hs:List Hld) (id:Int):decide (0<=hoI hs id)=(hoF hs id).isSome:=by
 unfold hoI hoF;rw[Zap,Bool.eq_iff_iff,List.any_eq_true,List.find?_isSome]
theorem ZiX {r:List Iss} {hs:List Hld} {x:Prt}:prB r hs x=true↔∀ j,j<5->ckP r hs x j=true:=by
 simp only[prB,Bool.and_eq_true];rw[<- hoF_I]
 constructor
 . rintro ⟨⟨⟨⟨⟨h1,h2⟩,h3⟩,h4⟩,h5⟩,h6⟩ j hj
   match j,hj with
   |0,_=>simp only[ckP,h1,h2,Bool.and_self]
   |1,_=>exact h3
   |2,_=>exact h5
   |3,_=>exact h4
   |4,_=>exact h6
 . intro h;have h1:=h 0 (by omega);simp only[ckP,Bool.and_eq_true]at h1;exact ⟨⟨⟨⟨h1,h 1 (by omega)⟩,h 3 (by omega)⟩,h 2 (by omega)⟩,h 4 (by omega)⟩
theorem ZiY {r:List Iss} {hs:List Hld} {ps:List Prt} {i:Nat} (hi:i<hs.length) (h:hoB (nums r) hs i=false):ptsB r hs ps=false:=by
 cases q:ptsB r hs ps
 . rfl
 . simp only[ptsB,Bool.and_eq_true]at q;have:=Z9R.1 q.1.2 i hi;rw[h]at this;cases this
theorem ZiZ {r:List Iss} {hs:List Hld} {ps:List Prt} {i:Nat} (hi:i<ps.length) (h:shB r hs ps i=false):ptsB r hs ps=false:=by
 cases q:ptsB r hs ps
 . rfl
 . simp only[ptsB,Bool.and_eq_true]at q;have:=Z9R.1 q.2 i hi;rw[h]at this;cases this
def hoC (hs:List Hld) (i:Nat):Bool:=inR (hAt hs i).id 1 9999&&(i == 0||decide ((hAt hs (i-1)).id<(hAt hs i).id))&&inR (hAt hs i).fr 1 (hAt hs i).to&&decide ((hAt hs i).to<=999)&&decide ((hAt hs i).ds.length<=8)
def wkC (D ds:List Int) (k:Nat):Bool:=D.contains (ds.getD k 0)&&(k == 0||decide (ds.getD (k-1) 0<ds.getD k 0))
theorem Zj0 (D:List Int) (hs:List Hld) (i:Nat):hoB D hs i=(hoC hs i&&(List.range (hAt hs i).ds.length).all (wkC D (hAt hs i).ds)):=rfl
def rgT (r:List Iss) (l:List Nte) (hs:List Hld) (ps:List Prt) (i:Nat):List (Nat×AV):=[(34,.int .i64 i),(33,.int .i64 hs.length),(32,.vsl (hs.map hoa)),(0,ofA r l hs ps)]
def rgD (r:List Iss) (l:List Nte) (hs:List Hld) (ps:List Prt) (h:Hld) (i k:Nat):St:=⟨(88,.int .i64 k)::(87,.int .i64 h.ds.length)::(86,.vsl (h.ds.map ia))::(4,.ptr 4 0)::(3,.int .i64 i)::rgT r l hs ps i,[(4,.box (hoa h))]⟩
def rgP (r:List Iss) (l:List Nte) (hs:List Hld) (ps:List Prt) (i:Nat):List (Nat×AV):=[(122,.int .i64 i),(121,.int .i64 ps.length),(120,.vsl (ps.map ptA)),(7,.bool true),(0,ofA r l hs ps)]
def rgK (r:List Iss) (l:List Nte) (hs:List Hld) (ps:List Prt) (x:Prt) (i j:Nat):St:=⟨(145,.int .i64 j)::(144,.agg K5p)::(9,.ptr 9 0)::(8,.int .i64 i)::rgP r l hs ps i,[(9,.box (ptA x))]⟩
section
variable {G:Nat->Option (List AV)}
theorem kPall {r:List Iss} {l:List Nte} {hs:List Hld} {ps:List Prt} (x:Prt) (hr:Sml r) (hh:Sml hs) (j:Nat) (hj:j<5) :
  ∃ f,(K5p.drop j).take 1=[.func (.func f) [] []]/\PC Tryz.prog G f [ofA r l hs ps,.agg (ptA x)] (.bool (ckP r hs x j)):=by
 match j,hj with
 |0,_=>exact ⟨_,rfl,ZiA _ x⟩
 |1,_=>exact ⟨_,rfl,ZiB r l hs ps x hh⟩
 |2,_=>exact ⟨_,rfl,ZiD r l hs ps x hr⟩
 |3,_=>exact ⟨_,rfl,ZiE _ x⟩
 |4,_=>exact ⟨_,rfl,ZiF _ x⟩
set_option maxHeartbeats 4000000 in
theorem Zj1 (hP:GP G) (r:List Iss) (l:List Nte) (hs:List Hld) (ps:List Prt) (hr:Sml r) (hd:Sml (nums r)) (hw:WfP hs ps):PC Tryz.prog G 132 [ofA r l hs ps] (.bool (ptsB r hs ps)):=by
 have hh:Sml hs:=(by have:=hw.hl;unfold Sml;omega);have hl:=hw.hl;have hp:=hw.pl;have hk2:=λx j hj=>kPall (G:=G) (r:=r) (l:=l) (hs:=hs) (ps:=ps) x hr hh j hj
 have pO:=Zie r l hs ps;have kO:=Zif r l hs ps;have eO:ofA r l hs ps = .vptr [.vsl (r.map isa),.vsl (l.map na),.vsl (hs.map hoa),.vsl (ps.map ptA),.vsl ((nums r).map ia)] 0:=rfl;have hC:=λn=>ZfG (G:=G) false (nums r) n hd
 have eC:liA false (nums r) = .vsl ((nums r).map ia):=(by simp[liA]);rw[eC]at hC;unfold GP at hP;refine Zhe rfl λR hG hrd=>?_
 subst hG;refine Qga ?_;by_cases h6:6<hs.length
 . have h6':(6:Int)<hs.length:=by omega
   have e:ptsB r hs ps=false:=by
    have:¬hs.length<=6:=(by omega);simp[ptsB,this]
   simp -implicitDefEqProofs[Zhc,Zhd,eO,h6',e]
 have h6':¬(6:Int)<hs.length:=(by omega);by_cases h30:30<ps.length
 . have h30':(30:Int)<ps.length:=by omega
   have e:ptsB r hs ps=false:=by
    have:¬ps.length<=30:=(by omega);simp[ptsB,this]
   simp -implicitDefEqProofs[Zhc,Zhd,eO,h6',h30',e]
 have h30':¬(30:Int)<ps.length:=(by omega);simp -implicitDefEqProofs[Zhc,Zhd,eO,h6',h30'];refine Z9v (λi=>⟨rgT r l hs ps i,[]⟩) (λi=>∀ j,j<i->hoB (nums r) hs j=true) hs.length ?_ (by simp) ?_ ?_
 . simp only[rgT,eO]
   (refine Ym.sub (by simp[lk,Ya,AV.keys]) ?_;simp only[Wkl,and_true];(try simp[lk,Yc,Ya,AV.keys]))
 . intro i hi he;have hno:hoB (nums r) hs i=false->ptsB r hs ps=false:=ZiY hi;have hx:=Zi9 hi;have hds:=hw.dl _ (List.getElem_mem hi);have heq:=Zj0 (nums r) hs i;have wi:IntKind.i64.wrap ((i:Int)+1)=(i:Int)+1:=Yf (by omega) (by omega);obtain ⟨h,hhe⟩ : ∃ h,h=hs[i]:=⟨_,rfl⟩;rw[<- hhe]at hx hds;have hlx:hs[i]=h:=hhe.symm;have hho:hoa h=[.int .i64 h.id,.int .i64 h.fr,.int .i64 h.to,.vsl (h.ds.map ia)]:=rfl;have c1:=Zit (G:=R.G) 1 9999 h.id;have c2:=Ziu (G:=R.G) 1 999 h.fr h.to;have hC0:hoC hs i=(inR h.id 1 9999&&(i == 0||decide ((hAt hs (i-1)).id<h.id))&&inR h.fr 1 h.to&&decide (h.to<=999)&&decide (h.ds.length<=8)):=by unfold hoC;rw[hx]
   have hfin:inR h.id 1 9999=true->(i == 0||decide ((hAt hs (i-1)).id<h.id))=true->hoC hs i=(inR h.fr 1 999&&inR h.to 1 999 && !decide (h.to<h.fr) && !decide (8<h.ds.length)):=λq1 q2=>by
    rw[hC0,q1,q2,Bool.eq_iff_iff];simp only[Bool.true_and,Bool.and_eq_true,ZhV,decide_eq_true_eq,Bool.not_eq_true',decide_eq_false_iff_not];omega
   have hno2:hoC hs i=false->ptsB r hs ps=false:=λq=>hno (by rw[heq,q];rfl)
   have hst:∀ k:Nat,k<=h.ds.length->(∀ j,j<k->wkC (nums r) h.ds j=true)->k=h.ds.length->hoC hs i=true->∀ j,j<i+1->hoB (nums r) hs j=true:=λk _ hk1 hk2 hc j hj=>by
    rcases Nat.lt_or_ge j i with h1|h1
    . exact he j h1
    . obtain rfl:j=i:=(by omega);rw[heq,hc,hx,Bool.true_and];exact Z9R.2 (by rw[<- hk2];exact hk1)
   refine Qga ?_
   cases q1:inR h.id 1 9999
   . have e:=hno2 (by rw[hC0,q1];rfl);rw[q1]at c1
     cases i
     case' zero=>simp -implicitDefEqProofs[rgT,hi,hlx,hho]
     case' succ k =>
      have k1:(k:Int)+1<hs.length:=(by omega);have k2:((k:Int)+1).toNat=k+1:=(by omega);have k3:(0:Int)<=(k:Int)+1:=(by omega);simp -implicitDefEqProofs[rgT,k1,k2,k3,hi,hlx,hho]
     all_goals
      refine Qco (c1) (by simp) ?_;simp -implicitDefEqProofs[];refine ⟨rfl,?_⟩;refine Qgr ?_;simp -implicitDefEqProofs[e]
      done
   rw[q1]at c1;obtain ⟨I,hIe⟩ : ∃ I,I=i:=⟨_,rfl⟩
   cases i
   case' zero =>
    have q2:=hfin q1 rfl;simp -implicitDefEqProofs[rgT,hi,hlx,hho];refine Qco (c1) (by simp) ?_;simp -implicitDefEqProofs[]
   case' succ k =>
    have hk:k<hs.length:=(by omega);have w0:IntKind.i64.wrap ((k:Int)+1-1)=(k:Int):=(by rw[Yf (by omega) (by omega)];omega);have w2:IntKind.i64.wrap (k:Int)=(k:Int):=Yf (by omega) (by omega);have g0:(0:Int)<(k:Int)+1:=(by omega);have k1:(k:Int)+1<hs.length:=(by omega);have k2:((k:Int)+1).toNat=k+1:=(by omega);have k3:(0:Int)<=(k:Int)+1:=(by omega);have hhk:hoa hs[k]=[.int .i64 hs[k].id,.int .i64 hs[k].fr,.int .i64 hs[k].to,.vsl (hs[k].ds.map ia)]:=rfl;simp -implicitDefEqProofs[rgT,k1,k2,k3,hi,hlx,hho];refine Qco (c1) (by simp) ?_;by_cases hp:hs[k].id<h.id
    case' neg =>
     have e:=hno2 (by rw[hC0,Nat.add_sub_cancel,Zi9 hk,decide_eq_false hp];simp);have hp2:h.id<=hs[k].id:=(by omega);simp -implicitDefEqProofs[hk,w0,w2,g0,hhk,hp2,eO,hho];refine ⟨rfl,?_⟩;refine Qgr ?_;simp -implicitDefEqProofs[e]
     done
    have hp2:¬h.id<=hs[k].id:=(by omega);have q2:=hfin q1 (by rw[Nat.add_sub_cancel,Zi9 hk,decide_eq_true hp];simp);simp -implicitDefEqProofs[hk,w0,w2,g0,hhk,hp2,eO,hho]
   all_goals
    refine Qco (c2) (by simp) ?_
    cases q3:(inR h.fr 1 999&&inR h.to 1 999)
    case false =>
     have e:=hno2 (by rw[q2,q3];rfl);simp -implicitDefEqProofs[];refine ⟨rfl,?_⟩;refine Qgr ?_;simp -implicitDefEqProofs[e]
    by_cases q4:h.to<h.fr
    case pos =>
     have e:=hno2 (by rw[q2,q3,decide_eq_true q4];rfl);simp -implicitDefEqProofs[hho,q4];refine ⟨rfl,?_⟩;refine Qgr ?_;simp -implicitDefEqProofs[e]
    by_cases q5:8<h.ds.length
    case pos =>
     have q5':(8:Int)<h.ds.length:=(by omega);have e:=hno2 (by rw[q2,decide_eq_true q5];simp);simp -implicitDefEqProofs[hho,q4,q5'];refine ⟨rfl,?_⟩;refine Qgr ?_;simp -implicitDefEqProofs[e]
    have q5':¬(8:Int)<h.ds.length:=(by omega);rw[q3,decide_eq_false q4,decide_eq_false q5]at q2;simp -implicitDefEqProofs[hho,q4,q5'];refine ⟨rfl,?_⟩;refine Z9v (rgD r l hs ps h I) (λk=>∀ j,j<k->wkC (nums r) h.ds j=true) h.ds.length ?_ (by simp) ?_ ?_
    . simp only[rgD,rgT,eO,hIe]
      ((try simp only[hho]);refine Ym.sub (by simp[lk,Ya,AV.keys,hho]) ?_;simp only[hho,Wkl,and_true];(try simp[lk,Yc,Ya,AV.keys,hho]))
    . intro k hk hK
      have hwf:wkC (nums r) h.ds k=false->ptsB r hs ps=false:=λq=>hno (by
       rw[heq,q2,hx,Bool.true_and]
       cases q6:(List.range h.ds.length).all (wkC (nums r) h.ds)
       . rfl
       . have:=Z9R.1 q6 k hk;rw[q]at this;cases this)
      have wk:IntKind.i64.wrap ((k:Int)+1)=(k:Int)+1:=Yf (by omega) (by omega);have hcd:=hC h.ds[k];have gd:h.ds.getD k 0=h.ds[k]:=(by simp[List.getD_eq_getElem?_getD,hk]);refine Qga ?_;by_cases m1:h.ds[k]∈nums r
      case neg =>
       have e:=hwf (by rw[wkC,gd];simp[m1]);rw[decide_eq_false m1]at hcd;simp -implicitDefEqProofs[rgD,rgT,hk,ia,eO];refine Qco (hcd) (by simp) ?_;simp -implicitDefEqProofs[];refine Qgr ?_;simp -implicitDefEqProofs[];refine Qgr ?_;simp -implicitDefEqProofs[e]
      rw[decide_eq_true m1]at hcd
      cases k with
      | zero =>
        have e:wkC (nums r) h.ds 0=true:=(by rw[wkC,gd];simp[m1]);have w1:IntKind.i64.wrap 1=1:=rfl;simp -implicitDefEqProofs[rgD,rgT,hk,ia,eO];refine Qco (hcd) (by simp) ?_;simp -implicitDefEqProofs[w1];refine ⟨?_,e⟩;simp only[rgD,rgT,eO]
        ((try simp only[hho]);refine Ym.sub (by simp[lk,Ya,AV.keys,hho]) ?_;simp only[hho,Wkl,and_true];(try simp[lk,Yc,Ya,AV.keys,hho]))
      | succ p =>
        have hp:p<h.ds.length:=(by omega);have g2:h.ds.getD p 0=h.ds[p]:=(by simp[List.getD_eq_getElem?_getD,hp]);have w0:IntKind.i64.wrap ((p:Int)+1-1)=(p:Int):=(by rw[Yf (by omega) (by omega)];omega);have w2:IntKind.i64.wrap (p:Int)=(p:Int):=Yf (by omega) (by omega);have g0:(0:Int)<(p:Int)+1:=(by omega);have k1:(p:Int)+1<h.ds.length:=(by omega);have k2:((p:Int)+1).toNat=p+1:=(by omega);have k3:(0:Int)<=(p:Int)+1:=(by omega);have wk2:IntKind.i64.wrap ((p:Int)+1+1)=(p:Int)+1+1:=Yf (by omega) (by omega);by_cases m2:h.ds[p]<h.ds[p+1]
        . have e:wkC (nums r) h.ds (p+1)=true:=(by rw[wkC,gd,Nat.add_sub_cancel,g2];simp[m1,m2]);have m3:¬h.ds[p+1]<=h.ds[p]:=(by omega);simp -implicitDefEqProofs[rgD,rgT,k1,k2,k3,hk,ia,eO];refine Qco (hcd) (by simp) ?_;simp -implicitDefEqProofs[hp,w0,w2,g0,hho,ia,m3,wk2];refine ⟨?_,λj hj=>?_⟩
          . simp only[rgD,rgT,eO]
            ((try simp only[hho]);refine Ym.sub (by simp[lk,Ya,AV.keys,hho]) ?_;simp only[hho,Wkl,and_true];(try simp[lk,Yc,Ya,AV.keys,hho]))
          . rcases Nat.lt_or_ge j (p+1) with h4|h4
            . exact hK j h4
            . obtain rfl:j=p+1:=(by omega);exact e
        . have e:=hwf (by rw[wkC,gd,Nat.add_sub_cancel,g2];simp[m2]);have m3:h.ds[p+1]<=h.ds[p]:=(by omega);simp -implicitDefEqProofs[rgD,rgT,k1,k2,k3,hk,ia,eO];refine Qco (hcd) (by simp) ?_;simp -implicitDefEqProofs[hp,w0,w2,g0,hho,ia,m3];refine Qgr ?_;simp -implicitDefEqProofs[];refine Qgr ?_;simp -implicitDefEqProofs[e]
    . intro hK;have hst2:=hst h.ds.length (Nat.le_refl _) hK rfl q2;refine Qga ?_;have wI:IntKind.i64.wrap ((I:Int)+1)=(I:Int)+1:=Yf (by omega) (by omega);simp -implicitDefEqProofs[rgD,rgT];refine Qgr ?_;simp -implicitDefEqProofs[wI];refine ⟨?_,by first|exact hst2|exact hst2 0 (by omega)⟩;simp only[rgT,eO]
      ((try simp only[hIe]);refine Ym.sub (by simp[lk,Ya,AV.keys,hIe]) ?_;simp only[hIe,Wkl,and_true];(try simp[lk,Yc,Ya,AV.keys,hIe]))
 . intro he;refine Qga ?_;simp -implicitDefEqProofs[rgT,eO];refine Qgr ?_;simp -implicitDefEqProofs[];refine Z9v (λi=>⟨rgP r l hs ps i,[]⟩) (λi=>∀ j,j<i->shB r hs ps j=true) ps.length ?_ (by simp) ?_ ?_
   . simp only[rgP,eO]
     (refine Ym.sub (by simp[lk,Ya,AV.keys]) ?_;simp only[Wkl,and_true];(try simp[lk,Yc,Ya,AV.keys]))
   . intro i hi hE;have hno:shB r hs ps i=false->ptsB r hs ps=false:=ZiZ hi;have hx:=Zia hi;have wi:IntKind.i64.wrap ((i:Int)+1)=(i:Int)+1:=Yf (by omega) (by omega);obtain ⟨x,hxe⟩ : ∃ x,x=ps[i]:=⟨_,rfl⟩;rw[<- hxe]at hx;have hlx:ps[i]=x:=hxe.symm;have hpt:ptA x=[.int .i64 x.no,.int .i64 x.dy,.int .i64 x.ho,.int .i64 x.dw,.int .i64 x.lt,.int .i64 x.bk,.int .u8 x.lo]:=rfl;have hsh:shB r hs ps i=((i == 0||decide ((pAt ps (i-1)).no<x.no))&&prB r hs x):=(by unfold shB;rw[hx]);have t5:K5p.take 5=K5p:=rfl;have l5:K5p.length=5:=rfl;obtain ⟨I,hIe⟩ : ∃ I,I=i:=⟨_,rfl⟩;refine Qga ?_
     cases i
     case' zero =>
      have q2:shB r hs ps 0=prB r hs x:=(by rw[hsh];rfl);simp -implicitDefEqProofs[rgP,hi,hlx,hpt]
     case' succ k =>
      have hk:k<ps.length:=(by omega);have w0:IntKind.i64.wrap ((k:Int)+1-1)=(k:Int):=(by rw[Yf (by omega) (by omega)];omega);have w2:IntKind.i64.wrap (k:Int)=(k:Int):=Yf (by omega) (by omega);have g0:(0:Int)<(k:Int)+1:=(by omega);have k1:(k:Int)+1<ps.length:=(by omega);have k2:((k:Int)+1).toNat=k+1:=(by omega);have k3:(0:Int)<=(k:Int)+1:=(by omega);have hpk:ptA ps[k]=[.int .i64 ps[k].no,.int .i64 ps[k].dy,.int .i64 ps[k].ho,.int .i64 ps[k].dw,.int .i64 ps[k].lt,.int .i64 ps[k].bk,.int .u8 ps[k].lo]:=rfl;by_cases hp:ps[k].no<x.no
      case' neg =>
       have e:=hno (by rw[hsh,Nat.add_sub_cancel,Zia hk,decide_eq_false hp];simp);have hp2:x.no<=ps[k].no:=(by omega);simp -implicitDefEqProofs[rgP,k1,k2,k3,hi,hlx,hpt,hk,w0,w2,g0,hpk,hp2,eO];refine ⟨rfl,?_⟩;refine Qgr ?_;simp -implicitDefEqProofs[e]
       done
      have hp2:¬x.no<=ps[k].no:=(by omega);have q2:shB r hs ps (k+1)=prB r hs x:=(by rw[hsh,Nat.add_sub_cancel,Zia hk,decide_eq_true hp];simp);simp -implicitDefEqProofs[rgP,k1,k2,k3,hi,hlx,hpt,hk,w0,w2,g0,hpk,hp2,eO]
     all_goals
      refine ⟨rfl,?_⟩;simp -implicitDefEqProofs[hP,t5,l5];refine Z9v (rgK r l hs ps x I) (λj=>∀ k,k<j->ckP r hs x k=true) 5 ?_ (by simp) ?_ ?_
      . simp only[rgK,rgP,eO,hIe]
        ((try simp only[hpt,K5p]);refine Ym.sub (by simp[lk,Ya,AV.keys,hpt,K5p]) ?_;simp only[hpt,K5p,Wkl,and_true];(try simp[lk,Yc,Ya,AV.keys,hpt,K5p]))
      . intro j hj hJ;refine Qga ?_;obtain ⟨f,hf1,hf2⟩:=hk2 x j hj;have wj:IntKind.i64.wrap ((j:Int)+1)=(j:Int)+1:=Yf (by omega) (by omega);have j1:(j:Int)<5:=(by omega);have j2:j+1<=5:=(by omega);have j3:j<=4:=(by omega);simp -implicitDefEqProofs[rgK,rgP,j1,j2,j3,l5,hf1,hj,hpt];rw[hpt]at hf2;refine Yd.of hf2 (by simp[pO,AV.pure]) ?_
        cases hb:ckP r hs x j
        . have e:=hno (by
           rw[q2]
           cases q:prB r hs x
           . rfl
           . have:=ZiX.1 q j hj;rw[hb]at this;cases this)
          simp -implicitDefEqProofs[];refine Qgr ?_;simp -implicitDefEqProofs[];refine Qgr ?_;simp -implicitDefEqProofs[e]
        . simp -implicitDefEqProofs[wj];refine ⟨?_,λk hk=>?_⟩
          . simp only[rgK,rgP,eO]
            ((try simp only[hpt,K5p]);refine Ym.sub (by simp[lk,Ya,AV.keys,hpt,K5p]) ?_;simp only[hpt,K5p,Wkl,and_true];(try simp[lk,Yc,Ya,AV.keys,hpt,K5p]))
          . rcases Nat.lt_or_ge k j with h1|h1
            . exact hJ k h1
            . obtain rfl:k=j:=(by omega);exact hb
      . intro hJ;rw[ZiX.2 hJ]at q2
        have hE2:∀ j,j<I+1->shB r hs ps j=true:=λj hj=>by
         rcases Nat.lt_or_ge j I with h1|h1
         . exact hE j (by omega)
         . obtain rfl:j=I:=(by omega);rw[hIe];exact q2
        have wI:IntKind.i64.wrap ((I:Int)+1)=(I:Int)+1:=Yf (by omega) (by omega);refine Qga ?_;simp -implicitDefEqProofs[rgK,rgP];refine Qgr ?_;simp -implicitDefEqProofs[wI];refine ⟨?_,by first|exact q2|exact λj hj=>hE2 j (by omega)⟩;simp only[rgP,eO]
        ((try simp only[hIe]);refine Ym.sub (by simp[lk,Ya,AV.keys,hIe]) ?_;simp only[hIe,Wkl,and_true];(try simp[lk,Yc,Ya,AV.keys,hIe]))
   . intro hE
     have e:ptsB r hs ps=true:=by
      simp only[ptsB,Bool.and_eq_true,decide_eq_true_eq];exact ⟨⟨⟨by omega,by omega⟩,Z9R.2 he⟩,Z9R.2 hE⟩
     refine Qga ?_;simp -implicitDefEqProofs[rgP];refine Qgr ?_;simp -implicitDefEqProofs[e]
end
def opP (r:List Iss) (l:List Nte) (hs:List Hld) (ps:List Prt):AV:=.tup [if ck7 r l hs ps=0 then ofA r l hs ps else .nilp,.int .i64 (ck7 r l hs ps)]
theorem Zj2 {r:List Iss} {l:List Nte} {hs:List Hld} {ps:List Prt}:ck7 r l hs ps=0↔chN r l=0/\ptsB r hs ps=true:=by
 unfold ck7;by_cases h:chN r l=0
 . rw[if_pos h];by_cases h2:ptsB r hs ps=true
   . simp[h,h2]
   . simp[h,h2]
 . simp[h]
theorem Zj3 {r:List Iss} {l:List Nte} (h:chN r l=0):openV r=0:=by
 unfold chN at h
 split at h
 . assumption
 . rename_i e;exact absurd h e
def as7 (r:List Iss) (l:List Nte) (hs:List Hld) (ps:List Prt) (day m:Int):Int:=if ck7 r l hs ps=0 then if inR day 0 14610=true/\inR m 1 999=true then 0 else 2 else ck7 r l hs ps
def ab7 (r:List Iss) (l:List Nte) (hs:List Hld) (ps:List Prt) (day m id:Int) (ds:List Int):Int:=if as7 r l hs ps day m=0 then if 0<=hoI hs id/\(ds.all λd=>decide (d∈nums r))=true then 0 else 6 else as7 r l hs ps day m
section
variable {G:Nat->Option (List AV)}
theorem Zj4 (hG:GC G) (hN:GN G) (hP:GP G) (r:List Iss) (l:List Nte) (hs:List Hld) (ps:List Prt) (hl:WfN l) (hr:Wf r) (hd:Sml (nums r)) (hw:WfP hs ps):PC Tryz.prog G 76 [prA r l hs ps] (opP r l hs ps):=by
 have hc:=ZfM hG hN r l hl hr;have hD:=ZbU hG r hr;rw[rega]at hD;have hR:=Zj1 hP r l hs ps hr.1.1 hd hw;have pO:=Zie r l hs ps;have kO:=Zif r l hs ps;have eO:ofA r l hs ps = .vptr [.vsl (r.map isa),.vsl (l.map na),.vsl (hs.map hoa),.vsl (ps.map ptA),.vsl ((nums r).map ia)] 0:=rfl;have sO:∀ ok st,Yh ok st 6 (ofA r l hs ps)=some (ofA r l hs ps):=λok st=>by rw[eO];rw[eO]at pO;simp[Yh,pO]
 unfold opP prA;by_cases h0:chN r l=0
 case neg =>
  have e:ck7 r l hs ps=chN r l:=(by rw[ck7,if_neg h0]);rw[e,if_neg h0]
  (refine Zhh rfl λR hG hrd=>Qga ?_;subst hG)
  simp -implicitDefEqProofs[Zhf,Zhg];refine Qco (hc) (by simp) ?_;simp -implicitDefEqProofs[h0]
 have ho:=Zj3 h0;rw[if_pos ho,ho]at hD;rw[h0]at hc;refine Zhh rfl λR hG hrd=>?_
 subst hG;refine Qga ?_;simp -implicitDefEqProofs[Zhf,Zhg];refine Qco (hc) (by simp) ?_;simp -implicitDefEqProofs[];refine Qco (hD) (by simp) ?_;simp -implicitDefEqProofs[];rw[eO]at hR
 (first|refine Yd.flat (hR) (by simp[AV.flat]) (by simp) ?_|refine Ye.flat (hR) (by simp[AV.flat]) (by simp) ?_)
 cases q:ptsB r hs ps
 . have e:ck7 r l hs ps=70:=(by rw[ck7,if_pos h0,q];rfl);simp -implicitDefEqProofs[e]
 . have e:ck7 r l hs ps=0:=(by rw[ck7,if_pos h0,q];rfl);simp -implicitDefEqProofs[e,eO]
def asP (r:List Iss) (l:List Nte) (hs:List Hld) (ps:List Prt) (day m:Int):AV:=.tup [if as7 r l hs ps day m=0 then ofA r l hs ps else .nilp,.int .i64 (as7 r l hs ps day m)]
theorem Zj5 (hG:GC G) (hN:GN G) (hP:GP G) (r:List Iss) (l:List Nte) (hs:List Hld) (ps:List Prt) (day m:Int) (hl:WfN l) (hr:Wf r) (hd:Sml (nums r)) (hw:WfP hs ps) :
  PC Tryz.prog G 89 [prA r l hs ps,.int .i64 day,.int .i64 m] (asP r l hs ps day m):=by
 have ho:=Zj4 hG hN hP r l hs ps hl hr hd hw;have c1:=Zit (G:=G) 0 14610 day;have c2:=Zit (G:=G) 1 999 m;have pO:=Zie r l hs ps;have kO:=Zif r l hs ps;have eO:ofA r l hs ps = .vptr [.vsl (r.map isa),.vsl (l.map na),.vsl (hs.map hoa),.vsl (ps.map ptA),.vsl ((nums r).map ia)] 0:=rfl;have sO:∀ ok st,Yh ok st 6 (ofA r l hs ps)=some (ofA r l hs ps):=λok st=>by rw[eO];rw[eO]at pO;simp[Yh,pO]
 unfold opP at ho;unfold asP as7;by_cases h0:ck7 r l hs ps=0
 case neg =>
  rw[if_neg h0]at ho;unfold prA at *
  (refine Zhk rfl λR hG hrd=>Qga ?_;subst hG)
  simp -implicitDefEqProofs[Zhi,Zhj];refine Qco (ho) (by simp) ?_;simp -implicitDefEqProofs[h0]
 rw[if_pos h0,h0]at ho;unfold prA at *;generalize ofA r l hs ps=O at *
 (refine Zhk rfl λR hG hrd=>Qga ?_;subst hG)
 simp -implicitDefEqProofs[Zhi,Zhj];refine Qco (ho) (by simp) ?_;simp -implicitDefEqProofs[];refine Qco (c1) (by simp) ?_
 cases q1:inR day 0 14610
 . simp -implicitDefEqProofs[h0]
 simp -implicitDefEqProofs[];refine Qco (c2) (by simp) ?_
 cases q2:inR m 1 999
 . simp -implicitDefEqProofs[h0]
 . simp -implicitDefEqProofs[h0,pO,sO]
def abP (r:List Iss) (l:List Nte) (hs:List Hld) (ps:List Prt) (day m id:Int) (ds:List Int):AV:=.tup [if ab7 r l hs ps day m id ds=0 then ofA r l hs ps else .nilp,.int .i64 (ab7 r l hs ps day m id ds)]
theorem Zj6 (r:List Iss) (l:List Nte) (hs:List Hld) (ps:List Prt) (d:Int) (hd:Sml (nums r)):PC Tryz.prog G 127 [.int .i64 d,.vptr [ofA r l hs ps] 0] (.bool (!decide (d∈nums r))):=by
 have hC:=ZfG (G:=G) false (nums r) d hd;have eC:liA false (nums r) = .vsl ((nums r).map ia):=(by simp[liA]);rw[eC]at hC;unfold ofA
 (refine Zhq rfl λR hG hrd=>Qga ?_;subst hG)
 simp -implicitDefEqProofs[Zho,Zhp];refine Qco (hC) (by simp) ?_;simp -implicitDefEqProofs[]
theorem Zj7 (hG:GC G) (hN:GN G) (hP:GP G) (r:List Iss) (l:List Nte) (hs:List Hld) (ps:List Prt) (day m id:Int) (ds:List Int) (hl:WfN l) (hr:Wf r) (hd:Sml (nums r)) (hw:WfP hs ps) (hds:Sml ds) :
  PC Tryz.prog G 69 [prA r l hs ps,.int .i64 day,.int .i64 m,.int .i64 id,.vsl (ds.map ia)] (abP r l hs ps day m id ds):=by
 have ho:=Zj5 hG hN hP r l hs ps day m hl hr hd hw;have pO:=Zie r l hs ps;have hh:Sml hs:=(by have:=hw.hl;unfold Sml;omega);have c1:=Ziz (G:=G) r l hs ps id hh;have c2:=Zar (G:=G) 127 [.vptr [ofA r l hs ps] 0] (λd=>!decide (d∈nums r)) ds (by simp[AV.pure,pO]) hds (λd _=>Zj6 r l hs ps d hd);have kO:=Zif r l hs ps;have eO:ofA r l hs ps = .vptr [.vsl (r.map isa),.vsl (l.map na),.vsl (hs.map hoa),.vsl (ps.map ptA),.vsl ((nums r).map ia)] 0:=rfl;have sO:∀ ok st n,Yh ok st (n+1) (ofA r l hs ps)=some (ofA r l hs ps):=λok st n=>by rw[eO];rw[eO]at pO;simp[Yh,pO]
 have eN:(ds.any λd=>!decide (d∈nums r)) = !(ds.all λd=>decide (d∈nums r)):=(by simp[List.all_eq_not_any_not]);rw[eN]at c2;unfold asP at ho;unfold abP ab7;by_cases h0:as7 r l hs ps day m=0
 case neg =>
  rw[if_neg h0]at ho;unfold prA at *
  (refine Zhn rfl λR hG hrd=>Qga ?_;subst hG)
  simp -implicitDefEqProofs[Zhl,Zhm];refine Qco (ho) (by simp) ?_;simp -implicitDefEqProofs[h0]
 rw[if_pos h0,h0]at ho;unfold prA at *;generalize (ds.all λd=>decide (d∈nums r))=b at *;obtain ⟨cs,hcs⟩ : ∃ cs,ofA r l hs ps = .vptr cs 0:=⟨_,rfl⟩;clear eO;rw[hcs]at ho pO c1 c2 kO sO ⊢;generalize hoI hs id=hid at *
 (refine Zhn rfl λR hG hrd=>Qga ?_;subst hG)
 simp -implicitDefEqProofs[Zhl,Zhm];refine Qco (ho) (by simp) ?_;simp -implicitDefEqProofs[];refine Yd.of c1 (by simp[pO,AV.pure]) ?_;by_cases q1:hid<0
 . have q1':¬0<=hid:=(by omega);simp -implicitDefEqProofs[q1,q1',h0]
 have q1':0<=hid:=(by omega);simp -implicitDefEqProofs[q1];refine Yd.flat c2 (by simp[AV.flat]) (by simp[snap,Yj,sO,Yh,okAll,St.get,lk]) ?_
 cases b
 . simp -implicitDefEqProofs[q1',h0]
 . simp -implicitDefEqProofs[q1',h0,pO,sO]
end
theorem Zj8 (ok:Nat->Bool) (st:St) (l:List Int):frzO ok st (.row 1 (l.map ia)) = .row 1 (l.map ia):=by
 simp only[frzO,List.map_map]
 congr 2
 funext p;simp[ia,frzA,frz,AV.keys]
def smI (x y:Int):Bool:=decide (x=y)
def kI (l:List Int):Nat->List Int
 |0=>[]
 |p+1=>if p≠0/\smI (l.getD p default) (l.getD (p-1) default)=true then kI l p else kI l p++[l.getD p default]
theorem Zj9 (l:List Int):∀ p,(kI l p).length<=p
 |0=>Nat.le_refl _
 | p+1=>by
   have:=Zj9 l p;rw[kI];split <;> simp <;> omega
def noI (l:List Int) (p:Nat):Prop:=∀ j,0<j->j<p->smI (l.getD j default) (l.getD (j-1) default)=false
theorem Zja {l:List Int}:∀ {p:Nat},noI l p->p<=l.length->kI l p=l.take p
 |0,_,_=>rfl
 | p + 1,h,hp=>by
   rw[kI,Zja (p:=p) (λj h1 h2=>h j h1 (by omega)) (by omega),List.take_succ_eq_append_getElem (by omega)];have e:l.getD p default=l[p]:=by simp[List.getD_eq_getElem?_getD,show p<l.length by omega]
   split
   . rename_i h2;rw[h p (by omega) (by omega)]at h2;exact absurd h2.2 (by simp)
   . rw[e]
def cpI (l:List Int) (p:Nat):List Int:=kI l p++l.drop (kI l p).length
theorem Zjb {l:List Int} {p:Nat} (h:p<=l.length):(cpI l p).length=l.length:=by
 have:=Zj9 l p;simp[cpI];omega
theorem Zjc {l:List Int} {p j:Nat} (hp:p<l.length) (h1:(kI l p).length<=j) (h2:j<=p):(cpI l p)[j]? = some (l.getD j default):=by
 rw[cpI,List.getElem?_append_right h1,List.getElem?_drop];have:(kI l p).length+(j-(kI l p).length)=j:=(by omega);rw[this];simp[List.getD_eq_getElem?_getD,show j<l.length by omega]
theorem Zjd {l:List Int} {p:Nat} (hp:p<l.length) (h:¬(p≠0/\smI (l.getD p default) (l.getD (p-1) default)=true)):(cpI l p).set (kI l p).length (l.getD p default)=cpI l (p+1):=by
 have hl:=Zj9 l p;have e:kI l (p+1)=kI l p++[l.getD p default]:=(by rw[kI,if_neg h]);rw[cpI,cpI,e,List.set_append_right _ _ (by omega),Nat.sub_self,List.drop_eq_getElem_cons (by omega:(kI l p).length<l.length)];simp only[List.set_cons_zero,List.length_append,List.length_singleton,List.append_assoc,List.singleton_append]
theorem Zje {l:List Int} {p:Nat} (h:p≠0/\smI (l.getD p default) (l.getD (p-1) default)=true):cpI l (p+1)=cpI l p/\kI l (p+1)=kI l p:=by
 have e:kI l (p+1)=kI l p:=(by rw[kI,if_pos h]);exact ⟨by rw[cpI,cpI,e],e⟩
def cpcI (l:List Int):List Int:=kI l l.length
def zrO:List AV:=[.int .i64 0]
def cpoI (l:List Int):List (List AV):=(cpcI l).map ia++List.replicate (l.length-(cpcI l).length) zrO
def cpvI (k:Nat) (l:List Int):AV:=if (cpcI l).length=l.length then .osl k l.length else .oss k l.length 0 (cpcI l).length
theorem kI_lt {l:List Int} {k:Nat} (hk0:k≠0) (hd:smI (l.getD k default) (l.getD (k-1) default)=true):∀ p,k<p->(kI l p).length<p:=by
 intro p hp
 induction p with
 |zero=>omega
 | succ p ih =>
   by_cases h:p=k
   . subst h;have:=Zj9 l p;rw[kI,if_pos ⟨hk0,hd⟩];omega
   . have:=ih (by omega);rw[kI];split <;> simp <;> omega
theorem Zjf {l:List Int} {p:Nat} (h:p<l.length):l.getD p default=l[p]:=by simp[List.getD_eq_getElem?_getD,h]
theorem Zjg {l:List Int} (h:noI l l.length):cpcI l=l:=by rw[cpcI,Zja h (Nat.le_refl _),List.take_length]
theorem Zjh (ok:Nat->Bool) (st:St) (l:List Int):frzO ok st (.row 1 (cpoI l)) = .row 1 (cpoI l):=by
 have h:=Zj8 ok st (cpcI l);simp only[frzO,AObj.row.injEq,true_and]at h ⊢;rw[cpoI,List.map_append,h];simp[zrO,frzA,frz,AV.keys]
theorem Zji (x:Int):∀ (t:List Int) (p:Int),cmpG p (t++[x])=if (p::t).getLast (by simp)=x then cmpG p t else cmpG p t++[x]
 | [],p=>by
   by_cases e:x=p
   . subst e;simp[cmpG]
   . simp[cmpG,e,Ne.symm e]
 | y :: t,p=>by
   have ih:=Zji x t y;rw[List.cons_append,cmpG,cmpG,List.getLast_cons (by simp)];by_cases e:y=p
   . rw[if_pos e,if_pos e,<- e,ih]
   . rw[if_neg e,if_neg e,ih]
     split <;> simp
theorem Zjj (l:List Int):∀ p,p<=l.length->kI l p=cmpI (l.take p)
 |0,_=>by simp[kI,cmpI]
 | p + 1,h=>by
   have hp:p<l.length:=h;have ih:=Zjj l p (by omega);rw[kI,ih,Zjf hp,List.take_succ_eq_append_getElem hp]
   cases p with
   | zero =>
     simp[cmpI,cmpG]
   | succ q =>
     have hq:q<l.length:=(by omega);have e1:(q+1-1)=q:=(by omega);rw[e1,Zjf hq];have e2:l.take (q+1)=l.take q++[l[q]]:=List.take_succ_eq_append_getElem hq
     obtain ⟨a,t,hat⟩ : ∃ a t,l.take (q+1)=a::t:=by
      cases hh:l.take (q+1) with
      |nil=>exact absurd (congrArg List.length hh) (by simp only[List.length_take,List.length_nil];omega)
      |cons a t=>exact ⟨a,t,rfl⟩
     have hl:(a::t).getLast (by simp)=l[q]:=by
      have:(l.take (q+1)).getLast (by rw[hat];simp)=l[q]:=by
       simp only[List.getLast_eq_getElem,List.getElem_take,List.length_take]
       congr 1;omega
      simpa [hat] using this
     rw[hat,List.cons_append,cmpI,cmpI,Zji,hl];by_cases c:l[q]=l[q+1]
     . rw[if_pos c,if_pos ⟨by omega,by simp[smI,c]⟩]
     . rw[if_neg c,if_neg (λh=>c (by have:=h.2;simp[smI]at this;exact this.symm))];simp
theorem Zjk (l:List Int):cpcI l=cmpI l:=by rw[cpcI,Zjj l _ (Nat.le_refl _),List.take_length]
section
variable {G:Nat->Option (List AV)}
theorem Zjl (l:List Int) (h3:l.length<=1000) :
  PB Tryz.prog G 116 [(1000,.row 1 (l.map ia))] [.osl 1000 l.length] (cpvI 1000 l) [(1000,.row 1 (cpoI l))]:=by
 (refine ZhJ (Nat.le_of_ble_eq_true rfl) λR hG hrd=>Qga ?_;subst hG)
 simp -implicitDefEqProofs[ZhH,ZhI];by_cases hs:(l.length:Int)<2
 . have e:cpcI l=l:=Zjg λj h1 h2=>by omega
   simp -implicitDefEqProofs[hs];refine ⟨[.osl 1000 l.length],?_,?_,?_⟩
   . simp[Z29,evRes,Yi,newK,frzA,frz,AV.keys,lk,St.tmp,ZhI]
   . simp[cpvI,e,tupV]
   . simp[Yi,newK,Zj8,cpoI,e]
 simp -implicitDefEqProofs[hs];refine Z9v (λi=>⟨[(3,.int .i64 ((i:Int)+1)),(0,.osl 1000 l.length)],[(1000,.row 1 (l.map ia))]⟩) (λi=>noI l (i+1)) (l.length-1) ?_ (λj h1 h2=>by omega) ?_ ?_
 . refine Ym.sub (by simp[lk,Ya,AV.keys]) ?_;simp only[List.mem_cons,List.not_mem_nil,or_false,forall_eq_or_imp,forall_eq,ZeR,and_true];simp[lk]
 . intro i hi hn;refine Qga ?_;have k1:(i:Int)+1<l.length:=(by omega);have k2:((i:Int)+1).toNat=i+1:=(by omega);have k3:(0:Int)<=(i:Int)+1:=(by omega);have k4:i+1<l.length:=(by omega);have k5:i<l.length:=(by omega);have w1:IntKind.i64.wrap (i:Int)=i:=Yf (by omega) (by omega);have w2:IntKind.i64.wrap ((i:Int)+1+1)=(i:Int)+1+1:=Yf (by omega) (by omega);have ex:∀ x,ia x=[.int .i64 x]:=λx=>rfl
   have hsm:smI (l.getD (i+1) default) (l.getD i default)=decide (l[i+1]=l[i]):=(by rw[Zjf k4,Zjf k5];rfl);by_cases hd:l[i+1]=l[i]
   . simp -implicitDefEqProofs [k1,k2,k3,k4,k5,w1,ex,hd];refine ⟨rfl,?_⟩;rw[decide_eq_true hd]at hsm;have hs2:i+1≠0/\smI (l.getD (i+1) default) (l.getD (i+1-1) default)=true:=⟨by omega,hsm⟩;have hk:=Zja hn (by omega);have hk1:(kI l (i+1)).length=i+1:=(by rw[hk];simp;omega);obtain ⟨c1,c2⟩:=Zje hs2;have c3:cpI l (i+1)=l:=(by rw[cpI,hk1,hk,List.take_append_drop]);have hkl:=λp=>kI_lt (l:=l) (k:=i+1) (by omega) hsm p
     have k6:i+1<=l.length:=(by omega);simp -implicitDefEqProofs[k2,k3,k6];refine Z9v (λj=>⟨[(5,.int .i64 ((j:Int)+1)),(4,.oss 1000 l.length (i+1) l.length),(3,.int .i64 (kI l (i+1+1+j)).length),(0,.osl 1000 l.length)],[(1000,.row 1 ((cpI l (i+1+1+j)).map ia))]⟩) (λ_=>True) (l.length-(i+1+1)) ?_ trivial ?_ ?_
     . have z1:cpI l (i+1+1+0)=l:=(by rw[Nat.add_zero,c1,c3]);have z2:(kI l (i+1+1+0)).length=i+1:=(by rw[Nat.add_zero,c2,hk1]);rw[z1,z2];refine Ym.sub (by simp[lk,Ya,AV.keys]) ?_;simp only[List.mem_cons,List.not_mem_nil,or_false,forall_eq_or_imp,forall_eq,ZeR,and_true];simp[lk]
     . intro j hj _;refine Qga ?_;have hq:i+1+1+j<l.length:=(by omega);have hq2:i+1+j<l.length:=(by omega);have hml:=hkl (i+1+1+j) (by omega);have hcl:=Zjb (l:=l) (p:=i+1+1+j) (by omega);have a1:=Zjc (j:=i+1+1+j) hq (by omega) (by omega);have a2:=Zjc (j:=i+1+j) hq (by omega) (by omega);rw[Zjf hq]at a1;rw[Zjf hq2]at a2;have hkeep:=Zjd hq;have hskip:=Zje (l:=l) (p:=i+1+1+j);have e3:i+1+1+j-1=i+1+j:=(by omega);have hkk:kI l (i+1+1+j+1)=kI l (i+1+1+j+1):=rfl
       conv at hkk=>rhs;rw[kI]
       have hsm2:smI (l.getD (i+1+1+j) default) (l.getD (i+1+j) default)=decide (l[i+1+1+j]=l[i+1+j]):=(by rw[Zjf hq,Zjf hq2];rfl);rw[e3,hsm2,Zjf hq]at hkeep hkk;rw[e3,hsm2]at hskip;have e4:i+1+1+(j+1)=i+1+1+j+1:=(by omega);have m1:(j:Int)+1<((l.length-(i+1):Nat):Int):=(by omega);have m2:((j:Int)+1).toNat=j+1:=(by omega);have m3:(0:Int)<=(j:Int)+1:=(by omega);have m4:j+1<l.length-(i+1):=(by omega);have m5:j<l.length-(i+1):=(by omega);have m6:i+1+(j+1)=i+1+1+j:=(by omega);have u1:IntKind.i64.wrap (j:Int)=j:=Yf (by omega) (by omega);have u2:IntKind.i64.wrap ((j:Int)+1+1)=(j:Int)+1+1:=Yf (by omega) (by omega);have u3:IntKind.i64.wrap (((kI l (i+1+1+j)).length:Int)+1)=(kI l (i+1+1+j)).length+1:=Yf (by omega) (by omega);have m7:(kI l (i+1+1+j)).length<l.length:=(by omega);have hpl:=Zj9 l (i+1+1+j);generalize cpI l (i+1+1+j)=Q at *;obtain ⟨q1,g1⟩:=List.getElem?_eq_some_iff.1 a1;obtain ⟨q2,g2⟩:=List.getElem?_eq_some_iff.1 a2;generalize l[i+1+1+j]=x at *;generalize l[i+1+j]=y at *;have ex1:=ex x;have ey1:=ex y;by_cases hd2:x=y
       . obtain ⟨f1,f2⟩:=hskip ⟨by omega,decide_eq_true hd2⟩;simp -implicitDefEqProofs[m1,m2,m3,m4,m5,m6,u1,u2,hq,hq2,g1,g2,hcl,ex1,ey1,hd2];refine ⟨rfl,?_⟩;rw[e4,f1,f2];refine Ym.sub (by simp[lk,Ya,AV.keys]) ?_;simp only[List.mem_cons,List.not_mem_nil,or_false,forall_eq_or_imp,forall_eq,ZeR,and_true];simp[lk]
       . have hn2:¬(i+1+1+j≠0/\decide (x=y)=true):=by
          rintro ⟨-,h⟩;exact hd2 (of_decide_eq_true h)
         have f1:=hkeep hn2;rw[if_neg hn2]at hkk;have il:∀ z:Int,(ia z).length=1:=λz=>rfl
         have id5:∀ z:Int,(ia z).drop 1=[]:=λz=>rfl
         have m8:(((kI l (i+1+1+j)).length:Int)+1)=((kI l (i+1+1+j+1)).length:Nat):=(by rw[hkk];simp);simp -implicitDefEqProofs[hd2,m1,m2,m3,m4,m5,m6,u1,u2,u3,hq,hq2,g1,g2,hcl,ex1,ey1,m7,il,id5];refine ⟨rfl,?_⟩;rw[<- ex1,<- List.map_set,f1,m8,e4];refine Ym.sub (by simp[lk,Ya,AV.keys]) ?_;simp only[List.mem_cons,List.not_mem_nil,or_false,forall_eq_or_imp,forall_eq,ZeR,and_true];simp[lk]
     . intro _;refine Qga ?_;have n1:¬(((l.length-(i+1+1):Nat):Int)+1<((l.length-(i+1):Nat):Int)):=(by omega);have e5:i+1+1+(l.length-(i+1+1))=l.length:=(by omega);rw[e5];have hml:=hkl l.length (by omega);have hcl:=Zjb (l:=l) (p:=l.length) (Nat.le_refl _);have n2:(kI l l.length).length<=l.length:=(by omega);simp -implicitDefEqProofs[n1,hcl];refine Qgr ?_;simp -implicitDefEqProofs[hcl,n2];refine Qgr ?_
       have t1:List.take (kI l l.length).length ((cpI l l.length).map ia)=(cpcI l).map ia:=by
        rw[<- List.map_take,cpI,List.take_left'];rfl;rfl
       have t2:List.drop l.length ((cpI l l.length).map ia)=[]:=List.drop_of_length_le (by simp[hcl]);rw[t1,t2,List.append_nil];have hne:¬(cpcI l).length=l.length:=(by rw[cpcI];omega);refine ⟨[.oss 1000 l.length 0 (kI l l.length).length],?_,?_,?_⟩
       . simp[Z29,evRes,Yi,newK,frzA,frz,AV.keys,lk,St.tmp]
       . rw[cpvI,if_neg hne];rfl
       . have hz:List.map ia (cpcI l)++List.replicate (l.length-(kI l l.length).length) [AV.int .i64 0]=cpoI l:=rfl;rw[hz];simp[Yi,newK,Zjh]
   . rw [decide_eq_false hd]at hsm;simp -implicitDefEqProofs[k1,k2,k3,k4,k5,w1,ex,hd,w2];refine ⟨rfl,?_,λj h1 h2=>?_⟩
     . (refine Ym.sub (by simp[lk,Ya,AV.keys]) ?_;simp only[Wkl,ZeR,and_true];(try simp[lk,Yc,Ya,AV.keys]))
     . rcases Nat.lt_or_ge j (i+1) with h|h
       . exact hn j h1 h
       . have:j=i+1:=(by omega);subst this;exact hsm
 . intro hn;refine Qga ?_;have k1:¬((l.length-1:Nat):Int)+1<l.length:=by omega
   have hn2:noI l l.length:=by
    have:l.length-1+1=l.length:=by omega
    rwa [this]at hn
   have e:cpcI l=l:=Zjg hn2;simp -implicitDefEqProofs[k1];refine Qgr ?_;simp -implicitDefEqProofs[];refine ⟨[.osl 1000 l.length],?_,?_,?_⟩
   . simp[Z29,evRes,Yi,newK,frzA,frz,AV.keys,lk,St.tmp,ZhI]
   . simp[cpvI,e,tupV]
   . simp[Yi,newK,Zj8,cpoI,e]
end
end Go.Proofs.YtcdlimgkliklhaaGreatDoor

namespace Go.Proofs
open Go.Shelf
def Tryz.lays189_ren:Go.Shelf.Ren:=⟨fun|189=>115|125=>165|257=>164|128=>192|129=>193|294=>183|295=>184|296=>185|297=>186|298=>187|299=>188|216=>189|300=>190|301=>191|328=>203|329=>204|330=>205|331=>206|332=>207|215=>157|343=>213|n=>n,fun|28=>34|3=>3|46=>225|0=>0|51=>93|53=>156|4=>4|183=>255|182=>254|131=>159|5=>5|9=>9|218=>272|222=>276|228=>284|229=>285|n=>n,fun|n=>n⟩
theorem Tryz.lays189:Go.Proofs.Lays.n189 Tryz.prog Tryz.lays189_ren:={
 mixed:=by kernel_rfl
 f125:=Tryz.func165.trans (congrArg some (by kernel_rfl))
 f128:=Tryz.func192.trans (congrArg some (by kernel_rfl))
 f129:=Tryz.func193.trans (congrArg some (by kernel_rfl))
 f189:=Tryz.func115.trans (congrArg some (by kernel_rfl))
 f215:=Tryz.func157.trans (congrArg some (by kernel_rfl))
 f216:=Tryz.func189.trans (congrArg some (by kernel_rfl))
 f257:=Tryz.func164.trans (congrArg some (by kernel_rfl))
 f294:=Tryz.func183.trans (congrArg some (by kernel_rfl))
 f295:=Tryz.func184.trans (congrArg some (by kernel_rfl))
 f296:=Tryz.func185.trans (congrArg some (by kernel_rfl))
 f297:=Tryz.func186.trans (congrArg some (by kernel_rfl))
 f298:=Tryz.func187.trans (congrArg some (by kernel_rfl))
 f299:=Tryz.func188.trans (congrArg some (by kernel_rfl))
 f300:=Tryz.func190.trans (congrArg some (by kernel_rfl))
 f301:=Tryz.func191.trans (congrArg some (by kernel_rfl))
 f328:=Tryz.func203.trans (congrArg some (by kernel_rfl))
 f329:=Tryz.func204.trans (congrArg some (by kernel_rfl))
 f330:=Tryz.func205.trans (congrArg some (by kernel_rfl))
 f331:=Tryz.func206.trans (congrArg some (by kernel_rfl))
 f332:=Tryz.func207.trans (congrArg some (by kernel_rfl))
 f343:=Tryz.func213.trans (congrArg some (by kernel_rfl))
 t0:=Tryz.underlying0
 a0:=Tryz.isAgg0
 z0:=Tryz.sizeOf0
 v0:=Tryz.zeroValue0
 t3:=Tryz.underlying3
 a3:=Tryz.isAgg3
 z3:=Tryz.sizeOf3
 v3:=Tryz.zeroValue3
 t4:=Tryz.underlying4
 a4:=Tryz.isAgg4
 z4:=Tryz.sizeOf4
 v4:=Tryz.zeroValue4
 t5:=Tryz.underlying5
 a5:=Tryz.isAgg5
 z5:=Tryz.sizeOf5
 v5:=Tryz.zeroValue5
 t9:=Tryz.underlying9
 a9:=Tryz.isAgg9
 z9:=Tryz.sizeOf9
 v9:=Tryz.zeroValue9
 t28:=Tryz.underlying34
 a28:=Tryz.isAgg34
 z28:=Tryz.sizeOf34
 v28:=Tryz.zeroValue34
 t46:=Tryz.underlying225
 a46:=Tryz.isAgg225
 z46:=Tryz.sizeOf225
 v46:=Tryz.zeroValue225
 t51:=Tryz.underlying93
 a51:=Tryz.isAgg93
 z51:=Tryz.sizeOf93
 v51:=Tryz.zeroValue93
 t53:=Tryz.underlying156
 a53:=Tryz.isAgg156
 z53:=Tryz.sizeOf156
 v53:=Tryz.zeroValue156
 t131:=Tryz.underlying159
 a131:=Tryz.isAgg159
 z131:=Tryz.sizeOf159
 v131:=Tryz.zeroValue159
 t182:=Tryz.underlying254
 a182:=Tryz.isAgg254
 z182:=Tryz.sizeOf254
 v182:=Tryz.zeroValue254
 t183:=Tryz.underlying255
 a183:=Tryz.isAgg255
 z183:=Tryz.sizeOf255
 v183:=Tryz.zeroValue255
 t218:=Tryz.underlying272
 a218:=Tryz.isAgg272
 z218:=Tryz.sizeOf272
 v218:=Tryz.zeroValue272
 t222:=Tryz.underlying276
 a222:=Tryz.isAgg276
 z222:=Tryz.sizeOf276
 v222:=Tryz.zeroValue276
 t228:=Tryz.underlying284
 a228:=Tryz.isAgg284
 z228:=Tryz.sizeOf284
 v228:=Tryz.zeroValue284
 t229:=Tryz.underlying285
 a229:=Tryz.isAgg285
 z229:=Tryz.sizeOf285
 v229:=Tryz.zeroValue285 }
open Go.Sort Go.RowKit in
theorem Tryz.slices_Sort_int (blk off cap:Nat) (zs:List Int) (w:World) (hH:Holds (Value.int .i64) w blk off zs.toArray) (hblk:blk<w.heap.size) (hsz:zs.length<4611686018427387904) :
 Calls Tryz.prog 115 #[.slice (some ⟨blk,off,none⟩) zs.length cap] w λe w' =>
  e = .returned (.tuple #[])/\∃ n os,w'=grow (putRow (Value.int .i64) (Sort.ahead w n) blk off (zs.mergeSort λx y=>decide (x<=y)).toArray) os:=Any.slices_Sort_int Tryz.lays189 blk off cap zs w hH hblk hsz
end Go.Proofs

namespace Go.Proofs.YtcdlimgkliklhaaGreatDoor
open Go.RowKit
theorem Zjm (W:World) (os:Array Obj):Ext W (Go.Sort.grow W os):=by
 refine ⟨rfl,rfl,rfl,?_,λk hk=>?_⟩
 . simp[Go.Sort.grow]
 . simp only[Go.Sort.grow];exact Array.getElem?_append_left hk
section
variable {G:Nat->Option (List AV)}
theorem Zjn (l:List Int) (hm:l.length<4611686018427387904) :
  PB Tryz.prog G 115 [(1000,.row 1 (l.map ia))] [.osl 1000 l.length] (.tup []) [(1000,.row 1 ((sortI l).map ia))]:=by
 refine ⟨by kernel_rfl,λR W κ vs hG hN hW hX hE hk hsz hvs=>?_⟩;have hg:(obSt [(1000,.row 1 (l.map ia))]).get 1000=some (.row 1 (l.map ia)):=rfl;obtain ⟨vs⟩:=vs
 match vs,hsz with
 |[v],_ =>
 have hv:=hvs 0 _ v rfl rfl;obtain ⟨b,s,c,cs,t,hκ,rfl,hnc,hc,hb,hs,hr,hx⟩:=hk.osl hv hg (by simp)
 have hcell:∀ i,i<l.length->cs[s+i]? = some (.int .i64 l[i]!):=by
  intro i hi;obtain ⟨u,hu,hu2⟩:=hx i 0 (ia l[i]) (.int .i64 l[i]) (by simp[hi]) rfl
  have hu3:u = .int .i64 l[i]:=by
   cases hu2 with|pv h=>cases h;rfl
  subst hu3;rw[getElem!_pos l i hi];simpa using hu
 have hH:Go.Sort.Holds (Value.int .i64) W b s l.toArray:=by
  intro j hj;have hj':j<l.length:=(by simpa using hj);refine ⟨?_,by simp[World.frozen?,hb]⟩;rw[World.cell?,hb];simpa using hcell j hj'
 have hlt:=hk.loc_lt hκ;refine (Go.Proofs.Tryz.slices_Sort_int b s c l W hH hlt hm).mono ?_;rintro e W' ⟨rfl,n,os,rfl⟩;have hsl:(sortI l).length=l.length:=ZcO l;refine ⟨_,κ,rfl,?_,.tup [] #[] rfl (by simp)⟩;refine SK.grow ?_ (Zjm _ _)
 have:=hk.change (o':=.row 1 ((sortI l).map ia)) (W':=Go.Sort.putRow (Value.int .i64) (Go.Sort.ahead W n) b s (l.mergeSort λx y=>decide (x<=y)).toArray)
  (cs':=Go.Sort.putCells (Value.int .i64) s (l.mergeSort λx y=>decide (x<=y)).toArray cs) hg hκ hb (by simp[AObj.dim,hsl]) (by simp[Go.Sort.putCells])
  (by simp[Go.Sort.putRow,Go.Sort.mapBlock,Go.Sort.ahead])
  (by simp[Go.Sort.putRow,Go.Sort.mapBlock,Go.Sort.ahead,Array.getElem?_modify,hb,Go.Sort.onCells])
  (by intro i hi hne;simp[Go.Sort.putRow,Go.Sort.mapBlock,Go.Sort.ahead,Array.getElem?_modify,Ne.symm hne]) rfl rfl rfl ?_
 . exact this
 . refine ⟨by simp[ia],by simp[Go.Sort.putCells];omega,?_⟩;intro i j r x hi hj
   have hi2:i<l.length:=by
    have:=(List.getElem?_eq_some_iff.1 hi).1;simpa [hsl] using this
   have hi3:i<(sortI l).length:=(by omega);rw[List.getElem?_map,List.getElem?_eq_getElem hi3,Option.map_some,Option.some.injEq]at hi;subst hi
   match j,hj with
   |0,hj =>
   have ex:AV.int .i64 (sortI l)[i]=x:=(by simpa [ia] using hj);subst ex;refine ⟨.int .i64 (sortI l)[i],?_,.pv (.int _ _)⟩;have hz:s+i*1+0<cs.size:=(by omega);have e1:s+i*1+0-s=i:=(by omega);have e2:(l.mergeSort λx y=>decide (x<=y))=sortI l:=rfl;simp only[Go.Sort.putCells,e2];rw[Array.getElem?_mapIdx,Array.getElem?_eq_getElem hz,Option.map_some,if_pos (by simp;omega),e1];simp[hi3]
end
def herB (id day:Int) (x:Prt):Bool:=decide (x.ho=id)&&outB x day
def sureM (ps:List Prt) (day id d:Int):Int:=((ps.filter λx=>herB id day x&&decide (x.dw=d)&&decide (x.lo=0)).map (·.lt)).foldl max 0
def perhL (ps:List Prt) (day id d:Int):List Int:=(ps.filter λx=>herB id day x&&decide (x.dw=d) && !decide (x.lo=0)).map (·.lt)
def wkL (ps:List Prt) (day id d:Int):List Int:=sureM ps day id d::r9.filter λn=>decide (sureM ps day id d<n)&&(perhL ps day id d).contains n
theorem Zjo:∀ (L:List Int) (a:Int),a<=L.foldl max a/\(∀ x∈L,x<=L.foldl max a)/\(L.foldl max a=a∨L.foldl max a∈L)
 |[],a=>by simp
 | b :: t,a=>by
   obtain ⟨h1,h2,h3⟩:=Zjo t (max a b);rw[List.foldl_cons];refine ⟨by omega,λx hx=>?_,?_⟩
   . rcases List.mem_cons.1 hx with rfl|hx
     . omega
     . exact h2 x hx
   . rcases h3 with h3|h3
     . rw[h3];by_cases q:a<=b
       . right;rw[show max a b=b by omega];exact List.mem_cons_self ..
       . left;omega
     . exact .inr (List.mem_cons_of_mem _ h3)
theorem Zjp (ps:List Prt) (day id d:Int):(wkL ps day id d).Pairwise (· < ·):=by
 unfold wkL;refine List.pairwise_cons.2 ⟨λn hn=>?_,r9_lt.filter _⟩;have:=(List.mem_filter.1 hn).2;simp only[Bool.and_eq_true,decide_eq_true_eq]at this;exact this.1
theorem Zjq (ps:List Prt) (day id d:Int):0<=sureM ps day id d/\(∀ x∈ps,(herB id day x&&decide (x.dw=d)&&decide (x.lo=0))=true->x.lt<=sureM ps day id d) /\
  (sureM ps day id d=0∨∃ x∈ps,(herB id day x&&decide (x.dw=d)&&decide (x.lo=0))=true/\x.lt=sureM ps day id d):=by
 obtain ⟨h1,h2,h3⟩:=Zjo ((ps.filter λx=>herB id day x&&decide (x.dw=d)&&decide (x.lo=0)).map (·.lt)) 0;refine ⟨h1,λx hx q=>h2 _ (List.mem_map.2 ⟨x,List.mem_filter.2 ⟨hx,q⟩,rfl⟩),?_⟩;rcases h3 with h3|h3
 . exact .inl h3
 . obtain ⟨x,hx,e⟩:=List.mem_map.1 h3;exact .inr ⟨x,(List.mem_filter.1 hx).1,(List.mem_filter.1 hx).2,e⟩
theorem Zjr {ps:List Prt} {day id d n:Int}:n∈perhL ps day id d↔∃ x∈ps,(herB id day x&&decide (x.dw=d) && !decide (x.lo=0))=true/\x.lt=n:=by
 unfold perhL;rw[List.mem_map]
 constructor
 . rintro ⟨x,hx,e⟩;exact ⟨x,(List.mem_filter.1 hx).1,(List.mem_filter.1 hx).2,e⟩
 . rintro ⟨x,hx,q,e⟩;exact ⟨x,List.mem_filter.2 ⟨hx,q⟩,e⟩
def wrN (a b:List Int):Int:=if (a.any λx=>b.any λy=>!decide (x=y))=false then 0 else if (a.any λx=>b.any λy=>decide (x=y))=false then 2 else 1
theorem Zjs {a:List Int} (h:a.Pairwise (· < ·)) {y:Int} (he:∀ x∈a,x=y) (hn:a≠[]):a=[y]:=by
 match a,hn with
 |[x],_=>rw[he x (List.mem_cons_self ..)]
 | x::z::t,_ =>
   have h1:=he x (by simp);have h2:=he z (by simp);have:=(List.pairwise_cons.1 h).1 z (by simp);omega
theorem Zjt {a b:List Int} (ha:a.Pairwise (· < ·)) (hb:b.Pairwise (· < ·)) (na:a≠[]) (nb:b≠[]):(a.any λx=>b.any λy=>!decide (x=y))=false↔(a.length=1/\a=b):=by
 rw[List.any_eq_false]
 constructor
 . intro h
   have h2:∀ x∈a,∀ y∈b,x=y:=λx hx y hy=>by
    have:=h x hx;rw[Bool.not_eq_true,List.any_eq_false]at this;have:=this y hy;simpa using this
   obtain ⟨x,hx⟩:=List.exists_mem_of_ne_nil a na;obtain ⟨y,hy⟩:=List.exists_mem_of_ne_nil b nb;have e1:=Zjs ha (λz hz=>h2 z hz y hy) na;have e2:=Zjs hb (λz hz=>(h2 x hx z hz).symm) nb;have e3:=h2 x hx y hy;rw[e1,e2,e3];exact ⟨rfl,rfl⟩
 . rintro ⟨h1,rfl⟩ x hx
   match a,h1 with
   |[z],_=>simp at hx;subst hx;simp
def Zju (ps:List Prt) (day id d n:Int):Bool:=ps.any λx=>herB id day x&&decide (x.dw=d)&&decide (x.lt=n)&&decide (x.lo=0)
def misL (l:List Nte) (h:Hld) (ps:List Prt) (day:Int):List (Int×Int):=h.ds.flatMap λd=>((ndsL l h d).filter λn=>!Zju ps day h.id d n).map λn=>(d,n)
def sqP (id d:Int) (x:Prt):Bool:=decide (x.ho=id)&&decide (x.dw=d) && !decide (x.lo=1)
def pqP (id d:Int) (x:Prt):Bool:=decide (x.ho=id)&&decide (x.dw=d)&&decide (x.lo=1)
def suK (id d:Int) (L:List Prt) (k:Nat):Int:=(pkL (sqP id d) (·.lt) L k).foldl max 0
def peK (id d:Int) (L:List Prt) (k:Nat):List Int:=pkL (pqP id d) (·.lt) L k
theorem Zjv {id d:Int} {L:List Prt} {k:Nat} (h:k<L.length):suK id d L (k+1)=if sqP id d L[k]=true then max (suK id d L k) L[k].lt else suK id d L k:=by
 unfold suK;rw[Zin h]
 split
 . rw[List.foldl_append];rfl
 . rfl
theorem Zjw {ps:List Prt} {day id d:Int} (hlo:∀ x∈ps,0<=x.lo/\x.lo<=2):suK id d (outP ps day) (outP ps day).length=sureM ps day id d:=by
 unfold suK sureM outP;rw[Ziq,List.filter_filter]
 congr 2
 refine List.filter_congr λx hx=>?_
 have:=hlo x hx;rw[Bool.eq_iff_iff];simp only[sqP,herB,outB,Bool.and_eq_true,decide_eq_true_eq,Bool.not_eq_true',decide_eq_false_iff_not,Bool.or_eq_true]
 constructor
 . rintro ⟨⟨⟨h1,h2⟩,h3⟩,h4,h5⟩;exact ⟨⟨⟨h1,h4,h5⟩,h2⟩,by omega⟩
 . rintro ⟨⟨⟨h1,h4,h5⟩,h2⟩,h3⟩;exact ⟨⟨⟨h1,h2⟩,by omega⟩,h4,h5⟩
theorem Zjx {ps:List Prt} {day id d:Int} (hlo:∀ x∈ps,0<=x.lo/\x.lo<=2):peK id d (outP ps day) (outP ps day).length=perhL ps day id d:=by
 unfold peK perhL outP;rw[Ziq,List.filter_filter]
 congr 1
 refine List.filter_congr λx hx=>?_
 have:=hlo x hx;rw[Bool.eq_iff_iff];simp only[pqP,herB,outB,Bool.and_eq_true,decide_eq_true_eq,Bool.not_eq_true',decide_eq_false_iff_not,Bool.or_eq_true]
 constructor
 . rintro ⟨⟨⟨h1,h2⟩,h3⟩,h4,h5⟩;exact ⟨⟨⟨h1,h4,h5⟩,h2⟩,by omega⟩
 . rintro ⟨⟨⟨h1,h4,h5⟩,h2⟩,h3⟩;exact ⟨⟨⟨h1,h2⟩,by omega⟩,h4,h5⟩
def r1K (k:Nat):Nat:=if 1000<=k then k-1000 else k
def nlV (k:Nat) (S:List Int):AV:=if S=[] then .nils else .osl k S.length
def nlO (k:Nat) (S:List Int):List (Nat×AObj):=if S=[] then [] else [(k,.row 1 (S.map ia))]
def nlN (k:Nat) (S:List Int):Nat:=if S=[] then k-1000 else k
def woB (id d su:Int) (S:List Int):List (Nat×AObj):=[(1006,.box [.int .i64 id]),(1007,.box [.int .i64 d]),(1009,.box [.int .i64 su]),(1010,.box [nlV 1038 S])]++nlO 1038 S
def woU (id d su:Int) (S T:List Int):List (Nat×AObj):=[(1006,.box [.int .i64 id]),(1007,.box [.int .i64 d]),(1009,.box [.int .i64 su]),(1010,.box [nlV (nlN 1038 S) T])]++nlO (nlN 1038 S) T
theorem Zjy {α β:Type} {p:α->Bool} {f:α->β} {L:List α} {k:Nat} (h:pkL p f L (k+1)=[]):pkL p f L k=[]:=by
 by_cases c:k<L.length
 . rw[Zin c]at h
   split at h
   . exact absurd h (by simp)
   . exact h
 . unfold pkL at *;rw[List.take_of_length_le (by omega)]at *;exact h
theorem Zjz (o:List (Nat×AObj)) (k:Nat) (S:List Int):∀ q∈nlO k S,Yc o q.2=true:=by
 intro q hq;unfold nlO at hq
 split at hq
 . cases hq
 . simp at hq;subst hq;exact ZeR o S
theorem ZjA (ρ:Nat->Nat) (l:List Int):(AObj.row 1 (l.map ia)).ren ρ = .row 1 (l.map ia):=by
 simp only[AObj.ren,List.map_map]
 congr 2
 funext p;simp[ia,AV.ren]
section
variable {G:Nat->Option (List AV)}
theorem ZjB (r:List Iss) (l:List Nte) (hs:List Hld) (ps:List Prt) (day:Int):PC Tryz.prog G 70 [ofA r l hs ps,.int .i64 day] (.func (.func 128) [] [.vptr [ofA r l hs ps] 0,.vptr [.int .i64 day] 0]):=by
 have pO:=Zie r l hs ps;obtain ⟨cs,eS⟩ : ∃ cs,ofA r l hs ps = .vptr cs 0:=⟨_,rfl⟩;rw[eS]at pO ⊢
 (refine Zht rfl λR hG hrd=>Qga ?_;subst hG)
 simp -implicitDefEqProofs[Zhr,Zhs,pO]
set_option maxHeartbeats 2000000 in
theorem ZjC (r:List Iss) (l:List Nte) (hs:List Hld) (ps:List Prt) (day id d:Int) (hp:ps.length<=41) (hb:∀ x∈ps,0<=x.lt/\x.lt<=8) :
  PC Tryz.prog G 74 [ofA r l hs ps,.int .i64 day,.int .i64 id,.int .i64 d] (.vsl (((setI (peK id d (outP ps day) (outP ps day).length++[suK id d (outP ps day) (outP ps day).length])).drop ((setI (peK id d (outP ps day) (outP ps day).length++[suK id d (outP ps day) (outP ps day).length])).idxOf (suK id d (outP ps day) (outP ps day).length))).map ia)):=by
 have hO:=ZjB (G:=G) r l hs ps day;have hit:=outIt (G:=G) r l hs ps day hp;have pO:=Zie r l hs ps;have eN:=Zil ps day;have hat:=λk x h=>Zim (ps:=ps) (day:=day) (k:=k) (x:=x) h
 have hL:(outP ps day).length<=41:=Nat.le_trans (List.length_filter_le ..) hp;have hLb:∀ x∈outP ps day,0<=x.lt/\x.lt<=8:=λx hx=>hb x (List.mem_filter.1 hx).1
 generalize outP ps day=L at *;generalize outE ps day=E at *;generalize ofA r l hs ps=O at *;refine Zhx rfl λR hG hrd=>?_
 subst hG;refine Qga ?_;simp -implicitDefEqProofs[Zhv,Zhw];refine Yd.of hO (by simp[pO,AV.pure]) ?_;simp -implicitDefEqProofs[]
 refine ZiI hrd (by decide) hit (by simp[evA,St.tmp,lk]) (by simp[AV.pure,pO]) (λk=>k == 12) (by intro k hk;simp at hk;omega) r1K [(6,.ptr 1006 0),(7,.ptr 1007 0),(9,.ptr 1009 0),(10,.ptr 1010 0)]
  (λk=>woB id d (suK id d L k) (peK id d L k)) (λk=>woU id d (suK id d L (k+1)) (peK id d L k) (peK id d L (k+1))) (λk=>k<=L.length) (Nat.zero_le _) ?_ ?_ ?_ ?_ ?_ ?_ ?_ ?_ ?_ ?_ ?_
 . intro k q hq;simp only[woB,nlO]at hq
   split at hq <;> simp at hq
   . rcases hq with rfl|rfl|rfl|rfl <;> simp
   . rcases hq with rfl|rfl|rfl|rfl|rfl <;> simp
 . intro k;simp only[woB,nlO]
   split <;> simp[r1K]
 . intro k;simp only[woU,nlO,nlN]
   split <;> split <;> simp[r1K]
 . intro k q hq;have hne:=Zjy (p:=pqP id d) (f:=(·.lt)) (L:=L) (k:=k);simp only[woB,woU,nlO,nlN]at *;by_cases c:peK id d L k=[]
   . simp only[c,if_true]at *
     split <;> simp at hq ⊢ <;> rcases hq with rfl|rfl|rfl|rfl <;> simp[isK,lk]
   . have c2:¬peK id d L (k+1)=[]:=λh=>c (hne h)
     simp only[c,c2,if_false]at *;simp at hq ⊢;rcases hq with rfl|rfl|rfl|rfl|rfl <;> simp[isK,lk]
 . intro k q hq;simp only[woB,woU,nlO,nlN]at *;by_cases c:peK id d L k=[]
   . simp only[c,if_true]at *
     split at hq <;> simp at hq
     . rcases hq with rfl|rfl|rfl|rfl <;> exact .inl (by simp[isK,lk])
     . rcases hq with rfl|rfl|rfl|rfl|rfl
       . exact .inl (by simp[isK,lk])
       . exact .inl (by simp[isK,lk])
       . exact .inl (by simp[isK,lk])
       . exact .inl (by simp[isK,lk])
       . exact .inr (by simp[Yl,r1K,St.get,St.set,putO,lk])
   . simp only[c,if_false]at *
     split at hq <;> simp at hq
     . rcases hq with rfl|rfl|rfl|rfl <;> exact .inl (by simp[isK,lk])
     . rcases hq with rfl|rfl|rfl|rfl|rfl <;> exact .inl (by simp[isK,lk])
 . intro k;have hne:=Zjy (p:=pqP id d) (f:=(·.lt)) (L:=L) (k:=k);simp only[woB,woU,nlO,nlV,nlN];by_cases c:peK id d L k=[] <;> by_cases c2:peK id d L (k+1)=[]
   . simp[c,c2,Yl,r1K,AV.ren,AObj.ren]
   . simp[c,c2,Yl,r1K,AV.ren,Zgq,ZjA]
   . exact absurd (hne c2) c
   . simp[c,c2,Yl,r1K,AV.ren,Zgq,ZjA]
 . have e0:peK id d L 0=[]:=Zip _ _ _;have e1:suK id d L 0=0:=(by unfold suK;rw[Zip];rfl);simp[woB,nlO,nlV,e0,e1,Yl,r1K,St.set,putO,AObj.ren,AV.ren]
 . intro k q hq;simp only[woB,List.mem_append]at hq;rcases hq with hq|hq
   . simp only[woB,nlO];simp at hq;rcases hq with rfl|rfl|rfl|rfl
     . simp[Yc,Ya,AV.keys]
     . simp[Yc,Ya,AV.keys]
     . simp[Yc,Ya,AV.keys]
     . unfold nlV
       split <;> simp[Yc,Ya,AV.keys,lk]
   . exact Zjz _ _ _ q hq
 . intro q hq;simp at hq;rcases hq with rfl|rfl|rfl|rfl
   all_goals
    refine ⟨by simp[lk,AV.ren,r1K],by simp,by simp,λj k hk=>?_⟩;simp[AV.keys]at hk;subst hk;simp only[woB];simp[isK,lk]
 . intro k x hx hk R' hG hN;obtain ⟨i,hkl,rfl⟩:=hat k x hx;have sc:=Zjv (id:=id) (d:=d) hkl;have pc:=Zin (p:=pqP id d) (f:=(·.lt)) hkl;have hle:=Zio (pqP id d) (·.lt) L k;have hLx:=hLb _ (List.getElem_mem hkl);obtain ⟨y,hy⟩ : ∃ y,y=L[k]:=⟨_,rfl⟩;rw[<- hy]at sc pc hLx ⊢;have hpt:ptA y=[.int .i64 y.no,.int .i64 y.dy,.int .i64 y.ho,.int .i64 y.dw,.int .i64 y.lt,.int .i64 y.bk,.int .u8 y.lo]:=rfl;have e1:pkL (pqP id d) (·.lt) L k=peK id d L k:=rfl;have e2:pkL (pqP id d) (·.lt) L (k+1)=peK id d L (k+1):=rfl;rw[e1,e2]at pc;rw[e1]at hle;generalize suK id d L k=su at *;generalize suK id d L (k+1)=su' at *;generalize peK id d L k=S at *;generalize peK id d L (k+1)=T at *;have bb:(S.length+1)*8<=70368744177664:=by omega
   have no:sqP id d y=false->pqP id d y=false->su'=su/\T=S:=λh1 h2=>by
    rw[h1]at sc;rw[h2]at pc;exact ⟨sc,pc⟩
   have f0:ZfE=ZfE:=rfl;by_cases cS:S=[]
   case' pos =>
    have hV:nlV 1038 S = .nils:=(by simp[nlV,cS]);have hQ:nlO 1038 S=[]:=(by simp[nlO,cS]);have hM:nlN 1038 S=38:=by simp[nlN,cS]
   case' neg =>
    have hV:nlV 1038 S = .osl 1038 S.length:=(by simp[nlV,cS]);have hQ:nlO 1038 S=[(1038,.row 1 (S.map ia))]:=(by simp[nlO,cS]);have hM:nlN 1038 S=1038:=by simp[nlN,cS]
   all_goals
    refine Qga ?_;simp only[woB,hV,hQ,List.cons_append,List.nil_append];simp -implicitDefEqProofs[hpt];intro R'' hG'' hN'';refine Qga ?_;by_cases q1:y.ho=id
    case neg =>
     obtain ⟨rfl,rfl⟩:=no (by simp[sqP,q1]) (by simp[pqP,q1]);simp -implicitDefEqProofs[hpt,q1];refine ⟨?_,by omega⟩;simp only[woU,hV,hQ,hM];simp[hV,hQ,Yi,ZfE,Zj8,frzA,frz,AV.keys,nlV,nlO,cS]
    by_cases q2:y.dw=d
    case neg =>
     obtain ⟨rfl,rfl⟩:=no (by simp[sqP,q2]) (by simp[pqP,q2]);simp -implicitDefEqProofs[hpt,q1,q2];refine ⟨?_,by omega⟩;simp only[woU,hV,hQ,hM];simp[hV,hQ,Yi,ZfE,Zj8,frzA,frz,AV.keys,nlV,nlO,cS]
    by_cases q3:y.lo=1
    . have b1:sqP id d y=false:=(by simp[sqP,q3]);have b2:pqP id d y=true:=(by simp[pqP,q1,q2,q3]);rw[b1]at sc;rw[b2,if_pos rfl]at pc;have sc:su'=su:=sc;subst sc;have hne:¬T=[]:=(by rw[pc];simp);have hTl:T.length=S.length+1:=(by rw[pc];simp);have em:T.map ia=S.map ia++[[.int .i64 y.lt]]:=(by rw[pc,List.map_append];rfl);simp -implicitDefEqProofs[hpt,q1,q2,q3,bb];refine ⟨?_,by omega⟩;simp only[woU,hM,nlV,nlO,hne,if_false,hTl,em];simp[cS,Yi,ZfE,frzO,frzA,frz,AV.keys,ia,Function.comp_def]
    . have b1:sqP id d y=true:=(by simp[sqP,q1,q2,q3]);have b2:pqP id d y=false:=(by simp[pqP,q3]);rw[b2]at pc;rw[b1,if_pos rfl]at sc;have pc:T=S:=pc;subst pc;simp -implicitDefEqProofs[hpt,q1,q2,q3];refine ⟨?_,by omega⟩;rw[sc];simp only[woU,hV,hQ,hM];simp[hV,hQ,Yi,ZfE,Zj8,frzA,frz,AV.keys,nlV,nlO,cS]
 . intro _;rw[eN];have hle:=Zio (pqP id d) (·.lt) L L.length;have e1:pkL (pqP id d) (·.lt) L L.length=peK id d L L.length:=rfl;rw[e1]at hle;generalize suK id d L L.length=su at *;generalize peK id d L L.length=S at *;have bb:(S.length+1)*8<=70368744177664:=(by omega);obtain ⟨U,hU⟩ : ∃ U,U=S++[su]:=⟨_,rfl⟩;have hUl:U.length=S.length+1:=(by rw[hU];simp);have hsp:=Zjn (G:=R.G) U (by omega);have sl:(sortI U).length=U.length:=ZcO U;have hcp:=Zjl (G:=R.G) (sortI U) (by omega);rw[sl]at hcp;have hC:cpcI (sortI U)=setI U:=Zjk _;have hCm:su∈setI U:=ZhP.2 (by rw[hU];simp)
   have hCl:(setI U).length<=U.length:=by
    have:=Zj9 (sortI U) (sortI U).length;rw[<- hC];unfold cpcI;omega
   have hix:=Zfb (G:=R.G) (setI U) su (by unfold Sml;omega);have hid:idx (setI U) su=(((setI U).idxOf su:Nat):Int):=(by unfold idx;rw[if_pos hCm]);rw[hid]at hix;have hlt:(setI U).idxOf su<(setI U).length:=List.idxOf_lt_length_of_mem hCm
   have hOl:(cpoI (sortI U)).length=U.length:=by
    unfold cpoI;rw[List.length_append,List.length_map,List.length_replicate,hC,sl];omega
   have hOt:(cpoI (sortI U)).take (setI U).length=(setI U).map ia:=by
    unfold cpoI;rw[hC];exact List.take_left' (by simp)
   have hOf:(setI U).length=U.length->cpoI (sortI U)=(setI U).map ia:=λh=>by
    rw[<- hOt,h,<- hOl,List.take_length]
   have hcv:∀ k,cpvI k (sortI U)=if (setI U).length=U.length then .osl k U.length else .oss k U.length 0 (setI U).length:=λk=>by unfold cpvI;rw[hC,sl]
   rw[hcv]at hcp;have em:U.map ia=S.map ia++[[.int .i64 su]]:=by rw[hU,List.map_append];rfl
   have kO:∀ o,Yc o (.row 1 (cpoI (sortI U)))=true:=λo=>by
    unfold cpoI;rw[show List.replicate ((sortI U).length-(cpcI (sortI U)).length) zrO=(List.replicate ((sortI U).length-(cpcI (sortI U)).length) (0:Int)).map ia by rw[List.map_replicate];rfl,<- List.map_append];exact ZeR _ _
   have rO:∀ ρ,AObj.ren ρ (.row 1 (cpoI (sortI U))) = .row 1 (cpoI (sortI U)):=λρ=>by
    unfold cpoI;rw[show List.replicate ((sortI U).length-(cpcI (sortI U)).length) zrO=(List.replicate ((sortI U).length-(cpcI (sortI U)).length) (0:Int)).map ia by rw[List.map_replicate];rfl,<- List.map_append];exact ZeQ _ _
   have pu:((setI U).map ia).all (λr=>r.all AV.pure)=true:=(by simp[ia,AV.pure]);rw[<- hU]
   have fin:∀ st',Ym st' ⟨[(13,.vsl ((setI U).map ia)),(9,.ptr 9 0)],[(9,.box [.int .i64 su])]⟩->GO Tryz.prog R 0 (.run ((RCode.reg 12 false [{ d:=some 52,op:=ROp.mov (RA.t 13) },{ d:=some 53,op:=ROp.mov (RA.t 13) },{ d:=some 54,op:=ROp.load false 1 (RA.t 9) },{ d:=some 55,op:=ROp.call 129 [RA.t 53,RA.t 54] },{ d:=some 56,op:=ROp.slc 1 (RA.t 52) (some (RA.t 55)) none },{ d:=some 8,op:=ROp.mov (RA.t 56) }]).seq RCode.ret)) [] (Fin [RRes.t 8] (AV.vsl (List.drop (List.idxOf su (setI U)) (List.map ia (setI U))))) st':=λst' hw=>by
    refine GO0 (Z2M hw (Qga ?_));have hle:(setI U).idxOf su<=(setI U).length:=(by omega);have hln:∀ x:Int,(ia x).length=1:=λ_=>rfl
    simp -implicitDefEqProofs[];refine Qco (hix) (by simp) ?_;have ht:List.take (setI U).length (List.map ia (setI U))=List.map ia (setI U):=List.take_of_length_le (by simp)
    have hd:∀ x∈List.drop (List.idxOf su (setI U)) (List.map ia (setI U)),∀ y∈x,y.pure=true:=λx hx y hy=>by
     obtain ⟨z,-,rfl⟩:=List.mem_map.1 (List.mem_of_mem_drop hx);simp[ia]at hy;subst hy;simp[AV.pure]
    simp -implicitDefEqProofs[hle,hln,ht];refine Qgr ?_;generalize List.drop (List.idxOf su (setI U)) (List.map ia (setI U))=D at *;simp -implicitDefEqProofs[]
   by_cases cS:S=[]
   . have hU1:U=[su]:=(by rw[hU,cS];rfl);have hl1:U.length=1:=(by rw[hU1];rfl);have emU:U.map ia=[[.int .i64 su]]:=(by rw[hU1];rfl);simp -implicitDefEqProofs[woB,nlV,nlO,cS,Yl,r1K,AV.ren,AObj.ren];refine Z2N mixed 11 ?_;simp -implicitDefEqProofs[];rw[<- emU];rw[hl1]at hsp hcp;refine Yd.sem (Z1B.byref hsp (λ_=>47) (by simp) (by simp) (by simp[St.get,lk,ZeQ]) (by simp[ZeR]) (by simp[Ya,AV.keys,lk]) rfl (by simp[AV.ren]) rfl rfl) ?_;simp -implicitDefEqProofs[Yl,ZeQ];refine Yd.sem (Z1B.byref hcp (λ_=>47) (by simp) (by simp) (by simp[St.get,lk,ZeQ]) (by simp[ZeR]) (by simp[Ya,AV.keys,lk]) rfl (by simp[AV.ren]) rfl rfl) ?_;simp -implicitDefEqProofs[Yl,rO];refine fin _ (Ym.trans (Ym.frz (λk=>k == 47) _) ?_);rw[hl1]at hOl hOf;by_cases hq:(setI U).length=1
     . have hOf:=hOf hq;rw[hOf]at *
       ((try simp only[Yi,frzA,frzO,frz,Yh,Yj,St.get,hq,hOl,pu,AV.ren]);refine Ym.sub (by simp[lk,Ya,AV.keys,Yi,frzA,frzO,frz,Yh,Yj,St.get,hq,hOl,pu,AV.ren]) ?_;simp only[Yi,frzA,frzO,frz,Yh,Yj,St.get,hq,hOl,pu,AV.ren,Wkl,and_true];(try simp[lk,Yc,Ya,AV.keys,Yi,frzA,frzO,frz,Yh,Yj,St.get,hq,hOl,pu,AV.ren]))
     . ((try simp only[Yi,frzA,frzO,frz,Yh,Yj,St.get,hq,hOl,hOt,pu,AV.ren]);refine Ym.sub (by simp[lk,Ya,AV.keys,Yi,frzA,frzO,frz,Yh,Yj,St.get,hq,hOl,hOt,pu,AV.ren]) ?_;simp only[Yi,frzA,frzO,frz,Yh,Yj,St.get,hq,hOl,hOt,pu,AV.ren,Wkl,and_true];(try simp[lk,Yc,Ya,AV.keys,Yi,frzA,frzO,frz,Yh,Yj,St.get,hq,hOl,hOt,pu,AV.ren]))
   . simp -implicitDefEqProofs[woB,nlV,nlO,cS,Yl,r1K,AV.ren,Zgq,ZjA];refine Z2N mixed 11 ?_;simp -implicitDefEqProofs[bb];have ei:(S.map ia)++[[AV.int .i64 su]]=U.map ia:=em.symm;rw[ei,<- hUl];refine Yd.sem (Z1B.byref hsp (λ_=>38) (by simp) (by simp) (by simp[St.get,lk,ZeQ]) (by simp[ZeR]) (by simp[Ya,AV.keys,lk]) rfl (by simp[AV.ren]) rfl rfl) ?_;simp -implicitDefEqProofs[Yl,ZeQ];refine Yd.sem (Z1B.byref hcp (λ_=>38) (by simp) (by simp) (by simp[St.get,lk,ZeQ]) (by simp[ZeR]) (by simp[Ya,AV.keys,lk]) rfl (by simp[AV.ren]) rfl rfl) ?_;simp -implicitDefEqProofs[Yl,rO];refine fin _ (Ym.trans (Ym.frz (λk=>k == 38) _) ?_);by_cases hq:(setI U).length=U.length
     . have hOf:=hOf hq;rw[hOf]at *
       ((try simp only[Yi,frzA,frzO,frz,Yh,Yj,St.get,hq,hOl,pu,AV.ren]);refine Ym.sub (by simp[lk,Ya,AV.keys,Yi,frzA,frzO,frz,Yh,Yj,St.get,hq,hOl,pu,AV.ren]) ?_;simp only[Yi,frzA,frzO,frz,Yh,Yj,St.get,hq,hOl,pu,AV.ren,Wkl,and_true];(try simp[lk,Yc,Ya,AV.keys,Yi,frzA,frzO,frz,Yh,Yj,St.get,hq,hOl,pu,AV.ren]))
     . ((try simp only[Yi,frzA,frzO,frz,Yh,Yj,St.get,hq,hOl,hOt,pu,AV.ren]);refine Ym.sub (by simp[lk,Ya,AV.keys,Yi,frzA,frzO,frz,Yh,Yj,St.get,hq,hOl,hOt,pu,AV.ren]) ?_;simp only[Yi,frzA,frzO,frz,Yh,Yj,St.get,hq,hOl,hOt,pu,AV.ren,Wkl,and_true];(try simp[lk,Yc,Ya,AV.keys,Yi,frzA,frzO,frz,Yh,Yj,St.get,hq,hOl,hOt,pu,AV.ren]))
theorem ZjD (r:List Iss) (l:List Nte) (hs:List Hld) (ps:List Prt) (day id d:Int) (hp:ps.length<=41) (hb:∀ x∈ps,0<=x.lt/\x.lt<=8) (hlo:∀ x∈ps,0<=x.lo/\x.lo<=2) :
  PC Tryz.prog G 74 [ofA r l hs ps,.int .i64 day,.int .i64 id,.int .i64 d] (.vsl ((wkL ps day id d).map ia)):=by
 have h:=ZjC (G:=G) r l hs ps day id d hp hb
 rw[Zjw hlo,Zjx hlo,ZhT λx hx=>by
  obtain ⟨y,hy,-,rfl⟩:=Zjr.1 hx;exact hb y hy]at h
 exact h
end
def smS (U:List Int) (v i:Nat):St:=⟨[(10,.int .i64 i),(9,.int .i64 U.length),(8,.vsl (U.map ia)),(5,nlV 23 (sbN U v i)),(1,.int .i64 v)],nlO 23 (sbN U v i)⟩
def drA (r:List Iss) (l:List Nte) (d m:Int):AV:=.tup [if asN r l [] m=0/\d∈nums r then fileA r l else .nilp,.int .i64 (if asN r l [] m=0 then if d∈nums r then 0 else 6 else asN r l [] m)]
def truE (U:List Int):List (AV×AV):=(List.range (2 ^ U.length)).map λ(v:Nat)=>(.int .i64 (v:Int),Yg ((sbT U v).map ia))
theorem ZjE {U:List Int} {v:Nat} (h:v<2 ^ U.length):(truE U)[v]? = some (.int .i64 v,Yg ((sbT U v).map ia)):=by
 unfold truE;rw[List.getElem?_map,List.getElem?_range h];rfl
theorem ZjF (U:List Int):(truE U).length=2 ^ U.length:=by simp[truE]
section
variable {G:Nat->Option (List AV)}
theorem ZjG (U:List Int) (v:Nat) (hv:v<64) (hU:U.length<=5):PC Tryz.prog G 161 [.vsl (U.map ia),.int .i64 v] (Yg ((sbT U v).map ia)):=by
 refine Z5O rfl λR hG hrd=>?_
 subst hG;refine Qga ?_;simp -implicitDefEqProofs[Z5M,Z5N];refine Z9v (smS U v) (λ_=>True) U.length ?_ trivial ?_ ?_
 . have e0:sbN U v 0=[]:=rfl;simp only[smS,nlV,nlO,e0,if_true]
   (refine Ym.sub (by simp[lk,Ya,AV.keys]) ?_;simp only[Wkl,and_true];(try simp[lk,Yc,Ya,AV.keys]))
 . intro i hi _;have sc:sbN U v (i+1)=if v / 2 ^ i % 2=1 then sbN U v i++[U.getD i 0] else sbN U v i:=rfl
   have hle:=Zgt U v i;have bU:=bitU (v:=v) (i:=i) hv (by omega);have hg:U.getD i 0=U[i]:=(by rw[List.getD_eq_getElem?_getD,List.getElem?_eq_getElem hi];rfl);rw[hg]at sc;have wi:IntKind.i64.wrap ((i:Int)+1)=(i:Int)+1:=Yf (by omega) (by omega);obtain ⟨S,hS⟩ : ∃ S,S=sbN U v i:=⟨_,rfl⟩;rw[<- hS]at sc hle;obtain ⟨T,hT⟩ : ∃ T,T=sbN U v (i+1):=⟨_,rfl⟩;rw[<- hT]at sc;have bb:(S.length+1)*8<=70368744177664:=(by omega);by_cases cS:S=[]
   case' pos =>
    have hV:nlV 23 S = .nils:=(by simp[nlV,cS]);have hQ:nlO 23 S=[]:=by simp[nlO,cS]
   case' neg =>
    have hV:nlV 23 S = .osl 23 S.length:=(by simp[nlV,cS]);have hQ:nlO 23 S=[(23,.row 1 (S.map ia))]:=by simp[nlO,cS]
   all_goals
    refine Qga ?_;by_cases q:v / 2 ^ i % 2=1
    . rw[if_pos q]at sc bU;have hne:¬T=[]:=(by rw[sc];simp);have hV2:nlV 23 T = .osl 23 (S.length+1):=(by rw[nlV,if_neg hne,sc];simp);have hQ2:nlO 23 T=[(23,.row 1 (S.map ia++[ia U[i]]))]:=(by rw[nlO,if_neg hne,sc];simp);simp -implicitDefEqProofs[smS,<- hS,hV,hQ,hi,ia,bU,wi,bb];simp only[smS,<- hT,hV2,hQ2]
      ((try simp only[ia,cS]);refine Ym.sub (by simp[lk,Ya,AV.keys,ia,cS]) ?_;simp only[ia,cS,Wkl,ZeR,and_true];(try simp[lk,Yc,Ya,AV.keys,ia,cS]))
    . rw[if_neg q]at sc bU;have sc:T=S:=sc;subst sc;simp -implicitDefEqProofs[smS,<- hS,hV,hQ,hi,ia,bU,wi];simp only[smS,<- hT,hV,hQ]
      ((try simp only[ia]);refine Ym.sub (by simp[lk,Ya,AV.keys,ia]) ?_;simp only[ia,Wkl,ZeR,and_true];(try simp[lk,Yc,Ya,AV.keys,ia]))
 . intro _;obtain ⟨S,hS⟩ : ∃ S,S=sbN U v U.length:=⟨_,rfl⟩;have eT:sbT U v=S:=hS.symm;refine Qga ?_;by_cases cS:S=[]
   . have hV:nlV 23 S = .nils:=(by simp[nlV,cS]);have hQ:nlO 23 S=[]:=(by simp[nlO,cS]);simp -implicitDefEqProofs[smS,<- hS,hV,hQ];refine Qgr ?_;simp -implicitDefEqProofs[eT,cS,Yg]
   . have hV:nlV 23 S = .osl 23 S.length:=(by simp[nlV,cS]);have hQ:nlO 23 S=[(23,.row 1 (S.map ia))]:=(by simp[nlO,cS]);simp -implicitDefEqProofs[smS,<- hS,hV,hQ];refine Qgr ?_;simp -implicitDefEqProofs[eT,cS,Yg,ia]
theorem ZjH (hG:GC G) (hN:GN G) (r:List Iss) (l:List Nte) (d m:Int) (hw:WfN l) (hr:Wf r) (hd:Sml (nums r)):PC Tryz.prog G 111 [.agg [.vsl (r.map isa),.vsl (l.map na)],.nils,.int .i64 m,.int .i64 d] (drA r l d m):=by
 have ha:=PC.sub (ZfN hG hN r l [] m hw hr (by simp[Sml])) (xs:=[.agg [.vsl (r.map isa),.vsl (l.map na)],.nils,.int .i64 m]) ⟨.rfl',.nils,.rfl',trivial⟩;have hc:=Zfc (G:=G) (nums r) d hd;have pF:=ZfJ r l;have kF:(fileA r l).keys=[]:=AV.pure_keys _ pF;have hF:fileA r l = .vptr [.vsl (r.map isa),.vsl (l.map na),.vsl ((nums r).map ia),opA l] 0:=rfl;unfold drA;unfold askA at ha;by_cases h0:asN r l [] m=0
 . rw[h0]at ha ⊢;rw[hF]at ha pF ⊢
   (refine Z5H rfl λR hG hrd=>Qga ?_;subst hG)
   simp -implicitDefEqProofs[Z5F,Z5G];refine Qco (ha) (by simp) ?_;simp -implicitDefEqProofs[pF];refine Qco (hc) (by simp) ?_;by_cases h1:d∈nums r
   . simp -implicitDefEqProofs[h1,pF]
   . simp -implicitDefEqProofs[h1,pF]
 . rw[if_neg h0]at ha
   (refine Z5H rfl λR hG hrd=>Qga ?_;subst hG)
   simp -implicitDefEqProofs[Z5F,Z5G];refine Qco (ha) (by simp) ?_;simp -implicitDefEqProofs[h0]
theorem ZjI (r:List Iss) (l:List Nte):PC Tryz.prog G 112 [fileA r l] (.func (.func 160) [] [.vptr [fileA r l] 0]):=by
 have pO:=ZfJ r l;obtain ⟨cs,eS⟩ : ∃ cs,fileA r l = .vptr cs 0:=⟨_,rfl⟩;rw[eS]at pO ⊢
 (refine Z5K rfl λR hG hrd=>Qga ?_;subst hG)
 simp -implicitDefEqProofs[Z5I,Z5J,pO]
end
def toT (F:AV) (K:Nat) (l i:Nat):List (Nat×AV):=[(10,.int .i64 i),(9,.int .i64 K),(1,.vptr [F] 0),(0,.func (.yield l) [] [])]
theorem ZjJ (S:List Int):(Yg (S.map ia)).pure=true:=by unfold Yg;split <;> simp_all [AV.pure,ia]
section
variable {G:Nat->Option (List AV)}
set_option maxHeartbeats 2000000 in
theorem ZjK (r:List Iss) (l:List Nte) (hU:(opQ l).length<=5) :
  ZiG Tryz.prog G 160 [.vptr [fileA r l] 0] (truE (opQ l)):=by
 have pO:=ZfJ r l;have hpw:=pow5 hU;have sh:=shU (n:=(opQ l).length) (by omega)
 have oA:opA l=Yg ((opQ l).map ia):=by
  unfold opA Yg opQ;by_cases c:opU l=[]
  . simp[c,sortI]
  . have h2:sortI (opU l)≠[]:=λh=>c (by have:=congrArg List.length h;rw[ZcO]at this;exact List.length_eq_zero_iff.1 this)
    rw[if_neg c,if_neg (by simpa using h2)]
 have hA:=λ(v:Nat) (hv:v<64)=>PC.sub (ZjG (G:=G) (opQ l) v hv hU) (xs:=[opA l,.int .i64 v]) ⟨by rw[oA];exact .orNil _,.rfl',trivial⟩
 have eO:fileA r l = .vptr [.vsl (r.map isa),.vsl (l.map na),.vsl ((nums r).map ia),opA l] 0:=rfl;have pA:(opA l).pure=true:=by rw[oA];exact ZjJ _
 have lenO:opA l = .nils/\(opQ l).length=0∨opA l = .vsl ((opQ l).map ia):=by
  rw[oA];unfold Yg
  split
  . rename_i h;left;exact ⟨rfl,by simpa using h⟩
  . right;rfl
 have hat:=λv (h:v<2 ^ (opQ l).length)=>ZjE (U:=opQ l) h
 have hln:=ZjF (opQ l);refine ZiW Tryz.func160 (by kernel_rfl) (rc:=Z5L) (by kernel_rfl) rfl (Nat.le_of_ble_eq_true rfl) λn l' J K hn H hY=>?_
 generalize truE (opQ l)=E at *;obtain ⟨k,hk⟩ : ∃ k,k=2 ^ (opQ l).length:=⟨_,rfl⟩;rw[<- hk]at hpw sh hat hln
 have pT:∀ i,∀ q∈toT (fileA r l) k l' i,q.2.pure=true:=λi q hq=>by
  simp only[toT,List.mem_cons,List.not_mem_nil,or_false]at hq;rcases hq with rfl|rfl|rfl|rfl <;> simp[AV.pure,pO]
 unfold Z5L;refine ZiO ⟨toT (fileA r l) k l' 0,[]⟩ (λM A=>?_) (ZiQ (ZiR (λi=>i) (λi=>⟨toT (fileA r l) k l' i,[]⟩) (λi=>i<=k) (λi=>k-i) 0 rfl rfl (Nat.zero_le _) λi hi=>?_))
 . refine Qga ?_;rcases lenO with ⟨h1,h2⟩|h1
   . rw[h2]at sh;have k1:k=1:=(by rw[hk,h2]);have sh0:IntKind.i64.wrap 1=(k:Int):=(by rw[k1];rfl);simp -implicitDefEqProofs[iniT,eO,toT,h1,sh0]
     (refine Ym.sub (by simp[lk,Ya,AV.keys]) ?_;simp only[Wkl,and_true];(try simp[lk,Yc,Ya,AV.keys]))
   . simp -implicitDefEqProofs[iniT,eO,toT,h1,sh]
     (refine Ym.sub (by simp[lk,Ya,AV.keys]) ?_;simp only[Wkl,and_true];(try simp[lk,Yc,Ya,AV.keys]))
 by_cases hlt:i<k
 case neg =>
  obtain rfl:i=k:=(by omega);refine ZiO ⟨(11,.bool false)::toT (fileA r l) i l' i,[]⟩ (λM A=>?_) (ZiM (ZiP (.exit 0) ⟨[],[]⟩ (λM A=>?_) ?_))
  . refine Qga ?_;simp -implicitDefEqProofs[toT];exact (by (first|exact Ym.tm (by simp[lk])|exact Ym.sub (by simp[lk,Ya,AV.keys]) (by simp[lk,Yc,Ya,AV.keys])))
  . refine Qga ?_;simp -implicitDefEqProofs[toT];exact (by (first|exact Ym.tm (by simp[lk])|exact Ym.sub (by simp[lk,Ya,AV.keys]) (by simp[lk,Yc,Ya,AV.keys])))
  . simp only[ItBk,if_true];refine ⟨by simp,by simp[hln],λ_ _ _ h=>h⟩
 have wi:IntKind.i64.wrap ((i:Int)+1)=((i+1:Nat):Int):=Yf (by omega) (by omega);have hA:=hA i (by omega);have hat:=hat i hlt;have pV:=ZjJ (sbT (opQ l) i);obtain ⟨V,hV⟩ : ∃ V,V=Yg ((sbT (opQ l) i).map ia):=⟨_,rfl⟩;rw[<- hV]at hA hat pV;refine ZiO ⟨(11,.bool true)::toT (fileA r l) k l' i,[]⟩ (λM A=>?_) (ZiO ⟨toT (fileA r l) k l' i,[]⟩ (λM A=>?_) (ZiN (ZiQ ?_)))
 . refine Qga ?_;simp -implicitDefEqProofs[toT,hlt];exact (by (first|exact Ym.tm (by simp[lk])|exact Ym.sub (by simp[lk,Ya,AV.keys]) (by simp[lk,Yc,Ya,AV.keys])))
 . refine Qga ?_;simp -implicitDefEqProofs[toT];exact (by (first|exact Ym.tm (by simp[lk])|exact Ym.sub (by simp[lk,Ya,AV.keys]) (by simp[lk,Yc,Ya,AV.keys])))
 refine ZiO ⟨(3,.int .i64 i)::toT (fileA r l) k l' i,[]⟩ (λM A=>?_) ?_
 . refine Qga ?_;simp -implicitDefEqProofs[toT];exact (by (first|exact Ym.tm (by simp[lk])|exact Ym.sub (by simp[lk,Ya,AV.keys]) (by simp[lk,Yc,Ya,AV.keys])))
 refine ZiT H hY 8 (d:=21) (f:=.t 13) (ys:=[.t 14,.t 20]) (gd:=none) rfl (xs:=[.int .i64 i,V])
  ((20,V)::(14,.int .i64 i)::(13,.func (.yield l') [] [])::toT (fileA r l) k l' i) ⟨(22,.bool false)::toT (fileA r l) k l' i,[]⟩ [] [(22,.bool true)] (Nat.le_of_ble_eq_true rfl) ?_ ?_ ?_ ?_ rfl rfl ?_ ?_ ?_ ?_ ?_ ?_
 . rw[List.getElem?_map,hat];rfl
 . intro x hx;simp only[List.mem_cons,List.not_mem_nil,or_false]at hx;rcases hx with rfl|rfl
   . simp[AV.pure]
   . exact pV
 . intro q hq;simp only[List.mem_cons]at hq;rcases hq with rfl|rfl|rfl|hq
   . exact pV
   . simp[AV.pure]
   . simp[AV.pure]
   . exact pT i q hq
 . simp -implicitDefEqProofs[toT,eO]
   first|refine Yd.of hA (by simp[pA]) ?_|refine Ye.of hA (by simp[pA]) ?_
   simp -implicitDefEqProofs[pV]
   ((try simp only[AV.pure_keys _ pV]);refine Ym.sub (by simp[lk,Ya,AV.keys,AV.pure_keys _ pV]) ?_;simp only[AV.pure_keys _ pV,Wkl,and_true];(try simp[lk,Yc,Ya,AV.keys,AV.pure_keys _ pV]))
 . rfl
 . simp -implicitDefEqProofs[toT];exact (by (first|exact Ym.tm (by simp[lk])|exact Ym.sub (by simp[lk,Ya,AV.keys]) (by simp[lk,Yc,Ya,AV.keys])))
 . refine ZiP .normal ⟨toT (fileA r l) k l' i,[]⟩ (λM A=>?_) ⟨rfl,ZiP .normal ⟨toT (fileA r l) k l' (i+1),[]⟩ (λM A=>?_) ⟨i+1,rfl,rfl,by omega,by omega⟩⟩
   . refine Qga ?_;simp -implicitDefEqProofs[toT];exact (by (first|exact Ym.tm (by simp[lk])|exact Ym.sub (by simp[lk,Ya,AV.keys]) (by simp[lk,Yc,Ya,AV.keys])))
   . refine Qga ?_;simp -implicitDefEqProofs[toT,wi];exact (by (first|exact Ym.tm (by simp[lk])|exact Ym.sub (by simp[lk,Ya,AV.keys]) (by simp[lk,Yc,Ya,AV.keys])))
 . intro q hq
   cases hq
 . simp -implicitDefEqProofs[];exact (by (first|exact Ym.tm (by simp[lk])|exact Ym.sub (by simp[lk,Ya,AV.keys]) (by simp[lk,Yc,Ya,AV.keys])))
 . intro A;refine Qga ?_;simp -implicitDefEqProofs[];exact (by (first|exact Ym.tm (by simp[lk])|exact Ym.sub (by simp[lk,Ya,AV.keys]) (by simp[lk,Yc,Ya,AV.keys])))
end
theorem Z1B.sub {P:Program} {G:Nat->Option (List AV)} {st st1:St} {f:FuncId} {xs ys:List AV} {v:AV} (h:Z1B P G st f ys v st1) (hp:xs.all AV.pure=true) (hs:NsubL xs ys):Z1B P G st f xs v st1 :=
 λR a W κ vs hG hk ha=>h R a W κ vs hG hk ⟨ha.1.trans hs.len,λi y u hi hu=>by
  obtain ⟨x,h2,h3⟩:=hs.at i y hi;exact .pv (h3 _ _ _ ((ha.2 i x u h2 hu).toPV (List.all_eq_true.1 hp x (List.mem_of_getElem? h2))))⟩
theorem NewS.sub {P:Program} {G:Nat->Option (List AV)} {st:St} {ρ:Nat->Nat} {os:List (Nat×AObj)} {f:FuncId} {xs ys:List AV} {v:AV} (h:NewS P G st ρ os f ys v) (hp:xs.all AV.pure=true) (hs:NsubL xs ys):NewS P G st ρ os f xs v:=by
 obtain ⟨pre,h1,h2⟩:=h;exact ⟨pre,h1,λst' h'=>(h2 st' h').sub hp hs⟩
structure SetP (P:Program) (G:Nat->Option (List AV)) (so co:FuncId) (U:List Int):Prop where
 hsp:PB P G so [(1000,.row 1 (U.map ia))] [.osl 1000 U.length] (.tup []) [(1000,.row 1 ((sortI U).map ia))]
 hcp:PB P G co [(1000,.row 1 ((sortI U).map ia))] [.osl 1000 U.length] (if (setI U).length=U.length then .osl 1000 U.length else .oss 1000 U.length 0 (setI U).length) [(1000,.row 1 (cpoI (sortI U)))]
 hOl:(cpoI (sortI U)).length=U.length
 hOt:(cpoI (sortI U)).take (setI U).length=(setI U).map ia
 hOf:(setI U).length=U.length->cpoI (sortI U)=(setI U).map ia
 kO:∀ o,Yc o (.row 1 (cpoI (sortI U)))=true
 rO:∀ ρ,AObj.ren ρ (.row 1 (cpoI (sortI U))) = .row 1 (cpoI (sortI U))
 hCl:(setI U).length<=U.length
def poK (l:List Nte) (d m:Int) (k:Nat):List Int:=(List.range k).map (ltV l d m)
theorem ZjW {l:List Nte} {d m:Int} {k:Nat}:poK l d m (k+1)=poK l d m k++[ltV l d m k]:=by simp[poK,List.range_succ]
theorem ZjX {l:List Nte} {d m:Int} {k:Nat}:(poK l d m k).length=k:=by simp[poK]
def poB (F:AV) (d m:Int) (S:List Int):List (Nat×AObj):=[(1004,.box [.int .i64 d]),(1005,.box [.int .i64 m]),(1008,.box [F]),(1010,.box [nlV 1037 S])]++nlO 1037 S
def poU (F:AV) (d m:Int) (S T:List Int):List (Nat×AObj):=[(1004,.box [.int .i64 d]),(1005,.box [.int .i64 m]),(1008,.box [F]),(1010,.box [nlV (nlN 1037 S) T])]++nlO (nlN 1037 S) T
def poF (k:Nat):Bool:=decide (k<1000)&&(k == 12||k == 204||k == 205||k == 206||k == 207||k == 209||k == 210||k == 211)
def poA (r:List Iss) (l:List Nte) (d m:Int):AV:=.tup [if asN r l [] m=0/\d∈nums r then .vsl ((posL l d m).map ia) else .nils,.int .i64 (if asN r l [] m=0 then if d∈nums r then 0 else 6 else asN r l [] m)]
section
variable {G:Nat->Option (List AV)}
theorem ZjY (U:List Int) (h:U.length<=1000):SetP Tryz.prog G 115 116 U:=by
 have hsp:=Zjn (G:=G) U (by omega);have sl:(sortI U).length=U.length:=ZcO U;have hcp:=Zjl (G:=G) (sortI U) (by omega);rw[sl]at hcp;have hC:cpcI (sortI U)=setI U:=Zjk _
 have hCl:(setI U).length<=U.length:=by
  have:=Zj9 (sortI U) (sortI U).length;rw[<- hC];unfold cpcI;omega
 have hOl:(cpoI (sortI U)).length=U.length:=by
  unfold cpoI;rw[List.length_append,List.length_map,List.length_replicate,hC,sl];omega
 have hOt:(cpoI (sortI U)).take (setI U).length=(setI U).map ia:=by
  unfold cpoI;rw[hC];exact List.take_left' (by simp)
 have hOf:(setI U).length=U.length->cpoI (sortI U)=(setI U).map ia:=λh=>by
  rw[<- hOt,h,<- hOl,List.take_length]
 have hcv:∀ k,cpvI k (sortI U)=if (setI U).length=U.length then .osl k U.length else .oss k U.length 0 (setI U).length:=λk=>by unfold cpvI;rw[hC,sl]
 rw[hcv]at hcp;have hz:∀ n,List.replicate n zrO=(List.replicate n (0:Int)).map ia:=λn=>by rw[List.map_replicate];rfl
 exact ⟨hsp,hcp,hOl,hOt,hOf,λo=>by unfold cpoI;rw[hz,<- List.map_append];exact ZeR _ _,λρ=>by unfold cpoI;rw[hz,<- List.map_append];exact ZeQ _ _,hCl⟩
set_option maxHeartbeats 4000000 in
theorem ZjZ (hG:GC G) (hN:GN G) (r:List Iss) (l:List Nte) (d m:Int) (hw:WfN l) (hr:Wf r) (hd:Sml (nums r)):PC Tryz.prog G 61 [.agg [.vsl (r.map isa),.vsl (l.map na)],.int .i64 d,.int .i64 m] (poA r l d m):=by
 have c1:=ZjH hG hN r l d m hw hr hd;unfold drA at c1;unfold poA;by_cases h0:asN r l [] m=0/\d∈nums r
 case neg =>
  rw[if_neg h0]at c1 ⊢;obtain ⟨e,he⟩ : ∃ e,e=(if asN r l [] m=0 then if d∈nums r then (0:Int) else 6 else asN r l [] m):=⟨_,rfl⟩
  have e0:¬e=0:=by
   rw[he];by_cases h1:asN r l [] m=0
   . rw[if_pos h1,if_neg λh=>h0 ⟨h1,h⟩];decide
   . rw[if_neg h1];exact h1
  rw[<- he]at c1 ⊢
  (refine Z5R rfl λR hG hrd=>Qga ?_;subst hG)
  simp -implicitDefEqProofs[Z5P,Z5Q];refine Qco (c1) (by simp) ?_;simp -implicitDefEqProofs[e0]
 rw[if_pos h0,if_pos h0.1,if_pos h0.2]at c1;rw[if_pos h0,if_pos h0.1,if_pos h0.2];have hop:=Zj3 (Zg9 h0.1).1;have hB:=Zg8 (Zg9 h0.1).1;have hU:=Zgw hB;have h12:=Zga hB;have hp2:=pow5 hU;have hpos:0<2 ^ (opQ l).length:=Nat.pos_of_ne_zero (by simp);have hps:=Zi3 (l:=l) (d:=d) (m:=m) λv _=>Zi7 hop hB h0.2 m v
 have e3:(List.range (2 ^ (opQ l).length)).map (ltV l d m)=poK l d m (2 ^ (opQ l).length):=rfl;rw[e3]at hps;have hlv:∀ v,ltV l d m v=(byV (sbT (opQ l) v) m l d l.length).lt:=λv=>rfl
 have tf:=ZjI (G:=G) r l;have hit:=ZjK (G:=G) r l hU;have hat:=λv (h:v<2 ^ (opQ l).length)=>ZjE (U:=opQ l) h
 have hln:=ZjF (opQ l);have sbl:=λv=>Zgt (opQ l) v (opQ l).length
 have hSP:=ZjY (G:=G) (poK l d m (2 ^ (opQ l).length)) (by rw[ZjX];omega);have hff:=λv=>ZfO (G:=G) r l false true (sbT (opQ l) v) [] m
 have hby:=λv=>by_pb (G:=G) r l (sbT (opQ l) v) m d [] h12 (by have:=sbl v;unfold Sml sbT;omega) (λ_ _ h=>by cases h)
 have l1:∀ s,liA false s = .vsl (s.map ia):=λs=>by simp[liA]
 have l2:liA true [] = .nils:=(by simp[liA]);simp only[l1,l2]at hff;generalize truE (opQ l)=E at *;obtain ⟨N,hN'⟩ : ∃ N,N=2 ^ (opQ l).length:=⟨_,rfl⟩;rw[<- hN']at hp2 hpos hps hat hln hSP;have pF:=ZfJ r l;have kF:(fileA r l).keys=[]:=AV.pure_keys _ pF;have rF:=λρ=>AV.ren_pure (ρ:=ρ) (fileA r l) pF
 have fF:∀ ok st,frz ok st 6 (fileA r l)=some (fileA r l):=λok st=>by unfold fileA;simp[frz,AV.keys]
 obtain ⟨cs,hF⟩ : ∃ cs,fileA r l = .vptr cs 0:=⟨_,rfl⟩;simp only[hF]at c1 tf hit hff hby pF kF rF fF;clear hF;refine Z5R rfl λR hG' hrd=>?_
 subst hG';refine Qga ?_;simp -implicitDefEqProofs[Z5P,Z5Q];refine Qco (c1) (by simp) ?_;simp -implicitDefEqProofs[];refine Yd.of tf (by simp[pF]) ?_;simp -implicitDefEqProofs[]
 refine ZiI hrd (by decide) hit (by simp[evA,St.tmp,lk]) (by simp[AV.pure,pF]) poF (by intro k hk;simp[poF]at hk;omega) r1K [(4,.ptr 1004 0),(5,.ptr 1005 0),(8,.ptr 1008 0),(10,.ptr 1010 0)]
  (λk=>poB (.vptr cs 0) d m (poK l d m k)) (λk=>poU (.vptr cs 0) d m (poK l d m k) (poK l d m (k+1))) (λk=>k<=N) (Nat.zero_le _) ?_ ?_ ?_ ?_ ?_ ?_ ?_ ?_ ?_ ?_ ?_
 . intro k q hq;simp only[poB,nlO]at hq
   split at hq <;> simp at hq
   . rcases hq with rfl|rfl|rfl|rfl <;> simp
   . rcases hq with rfl|rfl|rfl|rfl|rfl <;> simp
 . intro k;simp only[poB,nlO]
   split <;> simp[r1K]
 . intro k;simp only[poU,nlO,nlN]
   split <;> split <;> simp[r1K]
 . intro k q hq;have hne:poK l d m (k+1)≠[]:=(by rw[ZjW];simp);simp only[poB,poU,nlO,nlN]at *;by_cases c:poK l d m k=[]
   . simp only[c,if_true]at *
     split <;> simp at hq ⊢ <;> rcases hq with rfl|rfl|rfl|rfl <;> simp[isK,lk]
   . simp only[c,hne,if_false]at *;simp at hq ⊢;rcases hq with rfl|rfl|rfl|rfl|rfl <;> simp[isK,lk]
 . intro k q hq;simp only[poB,poU,nlO,nlN]at *;by_cases c:poK l d m k=[]
   . simp only[c,if_true]at *
     split at hq <;> simp at hq
     . rcases hq with rfl|rfl|rfl|rfl <;> exact .inl (by simp[isK,lk])
     . rcases hq with rfl|rfl|rfl|rfl|rfl
       . exact .inl (by simp[isK,lk])
       . exact .inl (by simp[isK,lk])
       . exact .inl (by simp[isK,lk])
       . exact .inl (by simp[isK,lk])
       . exact .inr (by simp[Yl,r1K,St.get,St.set,putO,lk])
   . simp only[c,if_false]at *
     split at hq <;> simp at hq
     . rcases hq with rfl|rfl|rfl|rfl <;> exact .inl (by simp[isK,lk])
     . rcases hq with rfl|rfl|rfl|rfl|rfl <;> exact .inl (by simp[isK,lk])
 . intro k;have hne:poK l d m (k+1)≠[]:=(by rw[ZjW];simp);simp only[poB,poU,nlO,nlV,nlN];by_cases c:poK l d m k=[]
   . simp[c,hne,Yl,r1K,AV.ren,Zgq,ZjA]
   . simp[c,hne,Yl,r1K,AV.ren,Zgq,ZjA]
 . have e0:poK l d m 0=[]:=rfl;simp[poB,nlO,nlV,e0,Yl,r1K,St.set,putO,AObj.ren,AV.ren,rF]
 . intro k q hq;simp only[poB,List.mem_append]at hq;rcases hq with hq|hq
   . simp only[poB,nlO];simp at hq;rcases hq with rfl|rfl|rfl|rfl
     . simp[Yc,Ya,AV.keys]
     . simp[Yc,Ya,AV.keys]
     . simp[Yc,Ya,kF]
     . unfold nlV
       split <;> simp[Yc,Ya,AV.keys,lk]
   . exact Zjz _ _ _ q hq
 . intro q hq;simp at hq;rcases hq with rfl|rfl|rfl|rfl
   all_goals
    refine ⟨by simp[lk,AV.ren,r1K],by simp,by simp,λj k hk=>?_⟩;simp[AV.keys]at hk;subst hk;simp only[poB];simp[isK,lk]
 . intro k x hx hk R' hG hN;have hkl:k<N:=(by rw[<- hln];exact (List.getElem?_eq_some_iff.1 hx).1);rw[hat k hkl]at hx;obtain rfl:=Option.some.inj hx;have hff:=hff k;have hby:=hby k;have sc:=ZjW (l:=l) (d:=d) (m:=m) (k:=k);have hle:=ZjX (l:=l) (d:=d) (m:=m) (k:=k);rw[hlv]at sc;have pV:=ZjJ (sbT (opQ l) k);have kV:=AV.pure_keys _ pV;have nV:Nsub (Yg ((sbT (opQ l) k).map ia)) (.vsl ((sbT (opQ l) k).map ia)):=.orNil _;obtain ⟨V,hV'⟩ : ∃ V,V=Yg ((sbT (opQ l) k).map ia):=⟨_,rfl⟩;rw[<- hV']at pV kV nV ⊢;obtain ⟨x,hx'⟩ : ∃ x,x=byV (sbT (opQ l) k) m l d l.length:=⟨_,rfl⟩;have hnx:na x=[.int .i64 x.nu,.int .i64 x.dy,.int .u8 x.sg,.int .i64 x.dr,.int .i64 x.lt,.int .i64 x.fr,.int .i64 x.tu,.int .i64 x.ca,.bool x.up,.int .u8 x.wy]:=rfl;rw[<- hx',hnx]at hby;rw[<- hx']at sc;obtain ⟨B,hB'⟩ : ∃ B,B=AV.vsl ((sbT (opQ l) k).map ia):=⟨_,rfl⟩;rw[<- hB']at hff hby nV;have pB:B.pure=true:=(by rw[hB'];simp[AV.pure,ia]);have rB:=λρ=>AV.ren_pure (ρ:=ρ) B pB
   have kB:B.keys=[]:=AV.pure_keys _ pB;generalize byK (sbT (opQ l) k) m l d l.length []=K at *;clear hB';generalize poK l d m k=S at *;generalize poK l d m (k+1)=T at *;have bb:(S.length+1)*8<=70368744177664:=(by omega);have hne:¬T=[]:=(by rw[sc];simp);have hTl:T.length=S.length+1:=(by rw[sc];simp);have em:T.map ia=S.map ia++[[.int .i64 x.lt]]:=(by rw[sc,List.map_append];rfl);by_cases cS:S=[]
   case' pos =>
    have hV:nlV 1037 S = .nils:=(by simp[nlV,cS]);have hQ:nlO 1037 S=[]:=(by simp[nlO,cS]);have hM:nlN 1037 S=37:=by simp[nlN,cS]
   case' neg =>
    have hV:nlV 1037 S = .osl 1037 S.length:=(by simp[nlV,cS]);have hQ:nlO 1037 S=[(1037,.row 1 (S.map ia))]:=(by simp[nlO,cS]);have hM:nlN 1037 S=1037:=by simp[nlN,cS]
   all_goals
    refine Qga ?_;simp only[poB,hV,hQ,List.cons_append,List.nil_append];simp -implicitDefEqProofs[];intro R'' hG'' hN'';refine Z1P (ZjT mixed ?_);rw[hG'']
    iterate 5 (rw[RE_op (by simp[wants]) (by simp[Z1y])];simp -implicitDefEqProofs[execE])
    rw[ZjV (by simp[wants])];simp -implicitDefEqProofs[];refine CallE.new (NewS.sub (ys:=[.vptr cs 0,B,.nils,.int .i64 m]) (NewS.of hff (λk=>k+200) (by simp[ffO]) (by simp[ffO,St.get,lk]) (by simp[AV.pure,pF,pB]) rfl) (by simp[AV.pure,pF,pV]) ⟨.rfl',nV,.rfl',.rfl',trivial⟩) ?_;simp -implicitDefEqProofs[Yl,ffO,ffC,AV.ren,AObj.ren,rF,rB,kV,kF,kB]
    iterate 1 (rw[RE_op (by simp[wants]) (by simp[Z1y])];simp -implicitDefEqProofs[execE])
    rw[ZjV (by simp[wants])];simp -implicitDefEqProofs[];refine CallE.new (NewS.ref hby (λk=>k-800) (by simp[fcO]) (by simp[fcO]) (by simp[fcO,St.get,lk,AV.ren,AObj.ren,mpA,rF,rB,fcC]) (by simp only[fcO,List.mem_cons,List.not_mem_nil,or_false,forall_eq_or_imp,forall_eq,Zfx,and_true];simp[lk,Yc,Ya,AV.keys,kF,kB,fcC]) (by simp[Ya,AV.keys,kF,lk,fcC,fcO]) rfl (by simp[AV.ren,rF,fcC]) rfl) ?_;simp -implicitDefEqProofs[Yl,fcO,fcC,AV.ren,AObj.ren,Zfy,rF,rB,kV,kF,kB]
    iterate 4 (rw[RE_op (by simp[wants]) (by simp[Z1y])];simp -implicitDefEqProofs[execE,bb])
    refine ⟨rfl,?_⟩;refine ⟨rfl,?_,by omega⟩;simp only[poU,hM,nlV,nlO,hne,if_false,hTl,em];simp[cS,Yi,poF,ZfE,frzO,frzA,frz,AV.keys,ia,fF,Function.comp_def]
 . intro _;rw[hln];have hUl:=ZjX (l:=l) (d:=d) (m:=m) (k:=N);generalize poK l d m N=U at *;obtain ⟨hsp,hcp,hOl,hOt,hOf,kO,rO,hCl⟩:=hSP;have cU:¬U=[]:=λh=>by rw[h]at hUl;simp at hUl;omega
   rw[<- hps];have pu:((setI U).map ia).all (λr=>r.all AV.pure)=true:=(by simp[ia,AV.pure]);simp -implicitDefEqProofs[poB,nlV,nlO,cU,Yl,r1K,AV.ren,Zgq,ZjA,rF];refine Qgr ?_;simp -implicitDefEqProofs[];refine Yd.sem (Z1B.byref hsp (λ_=>37) (by simp) (by simp) (by simp[St.get,lk,ZeQ]) (by simp[ZeR]) (by simp[Ya,AV.keys,lk]) rfl (by simp[AV.ren]) rfl rfl) ?_;simp -implicitDefEqProofs[Yl,ZeQ];refine Yd.sem (Z1B.byref hcp (λ_=>37) (by simp) (by simp) (by simp[St.get,lk,ZeQ]) (by simp[ZeR]) (by simp[Ya,AV.keys,lk]) rfl (by simp[AV.ren]) rfl rfl) ?_;by_cases hq:(setI U).length=U.length
   . have hOf:=hOf hq;rw[hOf]at *;simp -implicitDefEqProofs[Yl,ZeQ,hq,AV.ren,ia]
   . skip
     simp -implicitDefEqProofs[Yl,rO,hq,AV.ren,hOl,hOt,hCl,ia]
end
open Qq in
def Zk0:RCode :=
 .seq (r 0 [n 6 (.bool false)]) (.seq (r 1 [m 7 0,m 8 1,o 9 .geq 7 8,m 10 9,g 10 true (m 11 0),g 10 true (m 12 2),g 10 true (o 13 .leq 11 12),v 14 10 13,m 6 14]) .ret)
def Zk1:List RRes:=[.t 6]
theorem Zk2:PCt Tryz.prog 147 Tryz.f147 Zk0 Zk1:=pcT Tryz.func147 rfl (by kernel_rfl) (by kernel_rfl) (by kernel_rfl)
open Qq in
def Zk3:RCode :=
 .seq (r 0 [n 4 (.bool false)]) (.seq (.seq (r 1 [n 5 O]) (.block 0 (.loop (.seq (.seq (r 2 [m 6 5,m 7 0,e 8 7,o 9 .lss 6 8]) (.cond (.t 9) .skip (.exit 0))) (.seq (.block 1 (.seq (r 4 [m 12 0,m 13 5,i 14 1 12 13,l 15 14,m 16 1,o 17 .eql 15 16]) (.cond (.t 17) (.seq (r 5 [n 4 (.bool true)]) .ret) .skip))) (r 3 [m 10 5,k 11 .add 10 I,m 5 11])))))) (.seq (r 6 [n 4 (.bool false)]) .ret))
def Zk4:List RRes:=[.t 4]
theorem Zk5:PCt Tryz.prog 104 Tryz.f104 Zk3 Zk4:=pcT Tryz.func104 rfl (by kernel_rfl) (by kernel_rfl) (by kernel_rfl)
open Qq in
def Zk6:RCode :=
 .seq (r 0 [b 2 0,n 4 (.bool false)]) (.seq (r 1 [f 8 2 2,l 9 8,m 10 1,i 11 4 9 10,L 12 4 11,w 5 (.alloc [O,O,O,.nils]),s 4 5 12]) (.seq (.seq (R 2 [f 13 0 5,a [0] (l 14 13),a [1] (w 15 (.call 147 [.t 14,.c I,.c (.int .i64 9999)])),a [2] (t 16 15),a [3,2] (m 17 16),a [4] (g 17 false (m 18 1)),a [5,4] (g 17 false (k 19 .gtr 18 O)),a [6,4,4] (g 17 false (m 20 19)),a [7] (g 20 true (f 21 0 5)),a [8,7] (g 20 true (l 22 21)),a [7] (g 20 true (f 23 2 2)),a [10,7] (g 20 true (l 24 23)),a [7] (g 20 true (m 25 1)),a [12,7] (g 20 true (k 26 .sub 25 I)),a [11,13,7] (g 20 true (i 27 4 24 26)),a [14,7] (g 20 true (f 28 0 27)),a [15,7] (g 20 true (l 29 28)),a [9,16,7] (g 20 true (o 30 .leq 22 29)),a [7,17,4] (g 17 false (v 31 20 30)),a [4,18] (u 32 17 31),a [19,7] (m 33 32),a [20] (g 33 false (f 34 1 5)),a [21,20] (g 33 false (l 35 34)),a [20] (g 33 false (f 36 2 5)),a [23,20] (g 33 false (l 37 36)),a [22,24,20,20] (g 33 false (w 38 (.call 147 [.t 35,.c I,.t 37]))),a [25,20] (g 33 false (t 39 38)),a [20,26] (u 40 33 39),a [27,25] (m 41 40),a [28] (g 41 false (f 42 2 5)),a [29,28] (g 41 false (l 43 42)),a [30,28] (g 41 false (k 44 .gtr 43 (.int .i64 999))),a [28,31] (u 45 41 44),a [32,28] (m 46 45),a [33] (g 46 false (f 47 3 5)),a [34,33] (g 46 false (l 48 47)),a [35,33] (g 46 false (e 49 48)),a [36,33] (g 46 false (k 50 .gtr 49 (.int .i64 8))),a [33,37] (u 51 46 50)]) (.cond (.t 51) (.seq (r 3 [n 4 (.bool false)]) .ret) .skip)) (.seq (r 4 [f 52 0 2,f 53 0 52,L 54 1 53,c 55 54 [54],m 6 55]) (.seq (.seq (r 5 [n 7 O]) (.block 0 (.loop (.seq (.seq (r 6 [m 56 7,f 57 3 5,l 58 57,e 59 58,o 60 .lss 56 59]) (.cond (.t 60) .skip (.exit 0))) (.seq (.block 1 (.seq (R 8 [m 63 6,f 64 3 5,a [1] (l 65 64),m 66 7,a [2,3] (i 67 1 65 66),a [4] (l 68 67),a [0,5] (c 69 104 [63,68]),a [6] (t 70 69),a [7,6] (m 71 70),a [8] (g 71 false (m 72 7)),a [9,8] (g 71 false (k 73 .gtr 72 O)),a [10,8,8] (g 71 false (m 74 73)),a [11] (g 74 true (f 75 3 5)),a [12,11] (g 74 true (l 76 75)),a [11] (g 74 true (m 77 7)),a [13,14,11] (g 74 true (i 78 1 76 77)),a [15,11] (g 74 true (l 79 78)),a [11] (g 74 true (f 80 3 5)),a [17,11] (g 74 true (l 81 80)),a [11] (g 74 true (m 82 7)),a [19,11] (g 74 true (k 83 .sub 82 I)),a [18,20,11] (g 74 true (i 84 1 81 83)),a [21,11] (g 74 true (l 85 84)),a [16,22,11] (g 74 true (o 86 .leq 79 85)),a [11,23,8] (g 71 false (v 87 74 86)),a [8,24] (u 88 71 87)]) (.cond (.t 88) (.seq (r 9 [n 4 (.bool false)]) .ret) .skip))) (r 7 [m 61 7,k 62 .add 61 I,m 7 62])))))) (.seq (r 10 [n 4 (.bool true)]) .ret)))))
def Zk7:List RRes:=[.t 4]
theorem Zk8:PCt Tryz.prog 135 Tryz.f135 Zk6 Zk7:=pcT Tryz.func135 rfl (by kernel_rfl) (by kernel_rfl) (by kernel_rfl)
open Qq in
def Zk9:RCode :=
 .seq (r 0 [b 2 0,n 4 O]) (.seq (.seq (r 1 [n 5 O]) (.block 0 (.loop (.seq (.seq (r 2 [m 6 5,f 7 2 2,l 8 7,e 9 8,o 10 .lss 6 9]) (.cond (.t 10) .skip (.exit 0))) (.seq (.block 1 (.seq (r 4 [f 13 2 2,l 14 13,m 15 5,i 16 4 14 15,f 17 0 16,l 18 17,m 19 1,o 20 .eql 18 19]) (.cond (.t 20) (.seq (r 5 [m 21 5,m 4 21]) .ret) .skip))) (r 3 [m 11 5,k 12 .add 11 I,m 5 12])))))) (.seq (r 6 [n 4 (.int .i64 (-1))]) .ret))
def Zka:List RRes:=[.t 4]
theorem Zkb:PCt Tryz.prog 83 Tryz.f83 Zk9 Zka:=pcT Tryz.func83 rfl (by kernel_rfl) (by kernel_rfl) (by kernel_rfl)
open Qq in
def Zkc:RCode :=
 .seq (r 0 [b 2 0,n 4 (.bool false)]) (.seq (r 1 [f 8 3 2,l 9 8,m 10 1,i 11 7 9 10,L 12 7 11,w 5 (.alloc [O,O,O,O,O,O,.int .u8 0]),s 7 5 12]) (.seq (.seq (R 2 [f 13 0 5,a [0] (l 14 13),a [1] (w 15 (.call 147 [.t 14,.c I,.c (.int .i64 9999)])),a [2] (t 16 15),a [3,2] (m 17 16),a [4] (g 17 false (m 18 1)),a [5,4] (g 17 false (k 19 .gtr 18 O)),a [6,4,4] (g 17 false (m 20 19)),a [7] (g 20 true (f 21 0 5)),a [8,7] (g 20 true (l 22 21)),a [7] (g 20 true (f 23 3 2)),a [10,7] (g 20 true (l 24 23)),a [7] (g 20 true (m 25 1)),a [12,7] (g 20 true (k 26 .sub 25 I)),a [11,13,7] (g 20 true (i 27 7 24 26)),a [14,7] (g 20 true (f 28 0 27)),a [15,7] (g 20 true (l 29 28)),a [9,16,7] (g 20 true (o 30 .leq 22 29)),a [7,17,4] (g 17 false (v 31 20 30)),a [4,18] (u 32 17 31),a [19,7] (m 33 32),a [20] (g 33 false (f 34 1 5)),a [21,20] (g 33 false (l 35 34)),a [22,20,20] (g 33 false (w 36 (.call 147 [.t 35,.c O,.c (.int .i64 14610)]))),a [23,20] (g 33 false (t 37 36)),a [20,24] (u 38 33 37),a [25,23] (m 39 38),a [26] (g 39 false (L 40 4 2)),a [26] (g 39 false (f 41 2 5)),a [28,26] (g 39 false (l 42 41)),a [27,29,26,26] (g 39 false (c 43 83 [40,42])),a [30,26] (g 39 false (k 44 .lss 43 O)),a [26,31] (u 45 39 44),a [32,30] (m 46 45),a [33] (g 46 false (f 47 6 5)),a [34,33] (g 46 false (l 48 47)),a [35,33] (g 46 false (k 49 .gtr 48 (.int .u8 2))),a [33,36] (u 50 46 49)]) (.cond (.t 50) (.seq (r 3 [n 4 (.bool false)]) .ret) .skip)) (.seq (.seq (r 4 [f 52 0 2,f 53 0 52,L 54 1 53,f 55 3 5,L 56 2 55,c 57 172 [54,56],m 51 57,x 58 0 51,x 59 1 51,w 6 (.alloc [O,O,.int .u8 0,.nils,.nils]),s 5 6 58,m 7 59]) (.seq (r 5 [m 60 7,t 61 60]) (.cond (.t 61) (.seq (r 6 [n 4 (.bool false)]) .ret) .skip))) (.seq (r 7 [f 62 5 5,l 63 62,k 64 .eql 63 (.int .i64 (-1)),m 65 64,g 65 false (f 66 5 5),g 65 false (l 67 66),g 65 false (f 68 1 5),g 65 false (l 69 68),g 65 false (w 70 (.call 147 [.t 67,.t 69,.c (.int .i64 14610)])),g 65 false (m 71 70),g 71 true (f 72 6 5),g 71 true (l 73 72),g 71 true (k 74 .eql 73 (.int .u8 0)),g 65 false (v 75 71 74),u 76 65 75,m 4 76]) .ret))))
def Zkd:List RRes:=[.t 4]
theorem Zke:PCt Tryz.prog 136 Tryz.f136 Zkc Zkd:=pcT Tryz.func136 rfl (by kernel_rfl) (by kernel_rfl) (by kernel_rfl)
open Qq in
def Zkf:RCode :=
 .seq (r 0 [b 1 0,n 2 (.bool false)]) (.seq (.seq (r 1 [f 5 2 1,l 6 5,e 7 6,k 8 .gtr 7 (.int .i64 6),m 9 8,g 9 false (f 10 3 1),g 9 false (l 11 10),g 9 false (e 12 11),g 9 false (k 13 .gtr 12 (.int .i64 30)),u 14 9 13]) (.cond (.t 14) (.seq (r 2 [n 2 (.bool false)]) .ret) .skip)) (.seq (.seq (r 3 [n 3 O]) (.block 0 (.loop (.seq (.seq (r 4 [m 15 3,f 16 2 1,l 17 16,e 18 17,o 19 .lss 15 18]) (.cond (.t 19) .skip (.exit 0))) (.seq (.block 1 (.seq (r 6 [L 22 4 1,m 23 3,c 24 135 [22,23],t 25 24]) (.cond (.t 25) (.seq (r 7 [n 2 (.bool false)]) .ret) .skip))) (r 5 [m 20 3,k 21 .add 20 I,m 3 21])))))) (.seq (.seq (r 8 [n 4 O]) (.block 2 (.loop (.seq (.seq (r 9 [m 26 4,f 27 3 1,l 28 27,e 29 28,o 30 .lss 26 29]) (.cond (.t 30) .skip (.exit 2))) (.seq (.block 3 (.seq (r 11 [L 33 4 1,m 34 4,c 35 136 [33,34],t 36 35]) (.cond (.t 36) (.seq (r 12 [n 2 (.bool false)]) .ret) .skip))) (r 10 [m 31 4,k 32 .add 31 I,m 4 32])))))) (.seq (r 13 [n 2 (.bool true)]) .ret))))
def Zkg:List RRes:=[.t 2]
theorem Zkh:PCt Tryz.prog 78 Tryz.f78 Zkf Zkg:=pcT Tryz.func78 rfl (by kernel_rfl) (by kernel_rfl) (by kernel_rfl)
open Qq in
def Zki:RCode :=
 .seq (r 0 [b 1 0,n 2 O]) (.seq (.seq (r 1 [f 4 0 1,L 5 2 4,c 6 77 [5],m 3 6]) (.seq (r 2 [m 7 3,k 8 .neq 7 O]) (.cond (.t 8) (.seq (r 3 [m 9 3,m 2 9]) .ret) .skip))) (.seq (.seq (r 4 [L 10 4 1,c 11 78 [10],t 12 11]) (.cond (.t 12) (.seq (r 5 [n 2 (.int .i64 70)]) .ret) .skip)) (.seq (r 6 [n 2 O]) .ret)))
def Zkj:List RRes:=[.t 2]
theorem Zkk:PCt Tryz.prog 24 Tryz.f24 Zki Zkj:=pcT Tryz.func24 rfl (by kernel_rfl) (by kernel_rfl) (by kernel_rfl)
open Qq in
def Zkl:RCode :=
 .seq (r 0 [b 2 0,n 4 (.bool false)]) (.seq (r 1 [f 5 1 2,l 6 5,m 7 1,o 8 .leq 6 7,m 9 8,g 9 true (f 10 5 2),g 9 true (l 11 10),g 9 true (k 12 .eql 11 (.int .i64 (-1))),g 9 true (m 13 12),g 13 false (f 14 5 2),g 13 false (l 15 14),g 13 false (m 16 1),g 13 false (o 17 .gtr 15 16),g 9 true (u 18 13 17),v 19 9 18,m 20 19,g 20 true (f 21 6 2),g 20 true (l 22 21),g 20 true (k 23 .neq 22 (.int .u8 2)),v 24 20 23,m 4 24]) .ret)
def Zkm:List RRes:=[.t 4]
theorem Zkn:PCt Tryz.prog 57 Tryz.f57 Zkl Zkm:=pcT Tryz.func57 rfl (by kernel_rfl) (by kernel_rfl) (by kernel_rfl)
open Qq in
def Zko:RCode :=
 .seq (r 0 [b 3 0,n 6 O]) (.seq (.seq (r 1 [L 8 4 3,c 9 24 [8],m 7 9]) (.seq (r 2 [m 10 7,k 11 .neq 10 O]) (.cond (.t 11) (.seq (r 3 [m 12 7,m 6 12]) .ret) .skip))) (.seq (.seq (r 4 [m 13 1,w 14 (.call 147 [.t 13,.c O,.c (.int .i64 14610)]),t 15 14,m 16 15,g 16 false (m 17 2),g 16 false (w 18 (.call 147 [.t 17,.c I,.c (.int .i64 999)])),g 16 false (t 19 18),u 20 16 19]) (.cond (.t 20) (.seq (r 5 [n 6 (.int .i64 2)]) .ret) .skip)) (.seq (r 6 [n 6 O]) .ret)))
def Zkp:List RRes:=[.t 6]
theorem Zkq:PCt Tryz.prog 92 Tryz.f92 Zko Zkp:=pcT Tryz.func92 rfl (by kernel_rfl) (by kernel_rfl) (by kernel_rfl)
open Qq in
def Zkr:RCode :=
 .seq (r 0 [b 5 0,n 10 O]) (.seq (.seq (r 1 [L 12 4 5,m 13 1,m 14 2,c 15 92 [12,13,14],m 11 15]) (.seq (r 2 [m 16 11,k 17 .neq 16 O]) (.cond (.t 17) (.seq (r 3 [m 18 11,m 10 18]) .ret) .skip))) (.seq (.seq (r 4 [L 19 4 5,m 20 3,c 21 83 [19,20],k 22 .lss 21 O,m 23 22,g 23 false (f 24 0 5),g 23 false (f 25 0 24),g 23 false (L 26 1 25),g 23 false (c 27 54 [26]),g 23 false (m 28 4),g 23 false (c 29 104 [27,28]),g 23 false (t 30 29),u 31 23 30]) (.cond (.t 31) (.seq (r 5 [n 10 (.int .i64 6)]) .ret) .skip)) (.seq (r 6 [n 10 O]) .ret)))
def Zks:List RRes:=[.t 10]
theorem Zkt:PCt Tryz.prog 71 Tryz.f71 Zkr Zks:=pcT Tryz.func71 rfl (by kernel_rfl) (by kernel_rfl) (by kernel_rfl)
open Qq in
def Zku:RCode :=
 .seq (r 0 [b 1 0,n 2 O]) (.seq (.seq (r 1 [f 4 0 1,f 5 0 4,L 6 1 5,c 7 54 [6],m 3 7]) (.seq (r 2 [m 8 3,e 9 8,k 10 .gtr 9 O]) (.cond (.t 10) (.seq (r 3 [m 11 3,w 12 (.iaddr 1 (.t 11) (.c O)),l 13 12,m 2 13]) .ret) .skip))) (.seq (r 4 [n 2 O]) .ret))
def Zkv:List RRes:=[.t 2]
theorem Zkw:PCt Tryz.prog 72 Tryz.f72 Zku Zkv:=pcT Tryz.func72 rfl (by kernel_rfl) (by kernel_rfl) (by kernel_rfl)
open Qq in
def Zkx:RCode :=
 .seq (r 0 [b 4 0,n 8 .nils]) (.seq (r 1 [n 9 O]) (.seq (r 2 [w 10 (.alloc [.bool false,.bool false,.bool false,.bool false,.bool false,.bool false,.bool false,.bool false,.bool false])]) (.seq (.seq (r 3 [n 11 O]) (.block 0 (.loop (.seq (.seq (r 4 [m 15 11,f 16 3 4,l 17 16,e 18 17,o 19 .lss 15 18]) (.cond (.t 19) .skip (.exit 0))) (.seq (.block 1 (.seq (r 6 [f 22 3 4,l 23 22,m 24 11,i 25 7 23 24,L 26 7 25,w 12 (.alloc [O,O,O,O,O,O,.int .u8 0]),s 7 12 26]) (.seq (.seq (r 7 [f 27 2 12,l 28 27,m 29 2,o 30 .neq 28 29,m 31 30,g 31 false (f 32 3 12),g 31 false (f 33 0 32),g 31 false (l 34 33),g 31 false (m 35 3),g 31 false (o 36 .neq 34 35),u 37 31 36,m 38 37,g 38 false (L 39 7 12),g 38 false (m 40 1),g 38 false (c 41 57 [39,40]),g 38 false (t 42 41),u 43 38 42]) (.cond (.t 43) (.exit 1) .skip)) (.seq (r 8 [f 44 6 12,l 45 44,k 46 .eql 45 (.int .u8 0)]) (.cond (.t 46) (r 9 [m 47 9,f 48 3 12,f 49 1 48,l 50 49,w 51 (.mx true (.t 47) [.t 50]),m 9 51]) (r 10 [f 52 3 12,f 53 1 52,l 54 53,w 55 (.vop (.aaddr 9 1) [(.t 10),(.t 54)]),z (.store 1 (.t 55) (.c (.bool true)))])))))) (r 5 [m 20 11,k 21 .add 20 I,m 11 21])))))) (.seq (r 11 [m 56 9,w 57 (.bsl true 1 1 [O] [(0,.t 56)]),m 13 57]) (.seq (.seq (r 12 [m 58 9,k 59 .add 58 I,m 14 59]) (.block 2 (.loop (.seq (.seq (r 13 [m 60 14,k 61 .lss 60 (.int .i64 9)]) (.cond (.t 61) .skip (.exit 2))) (.seq (.block 3 (.seq (r 15 [m 64 14,w 65 (.vop (.aaddr 9 1) [(.t 10),(.t 64)]),l 66 65]) (.cond (.t 66) (r 16 [m 67 13,m 68 14,w 69 (.bsl false 1 1 [O] [(0,.t 68)]),w 70 (.app 1 8 (.t 67) (.t 69)),m 13 70]) .skip))) (r 14 [m 62 14,k 63 .add 62 I,m 14 63])))))) (.seq (r 17 [m 71 13,m 8 71]) .ret))))))
def Zky:List RRes:=[.t 8]
theorem Zkz:PCt Tryz.prog 75 Tryz.f75 Zkx Zky:=pcT Tryz.func75 rfl (by kernel_rfl) (by kernel_rfl) (by kernel_rfl)
open Qq in
def ZkA:RCode :=
 .seq (r 0 [b 1 0,n 2 (.bool false)]) (.seq (.seq (r 1 [f 4 0 1,L 5 2 4,c 6 67 [5],m 7 6,g 7 false (f 8 2 1),g 7 false (l 9 8),g 7 false (e 10 9),g 7 false (k 11 .gtr 10 (.int .i64 8)),u 12 7 11,m 13 12,g 13 false (f 14 3 1),g 13 false (l 15 14),g 13 false (e 16 15),g 13 false (k 17 .gtr 16 (.int .i64 40)),u 18 13 17]) (.cond (.t 18) (.seq (r 2 [n 2 (.bool true)]) .ret) .skip)) (.seq (.seq (r 3 [n 3 O]) (.block 0 (.loop (.seq (.seq (r 4 [m 19 3,f 20 2 1,l 21 20,e 22 21,o 23 .lss 19 22]) (.cond (.t 23) .skip (.exit 0))) (.seq (.block 1 (.seq (r 6 [f 26 2 1,l 27 26,m 28 3,i 29 4 27 28,f 30 3 29,l 31 30,e 32 31,k 33 .gtr 32 (.int .i64 20)]) (.cond (.t 33) (.seq (r 7 [n 2 (.bool true)]) .ret) .skip))) (r 5 [m 24 3,k 25 .add 24 I,m 3 25])))))) (.seq (r 8 [n 2 (.bool false)]) .ret)))
def ZkB:List RRes:=[.t 2]
theorem ZkC:PCt Tryz.prog 17 Tryz.f17 ZkA ZkB:=pcT Tryz.func17 rfl (by kernel_rfl) (by kernel_rfl) (by kernel_rfl)
open Qq in
def ZkD:RCode :=
 .seq (r 0 [b 2 0,b 3 1,n 4 (.bool false)]) (.seq (.seq (r 1 [f 9 0 2,L 10 2 9,f 11 0 3,L 12 2 11,c 13 79 [10,12],t 14 13,m 15 14,g 15 false (f 16 2 2),g 15 false (l 17 16),g 15 false (e 18 17),g 15 false (f 19 2 3),g 15 false (l 20 19),g 15 false (e 21 20),g 15 false (o 22 .neq 18 21),u 23 15 22,m 24 23,g 24 false (f 25 3 2),g 24 false (l 26 25),g 24 false (e 27 26),g 24 false (f 28 3 3),g 24 false (l 29 28),g 24 false (e 30 29),g 24 false (o 31 .neq 27 30),u 32 24 31]) (.cond (.t 32) (.seq (r 2 [n 4 (.bool false)]) .ret) .skip)) (.seq (.seq (r 3 [n 5 O]) (.block 0 (.loop (.seq (.seq (r 4 [m 33 5,f 34 2 2,l 35 34,e 36 35,o 37 .lss 33 36]) (.cond (.t 37) .skip (.exit 0))) (.seq (.block 1 (.seq (R 6 [f 40 2 2,a [0] (l 41 40),m 42 5,a [1,2] (i 43 4 41 42),a [3] (L 44 4 43),f 45 2 3,a [5] (l 46 45),m 47 5,a [6,7] (i 48 4 46 47),a [8] (L 49 4 48),w 6 (.alloc [O,O,O,.nils]),w 7 (.alloc [O,O,O,.nils]),a [10,4,0,1,2,3,4,10,11] (s 4 6 44),a [11,9,12,0,1,2,3,4,5,6,7,8,9,10,11,12] (s 4 7 49)]) (.seq (r 7 [f 50 0 6,l 51 50,f 52 0 7,l 53 52,o 54 .neq 51 53,m 55 54,g 55 false (f 56 1 6),g 55 false (l 57 56),g 55 false (f 58 1 7),g 55 false (l 59 58),g 55 false (o 60 .neq 57 59),u 61 55 60,m 62 61,g 62 false (f 63 2 6),g 62 false (l 64 63),g 62 false (f 65 2 7),g 62 false (l 66 65),g 62 false (o 67 .neq 64 66),u 68 62 67,m 69 68,g 69 false (f 70 3 6),g 69 false (l 71 70),g 69 false (f 72 3 7),g 69 false (l 73 72),g 69 false (c 74 25 [71,73]),g 69 false (t 75 74),u 76 69 75]) (.cond (.t 76) (.seq (r 8 [n 4 (.bool false)]) .ret) .skip)))) (r 5 [m 38 5,k 39 .add 38 I,m 5 39])))))) (.seq (.seq (r 9 [n 8 O]) (.block 2 (.loop (.seq (.seq (r 10 [m 77 8,f 78 3 2,l 79 78,e 80 79,o 81 .lss 77 80]) (.cond (.t 81) .skip (.exit 2))) (.seq (.block 3 (.seq (R 12 [f 84 3 2,a [0] (l 85 84),m 86 8,a [1,2] (i 87 7 85 86),a [3] (L 88 7 87),f 89 3 3,a [5] (l 90 89),m 91 8,a [6,7] (i 92 7 90 91),a [8] (L 93 7 92),a [4,9] (w 94 (.eqs true [.i,.i,.i,.i,.i,.i,.i] (.t 88) (.t 93)))]) (.cond (.t 94) (.seq (r 13 [n 4 (.bool false)]) .ret) .skip))) (r 11 [m 82 8,k 83 .add 82 I,m 8 83])))))) (.seq (r 14 [n 4 (.bool true)]) .ret))))
def ZkE:List RRes:=[.t 4]
theorem ZkF:PCt Tryz.prog 26 Tryz.f26 ZkD ZkE:=pcT Tryz.func26 rfl (by kernel_rfl) (by kernel_rfl) (by kernel_rfl)
open Qq in
def ZkG:RCode :=
 .seq (r 0 [b 1 0,w 2 (.alloc [.nils,.nils,.nils,.nils])]) (.seq (R 1 [f 6 0 1,a [0] (L 7 2 6),a [1] (c 8 68 [7]),w 9 (.bsl true 7 0 [] []),f 10 3 1,a [4] (l 11 10),a [3,5,2] (w 12 (.app 7 56 (.t 9) (.t 11))),a [2,6] (w 13 (.build [.nils,.nils,.nils,.nils] [(0,2,.t 8),(3,1,.t 12)])),w 3 (.alloc [.nils,.nils,.nils,.nils]),a [8,7,6,0,1,2,3,4,5,6,7,8] (s 4 3 13)]) (.seq (.seq (r 2 [n 4 O]) (.block 0 (.loop (.seq (.seq (r 3 [m 14 4,f 15 2 1,l 16 15,e 17 16,o 18 .lss 14 17]) (.cond (.t 18) .skip (.exit 0))) (.seq (.block 1 (.seq (r 5 [f 21 2 1,l 22 21,m 23 4,i 24 4 22 23,L 25 4 24,w 5 (.alloc [O,O,O,.nils]),s 4 5 25]) (.seq (r 6 [w 26 (.bsl true 1 0 [] []),f 27 3 5,l 28 27,w 29 (.app 1 8 (.t 26) (.t 28)),f 30 3 5,s 1 30 29]) (r 7 [f 31 2 3,l 32 31,L 33 4 5,w 34 (.bsl false 4 1 [O,O,O,.nils] [(0,.t 33)]),w 35 (.app 4 48 (.t 32) (.t 34)),f 36 2 3,s 1 36 35])))) (r 4 [m 19 4,k 20 .add 19 I,m 4 20])))))) (.seq (r 8 [L 37 4 3,s 4 2 37]) .ret)))
def ZkH:List RRes:=[.c 2 true 4]
theorem ZkI:PCt Tryz.prog 18 Tryz.f18 ZkG ZkH:=pcT Tryz.func18 rfl (by kernel_rfl) (by kernel_rfl) (by kernel_rfl)
theorem ZkJ {r:List Iss} (h:openV r=0):r≠[]:=by
 rintro rfl;exact absurd h (by decide)
section
variable {G:Nat->Option (List AV)}
theorem ZkK (n lo hi:Int):PC Tryz.prog G 147 [.int .i64 n,.int .i64 lo,.int .i64 hi] (.bool (inR n lo hi)):=by
 (refine Zk2 rfl λR hG hrd=>Qga ?_;subst hG)
 by_cases h1:lo<=n <;> by_cases h2:n<=hi <;> simp -implicitDefEqProofs[Zk0,Zk1,inR,h1,h2]
theorem ZkL (l:List Int) (n:Int) (h:Sml l):PC Tryz.prog G 104 [.vsl (l.map ia),.int .i64 n] (.bool (decide (n∈l))):=by
 (refine Zk5 rfl λR hG hrd=>Qga ?_;subst hG)
 unfold Sml at h;simp -implicitDefEqProofs[Zk3,Zk4];refine Z9v (λi=>⟨[(5,.int .i64 i),(0,.vsl (l.map ia)),(1,.int .i64 n)],[]⟩) (λi=>∀ j (h:j<l.length),j<i->¬l[j]=n) l.length (by (first|exact Ym.tm (by simp[lk])|exact Ym.sub (by simp[lk,Ya,AV.keys]) (by simp[lk,Yc,Ya,AV.keys]))) (by simp) ?_ ?_
 . intro i hi he;refine Qga ?_;have w1:IntKind.i64.wrap ((i:Int)+1)=(i:Int)+1:=Yf (by omega) (by omega);by_cases e:l[i]=n
   . have hm:n∈l:=e ▸ List.getElem_mem hi;simp -implicitDefEqProofs[hi,ia,e];refine Qgr ?_;simp -implicitDefEqProofs[hm]
   . simp -implicitDefEqProofs[hi,ia,e,w1];refine ⟨by (first|exact Ym.tm (by simp[lk])|exact Ym.sub (by simp[lk,Ya,AV.keys]) (by simp[lk,Yc,Ya,AV.keys])),λj hj hji=>?_⟩;rcases Nat.lt_or_ge j i with h2|h2
     . exact he j hj h2
     . obtain rfl:j=i:=(by omega);exact e
 . intro he;refine Qga ?_
   have hm:¬n∈l:=λhm=>by
    obtain ⟨j,hj,e⟩:=List.getElem_of_mem hm;exact he j hj hj e
   simp -implicitDefEqProofs[];refine Qgr ?_;simp -implicitDefEqProofs[hm]
theorem ZkM (r:List Iss) (l:List Nte) (hs:List Hld) (ps:List Prt) (id:Int) (hh:Sml hs):PC Tryz.prog G 83 [prA r l hs ps,.int .i64 id] (.int .i64 (hoI hs id)):=by
 unfold Sml at hh;unfold prA
 (refine Zkb rfl λR hG hrd=>Qga ?_;subst hG)
 simp -implicitDefEqProofs[Zk9,Zka];refine Z9v (λi=>⟨[(5,.int .i64 i),(2,.ptr 2 0),(1,.int .i64 id)],[(2,.box [.vsl (r.map isa),.vsl (l.map na),.vsl (hs.map hoa),.vsl (ps.map ptA)])]⟩) (λi=>∀ j (h:j<hs.length),j<i->decide (hs[j].id=id)=false) hs.length ?_ (by simp) ?_ ?_
 . (refine Ym.sub (by simp[lk,Ya,AV.keys]) ?_;simp only[Wkl,and_true];(try simp[lk,Yc,Ya,AV.keys]))
 . intro i hi he;refine Qga ?_;have w1:IntKind.i64.wrap ((i:Int)+1)=(i:Int)+1:=Yf (by omega) (by omega);by_cases h:hs[i].id=id
   . have hf:hoI hs id=i:=(by unfold hoI;exact Zan hi (by simpa using h) he);simp -implicitDefEqProofs[hi,hoa,h];refine Qgr ?_;simp -implicitDefEqProofs[hf]
   . simp -implicitDefEqProofs[hi,hoa,h,w1];refine ⟨?_,λj q1 q2=>?_⟩
     . (refine Ym.sub (by simp[lk,Ya,AV.keys]) ?_;simp only[Wkl,and_true];(try simp[lk,Yc,Ya,AV.keys]))
     . by_cases e:j=i
       . subst e;simpa using h
       . simpa using he j q1 (by omega)
 . intro he;refine Qga ?_;have hf:hoI hs id = -1:=(by unfold hoI;exact Zao (λj hj=>he j hj hj));simp -implicitDefEqProofs[];refine Qgr ?_;simp -implicitDefEqProofs[hf]
theorem ZkN (x:Prt) (day:Int):PC Tryz.prog G 57 [.agg (ptA x),.int .i64 day] (.bool (outB x day)):=by
 (refine Zkn rfl λR hG hrd=>Qga ?_;subst hG)
 by_cases h1:x.dy<=day
 . by_cases h2:x.bk = -1
   . by_cases h3:x.lo=2
     . simp -implicitDefEqProofs[Zkl,Zkm,ptA,h1,h2,h3,outB]
     . simp -implicitDefEqProofs[Zkl,Zkm,ptA,h1,h2,h3,outB]
   . by_cases h4:day<x.bk
     . by_cases h3:x.lo=2
       . simp -implicitDefEqProofs[Zkl,Zkm,ptA,h1,h2,h3,h4,outB]
       . simp -implicitDefEqProofs[Zkl,Zkm,ptA,h1,h2,h3,h4,outB]
     . simp -implicitDefEqProofs[Zkl,Zkm,ptA,h1,h2,h4,outB]
 . simp -implicitDefEqProofs[Zkl,Zkm,ptA,h1,outB]
set_option maxHeartbeats 4000000 in
theorem ZkO (r:List Iss) (l:List Nte) (hs:List Hld) (ps:List Prt) (i:Nat) (hi:i<hs.length) (hr:Sml r) (hne:r≠[]) (hd:Sml (nums r)) (hw:WfP hs ps) :
  PC Tryz.prog G 135 [prA r l hs ps,.int .i64 i] (.bool (hoB (nums r) hs i)):=by
 have hl:=hw.hl;have hn:=Z9S (G:=G) r hr hne;rw[rega]at hn;have hC:=λn=>ZkL (G:=G) (nums r) n hd
 have hx:=Zi9 hi;have hds:=hw.dl _ (List.getElem_mem hi);have heq:=Zj0 (nums r) hs i;obtain ⟨h,hhe⟩ : ∃ h,h=hs[i]:=⟨_,rfl⟩;rw[<- hhe]at hx hds;have hlx:hs[i]=h:=hhe.symm;have hho:hoa h=[.int .i64 h.id,.int .i64 h.fr,.int .i64 h.to,.vsl (h.ds.map ia)]:=rfl;have hC0:hoC hs i=(inR h.id 1 9999&&(i == 0||decide ((hAt hs (i-1)).id<h.id))&&inR h.fr 1 h.to&&decide (h.to<=999)&&decide (h.ds.length<=8)):=(by unfold hoC;rw[hx]);have hno2:hoC hs i=false->hoB (nums r) hs i=false:=λq=>by rw[heq,q];rfl
 have c1:=ZkK (G:=G) h.id 1 9999;have c2:=ZkK (G:=G) h.fr 1 h.to;unfold prA;refine Zk8 rfl λR hG hrd=>?_
 subst hG;refine Qga ?_
 cases q1:inR h.id 1 9999
 . have e:=hno2 (by rw[hC0,q1];rfl);rw[q1]at c1
   cases i
   case' zero=>simp -implicitDefEqProofs[Zk6,Zk7,hi,hlx,hho]
   case' succ k =>
    have k1:(k:Int)+1<hs.length:=(by omega);have k2:((k:Int)+1).toNat=k+1:=(by omega);have k3:(0:Int)<=(k:Int)+1:=(by omega);simp -implicitDefEqProofs[Zk6,Zk7,k1,k2,k3,hi,hlx,hho]
   all_goals
    refine Qco (c1) (by simp) ?_;simp -implicitDefEqProofs[];exact ⟨rfl,e⟩
 rw[q1]at c1;obtain ⟨I,hIe⟩ : ∃ I,I=i:=⟨_,rfl⟩
 cases i
 case' zero =>
  have q2:hoC hs 0=(inR h.fr 1 h.to&&decide (h.to<=999)&&decide (h.ds.length<=8)):=(by rw[hC0,q1];rfl);simp -implicitDefEqProofs[Zk6,Zk7,hi,hlx,hho];refine Qco (c1) (by simp) ?_;simp -implicitDefEqProofs[]
 case' succ k =>
  have hk:k<hs.length:=(by omega);have w0:IntKind.i64.wrap ((k:Int)+1-1)=(k:Int):=(by rw[Yf (by omega) (by omega)];omega);have w2:IntKind.i64.wrap (k:Int)=(k:Int):=Yf (by omega) (by omega);have g0:(0:Int)<(k:Int)+1:=(by omega);have k1:(k:Int)+1<hs.length:=(by omega);have k2:((k:Int)+1).toNat=k+1:=(by omega);have k3:(0:Int)<=(k:Int)+1:=(by omega);have hhk:hoa hs[k]=[.int .i64 hs[k].id,.int .i64 hs[k].fr,.int .i64 hs[k].to,.vsl (hs[k].ds.map ia)]:=rfl;simp -implicitDefEqProofs[Zk6,Zk7,k1,k2,k3,hi,hlx,hho];refine Qco (c1) (by simp) ?_;by_cases hp:hs[k].id<h.id
  case' neg =>
   have e:=hno2 (by rw[hC0,Nat.add_sub_cancel,Zi9 hk,decide_eq_false hp];simp);have hp2:h.id<=hs[k].id:=(by omega);simp -implicitDefEqProofs[hk,w0,w2,g0,hhk,hp2,hho];exact ⟨rfl,e⟩
  have hp2:¬h.id<=hs[k].id:=(by omega);have q2:hoC hs (k+1)=(inR h.fr 1 h.to&&decide (h.to<=999)&&decide (h.ds.length<=8)):=(by rw[hC0,q1,Nat.add_sub_cancel,Zi9 hk,decide_eq_true hp];simp);simp -implicitDefEqProofs[hk,w0,w2,g0,hhk,hp2,hho]
 all_goals
  refine Qco (c2) (by simp) ?_
  cases q3:inR h.fr 1 h.to
  case false =>
   have e:=hno2 (by rw[q2,q3];rfl);simp -implicitDefEqProofs[];exact ⟨rfl,e⟩
  by_cases q4:999<h.to
  case pos =>
   have e:=hno2 (by rw[q2,decide_eq_false (show ¬h.to<=999 by omega)];simp);simp -implicitDefEqProofs[hho,q4];exact ⟨rfl,e⟩
  by_cases q5:8<h.ds.length
  case pos =>
   have q5':(8:Int)<h.ds.length:=(by omega);have e:=hno2 (by rw[q2,decide_eq_false (show ¬h.ds.length<=8 by omega)];simp);simp -implicitDefEqProofs[hho,q4,q5'];exact ⟨rfl,e⟩
  have q5':¬(8:Int)<h.ds.length:=(by omega);rw[q3,decide_eq_true (show h.to<=999 by omega),decide_eq_true (show h.ds.length<=8 by omega)]at q2;simp -implicitDefEqProofs[hho,q4,q5'];refine ⟨rfl,?_⟩;refine Qco (hn) (by simp) ?_;simp -implicitDefEqProofs[];refine Z9v (λk=>⟨[(7,.int .i64 k),(6,.vsl ((nums r).map ia)),(5,.ptr 5 0)],[(5,.box (hoa h))]⟩) (λk=>∀ j,j<k->wkC (nums r) h.ds j=true) h.ds.length ?_ (by simp) ?_ ?_
  . ((try simp only[hho]);refine Ym.sub (by simp[lk,Ya,AV.keys,hho]) ?_;simp only[hho,Wkl,and_true];(try simp[lk,Yc,Ya,AV.keys,hho]))
  . intro k hk hK
    have hwf:wkC (nums r) h.ds k=false->hoB (nums r) hs I=false:=λq=>by
     rw[hIe,heq,hx]
     cases q6:(List.range h.ds.length).all (wkC (nums r) h.ds)
     . rw[Bool.and_false]
     . have:=Z9R.1 q6 k hk;rw[q]at this;cases this
    rw[hIe]at hwf;have hcd:=hC h.ds[k];have gd:h.ds.getD k 0=h.ds[k]:=(by simp[List.getD_eq_getElem?_getD,hk]);refine Qga ?_;by_cases m1:h.ds[k]∈nums r
    case neg =>
     have e:=hwf (by rw[wkC,gd];simp[m1]);rw[decide_eq_false m1]at hcd
     cases k
     case' zero=>simp -implicitDefEqProofs[hk,ia,hho]
     case' succ p =>
      have k1:(p:Int)+1<h.ds.length:=(by omega);have k2:((p:Int)+1).toNat=p+1:=(by omega);have k3:(0:Int)<=(p:Int)+1:=(by omega);simp -implicitDefEqProofs[k1,k2,k3,hk,ia,hho]
     all_goals
      refine Qco (hcd) (by simp) ?_;simp -implicitDefEqProofs[];refine ⟨rfl,?_⟩;refine Qgr ?_;simp -implicitDefEqProofs[e]
      done
    rw[decide_eq_true m1]at hcd
    cases k with
    | zero =>
      have e:wkC (nums r) h.ds 0=true:=(by rw[wkC,gd];simp[m1]);have w1:IntKind.i64.wrap 1=1:=rfl;simp -implicitDefEqProofs[hk,ia,hho];refine Qco (hcd) (by simp) ?_;simp -implicitDefEqProofs[w1];refine ⟨rfl,?_,e⟩
      ((try simp only[hho]);refine Ym.sub (by simp[lk,Ya,AV.keys,hho]) ?_;simp only[hho,Wkl,and_true];(try simp[lk,Yc,Ya,AV.keys,hho]))
    | succ p =>
      have hp:p<h.ds.length:=(by omega);have g2:h.ds.getD p 0=h.ds[p]:=(by simp[List.getD_eq_getElem?_getD,hp]);have w0:IntKind.i64.wrap ((p:Int)+1-1)=(p:Int):=(by rw[Yf (by omega) (by omega)];omega);have w2:IntKind.i64.wrap (p:Int)=(p:Int):=Yf (by omega) (by omega);have g0:(0:Int)<(p:Int)+1:=(by omega);have k1:(p:Int)+1<h.ds.length:=(by omega);have k2:((p:Int)+1).toNat=p+1:=(by omega);have k3:(0:Int)<=(p:Int)+1:=(by omega);have wk2:IntKind.i64.wrap ((p:Int)+1+1)=(p:Int)+1+1:=Yf (by omega) (by omega);by_cases m2:h.ds[p]<h.ds[p+1]
      . have e:wkC (nums r) h.ds (p+1)=true:=(by rw[wkC,gd,Nat.add_sub_cancel,g2];simp[m1,m2]);have m3:¬h.ds[p+1]<=h.ds[p]:=(by omega);simp -implicitDefEqProofs[k1,k2,k3,hk,ia,hho];refine Qco (hcd) (by simp) ?_;simp -implicitDefEqProofs[hp,w0,w2,g0,hho,ia,m3,wk2,k1,k2,k3,hk];refine ⟨rfl,?_,λj hj=>?_⟩
        . ((try simp only[hho]);refine Ym.sub (by simp[lk,Ya,AV.keys,hho]) ?_;simp only[hho,Wkl,and_true];(try simp[lk,Yc,Ya,AV.keys,hho]))
        . rcases Nat.lt_or_ge j (p+1) with h4|h4
          . exact hK j h4
          . obtain rfl:j=p+1:=(by omega);exact e
      . have e:=hwf (by rw[wkC,gd,Nat.add_sub_cancel,g2];simp[m2]);have m3:h.ds[p+1]<=h.ds[p]:=(by omega);simp -implicitDefEqProofs[k1,k2,k3,hk,ia,hho];refine Qco (hcd) (by simp) ?_;simp -implicitDefEqProofs[hp,w0,w2,g0,hho,ia,m3,k1,k2,k3,hk];refine ⟨rfl,?_⟩;refine Qgr ?_;simp -implicitDefEqProofs[e]
  . intro hK
    have e:hoB (nums r) hs I=true:=by
     rw[hIe,heq,q2,hx];simp only[Bool.true_and,Bool.and_self];exact Z9R.2 hK
    rw[hIe]at e;refine Qga ?_;simp -implicitDefEqProofs[hho];refine Qgr ?_;simp -implicitDefEqProofs[e]
end
def someD (r:List Iss):Int:=(nums r).headD 0
section
variable {G:Nat->Option (List AV)}
set_option maxHeartbeats 4000000 in
theorem ZkP (r:List Iss) (l:List Nte) (hs:List Hld) (ps:List Prt) (i:Nat) (hi:i<ps.length) (hr:Sml r) (hw:WfP hs ps) :
  PC Tryz.prog G 136 [prA r l hs ps,.int .i64 i] (.bool (shB r hs ps i)):=by
 have hpl:=hw.pl;have hh:Sml hs:=(by have:=hw.hl;unfold Sml;omega);have hx:=Zia hi;obtain ⟨x,hxe⟩ : ∃ x,x=ps[i]:=⟨_,rfl⟩;have hpo:=hw.po _ (List.getElem_mem hi);rw[<- hxe]at hx hpo;have hlx:ps[i]=x:=hxe.symm;have hpt:ptA x=[.int .i64 x.no,.int .i64 x.dy,.int .i64 x.ho,.int .i64 x.dw,.int .i64 x.lt,.int .i64 x.bk,.int .u8 x.lo]:=rfl;have hsh:shB r hs ps i=((i == 0||decide ((pAt ps (i-1)).no<x.no))&&prB r hs x):=(by unfold shB;rw[hx]);have c1:=ZkK (G:=G) x.no 1 9999;have c2:=ZkK (G:=G) x.dy 0 14610;have c3:=ZkM (G:=G) r l hs ps x.ho hh;have c4:=Z9Q (G:=G) r x.dw x.lt hr;have c5:=ZkK (G:=G) x.bk x.dy 14610;rw[rega]at c4;have hI:=hoF_I hs x.ho;have hfst:∀ c:Bool,prB r hs x=false->(c&&prB r hs x)=false:=λc h=>by rw[h,Bool.and_false]
 unfold prA at *;refine Zke rfl λR hG hrd=>?_
 subst hG;refine Qga ?_
 cases q1:inR x.no 1 9999
 . have e:shB r hs ps i=false:=(by rw[hsh];exact hfst _ (by simp[prB,q1]));rw[q1]at c1
   cases i
   case' zero=>simp -implicitDefEqProofs[Zkc,Zkd,hi,hlx,hpt]
   case' succ k =>
    have k1:(k:Int)+1<ps.length:=(by omega);have k2:((k:Int)+1).toNat=k+1:=(by omega);have k3:(0:Int)<=(k:Int)+1:=(by omega);simp -implicitDefEqProofs[Zkc,Zkd,k1,k2,k3,hi,hlx,hpt]
   all_goals
    refine Qco (c1) (by simp) ?_;simp -implicitDefEqProofs[];exact ⟨rfl,e⟩
 rw[q1]at c1;obtain ⟨P,hP⟩ : ∃ P,P=shB r hs ps i:=⟨_,rfl⟩;rw[<- hP]
 cases i
 case' zero =>
  have q2:P=prB r hs x:=(by rw[hP,hsh];rfl);simp -implicitDefEqProofs[Zkc,Zkd,hi,hlx,hpt];refine Qco (c1) (by simp) ?_;simp -implicitDefEqProofs[]
 case' succ k =>
  have hk:k<ps.length:=(by omega);have w0:IntKind.i64.wrap ((k:Int)+1-1)=(k:Int):=(by rw[Yf (by omega) (by omega)];omega);have w2:IntKind.i64.wrap (k:Int)=(k:Int):=Yf (by omega) (by omega);have g0:(0:Int)<(k:Int)+1:=(by omega);have k1:(k:Int)+1<ps.length:=(by omega);have k2:((k:Int)+1).toNat=k+1:=(by omega);have k3:(0:Int)<=(k:Int)+1:=(by omega);have hpk:ptA ps[k]=[.int .i64 ps[k].no,.int .i64 ps[k].dy,.int .i64 ps[k].ho,.int .i64 ps[k].dw,.int .i64 ps[k].lt,.int .i64 ps[k].bk,.int .u8 ps[k].lo]:=rfl;simp -implicitDefEqProofs[Zkc,Zkd,k1,k2,k3,hi,hlx,hpt];refine Qco (c1) (by simp) ?_;by_cases hp:ps[k].no<x.no
  case' neg =>
   have e:P=false:=(by rw[hP,hsh,Nat.add_sub_cancel,Zia hk,decide_eq_false hp];simp);have hp2:x.no<=ps[k].no:=(by omega);simp -implicitDefEqProofs[hk,w0,w2,g0,hpk,hp2,hpt];exact ⟨rfl,e⟩
  have hp2:¬x.no<=ps[k].no:=(by omega);have q2:P=prB r hs x:=(by rw[hP,hsh,Nat.add_sub_cancel,Zia hk,decide_eq_true hp];simp);simp -implicitDefEqProofs[hk,w0,w2,g0,hpk,hp2,hpt]
 all_goals
  clear hP hsh;subst q2;refine Qco (c2) (by simp) ?_
  cases q3:inR x.dy 0 14610
  case false =>
   have e:prB r hs x=false:=(by simp[prB,q3]);simp -implicitDefEqProofs[];exact ⟨rfl,e⟩
  simp -implicitDefEqProofs[];refine Qco (c3) (by simp) ?_;by_cases q4:hoI hs x.ho<0
  case pos =>
   have e:prB r hs x=false:=by
    rw[decide_eq_false (show ¬0<=hoI hs x.ho by omega)]at hI;simp[prB,<- hI]
   simp -implicitDefEqProofs[q4];exact ⟨rfl,e⟩
  rw[decide_eq_true (show 0<=hoI hs x.ho by omega)]at hI;by_cases q5:2<x.lo
  case pos =>
   have e:prB r hs x=false:=by
    have:¬x.lo<=2:=(by omega);simp[prB,this]
   simp -implicitDefEqProofs[q4,hpt,q5];exact ⟨rfl,e⟩
  have q5':x.lo<=2:=(by omega);simp -implicitDefEqProofs[q4,hpt,q5];refine ⟨rfl,?_⟩;refine Qco (c4) (by simp) ?_
  cases q6:findN x.dw x.lt r with
  | none =>
    have e:prB r hs x=false:=(by simp[prB,q6]);simp -implicitDefEqProofs[q6,fndA,noIs,e]
  | some y =>
    have ey:isa y=[.int .i64 y.d,.int .i64 y.l,.int .u8 y.k,.vsl (y.its.map ita),.vsl (y.dms.map dma)]:=rfl;have e:prB r hs x=(decide (x.bk = -1)||(inR x.bk x.dy 14610&&decide (x.lo=0))):=(by simp[prB,q1,q3,<- hI,q5',q6]);rw[e];by_cases q7:x.bk = -1
    . simp -implicitDefEqProofs[q6,fndA,ey,hpt,q7]
    . simp -implicitDefEqProofs[q6,fndA,ey,hpt,q7];refine Qco (c5) (by simp) ?_
      cases inR x.bk x.dy 14610
      . simp -implicitDefEqProofs[]
      . simp -implicitDefEqProofs[hpt]
theorem ZkQ (r:List Iss) (l:List Nte) (hs:List Hld) (ps:List Prt) (hr:Sml r) (hne:r≠[]) (hd:Sml (nums r)) (hw:WfP hs ps):PC Tryz.prog G 78 [prA r l hs ps] (.bool (ptsB r hs ps)):=by
 have hl:=hw.hl;have hp:=hw.pl;have c1:=λi hi=>ZkO (G:=G) r l hs ps i hi hr hne hd hw
 have c2:=λi hi=>ZkP (G:=G) r l hs ps i hi hr hw
 unfold prA at *;refine Zkh rfl λR hG hrd=>?_
 subst hG;refine Qga ?_;by_cases h6:6<hs.length
 . have h6':(6:Int)<hs.length:=by omega
   have e:ptsB r hs ps=false:=by
    have:¬hs.length<=6:=(by omega);simp[ptsB,this]
   simp -implicitDefEqProofs[Zkf,Zkg,h6',e]
 have h6':¬(6:Int)<hs.length:=(by omega);by_cases h30:30<ps.length
 . have h30':(30:Int)<ps.length:=by omega
   have e:ptsB r hs ps=false:=by
    have:¬ps.length<=30:=(by omega);simp[ptsB,this]
   simp -implicitDefEqProofs[Zkf,Zkg,h6',h30',e]
 have h30':¬(30:Int)<ps.length:=(by omega);simp -implicitDefEqProofs[Zkf,Zkg,h6',h30'];refine Z9v (λi=>⟨[(3,.int .i64 i),(1,.ptr 1 0)],[(1,.box [.vsl (r.map isa),.vsl (l.map na),.vsl (hs.map hoa),.vsl (ps.map ptA)])]⟩) (λi=>∀ j,j<i->hoB (nums r) hs j=true) hs.length ?_ (by simp) ?_ ?_
 . (refine Ym.sub (by simp[lk,Ya,AV.keys]) ?_;simp only[Wkl,and_true];(try simp[lk,Yc,Ya,AV.keys]))
 . intro i hi he;have c1:=c1 i hi;have wi:IntKind.i64.wrap ((i:Int)+1)=(i:Int)+1:=Yf (by omega) (by omega);refine Qga ?_
   cases q:hoB (nums r) hs i
   . have e:=ZiY (ps:=ps) hi q;rw[q]at c1;simp -implicitDefEqProofs[hi];refine Qco (c1) (by simp) ?_;simp -implicitDefEqProofs[];refine Qgr ?_;simp -implicitDefEqProofs[e]
   . rw [q]at c1;simp -implicitDefEqProofs[hi];refine Qco (c1) (by simp) ?_;simp -implicitDefEqProofs[wi];refine ⟨?_,λj hj=>?_⟩
     . (refine Ym.sub (by simp[lk,Ya,AV.keys]) ?_;simp only[Wkl,and_true];(try simp[lk,Yc,Ya,AV.keys]))
     . rcases Nat.lt_or_ge j i with h4|h4
       . exact he j h4
       . obtain rfl:j=i:=(by omega);exact q
 . intro he;refine Qga ?_;simp -implicitDefEqProofs[];refine Qgr ?_;simp -implicitDefEqProofs[];refine Z9v (λi=>⟨[(4,.int .i64 i),(1,.ptr 1 0)],[(1,.box [.vsl (r.map isa),.vsl (l.map na),.vsl (hs.map hoa),.vsl (ps.map ptA)])]⟩) (λi=>∀ j,j<i->shB r hs ps j=true) ps.length ?_ (by simp) ?_ ?_
   . (refine Ym.sub (by simp[lk,Ya,AV.keys]) ?_;simp only[Wkl,and_true];(try simp[lk,Yc,Ya,AV.keys]))
   . intro i hi hE;have c2:=c2 i hi;have wi:IntKind.i64.wrap ((i:Int)+1)=(i:Int)+1:=Yf (by omega) (by omega);refine Qga ?_
     cases q:shB r hs ps i
     . have e:=ZiZ hi q;rw[q]at c2;simp -implicitDefEqProofs[hi];refine Qco (c2) (by simp) ?_;simp -implicitDefEqProofs[];refine Qgr ?_;simp -implicitDefEqProofs[e]
     . rw [q]at c2;simp -implicitDefEqProofs[hi];refine Qco (c2) (by simp) ?_;simp -implicitDefEqProofs[wi];refine ⟨?_,λj hj=>?_⟩
       . (refine Ym.sub (by simp[lk,Ya,AV.keys]) ?_;simp only[Wkl,and_true];(try simp[lk,Yc,Ya,AV.keys]))
       . rcases Nat.lt_or_ge j i with h4|h4
         . exact hE j h4
         . obtain rfl:j=i:=(by omega);exact q
   . intro hE
     have e:ptsB r hs ps=true:=by
      simp only[ptsB,Bool.and_eq_true,decide_eq_true_eq];exact ⟨⟨⟨by omega,by omega⟩,Z9R.2 he⟩,Z9R.2 hE⟩
     refine Qga ?_;simp -implicitDefEqProofs[];refine Qgr ?_;simp -implicitDefEqProofs[e]
theorem ZkR (r:List Iss) (l:List Nte) (hs:List Hld) (ps:List Prt) (hl:WfN l) (hr:Wf r) (hd:Sml (nums r)) (hw:WfP hs ps):PC Tryz.prog G 24 [prA r l hs ps] (.int .i64 (ck7 r l hs ps)):=by
 have c1:=Zd7 (G:=G) r l hl hr;by_cases h0:chN r l=0
 . have c2:=ZkQ (G:=G) r l hs ps hr.1.1 (ZkJ (Zj3 h0)) hd hw;rw[h0]at c1;unfold prA at *;unfold ck7;rw[if_pos h0]
   (refine Zkk rfl λR hG hrd=>Qga ?_;subst hG)
   simp -implicitDefEqProofs[Zki,Zkj];refine Qco (c1) (by simp) ?_;simp -implicitDefEqProofs[];refine Qco (c2) (by simp) ?_
   cases q:ptsB r hs ps
   . simp -implicitDefEqProofs[]
   . simp -implicitDefEqProofs[]
 . have e:ck7 r l hs ps=chN r l:=(by rw[ck7,if_neg h0]);rw[e];unfold prA
   (refine Zkk rfl λR hG hrd=>Qga ?_;subst hG)
   simp -implicitDefEqProofs[Zki,Zkj];refine Qco (c1) (by simp) ?_;simp -implicitDefEqProofs[h0]
theorem ZkS (r:List Iss) (l:List Nte) (hs:List Hld) (ps:List Prt) (day m:Int) (hl:WfN l) (hr:Wf r) (hd:Sml (nums r)) (hw:WfP hs ps):PC Tryz.prog G 92 [prA r l hs ps,.int .i64 day,.int .i64 m] (.int .i64 (as7 r l hs ps day m)):=by
 have c1:=ZkR (G:=G) r l hs ps hl hr hd hw;have c2:=ZkK (G:=G) day 0 14610;have c3:=ZkK (G:=G) m 1 999;unfold as7 prA at *;by_cases h0:ck7 r l hs ps=0
 . rw[h0]at c1
   (refine Zkq rfl λR hG hrd=>Qga ?_;subst hG)
   simp -implicitDefEqProofs[Zko,Zkp];refine Qco (c1) (by simp) ?_;simp -implicitDefEqProofs[];refine Qco (c2) (by simp) ?_
   cases q1:inR day 0 14610
   . simp -implicitDefEqProofs[h0]
   simp -implicitDefEqProofs[];refine Qco (c3) (by simp) ?_
   cases q2:inR m 1 999
   . simp -implicitDefEqProofs[h0]
   . simp -implicitDefEqProofs[h0]
 . (refine Zkq rfl λR hG hrd=>Qga ?_;subst hG)
   simp -implicitDefEqProofs[Zko,Zkp];refine Qco (c1) (by simp) ?_;simp -implicitDefEqProofs[h0]
theorem ZkT {r:List Iss} {l:List Nte} {hs:List Hld} {ps:List Prt} {day m:Int} (h:as7 r l hs ps day m=0):ck7 r l hs ps=0/\inR day 0 14610=true/\inR m 1 999=true:=by
 unfold as7 at h;by_cases c:ck7 r l hs ps=0
 . rw[if_pos c]at h;by_cases c2:inR day 0 14610=true/\inR m 1 999=true
   . exact ⟨c,c2⟩
   . rw[if_neg c2]at h;cases h
 . rw[if_neg c]at h;exact absurd h c
theorem ZkU {r:List Iss} {l:List Nte} {hs:List Hld} {ps:List Prt} {day m id:Int} {ds:List Int} (h:ab7 r l hs ps day m id ds=0):as7 r l hs ps day m=0/\0<=hoI hs id/\∀ d∈ds,d∈nums r:=by
 unfold ab7 at h;by_cases c:as7 r l hs ps day m=0
 . rw[if_pos c]at h
   split at h
   . rename_i c2;exact ⟨c,c2.1,λd hd=>by simpa using List.all_eq_true.1 c2.2 d hd⟩
   . cases h
 . rw[if_neg c]at h;exact absurd h c
theorem ZkV (r:List Iss) (l:List Nte) (hs:List Hld) (ps:List Prt) (day m id d:Int) (hl:WfN l) (hr:Wf r) (hd:Sml (nums r)) (hw:WfP hs ps) :
  PC Tryz.prog G 71 [prA r l hs ps,.int .i64 day,.int .i64 m,.int .i64 id,.int .i64 d] (.int .i64 (ab7 r l hs ps day m id [d])):=by
 have c1:=ZkS (G:=G) r l hs ps day m hl hr hd hw;have hh:Sml hs:=(by have:=hw.hl;unfold Sml;omega);have c2:=ZkM (G:=G) r l hs ps id hh;have c4:=ZkL (G:=G) (nums r) d hd;unfold ab7;by_cases h0:as7 r l hs ps day m=0
 . have c3:=Z9S (G:=G) r hr.1.1 (ZkJ (Zj3 (Zj2.1 (ZkT h0).1).1));rw[rega]at c3;rw[h0]at c1;unfold prA at *
   (refine Zkt rfl λR hG hrd=>Qga ?_;subst hG)
   simp -implicitDefEqProofs[Zkr,Zks];refine Qco (c1) (by simp) ?_;simp -implicitDefEqProofs[];refine Qco (c2) (by simp) ?_;by_cases q1:hoI hs id<0
   . have q1':¬0<=hoI hs id:=(by omega);simp -implicitDefEqProofs[q1,q1',h0]
   have q1':0<=hoI hs id:=(by omega);simp -implicitDefEqProofs[q1];refine Qco (c3) (by simp) ?_;simp -implicitDefEqProofs[];refine Qco (c4) (by simp) ?_;by_cases q2:d∈nums r
   . simp -implicitDefEqProofs[q1',q2,h0]
   . simp -implicitDefEqProofs[q1',q2,h0]
 . unfold prA at *
   (refine Zkt rfl λR hG hrd=>Qga ?_;subst hG)
   simp -implicitDefEqProofs[Zkr,Zks];refine Qco (c1) (by simp) ?_;simp -implicitDefEqProofs[h0]
theorem ZkW:PC Tryz.prog G 54 [.agg [.vsl []]] .nils:=by
 (refine Z8P rfl λR hG hrd=>Qga ?_;subst hG)
 simp -implicitDefEqProofs[Z8N,Z8O];refine Z9v (λi=>⟨[(4,.int .i64 i),(3,.nils),(1,.ptr 1 0)],[(1,.box [.vsl []])]⟩) (λ_=>True) 0 ?_ trivial ?_ ?_
 . (refine Ym.sub (by simp[lk,Ya,AV.keys]) ?_;simp only[Wkl,and_true];(try simp[lk,Yc,Ya,AV.keys]))
 . intro i hi;omega
 . intro _;refine Qga ?_;simp -implicitDefEqProofs[];refine Qgr ?_;simp -implicitDefEqProofs[]
theorem ZkX (r:List Iss) (l:List Nte) (hs:List Hld) (ps:List Prt) (hr:Sml r):PC Tryz.prog G 72 [prA r l hs ps] (.int .i64 (someD r)):=by
 unfold prA someD;by_cases h0:r=[]
 . subst h0;have c:=ZkW (G:=G);have e:nums []=[]:=rfl;rw[e]
   (refine Zkw rfl λR hG hrd=>Qga ?_;subst hG)
   simp -implicitDefEqProofs[Zku,Zkv];refine Qco (c) (by simp) ?_;simp -implicitDefEqProofs[]
 . have c:=Z9S (G:=G) r hr h0;rw[rega]at c
   (refine Zkw rfl λR hG hrd=>Qga ?_;subst hG)
   simp -implicitDefEqProofs[Zku,Zkv];refine Qco (c) (by simp) ?_
   cases hN:nums r with
   |nil=>simp -implicitDefEqProofs[hN]
   | cons a t =>
     have g0:(0:Int)<(t.length:Int)+1:=(by omega);simp -implicitDefEqProofs[hN,g0,ia]
end
def fgC (f:Nat->Bool):List AV:=[.bool (f 0),.bool (f 1),.bool (f 2),.bool (f 3),.bool (f 4),.bool (f 5),.bool (f 6),.bool (f 7),.bool (f 8)]
theorem ZkY (f:Nat->Bool):∀ {n:Nat},n<9->(fgC f)[n]? = some (.bool (f n))
 |0,_=>rfl
 |1,_=>rfl
 |2,_=>rfl
 |3,_=>rfl
 |4,_=>rfl
 |5,_=>rfl
 |6,_=>rfl
 |7,_=>rfl
 |8,_=>rfl
 |n+9,h=>by omega
theorem ZkZ (f:Nat->Bool) (v:Bool):∀ {n:Nat},n<9->Z4 (fgC f) n [.bool v]=fgC λj=>if j=n then v else f j
 |0,_=>rfl
 |1,_=>rfl
 |2,_=>rfl
 |3,_=>rfl
 |4,_=>rfl
 |5,_=>rfl
 |6,_=>rfl
 |7,_=>rfl
 |8,_=>rfl
 |n+9,h=>by omega
theorem Zl0 (o:List (Nat×AObj)) (f:Nat->Bool):Yc o (.box (fgC f))=true:=by simp[Yc,fgC,Ya,AV.keys]
def flL (a:Nat) (f:Nat->Bool) (n:Nat):List Int:=((List.range n).filter λj=>decide (a<=j)&&f j).map λ(j:Nat)=>(j:Int)
theorem Zl1 {a:Nat} {f:Nat->Bool} {n:Nat}:flL a f (n+1)=if a<=n/\f n=true then flL a f n++[(n:Int)] else flL a f n:=by
 unfold flL;rw[List.range_succ,List.filter_append,List.map_append];by_cases c:a<=n/\f n=true
 . rw[if_pos c];simp[c]
 . rw [if_neg c]
   have:(decide (a<=n)&&f n)=false:=by
    cases q:f n
    . simp
    . have:¬a<=n:=λh=>c ⟨h,q⟩
      simp[this]
   simp[this]
theorem Zl2 {a:Nat} {f:Nat->Bool}:∀ {n:Nat},n<=a->flL a f n=[]
 |0,_=>rfl
 |n+1,h=>by rw[Zl1,if_neg (by omega),Zl2 (by omega)]
theorem Zl3 (a:Nat) (f:Nat->Bool) (n:Nat):(flL a f n).length<=n:=by
 unfold flL;rw[List.length_map];exact Nat.le_trans (List.length_filter_le ..) (by simp)
theorem Zl4 {p:Int->Bool} {a:Nat} {f:Nat->Bool} (h:∀ j:Nat,j<9->p (j:Int)=(decide (a<=j)&&f j)):r9.filter p=flL a f 9:=by
 have e:r9=(List.range 9).map λ(j:Nat)=>(j:Int):=rfl
 rw[e,List.filter_map];unfold flL
 congr 1
 exact List.filter_congr λj hj=>h j (List.mem_range.1 hj)
theorem Zl5 {p:Int->Bool} {f:Nat->Bool} (h:∀ j:Nat,1<=j->j<9->p (j:Int)=f j):r8.filter p=flL 1 f 9:=by
 have e:r8=((List.range 9).filter λj=>decide (1<=j)).map λ(j:Nat)=>(j:Int):=rfl
 rw[e,List.filter_map,List.filter_filter];unfold flL
 congr 1
 refine List.filter_congr λj hj=>?_
 have hj:=List.mem_range.1 hj;by_cases c:1<=j
 . simp[c,h j c hj]
 . simp[c]
theorem Zl6 {r:List Iss} {l:List Nte} {hs:List Hld} {ps:List Prt} {day m id:Int}:ab7 r l hs ps day m id [someD r]=ab7 r l hs ps day m id []:=by
 unfold ab7;by_cases c:as7 r l hs ps day m=0
 . rw [if_pos c,if_pos c];have hne:=ZkJ (Zj3 (Zj2.1 (ZkT c).1).1)
   have hm:someD r∈nums r:=by
    unfold someD
    cases hN:nums r with
    | nil =>
      cases r with
      |nil=>exact absurd rfl hne
      | cons x t =>
        exact absurd hN (Z9K (x::t) t.length)
    |cons a t=>exact List.mem_cons_self ..
   simp[hm]
 . rw[if_neg c,if_neg c]
section
variable {G:Nat->Option (List AV)}
def suQ (day id d:Int) (x:Prt):Bool:=herB id day x&&decide (x.dw=d)&&decide (x.lo=0)
def peQ (day id d:Int) (x:Prt):Bool:=herB id day x&&decide (x.dw=d) && !decide (x.lo=0)
def suJ (day id d:Int) (ps:List Prt) (i:Nat):Int:=(pkL (suQ day id d) (·.lt) ps i).foldl max 0
def peJ (day id d:Int) (ps:List Prt) (i:Nat):List Int:=pkL (peQ day id d) (·.lt) ps i
theorem Zl7 {day id d:Int} {ps:List Prt} {k:Nat} (h:k<ps.length):suJ day id d ps (k+1)=if suQ day id d ps[k]=true then max (suJ day id d ps k) ps[k].lt else suJ day id d ps k:=by
 unfold suJ;rw[Zin h]
 split
 . rw[List.foldl_append];rfl
 . rfl
theorem Zl8 (day id d:Int) (ps:List Prt):suJ day id d ps ps.length=sureM ps day id d:=by unfold suJ sureM;rw[Ziq];rfl
theorem Zl9 (day id d:Int) (ps:List Prt):peJ day id d ps ps.length=perhL ps day id d:=by unfold peJ perhL;rw[Ziq];rfl
def flP (P:List Int) (n:Nat):Bool:=P.contains (n:Int)
def wo7 (B:List AV) (day id d:Int) (ps:List Prt) (i:Nat):St :=
 ⟨[(11,.int .i64 i),(10,.ptr 10 0),(9,.int .i64 (suJ day id d ps i)),(4,.ptr 4 0),(1,.int .i64 day),(2,.int .i64 id),(3,.int .i64 d)],[(10,.box (fgC (flP (peJ day id d ps i)))),(4,.box B)]⟩
def wq7 (f:Nat->Bool) (su:Nat) (n:Nat):St :=
 ⟨[(14,.int .i64 n),(13,.osl 57 ((su:Int)::flL (su+1) f n).length),(10,.ptr 10 0)],[(57,.row 1 (((su:Int)::flL (su+1) f n).map ia)),(10,.box (fgC f))]⟩
set_option maxHeartbeats 2000000 in
theorem Zla (r:List Iss) (l:List Nte) (hs:List Hld) (ps:List Prt) (day id d:Int) (hp:ps.length<=41) (hb:∀ x∈ps,0<=x.lt/\x.lt<=8):PC Tryz.prog G 75 [prA r l hs ps,.int .i64 day,.int .i64 id,.int .i64 d] (.vsl ((wkL ps day id d).map ia)):=by
 have c1:=λx=>ZkN (G:=G) x day
 unfold prA;refine Zkz rfl λR hG hrd=>?_
 subst hG;refine Qga ?_;obtain ⟨B,hB⟩ : ∃ B:List AV,B=[.vsl (r.map isa),.vsl (l.map na),.vsl (hs.map hoa),.vsl (ps.map ptA)]:=⟨_,rfl⟩;simp -implicitDefEqProofs[Zkx,Zky];rw[<- hB];refine Z9v (wo7 B day id d ps) (λ_=>True) ps.length ?_ trivial ?_ ?_
 . have e0:peJ day id d ps 0=[]:=Zip _ _ _;have e1:suJ day id d ps 0=0:=(by unfold suJ;rw[Zip];rfl);simp only[wo7,e0,e1,hB]
   ((try simp only[fgC,flP]);refine Ym.sub (by simp[lk,Ya,AV.keys,fgC,flP]) ?_;simp only[fgC,flP,Wkl,and_true];(try simp[lk,Yc,Ya,AV.keys,fgC,flP]))
 . intro i hi _;have sc:=Zl7 (day:=day) (id:=id) (d:=d) hi;have pc:=Zin (p:=peQ day id d) (f:=(·.lt)) hi;have e1:pkL (peQ day id d) (·.lt) ps i=peJ day id d ps i:=rfl;have e2:pkL (peQ day id d) (·.lt) ps (i+1)=peJ day id d ps (i+1):=rfl;rw[e1,e2]at pc;have hbx:=hb _ (List.getElem_mem hi);obtain ⟨x,hxe⟩ : ∃ x,x=ps[i]:=⟨_,rfl⟩;rw[<- hxe]at sc pc hbx;have hlx:ps[i]=x:=hxe.symm;obtain ⟨n,hn⟩ : ∃ n:Nat,x.lt=n:=⟨x.lt.toNat,by omega⟩;have hn9:n<9:=(by omega);have hpt:ptA x=[.int .i64 x.no,.int .i64 x.dy,.int .i64 x.ho,.int .i64 x.dw,.int .i64 n,.int .i64 x.bk,.int .u8 x.lo]:=(by rw[<- hn];rfl);rw[hn]at sc pc;have c1:=c1 x;rw[hpt]at c1;have wi:IntKind.i64.wrap ((i:Int)+1)=(i:Int)+1:=Yf (by omega) (by omega);obtain ⟨S,hS⟩ : ∃ S,S=peJ day id d ps i:=⟨_,rfl⟩;rw[<- hS]at pc;obtain ⟨T,hT⟩ : ∃ T,T=peJ day id d ps (i+1):=⟨_,rfl⟩;rw[<- hT]at pc;obtain ⟨su,hsu⟩ : ∃ su,su=suJ day id d ps i:=⟨_,rfl⟩;rw[<- hsu]at sc;obtain ⟨su',hsu'⟩ : ∃ su',su'=suJ day id d ps (i+1):=⟨_,rfl⟩;rw[<- hsu']at sc
   have no:suQ day id d x=false->peQ day id d x=false->su'=su/\T=S:=λh1 h2=>by
    rw[h1]at sc;rw[h2]at pc;exact ⟨sc,pc⟩
   refine Qga ?_;by_cases q1:x.ho=id
   case neg =>
    obtain ⟨e3,e4⟩:=no (by simp[suQ,herB,q1]) (by simp[peQ,herB,q1]);simp -implicitDefEqProofs[wo7,<- hS,<- hsu,hB,hi,hlx,hpt,q1,wi];simp only[wo7,<- hT,<- hsu',hB,e3,e4]
    ((try simp only[hpt]);refine Ym.sub (by simp[lk,Ya,AV.keys,hpt]) ?_;simp only[hpt,Wkl,Zl0,and_true];(try simp[lk,Yc,Ya,AV.keys,hpt]))
   by_cases q2:x.dw=d
   case neg =>
    obtain ⟨e3,e4⟩:=no (by simp[suQ,q2]) (by simp[peQ,q2]);simp -implicitDefEqProofs[wo7,<- hS,<- hsu,hB,hi,hlx,hpt,q1,q2,wi];simp only[wo7,<- hT,<- hsu',hB,e3,e4]
    ((try simp only[hpt,q1]);refine Ym.sub (by simp[lk,Ya,AV.keys,hpt,q1]) ?_;simp only[hpt,q1,Wkl,Zl0,and_true];(try simp[lk,Yc,Ya,AV.keys,hpt,q1]))
   rw[q1,q2]at c1
   cases q3:outB x day
   . rw[q3]at c1;obtain ⟨e3,e4⟩:=no (by simp[suQ,herB,q3]) (by simp[peQ,herB,q3]);simp -implicitDefEqProofs[wo7,<- hS,<- hsu,hB,hi,hlx,hpt,q1,q2];refine Qco (c1) (by simp) ?_;simp -implicitDefEqProofs[wi];simp only[wo7,<- hT,<- hsu',hB,e3,e4]
     ((try simp only[hpt,q1,q2]);refine Ym.sub (by simp[lk,Ya,AV.keys,hpt,q1,q2]) ?_;simp only[hpt,q1,q2,Wkl,Zl0,and_true];(try simp[lk,Yc,Ya,AV.keys,hpt,q1,q2]))
   rw[q3]at c1;by_cases q4:x.lo=0
   . have b1:suQ day id d x=true:=(by simp[suQ,herB,q1,q2,q3,q4]);have b2:peQ day id d x=false:=(by simp[peQ,q4]);rw[b1,if_pos rfl]at sc;rw[b2]at pc;have pc:T=S:=pc;simp -implicitDefEqProofs[wo7,<- hS,<- hsu,hB,hi,hlx,hpt,q1,q2];rw[q4]at c1;simp -implicitDefEqProofs[q4];refine Qco (c1) (by simp) ?_;simp -implicitDefEqProofs[hpt,q1,q2,q4,wi];simp only[wo7,<- hT,<- hsu',hB,sc,pc]
     ((try simp only[hpt,q1,q2,q4]);refine Ym.sub (by simp[lk,Ya,AV.keys,hpt,q1,q2,q4]) ?_;simp only[hpt,q1,q2,q4,Wkl,Zl0,and_true];(try simp[lk,Yc,Ya,AV.keys,hpt,q1,q2,q4]))
   . have b1:suQ day id d x=false:=(by simp[suQ,q4]);have b2:peQ day id d x=true:=(by simp[peQ,herB,q1,q2,q3,q4]);rw[b1]at sc;rw[b2,if_pos rfl]at pc;have sc:su'=su:=sc;have hpu:=ZkZ (flP S) true hn9
     have hfe:(λj=>if j=n then true else flP S j)=flP T:=by
      funext j
      rw[pc];unfold flP;by_cases c:j=n
      . subst c;simp
      . have c2:¬(j:Int)=(n:Int):=(by omega);simp[c,c2]
     rw[hfe]at hpu;simp only[Z4,List.length_singleton,List.append_assoc,List.cons_append,List.nil_append]at hpu;have n9:(n:Int)<9:=(by omega);have n8:n<=8:=(by omega);have L9:∀ f,(fgC f).length=9:=λ_=>rfl
     simp -implicitDefEqProofs[wo7,<- hS,<- hsu,hB,hi,hlx,hpt,q1,q2];refine Qco (c1) (by simp) ?_;simp -implicitDefEqProofs[hpt,q1,q2,q4,wi,n9,n8,L9,hpu];simp only[wo7,<- hT,<- hsu',hB,sc]
     ((try simp only[hpt,q1,q2]);refine Ym.sub (by simp[lk,Ya,AV.keys,hpt,q1,q2]) ?_;simp only[hpt,q1,q2,Wkl,Zl0,and_true];(try simp[lk,Yc,Ya,AV.keys,hpt,q1,q2]))
 . intro _;have hsm:=Zl8 day id d ps;have hpe:=Zl9 day id d ps;have hsu0:=(Zjq ps day id d)
   have hs8:sureM ps day id d<=8:=by
    rcases hsu0.2.2 with h | ⟨x,hx,-,h⟩
    . omega
    . rw[<- h];exact (hb x hx).2
   obtain ⟨su,hsu⟩ : ∃ su:Nat,sureM ps day id d=su:=⟨(sureM ps day id d).toNat,by have:=hsu0.1;omega⟩
   have hw:wkL ps day id d=(su:Int)::flL (su+1) (flP (perhL ps day id d)) 9:=by
    unfold wkL;rw[hsu]
    congr 1
    refine Zl4 λj hj=>?_
    have:decide ((su:Int)<(j:Int))=decide (su+1<=j):=(by rw[decide_eq_decide];omega);rw[this];rfl
   rw[hw];simp only[wo7,hsm,hpe,hsu];generalize flP (perhL ps day id d)=f at *;have ws:IntKind.i64.wrap ((su:Int)+1)=((su+1:Nat):Int):=Yf (by omega) (by omega);refine Qga ?_;simp -implicitDefEqProofs[hB];refine Qgr ?_;simp -implicitDefEqProofs[ws];refine Z9v (λk=>wq7 f su (su+1+k)) (λ_=>True) (8-su) ?_ trivial ?_ ?_
   . have e0:flL (su+1) f (su+1+0)=[]:=Zl2 (by omega);simp only[wq7,e0]
     ((try simp only[ia]);refine Ym.sub (by simp[lk,Ya,AV.keys,ia]) ?_;simp only[ia,Wkl,Zl0,and_true];(try simp[lk,Yc,Ya,AV.keys,ia]))
   . intro k hk _;have hs8:su<=8:=(by omega);have sc:=Zl1 (a:=su+1) (f:=f) (n:=su+1+k);have hle:=Zl3 (su+1) f (su+1+k);obtain ⟨m,hm⟩ : ∃ m,m=su+1+k:=⟨_,rfl⟩;have e1:su+1+(k+1)=m+1:=(by omega);rw[<- hm]at sc hle;have m9:m<9:=(by omega);have m9':(m:Int)<9:=(by omega);have m8:m<=8:=(by omega);have hat:=ZkY f m9;have wm:IntKind.i64.wrap ((m:Int)+1)=((m+1:Nat):Int):=Yf (by omega) (by omega);have hlm:su+1<=m:=(by omega);obtain ⟨S,hS⟩ : ∃ S,S=(su:Int)::flL (su+1) f m:=⟨_,rfl⟩;obtain ⟨T,hT⟩ : ∃ T,T=(su:Int)::flL (su+1) f (m+1):=⟨_,rfl⟩;have hSl:S.length<=11:=(by rw[hS];simp;omega);have bb:(S.length+1)*8<=70368744177664:=(by omega);have hw1:wq7 f su (su+1+k)=⟨[(14,.int .i64 m),(13,.osl 57 S.length),(10,.ptr 10 0)],[(57,.row 1 (S.map ia)),(10,.box (fgC f))]⟩:=(by rw[<- hm,wq7,<- hS]);have hw2:wq7 f su (su+1+(k+1))=⟨[(14,.int .i64 (m+1:Nat)),(13,.osl 57 T.length),(10,.ptr 10 0)],[(57,.row 1 (T.map ia)),(10,.box (fgC f))]⟩:=(by rw[e1,wq7,<- hT]);refine Qga ?_
     cases hf:f m
     . have e:T=S:=(by rw[hT,hS,sc,hf];simp);rw[hf]at hat;simp -implicitDefEqProofs[hw1,m9',m9,m8,hat,wm];rw[hw2,e]
       (refine Ym.sub (by simp[lk,Ya,AV.keys]) ?_;simp only[Wkl,Zl0,ZeR,and_true];(try simp[lk,Yc,Ya,AV.keys]))
     . have e:T=S++[(m:Int)]:=(by rw[hT,hS,sc,if_pos ⟨hlm,hf⟩];rfl);have em:T.map ia=S.map ia++[[.int .i64 m]]:=(by rw[e,List.map_append];rfl);have eT:T.length=S.length+1:=(by rw[e];simp);rw[hf]at hat;simp -implicitDefEqProofs[hw1,m9',m9,m8,hat,wm,bb];rw[hw2,<- em,eT]
       (refine Ym.sub (by simp[lk,Ya,AV.keys]) ?_;simp only[Wkl,Zl0,ZeR,and_true];(try simp[lk,Yc,Ya,AV.keys]))
   . intro _;have e9:su+1+(8-su)=9:=(by omega);rw[e9];simp only[wq7];have hSl:=Zl3 (su+1) f 9;refine Qga ?_;simp -implicitDefEqProofs[];refine Qgr ?_;simp -implicitDefEqProofs[ia]
end
def lsI (f:Nat->Bool) (l:List Nte) (d:Int):Nat->Int
 |0=>-1
 |i+1=>if (f i&&decide ((nAt l i).dr=d))=true then (i:Int) else lsI f l d i
theorem Zlb {f:Nat->Bool} {l:List Nte} {d:Int}:∀ i,-1<=lsI f l d i/\lsI f l d i<i
 |0=>by simp[lsI]
 | i+1=>by
   have:=Zlb (f:=f) (l:=l) (d:=d) i;rw[lsI]
   split <;> omega
theorem Zlc (s:List Int) (m:Int) (l:List Nte) (d:Int):∀ i,(byV s m l d i).lt=if 0<=lsI (fB s [] m l) l d i then (nAt l (lsI (fB s [] m l) l d i).toNat).lt else 1
 |0=>by simp[byV,lsI,zN1]
 | i + 1=>by
   rw[byV,lsI];by_cases c:(fB s [] m l i&&decide ((nAt l i).dr=d))=true
   . rw[if_pos c];simp only[Bool.and_eq_true,decide_eq_true_eq]at c;rw[if_pos ⟨c.2,c.1⟩,if_pos (by omega)];simp
   . rw[if_neg c];simp only[Bool.and_eq_true,decide_eq_true_eq]at c;rw[if_neg (λh=>c ⟨h.2,h.1⟩)];exact Zlc s m l d i
section
variable {G:Nat->Option (List AV)}
theorem Zld (r:List Iss) (l:List Nte) (f:Nat->Bool) (d:Int) (hl:l.length<=12):PC Tryz.prog G 178 [.agg [.vsl (r.map isa),.vsl (l.map na)],.vsl ((rbK f l.length 0).map ba),.int .i64 d] (.int .i64 (lsI f l d l.length)):=by
 have hat:=λi (hi:i<l.length)=>Zg3 (f:=f) (k:=0) (Nat.zero_le i) hi
 have hlen:=Zg2 (f:=f) (n:=l.length) (k:=0);generalize rbK f l.length 0=B at *
 (refine Z6l rfl λR hG hrd=>Qga ?_;subst hG)
 simp -implicitDefEqProofs[Z6j,Z6k];refine Z9v (λi=>⟨[(8,.int .i64 i),(7,.int .i64 (lsI f l d i)),(3,.ptr 3 0),(1,.vsl (B.map ba)),(2,.int .i64 d)],[(3,.box [.vsl (r.map isa),.vsl (l.map na)])]⟩) (λ_=>True) l.length ?_ trivial ?_ ?_
 . ((try simp only[lsI]);refine Ym.sub (by simp[lk,Ya,AV.keys,lsI]) ?_;simp only[lsI,Wkl,and_true];(try simp[lk,Yc,Ya,AV.keys,lsI]))
 . intro i hi _;have wi:IntKind.i64.wrap ((i:Int)+1)=(i:Int)+1:=Yf (by omega) (by omega);obtain ⟨hb,eb⟩:=List.getElem?_eq_some_iff.1 (hat i hi);have hx:=Zct hi;have sn:lsI f l d (i+1)=if (f i&&decide ((nAt l i).dr=d))=true then (i:Int) else lsI f l d i:=rfl
   rw[hx]at sn;generalize hlx:l[i]=x at *;have hnx:na x=[.int .i64 x.nu,.int .i64 x.dy,.int .u8 x.sg,.int .i64 x.dr,.int .i64 x.lt,.int .i64 x.fr,.int .i64 x.tu,.int .i64 x.ca,.bool x.up,.int .u8 x.wy]:=rfl;refine Qga ?_
   cases hf:f i
   . rw[hf]at eb sn;simp only[Bool.false_and,Bool.false_eq_true,if_false]at sn;simp -implicitDefEqProofs[hlen,hi,hb,eb,ba,wi,sn]
     (refine Ym.sub (by simp[lk,Ya,AV.keys]) ?_;simp only[Wkl,and_true];(try simp[lk,Yc,Ya,AV.keys]))
   . rw[hf]at eb sn;by_cases c:x.dr=d
     . simp only[c,decide_true,Bool.and_self,if_true]at sn;simp -implicitDefEqProofs[hlen,hi,hb,eb,ba,hlx,hnx,c,wi,sn]
       (refine Ym.sub (by simp[lk,Ya,AV.keys]) ?_;simp only[Wkl,and_true];(try simp[lk,Yc,Ya,AV.keys]))
     . simp only[c,decide_false,Bool.and_false,Bool.false_eq_true,if_false]at sn;simp -implicitDefEqProofs[hlen,hi,hb,eb,ba,hlx,hnx,c,wi,sn]
       (refine Ym.sub (by simp[lk,Ya,AV.keys]) ?_;simp only[Wkl,and_true];(try simp[lk,Yc,Ya,AV.keys]))
 . intro _;refine Qga ?_;simp -implicitDefEqProofs[hlen];refine Qgr ?_;simp -implicitDefEqProofs[]
theorem Zle (r:List Iss) (l:List Nte) (s:List Int) (m d:Int) (hl:l.length<=12):PC Tryz.prog G 145 [.agg [.vsl (r.map isa),.vsl (l.map na)],.vsl ((rbK (fB s [] m l) l.length 0).map ba),.int .i64 d] (.int .i64 (byV s m l d l.length).lt):=by
 have hb:=Zld (G:=G) r l (fB s [] m l) d hl;have hlt:=Zlb (f:=fB s [] m l) (l:=l) (d:=d) l.length;have hV:=Zlc s m l d l.length;generalize lsI (fB s [] m l) l d l.length=k at *;generalize (byV s m l d l.length).lt=V at *
 (refine Z6i rfl λR hG hrd=>Qga ?_;subst hG)
 simp -implicitDefEqProofs[Z6g,Z6h];refine Qco (hb) (by simp) ?_;by_cases c:0<=k
 . obtain ⟨n,rfl⟩:=Int.eq_ofNat_of_zero_le c;have hn:n<l.length:=(by omega);have hx:=Zct hn;rw[if_pos c]at hV;simp only[Int.ofNat_eq_natCast,Int.toNat_natCast]at hV;rw[hx]at hV;generalize hlx:l[n]=x at *;have hnx:na x=[.int .i64 x.nu,.int .i64 x.dy,.int .u8 x.sg,.int .i64 x.dr,.int .i64 x.lt,.int .i64 x.fr,.int .i64 x.tu,.int .i64 x.ca,.bool x.up,.int .u8 x.wy]:=rfl;simp -implicitDefEqProofs[c,hn,hlx,hnx,hV]
 . rw[if_neg c]at hV;simp -implicitDefEqProofs[c,hV]
end
def pfF (l:List Nte) (d m:Int) (i j:Nat):Bool:=(List.range i).any λv=>decide (ltV l d m v=(j:Int))
theorem Zlf {l:List Nte} {d m:Int} {i n:Nat} (h:ltV l d m i=(n:Int)):pfF l d m (i+1)=λj=>if j=n then true else pfF l d m i j:=by
 funext j
 unfold pfF;rw[List.range_succ,List.any_append];by_cases c:j=n
 . subst c;simp[h]
 . have c2:¬(n:Int)=(j:Int):=(by omega);simp[c,c2,h]
def p3S (r:List Iss) (l:List Nte) (d m:Int) (T:AV) (i:Nat):St:=⟨[(11,.int .i64 i),(10,T),(9,.ptr 9 0),(3,.ptr 3 0),(1,.int .i64 d),(2,.int .i64 m)],[(9,.box (fgC (pfF l d m i))),(3,.box [.vsl (r.map isa),.vsl (l.map na)])]⟩
def cgS (key t:Nat) (p b:Nat) (f:Nat->Bool) (k:Nat):St:=⟨[(p,.int .i64 k),(t,nlV key (flL 1 f k)),(b,.ptr b 0)],(b,.box (fgC f))::nlO key (flL 1 f k)⟩
section
variable {G:Nat->Option (List AV)}
theorem Zlg (r:List Iss) (l:List Nte) (d:Int) (hr:Sml r) (hne:r≠[]) (hd:Sml (nums r)):PC Tryz.prog G 144 [.agg [.vsl (r.map isa),.vsl (l.map na)],.int .i64 d] (.bool (decide (d∈nums r))):=by
 have c1:=Z9S (G:=G) r hr hne;rw[rega]at c1;have c2:=ZcI (G:=G) (nums r) d hd
 (refine Z5U rfl λR hG hrd=>Qga ?_;subst hG)
 simp -implicitDefEqProofs[Z5S,Z5T];refine Qco (c1) (by simp) ?_;simp -implicitDefEqProofs[];refine Qco (c2) (by simp) ?_;simp -implicitDefEqProofs[]
set_option maxHeartbeats 4000000 in
theorem Zlh (r:List Iss) (l:List Nte) (d m:Int) (hw:WfN l) (hr:Wf r) (hd:Sml (nums r)):PC Tryz.prog G 88 [.agg [.vsl (r.map isa),.vsl (l.map na)],.int .i64 d,.int .i64 m] (poA r l d m):=by
 have c1:=PC.sub (Zgb (G:=G) r l [] m hw hr (by simp[Sml])) (xs:=[.agg [.vsl (r.map isa),.vsl (l.map na)],.nils,.int .i64 m]) ⟨.rfl',.nils,.rfl',trivial⟩;unfold poA;by_cases h0:asN r l [] m=0
 case neg =>
  rw[if_neg (λh=>h0 h.1),if_neg h0]
  (refine Z5X rfl λR hG hrd=>Qga ?_;subst hG)
  simp -implicitDefEqProofs[Z5V,Z5W];refine Qco (c1) (by simp) ?_;simp -implicitDefEqProofs[h0]
 have hop:=Zj3 (Zg9 h0).1;have hB:=Zg8 (Zg9 h0).1;have c2:=Zlg (G:=G) r l d hr.1.1 (ZkJ hop) hd;rw[h0]at c1 ⊢;by_cases h1:d∈nums r
 case neg =>
  rw[if_neg (λh=>h1 h.2),if_pos rfl,if_neg h1];rw[decide_eq_false h1]at c2
  (refine Z5X rfl λR hG hrd=>Qga ?_;subst hG)
  simp -implicitDefEqProofs[Z5V,Z5W];refine Qco (c1) (by simp) ?_;simp -implicitDefEqProofs[];refine Qco (c2) (by simp) ?_;simp -implicitDefEqProofs[]
 rw[if_pos ⟨rfl,h1⟩,if_pos rfl,if_pos h1];rw[decide_eq_true h1]at c2;have hU:=Zgw hB;have h12:=Zga hB;have hp2:=pow5 hU;have c3:=ZgH (G:=G) r l hB;have sbl:=λv=>Zgt (opQ l) v (opQ l).length
 have hbd:=λv=>Zi7 hop hB h1 m v
 have hlv:∀ v,ltV l d m v=(byV (sbT (opQ l) v) m l d l.length).lt:=λv=>rfl
 have hff:=λv=>Zg7 (G:=G) r l false true (sbT (opQ l) v) [] m h12 (by have:=sbl v;unfold Sml sbT;omega) (by simp[Sml])
 have hll:=λv=>Zle (G:=G) r l (sbT (opQ l) v) m d h12
 have l1:∀ s,liA false s = .vsl (s.map ia):=λs=>by simp[liA]
 have l2:liA true [] = .nils:=(by simp[liA]);simp only[l1,l2]at hff;simp only[<- hlv]at hll
 have hps:posL l d m=flL 1 (pfF l d m (2 ^ (opQ l).length)) 9:=by
  unfold posL;exact Zl5 λj _ _=>rfl
 have hpn:posL l d m≠[]:=Zi2 λv=>hbd v
 obtain ⟨N,hN'⟩ : ∃ N,N=2 ^ (opQ l).length:=⟨_,rfl⟩;rw[<- hN']at hp2 hps c3;have tl:=Zgy (opQ l) N
 have tat:∀ v,v<N->(trK (opQ l) N)[v]? = some [.vsl ((sbT (opQ l) v).map ia)]:=λv hv=>by
  unfold trK;rw[List.getElem?_map,List.getElem?_range hv];rfl
 have tp:=ZgA (opQ l) N;obtain ⟨T,hT⟩ : ∃ T,T=trK (opQ l) N:=⟨_,rfl⟩;rw[<- hT]at c3 tl tat tp;refine Z5X rfl λR hG hrd=>?_
 subst hG;refine Qga ?_;simp -implicitDefEqProofs[Z5V,Z5W];refine Qco (c1) (by simp) ?_;simp -implicitDefEqProofs[];refine Qco (c2) (by simp) ?_;simp -implicitDefEqProofs[];refine Qco (c3) (by simp) ?_;simp -implicitDefEqProofs[];refine Z9v (p3S r l d m (.vsl T)) (λ_=>True) N ?_ trivial ?_ ?_
 . have e0:fgC (pfF l d m 0)=[.bool false,.bool false,.bool false,.bool false,.bool false,.bool false,.bool false,.bool false,.bool false]:=rfl;simp only[p3S,e0]
   (refine Ym.sub (by simp[lk,Ya,AV.keys]) ?_;simp only[Wkl,and_true];(try simp[lk,Yc,Ya,AV.keys]))
 . intro i hi _;have wi:IntKind.i64.wrap ((i:Int)+1)=(i:Int)+1:=Yf (by omega) (by omega);have hff:=hff i;have hll:=hll i;obtain ⟨b1,b2⟩:=hbd i;obtain ⟨n,hn⟩ : ∃ n:Nat,ltV l d m i=n:=⟨(ltV l d m i).toNat,by omega⟩;have sc:=Zlf hn;rw[hn]at hll b1 b2;have n9:n<9:=(by omega);have n9':(n:Int)<9:=(by omega);have n8:n<=8:=(by omega);have hpu:=ZkZ (pfF l d m i) true n9;rw[<- sc]at hpu;simp only[Z4,List.length_singleton,List.append_assoc,List.cons_append,List.nil_append]at hpu;have L9:∀ f,(fgC f).length=9:=λ_=>rfl
   have tat:=tat i hi;obtain ⟨g1,g2⟩:=List.getElem?_eq_some_iff.1 tat;have pR:(AV.vsl ((rbK (fB (sbT (opQ l) i) [] m l) l.length 0).map ba)).pure=true:=(by simp[AV.pure,ba]);refine Qga ?_;simp -implicitDefEqProofs[p3S,hi,tl,g2,tat];refine Ye.of hff (by simp[AV.pure,isa,na,ia]) ?_;simp -implicitDefEqProofs[];refine Ye.of hll (by simp[AV.pure,isa,na,ba]) ?_;simp -implicitDefEqProofs[n9',n9,n8,L9,hpu,wi];refine ⟨rfl,?_⟩;simp only[p3S]
   (refine Ym.sub (by simp[lk,Ya,AV.keys]) ?_;simp only[Wkl,Zl0,and_true];(try simp[lk,Yc,Ya,AV.keys]))
 . intro _;have hln:¬flL 1 (pfF l d m N) 9=[]:=(by rw[<- hps];exact hpn);rw[hps];simp only[p3S];generalize pfF l d m N=f at *;refine Qga ?_;simp -implicitDefEqProofs[tl];refine Qgr ?_;simp -implicitDefEqProofs[];refine Z9v (λk=>cgS 53 12 13 9 f (k+1)) (λ_=>True) 8 ?_ trivial ?_ ?_
   . have e0:flL 1 f 1=[]:=Zl2 (by omega);simp only[cgS,e0,nlV,nlO,if_true]
     (refine Ym.sub (by simp[lk,Ya,AV.keys]) ?_;simp only[Wkl,Zl0,and_true];(try simp[lk,Yc,Ya,AV.keys]))
   . intro k hk _;have sc:=Zl1 (a:=1) (f:=f) (n:=k+1);have hle:=Zl3 1 f (k+1);obtain ⟨m',hm⟩ : ∃ m',m'=k+1:=⟨_,rfl⟩;rw[<- hm]at sc hle;have m9:m'<9:=(by omega);have m9':(m':Int)<9:=(by omega);have m8:m'<=8:=(by omega);have m1:1<=m':=(by omega);have hat:=ZkY f m9;have wm:IntKind.i64.wrap ((m':Int)+1)=((m'+1:Nat):Int):=Yf (by omega) (by omega);obtain ⟨S,hS⟩ : ∃ S,S=flL 1 f m':=⟨_,rfl⟩;obtain ⟨T',hT'⟩ : ∃ T',T'=flL 1 f (m'+1):=⟨_,rfl⟩;rw[<- hS]at sc hle;rw[<- hT']at sc;have bb:(S.length+1)*8<=70368744177664:=(by omega);have hw1:cgS 53 12 13 9 f (k+1)=⟨[(13,.int .i64 m'),(12,nlV 53 S),(9,.ptr 9 0)],(9,.box (fgC f))::nlO 53 S⟩:=(by rw[<- hm,cgS,<- hS]);have hw2:cgS 53 12 13 9 f (k+1+1)=⟨[(13,.int .i64 (m'+1:Nat)),(12,nlV 53 T'),(9,.ptr 9 0)],(9,.box (fgC f))::nlO 53 T'⟩:=(by rw[<- hm,cgS,<- hT']);by_cases cS:S=[]
     case' pos =>
      have hV:nlV 53 S = .nils:=(by simp[nlV,cS]);have hQ:nlO 53 S=[]:=by simp[nlO,cS]
     case' neg =>
      have hV:nlV 53 S = .osl 53 S.length:=(by simp[nlV,cS]);have hQ:nlO 53 S=[(53,.row 1 (S.map ia))]:=by simp[nlO,cS]
     all_goals
      refine Qga ?_
      cases hf:f m'
      . have e:T'=S:=(by rw[sc,hf];simp);rw[hf]at hat;simp -implicitDefEqProofs[hw1,hV,hQ,m9',m9,m8,hat,wm];rw[hw2,e,hV,hQ]
        (refine Ym.sub (by simp[lk,Ya,AV.keys]) ?_;simp only[Wkl,Zl0,ZeR,and_true];(try simp[lk,Yc,Ya,AV.keys]))
      . have e:T'=S++[(m':Int)]:=(by rw[sc,if_pos ⟨m1,hf⟩]);have hne:¬T'=[]:=(by rw[e];simp);have em:T'.map ia=S.map ia++[[.int .i64 m']]:=(by rw[e,List.map_append];rfl);have eT:T'.length=S.length+1:=(by rw[e];simp);have hV2:nlV 53 T' = .osl 53 (S.length+1):=(by simp[nlV,hne,eT]);have hQ2:nlO 53 T'=[(53,.row 1 (T'.map ia))]:=(by simp[nlO,hne]);rw[hf]at hat;simp -implicitDefEqProofs[hw1,hV,hQ,m9',m9,m8,hat,wm,bb];rw[hw2,hV2,hQ2]
        first
         |(rw[em,cS];(refine Ym.sub (by simp[lk,Ya,AV.keys]) ?_;simp only[Wkl,Zl0,and_true];(try simp[lk,Yc,Ya,AV.keys]));done)
         |(rw[<- em];((try simp only[eT]);refine Ym.sub (by simp[lk,Ya,AV.keys,eT]) ?_;simp only[eT,Wkl,Zl0,ZeR,and_true];(try simp[lk,Yc,Ya,AV.keys,eT]));done)
   . intro _;obtain ⟨S,hS⟩ : ∃ S,S=flL 1 f 9:=⟨_,rfl⟩;rw[<- hS]at hln ⊢;have hV:nlV 53 S = .osl 53 S.length:=(by simp[nlV,hln]);have hQ:nlO 53 S=[(53,.row 1 (S.map ia))]:=(by simp[nlO,hln]);have e9:(8:Nat)+1=9:=rfl;refine Qga ?_;simp -implicitDefEqProofs[cgS,e9,<- hS,hV,hQ];refine Qgr ?_;simp -implicitDefEqProofs[ia]
end
section
variable {G:Nat->Option (List AV)}
end
section
variable {G:Nat->Option (List AV)}
end
open Go.ChangeShapes Go.WideShapes Go.ChangeAt Go.WideMaps Go.WideElems Go.RowKit Go.Deep
theorem own:ownKnob Tryz.prog.godebug=none:=by kernel_rfl
theorem Zlq:laidOutB Tryz.prog=true:=by kernel_rfl
theorem cF:Tryz.prog.cellsOf 262=1:=by kernel_rfl
theorem Zlr {P:Program} {G:Nat->Option (List AV)} {f:FuncId} {args:List AV} {W:World} {vs:Array Value} (h:PC P G f args (.bool true)) (hG:GR G noM W) (hs:vs.size=args.length)
  (hv:∀ (i:Nat) (x:AV) (u:Value),args[i]? = some x->vs[i]? = some u->PV noM W x u):Calls P f vs W λe W'=>e = .returned (.bool true)/\Ext W W' :=
 (h.2 noM W vs (λ_ h=>h.elim) hG hs hv).mono λe W' ⟨v,h1,h2,h3⟩=>by
  cases h2
  exact ⟨h1,h3⟩
def itK:List TY:=[.int .i64,.int .i64]
def dmK:List TY:=[.int .i64,.int .i64,.int .i64]
def isK2:List TY:=[.int .i64,.int .i64,.int .u8,.sl itK,.sl dmK]
theorem Zls {xs:List AV} (h:TVs itK xs):∃ p:Int×Int,xs=ita p:=by
 obtain ⟨x0,_,rfl,h0,h⟩:=h.cons_inv;obtain ⟨x1,_,rfl,h1,h⟩:=h.cons_inv;obtain rfl:=h.nil_inv;obtain ⟨n,rfl,-⟩:=h0.int_inv;obtain ⟨l,rfl,-⟩:=h1.int_inv;exact ⟨(n,l),rfl⟩
theorem Zlt {xs:List AV} (h:TVs dmK xs):∃ d:Dm,xs=dma d:=by
 obtain ⟨x0,_,rfl,h0,h⟩:=h.cons_inv;obtain ⟨x1,_,rfl,h1,h⟩:=h.cons_inv;obtain ⟨x2,_,rfl,h2,h⟩:=h.cons_inv;obtain rfl:=h.nil_inv;obtain ⟨n,rfl,-⟩:=h0.int_inv;obtain ⟨l,rfl,-⟩:=h1.int_inv;obtain ⟨u,rfl,-⟩:=h2.int_inv;exact ⟨⟨n,l,u⟩,rfl⟩
def KOk (x:Iss):Prop:=0<=x.k/\x.k<=255
theorem Zlu {xs:List AV} (h:TVs isK2 xs):∃ x:Iss,xs=isa x/\KOk x:=by
 obtain ⟨x0,_,rfl,h0,h⟩:=h.cons_inv;obtain ⟨x1,_,rfl,h1,h⟩:=h.cons_inv;obtain ⟨x2,_,rfl,h2,h⟩:=h.cons_inv;obtain ⟨x3,_,rfl,h3,h⟩:=h.cons_inv;obtain ⟨x4,_,rfl,h4,h⟩:=h.cons_inv;obtain rfl:=h.nil_inv;obtain ⟨n,rfl,-⟩:=h0.int_inv;obtain ⟨l,rfl,-⟩:=h1.int_inv;obtain ⟨k,rfl,hk⟩:=h2.int_inv;obtain ⟨r3,rfl,-,g3⟩:=h3.sl_inv;obtain ⟨r4,rfl,-,g4⟩:=h4.sl_inv;obtain ⟨its,rfl⟩:=Zln (f:=ita) λr hr=>Zls (g3 r hr)
 obtain ⟨dms,rfl⟩:=Zln (f:=dma) λr hr=>Zlt (g4 r hr)
 exact ⟨⟨n,l,k,its,dms⟩,rfl,bounds_u8 hk⟩
theorem Zlv {α β:Type} {f:α->β} {p:α->Prop} {rows:List β} (h:∀ r∈rows,∃ d,r=f d/\p d):∃ l:List α,rows=l.map f/\∀ x∈l,p x:=by
 induction rows with
 |nil=>exact ⟨[],rfl,by simp⟩
 | cons r rows ih =>
   obtain ⟨d,rfl,hd⟩:=h r (List.mem_cons_self ..);obtain ⟨l,rfl,hl⟩:=ih λr hr=>h r (List.mem_cons_of_mem _ hr)
   exact ⟨d::l,rfl,λx hx=>by
    rcases List.mem_cons.1 hx with rfl|hx
    . exact hd
    . exact hl x hx⟩
theorem Zlw {G:Nat->Option (List AV)} (r:List Iss):PC Tryz.prog G 125 [rega r] (.bool (Z9L r)):=by
 by_cases h1:80<r.length
 . (refine Z9p rfl λR hG hrd=>Qga ?_;subst hG)
   have h1':(80:Int)<r.length:=(by omega);simp -implicitDefEqProofs[Z9n,Z9o,rega,h1',Z9L,h1]
 . exact Z9P r (by unfold Sml;omega)
theorem Zlx {r:List Iss} (h:Z9L r=false) (hk:∀ x∈r,KOk x):Wf r:=by
 simp only[Z9L,Bool.or_eq_false_iff,decide_eq_false_iff_not,List.any_eq_false,Bool.or_eq_true,decide_eq_true_eq,not_or]at h;exact ⟨⟨by unfold Sml;omega,λx hx=>by have:=h.2 x hx;unfold Sml;omega⟩,hk⟩
def gr7 (r:List Iss) (l:List Nte) (hs:List Hld) (ps:List Prt):Bool:=Z9L r||decide (16<l.length)||decide (8<hs.length)||decide (40<ps.length)||hs.any λh=>decide (20<h.ds.length)
theorem Zly (o:List (Nat×AObj)) (l:List Hld):Yc o (.row 4 (l.map hoa))=true:=by
 simp only[Yc,List.all_eq_true,List.mem_map];rintro x ⟨y,-,rfl⟩ v hv;simp only[hoa,List.mem_cons,List.not_mem_nil,or_false]at hv;rcases hv with rfl|rfl|rfl|rfl <;> simp[Ya,AV.keys]
def hlV (k:Nat) (H:List Hld):AV:=if H=[] then .nils else .osl k H.length
def hlO (k:Nat) (H:List Hld):List (Nat×AObj):=if H=[] then [] else [(k,.row 4 (H.map hoa))]
def tw7 (B:List AV) (R L:AV) (hs:List Hld) (P:AV) (i:Nat):St :=
 ⟨[(4,.int .i64 i),(3,.ptr 3 0),(2,.ptr 2 0),(1,.ptr 1 0)],[(1,.box B),(2,.box [.nils,.nils,.nils,.nils]),(3,.box [R,L,hlV 35 (hs.take i),P])]++hlO 35 (hs.take i)⟩
section
variable {G:Nat->Option (List AV)}
theorem Zlz (r:List Iss) (l:List Nte):PC Tryz.prog G 67 [.agg [.vsl (r.map isa),.vsl (l.map na)]] (.bool (Z9L r||decide (16<l.length))):=by
 have hg:=Zlw (G:=G) r;rw[rega]at hg
 (refine Z6V rfl λR hG hrd=>Qga ?_;subst hG)
 simp -implicitDefEqProofs[Z6T,Z6U];refine Qco (hg) (by simp) ?_
 cases q:Z9L r
 . have e:decide ((16:Int)<l.length)=decide (16<l.length):=(by rw[decide_eq_decide];omega);simp -implicitDefEqProofs[e]
 . simp -implicitDefEqProofs[]
theorem ZlA (r:List Iss) (l:List Nte) (hs:List Hld) (ps:List Prt):PC Tryz.prog G 17 [prA r l hs ps] (.bool (gr7 r l hs ps)):=by
 have hg:=Zlz (G:=G) r l;unfold gr7 prA;generalize (Z9L r||decide (16<l.length))=g at *;refine ZkC rfl λR hG hrd=>?_
 subst hG;refine Qga ?_;simp -implicitDefEqProofs[ZkA,ZkB];refine Qco (hg) (by simp) ?_
 cases g
 case true=>simp -implicitDefEqProofs[]
 by_cases h8:8<hs.length
 . have h8':(8:Int)<hs.length:=(by omega);simp -implicitDefEqProofs[h8,h8']
 have h8':¬(8:Int)<hs.length:=(by omega);by_cases h40:40<ps.length
 . have h40':(40:Int)<ps.length:=(by omega);simp -implicitDefEqProofs[h8,h8',h40,h40']
 have h40':¬(40:Int)<ps.length:=(by omega);simp -implicitDefEqProofs[h8',h40'];refine Z9v (λi=>⟨[(3,.int .i64 i),(1,.ptr 1 0)],[(1,.box [.vsl (r.map isa),.vsl (l.map na),.vsl (hs.map hoa),.vsl (ps.map ptA)])]⟩) (λi=>∀ j (h:j<hs.length),j<i->¬20<hs[j].ds.length) hs.length ?_ (by simp) ?_ ?_
 . (refine Ym.sub (by simp[lk,Ya,AV.keys]) ?_;simp only[Wkl,and_true];(try simp[lk,Yc,Ya,AV.keys]))
 . intro i hi he;have wi:IntKind.i64.wrap ((i:Int)+1)=(i:Int)+1:=Yf (by omega) (by omega);refine Qga ?_;by_cases q:20<hs[i].ds.length
   . have q':(20:Int)<hs[i].ds.length:=(by omega);have e:(hs.any λh=>decide (20<h.ds.length))=true:=List.any_eq_true.2 ⟨_,List.getElem_mem hi,by simpa using q⟩;simp -implicitDefEqProofs[hi,hoa,q'];refine Qgr ?_;rw[e];simp -implicitDefEqProofs[]
   . have q':¬(20:Int)<hs[i].ds.length:=(by omega);simp -implicitDefEqProofs[hi,hoa,q',wi];refine ⟨?_,λj h1 h2=>?_⟩
     . (refine Ym.sub (by simp[lk,Ya,AV.keys]) ?_;simp only[Wkl,and_true];(try simp[lk,Yc,Ya,AV.keys]))
     . rcases Nat.lt_or_ge j i with h4|h4
       . have:=he j h1 h4;omega
       . obtain rfl:j=i:=(by omega);omega
 . intro he
   have e:(hs.any λh=>decide (20<h.ds.length))=false:=List.any_eq_false.2 λx hx=>by
    obtain ⟨j,hj,rfl⟩:=List.getElem_of_mem hx;simpa using he j hj hj
   refine Qga ?_;simp -implicitDefEqProofs[];refine Qgr ?_;simp -implicitDefEqProofs[h8,h40,e]
theorem ZlB (r:List Iss) (l:List Nte) (hs:List Hld) (ps:List Prt) (hr:SmlR r) (hl:Sml l) (hw:WfP hs ps):PC Tryz.prog G 26 [prA r l hs ps,prA r l hs ps] (.bool true):=by
 have c1:=Zgd (G:=G) r r l l hr hl;rw[decide_eq_true ⟨rfl,rfl⟩]at c1;have c2:=λh (hh:h∈hs)=>Z9C (G:=G) h.ds h.ds (by have:=hw.dl h hh;unfold Sml;omega)
 have hhl:=hw.hl;have hpl:=hw.pl;unfold prA;refine ZkF rfl λR hG hrd=>?_
 subst hG;refine Qga ?_;simp -implicitDefEqProofs[ZkD,ZkE];refine Qco (c1) (by simp) ?_;simp -implicitDefEqProofs[];refine Z9v (λi=>⟨[(5,.int .i64 i),(2,.ptr 2 0),(3,.ptr 3 0)],[(2,.box [.vsl (r.map isa),.vsl (l.map na),.vsl (hs.map hoa),.vsl (ps.map ptA)]),(3,.box [.vsl (r.map isa),.vsl (l.map na),.vsl (hs.map hoa),.vsl (ps.map ptA)])]⟩) (λ_=>True) hs.length ?_ trivial ?_ ?_
 . (refine Ym.sub (by simp[lk,Ya,AV.keys]) ?_;simp only[Wkl,and_true];(try simp[lk,Yc,Ya,AV.keys]))
 . intro i hi _;have c2:=c2 _ (List.getElem_mem hi);rw[decide_eq_true rfl]at c2;have wi:IntKind.i64.wrap ((i:Int)+1)=(i:Int)+1:=Yf (by omega) (by omega);refine Qga ?_;simp -implicitDefEqProofs[hi,hoa];refine ⟨rfl,?_⟩;refine Qco (c2) (by simp) ?_;simp -implicitDefEqProofs[wi]
   (refine Ym.sub (by simp[lk,Ya,AV.keys]) ?_;simp only[Wkl,and_true];(try simp[lk,Yc,Ya,AV.keys]))
 . intro _;refine Qga ?_;simp -implicitDefEqProofs[];refine Qgr ?_;simp -implicitDefEqProofs[];refine Z9v (λi=>⟨[(8,.int .i64 i),(2,.ptr 2 0),(3,.ptr 3 0)],[(2,.box [.vsl (r.map isa),.vsl (l.map na),.vsl (hs.map hoa),.vsl (ps.map ptA)]),(3,.box [.vsl (r.map isa),.vsl (l.map na),.vsl (hs.map hoa),.vsl (ps.map ptA)])]⟩) (λ_=>True) ps.length ?_ trivial ?_ ?_
   . (refine Ym.sub (by simp[lk,Ya,AV.keys]) ?_;simp only[Wkl,and_true];(try simp[lk,Yc,Ya,AV.keys]))
   . intro i hi _;have wi:IntKind.i64.wrap ((i:Int)+1)=(i:Int)+1:=Yf (by omega) (by omega);refine Qga ?_;simp -implicitDefEqProofs[hi,ptA,wi];refine ⟨rfl,?_⟩
     (refine Ym.sub (by simp[lk,Ya,AV.keys]) ?_;simp only[Wkl,and_true];(try simp[lk,Yc,Ya,AV.keys]))
   . intro _;refine Qga ?_;simp -implicitDefEqProofs[];refine Qgr ?_;simp -implicitDefEqProofs[]
set_option maxHeartbeats 1000000 in
theorem ZlC (r:List Iss) (l:List Nte) (hs:List Hld) (ps:List Prt) (hr:SmlR r) (hl:Sml l) (hw:WfP hs ps):PC Tryz.prog G 18 [prA r l hs ps] (prA r l hs ps):=by
 have c1:=Zge (G:=G) r l hr hl;have hhl:=hw.hl;have hpl:=hw.pl;have hdl:=hw.dl;have b2:ps.length*56<=70368744177664:=(by omega);refine PC.out (v:=.agg [.vsl (r.map isa),.vsl (l.map na),Yg (hs.map hoa),.vsl (ps.map ptA)]) ?_ (Nsub.agg ⟨.rfl',.rfl',.orNil _,.rfl',trivial⟩);obtain ⟨B,hB⟩ : ∃ B:List AV,B=[.vsl (r.map isa),.vsl (l.map na),.vsl (hs.map hoa),.vsl (ps.map ptA)]:=⟨_,rfl⟩;unfold prA;rw[<- hB];refine ZkI rfl λR hG hrd=>?_
 subst hG;refine Qga ?_;simp -implicitDefEqProofs[ZkG,ZkH,hB];refine Qco (c1) (by simp) ?_;by_cases p0:ps=[]
 case' pos =>
  simp only[p0,List.map_nil]at hB;simp -implicitDefEqProofs[p0]
 case' neg=>simp -implicitDefEqProofs[p0,b2,ptA]
 all_goals
  refine ⟨rfl,?_⟩;rw[<- hB];refine Z9v (tw7 B (.vsl (r.map isa)) (.vsl (l.map na)) hs (.vsl (ps.map ptA))) (λ_=>True) hs.length ?_ trivial ?_ ?_
  . refine Ym.trans (Ym.frz (λk=>k == 9) _) ?_;simp only[tw7,hlV,hlO,List.take_zero,if_true,hB,List.append_nil]
    ((try simp only[Yi,frzA,frzO,frz,Yh,Yj,St.get,AV.pure,p0,ptA]);refine Ym.sub (by simp[lk,Ya,AV.keys,Yi,frzA,frzO,frz,Yh,Yj,St.get,AV.pure,p0,ptA]) ?_;simp only[Yi,frzA,frzO,frz,Yh,Yj,St.get,AV.pure,p0,ptA,Wkl,and_true];(try simp[lk,Yc,Ya,AV.keys,Yi,frzA,frzO,frz,Yh,Yj,St.get,AV.pure,p0,ptA]))
  . intro i hi _;have hdi:=hdl _ (List.getElem_mem hi);obtain ⟨h,hhe⟩ : ∃ h,h=hs[i]:=⟨_,rfl⟩;rw[<- hhe]at hdi;have hlx:hs[i]=h:=hhe.symm;have hho:hoa h=[.int .i64 h.id,.int .i64 h.fr,.int .i64 h.to,.vsl (h.ds.map ia)]:=rfl;have wi:IntKind.i64.wrap ((i:Int)+1)=(i:Int)+1:=Yf (by omega) (by omega);have tk:hs.take (i+1)=hs.take i++[h]:=(by rw[List.take_succ_eq_append_getElem hi,hlx]);have tl:(hs.take i).length=i:=(by simp;omega);have bb:(i+1)*48<=70368744177664:=(by omega);have b3:h.ds.length*8<=70368744177664:=(by omega);obtain ⟨H,hH⟩ : ∃ H,H=hs.take i:=⟨_,rfl⟩;rw[<- hH]at tk tl;have em:(H++[h]).map hoa=H.map hoa++[hoa h]:=(by simp);have hne:¬H++[h]=[]:=(by simp);have hV2:hlV 35 (H++[h]) = .osl 35 (i+1):=(by unfold hlV;rw[if_neg hne];simp[tl]);have hO2:hlO 35 (H++[h])=[(35,.row 4 (H.map hoa++[hoa h]))]:=by unfold hlO;rw[if_neg hne,em]
    have pH:∀ ok st,(H.map hoa).map (λr=>r.map (frzA ok st))=H.map hoa:=λok st=>by
     rw[List.map_map]
     congr 1
     funext x;simp[hoa,frzA,frz,AV.keys]
    refine Yb mixed 15 ?_;by_cases cH:H=[]
    case' pos =>
     have hV:hlV 35 H = .nils:=(by simp[hlV,cH]);have hQ:hlO 35 H=[]:=by simp[hlO,cH]
    case' neg =>
     have hV:hlV 35 H = .osl 35 i:=(by simp[hlV,cH,tl]);have hQ:hlO 35 H=[(35,.row 4 (H.map hoa))]:=by simp[hlO,cH]
    all_goals
     by_cases d0:h.ds=[]
     case' pos=>simp -implicitDefEqProofs[tw7,<- hH,hV,hQ,hB,hi,hlx,hho,d0,wi,bb,tl]
     case' neg=>simp -implicitDefEqProofs[tw7,<- hH,hV,hQ,hB,hi,hlx,hho,d0,ia,wi,bb,b3,tl]
     all_goals
      refine GO0 (Z2M (st':=⟨[(5,.ptr 5 0),(4,.int .i64 i),(3,.ptr 3 0),(2,.ptr 2 0),(1,.ptr 1 0)],[(1,.box [.vsl (r.map isa),.vsl (l.map na),.vsl (hs.map hoa),.vsl (ps.map ptA)]),(2,.box [.nils,.nils,.nils,.nils]),(3,.box [.vsl (r.map isa),.vsl (l.map na),hlV 35 H,.vsl (ps.map ptA)]),(5,.box [.int .i64 h.id,.int .i64 h.fr,.int .i64 h.to,.vsl (h.ds.map ia)])]++hlO 35 H⟩) (Ym.trans (Ym.frz (λk=>k == 26) _) ?_) ?_)
      . simp only[hV,hQ]
        ((try simp only[Yi,frzA,frzO,frz,Yh,Yj,St.get,pH,d0,AV.pure,ia]);refine Ym.sub (by simp[lk,Ya,AV.keys,Yi,frzA,frzO,frz,Yh,Yj,St.get,pH,d0,AV.pure,ia]) ?_;simp only[Yi,frzA,frzO,frz,Yh,Yj,St.get,pH,d0,AV.pure,ia,Wkl,Zly,and_true];(try simp[lk,Yc,Ya,AV.keys,Yi,frzA,frzO,frz,Yh,Yj,St.get,pH,d0,AV.pure,ia]))
        all_goals exact p0
      . refine Qga ?_;simp -implicitDefEqProofs[hV,hQ,wi,bb,tl];refine Qgr ?_;simp -implicitDefEqProofs[wi];simp only[tw7,tk,hV2,hO2,hB,hho];rw[<- hho,<- em]
        ((try simp only[hho,p0]);refine Ym.sub (by simp[lk,Ya,AV.keys,hho,p0]) ?_;simp only[hho,p0,Wkl,Zly,and_true];(try simp[lk,Yc,Ya,AV.keys,hho,p0]))
        all_goals exact ⟨by rw[<- tl,cH];rfl,cH⟩
  . intro _;have tl:hs.take hs.length=hs:=List.take_length;refine Qga ?_;by_cases cH:hs=[]
    . have hV:hlV 35 hs = .nils:=(by simp[hlV,cH]);have hQ:hlO 35 hs=[]:=(by simp[hlO,cH]);simp -implicitDefEqProofs[tw7,tl,hV,hQ,hB];refine Qgr ?_;simp -implicitDefEqProofs[Yg,cH,p0,AV.pure,ptA]
    . have hV:hlV 35 hs = .osl 35 hs.length:=(by simp[hlV,cH]);have hQ:hlO 35 hs=[(35,.row 4 (hs.map hoa))]:=(by simp[hlO,cH]);simp -implicitDefEqProofs[tw7,tl,hV,hQ,hB];refine Qgr ?_;simp -implicitDefEqProofs[Yg,cH,hoa,p0,AV.pure,ptA]
end
theorem ZlD {r:List Iss} (hr:openV r=0) {d:Int} {y:Int} (h:(findN d y r).isSome=true):0<=y/\y<=8:=by
 obtain ⟨x,hx⟩:=Option.isSome_iff_exists.1 h;obtain ⟨h1,h2,h3⟩:=Zak hx;have h4:=Zi5 hr;simp only[Z9U,Bool.and_eq_true,List.all_eq_true]at h4;have h5:=h4.1.1.1.2 _ h1;simp only[issB,headB,Bool.and_eq_true]at h5;have h6:1<=x.l/\x.l<=8:=(by simpa [inR] using h5.1.1.1.1.2);omega
theorem ZlE {r:List Iss} {l:List Nte} {hs:List Hld} {ps:List Prt} (hp:∀ x∈ps,POk x) (h:ck7 r l hs ps=0):(∀ x∈ps,0<=x.lt/\x.lt<=8)/\∀ x∈ps,0<=x.lo/\x.lo<=2:=by
 obtain ⟨h1,h2⟩:=Zj2.1 h;have h3:=(Zic.1 h2).2.2.2;refine ⟨λx hx=>?_,λx hx=>?_⟩
 . have h4:=h3 x hx;simp only[prB,Bool.and_eq_true]at h4;exact ZlD (Zj3 h1) h4.1.2
 . have h4:=h3 x hx;simp only[prB,Bool.and_eq_true,decide_eq_true_eq]at h4;exact ⟨(hp x hx).1,h4.1.1.2⟩
theorem ZlF {r:List Iss} {l:List Nte} {hs:List Hld} {ps:List Prt} (h:gr7 r l hs ps=false) (hr:∀ x∈r,KOk x) (hl:∀ x∈l,NOk7 x) (hp:∀ x∈ps,POk x):WfN l/\Wf r/\Sml (nums r)/\WfP hs ps:=by
 simp only[gr7,Bool.or_eq_false_iff,decide_eq_false_iff_not,List.any_eq_false,decide_eq_true_eq]at h;have hw:=Zlx h.1.1.1.1 hr;exact ⟨⟨by unfold Sml;omega,hl⟩,hw,ZbQ hw.1.1,by omega,by omega,λx hx=>by have:=h.2 x hx;omega,hp⟩
def wkE (r:List Iss) (l:List Nte) (hs:List Hld) (ps:List Prt) (day id d:Int):List Int:=if ab7 r l hs ps day 1 id [d]=0 then wkL ps day id d else []
section
variable {G:Nat->Option (List AV)}
end
theorem ZlG {hs:List Hld} {id:Int} (h:0<=hoI hs id):∃ (k:Nat) (hk:k<hs.length),hoI hs id=k/\hoF hs id=some hs[k]:=by
 unfold hoI fstOf at *
 cases e:hs.findIdx? (λh=>decide (h.id=id)) with
 |none=>rw[e]at h;simp at h
 | some i =>
   obtain ⟨h1,h2,h3⟩:=List.findIdx?_eq_some_iff_getElem.1 e;exact ⟨i,h1,rfl,List.find?_eq_some_iff_getElem.2 ⟨h2,i,h1,rfl,λj hj=>by simpa using h3 j hj⟩⟩
theorem ZlH {r:List Iss} {l:List Nte} (h:Zcw r l=true) {x:Nte} (hx:x∈l):1<=x.fr/\x.fr<=999/\1<=x.tu/\x.tu<=999:=by
 obtain ⟨i,hi,rfl⟩:=List.getElem_of_mem hx;simp only[Zcw,Bool.and_eq_true,List.all_eq_true]at h;have h1:=h.1.2 i (List.mem_range.2 hi);simp only[noteB,cN3,Bool.and_eq_true,Zct hi,ZhV]at h1;have h2:=h1.1.1.1.1.1.2;omega
theorem ZlI {r:List Iss} {l:List Nte} {hs:List Hld} {ps:List Prt} (h:ck7 r l hs ps=0) {x:Hld} (hx:x∈hs):1<=x.fr/\x.fr<=x.to/\x.to<=999/\x.ds.length<=8:=by
 obtain ⟨i,hi,rfl⟩:=List.getElem_of_mem hx;have h1:=List.all_eq_true.1 (Zic.1 (Zj2.1 h).2).1.2 i (List.mem_range.2 hi);simp only[hoB,Bool.and_eq_true,Zi9 hi,ZhV,decide_eq_true_eq]at h1;omega
def ndI (l:List Nte) (hs:List Hld) (id d:Int):List Int:=match hoF hs id with
 |some h=>ndsL l h d
 |none=>[]
def mkL (l:List Nte) (h:Hld) (i:Nat):List Int:=h.fr::(l.take i).flatMap (mk1 h)
theorem ZlJ {l:List Nte} {h:Hld} {i:Nat} (hi:i<l.length):mkL l h (i+1)=mkL l h i++mk1 h l[i]:=by
 unfold mkL;rw[List.take_succ_eq_append_getElem hi,List.flatMap_append];simp
theorem ZlK {h:Hld} {x:Nte}:(mk1 h x).length<=2:=by
 unfold mk1;rw[List.length_append]
 split <;> split <;> simp
theorem ZlL {l:List Nte} {h:Hld}:∀ i,(mkL l h i).length<=1+2*i
 |0=>by simp[mkL]
 | i + 1=>by
   have:=ZlL (l:=l) (h:=h) i;by_cases hi:i<l.length
   . rw[ZlJ hi,List.length_append];have:=ZlK (h:=h) (x:=l[i]);omega
   . have e:mkL l h (i+1)=mkL l h i:=(by unfold mkL;rw[List.take_of_length_le (by omega),List.take_of_length_le (by omega)]);rw[e];omega
theorem ZlM {l:List Nte} {h:Hld}:mkL l h l.length=mks l h:=by unfold mkL mks;rw[List.take_length]
def mk7S (r:List Iss) (l:List Nte) (h:Hld) (i:Nat):St :=
 ⟨[(6,.int .i64 i),(5,.osl 11 (mkL l h i).length),(2,.ptr 2 0),(3,.ptr 3 0)],[(11,.row 1 ((mkL l h i).map ia)),(2,.box [.vsl (r.map isa),.vsl (l.map na)]),(3,.box (hoa h))]⟩
section
variable {G:Nat->Option (List AV)}
set_option maxHeartbeats 1000000 in
theorem ZlN (r:List Iss) (l:List Nte) (h:Hld) (h12:l.length<=12) (hB:∀ x∈l,1<=x.tu/\x.tu<=999):PC Tryz.prog G 139 [.agg [.vsl (r.map isa),.vsl (l.map na)],.agg (hoa h)] (.vsl ((mks l h).map ia)):=by
 have c1:=λn=>ZkK (G:=G) n h.fr h.to
 have hho:hoa h=[.int .i64 h.id,.int .i64 h.fr,.int .i64 h.to,.vsl (h.ds.map ia)]:=rfl;refine Z60 rfl λR hG hrd=>?_
 subst hG;refine Qga ?_;simp -implicitDefEqProofs[Z5Y,Z5Z,hho];refine Z9v (mk7S r l h) (λ_=>True) l.length ?_ trivial ?_ ?_
 . simp only[mk7S,mkL,List.take_zero,List.flatMap_nil,hho]
   ((try simp only[ia]);refine Ym.sub (by simp[lk,Ya,AV.keys,ia]) ?_;simp only[ia,Wkl,and_true];(try simp[lk,Yc,Ya,AV.keys,ia]))
 . intro i hi _;have wi:IntKind.i64.wrap ((i:Int)+1)=(i:Int)+1:=Yf (by omega) (by omega);have sc:=ZlJ (h:=h) hi;have hle:=ZlL (l:=l) (h:=h) i;have hBx:=hB _ (List.getElem_mem hi);obtain ⟨x,hxe⟩ : ∃ x,x=l[i]:=⟨_,rfl⟩;rw[<- hxe]at sc hBx;have hlx:l[i]=x:=hxe.symm;have hnx:na x=[.int .i64 x.nu,.int .i64 x.dy,.int .u8 x.sg,.int .i64 x.dr,.int .i64 x.lt,.int .i64 x.fr,.int .i64 x.tu,.int .i64 x.ca,.bool x.up,.int .u8 x.wy]:=rfl;have wt:IntKind.i64.wrap (x.tu+1)=x.tu+1:=Yf (by omega) (by omega);have c1:=c1 x.fr;unfold mk1 at sc;obtain ⟨S,hS⟩ : ∃ S,S=mkL l h i:=⟨_,rfl⟩;obtain ⟨T,hT⟩ : ∃ T,T=mkL l h (i+1):=⟨_,rfl⟩;rw[<- hS,<- hT]at sc;rw[<- hS]at hle;have b1:(S.length+1)*8<=70368744177664:=(by omega);have b2:(S.length+1+1)*8<=70368744177664:=by omega
   have i2:inR (x.tu+1) h.fr h.to=(decide (x.tu<h.to)&&decide (h.fr<=x.tu+1)):=by
    rw[Bool.eq_iff_iff,ZhV];simp;omega
   rw[i2]at sc;refine Qga ?_;simp -implicitDefEqProofs[mk7S,<- hS,hi,hlx,hnx,hho];refine Qco (c1) (by simp) ?_
   cases q1:inR x.fr h.fr h.to
   all_goals
    rw[q1]at sc;by_cases q2:x.tu<h.to
    case' neg =>
     have sc:T=_:=sc;simp only[q2,decide_false,Bool.false_and,Bool.false_eq_true,if_false,if_true,List.append_nil]at sc;simp -implicitDefEqProofs[hnx,hho,wi,wt,q2,b1,b2,hi,hlx];simp only[mk7S,<- hT,sc,hho]
     ((try simp only[hnx,ia]);refine Ym.sub (by simp[lk,Ya,AV.keys,hnx,ia]) ?_;simp only[hnx,ia,Wkl,ZeR,and_true];(try simp[lk,Yc,Ya,AV.keys,hnx,ia]))
    by_cases q3:h.fr<=x.tu+1
    . simp only[q2,q3,decide_true,Bool.and_self,Bool.false_eq_true,if_false,if_true,List.nil_append]at sc;simp -implicitDefEqProofs[hnx,hho,wi,wt,q2,q3,b1,b2,hi,hlx];simp only[mk7S,<- hT,sc,hho,List.map_append]
      ((try simp only[hnx,ia]);refine Ym.sub (by simp[lk,Ya,AV.keys,hnx,ia]) ?_;simp only[hnx,ia,Wkl,ZeR,and_true];(try simp[lk,Yc,Ya,AV.keys,hnx,ia]))
    . simp only[q2,q3,decide_true,decide_false,Bool.and_false,Bool.false_eq_true,if_false,if_true,List.append_nil]at sc;simp -implicitDefEqProofs[hnx,hho,wi,wt,q2,q3,b1,b2,hi,hlx];simp only[mk7S,<- hT,sc,hho,List.map_append]
      ((try simp only[hnx,ia]);refine Ym.sub (by simp[lk,Ya,AV.keys,hnx,ia]) ?_;simp only[hnx,ia,Wkl,ZeR,and_true];(try simp[lk,Yc,Ya,AV.keys,hnx,ia]))
 . intro _;refine Qga ?_;rw[<- ZlM];simp only[mk7S];generalize mkL l h l.length=S at *;simp -implicitDefEqProofs[hho];refine Qgr ?_;simp -implicitDefEqProofs[ia]
end
def ndF (l:List Nte) (d:Int) (M:List Int) (i j:Nat):Bool:=(M.take i).any λm=>(posL l d m).contains (j:Int)
def orF (f:Nat->Bool) (P:List Int) (q j:Nat):Bool:=f j||(P.take q).contains (j:Int)
theorem ZlO {f:Nat->Bool} {P:List Int} {q n:Nat} (hq:q<P.length) (hn:P[q]=(n:Int)):orF f P (q+1)=λj=>if j=n then true else orF f P q j:=by
 funext j
 unfold orF;rw[List.take_succ_eq_append_getElem hq,hn];by_cases c:j=n
 . subst c;simp
 . have c2:¬(j:Int)=(n:Int):=(by omega);simp[c,c2]
theorem ZlP {l:List Nte} {d:Int} {M:List Int} {i:Nat} (hi:i<M.length):ndF l d M (i+1)=orF (ndF l d M i) (posL l d M[i]) (posL l d M[i]).length:=by
 funext j
 unfold ndF orF;rw[List.take_succ_eq_append_getElem hi,List.any_append,List.take_length];simp
def nd7S (B H:List AV) (id d:Int) (V:AV) (f:Nat->Bool) (i:Nat):St :=
 ⟨[(10,.int .i64 i),(9,V),(7,.ptr 7 0),(3,.ptr 3 0),(8,.ptr 8 0),(1,.int .i64 id),(2,.int .i64 d)],[(7,.box (fgC f)),(3,.box B),(8,.box H)]⟩
def ne7S (B H:List AV) (id d:Int) (V P:AV) (f:Nat->Bool) (i q:Nat):St :=
 ⟨[(13,.int .i64 q),(11,P),(10,.int .i64 i),(9,V),(7,.ptr 7 0),(3,.ptr 3 0),(8,.ptr 8 0),(1,.int .i64 id),(2,.int .i64 d)],[(7,.box (fgC f)),(3,.box B),(8,.box H)]⟩
section
variable {G:Nat->Option (List AV)}
set_option maxHeartbeats 4000000 in
theorem ZlQ (r:List Iss) (l:List Nte) (hs:List Hld) (ps:List Prt) (id d:Int) (hl:WfN l) (hr:Wf r) (hd:Sml (nums r)) (hw:WfP hs ps) (h0:ck7 r l hs ps=0) (hi:0<=hoI hs id) (hdn:d∈nums r) :
  PC Tryz.prog G 81 [prA r l hs ps,.int .i64 id,.int .i64 d] (Yg ((ndI l hs id d).map ia)):=by
 have hhl:=hw.hl;have c1:=ZkM (G:=G) r l hs ps id (by unfold Sml;omega);obtain ⟨k,hk,e1,e2⟩:=ZlG hi;have eN:ndI l hs id d=ndsL l hs[k] d:=(by unfold ndI;rw[e2]);rw[eN];rw[e1]at c1;have hdl:=hw.dl _ (List.getElem_mem hk);obtain ⟨hb1,hb2,hb3,hb4⟩:=ZlI h0 (List.getElem_mem hk);obtain ⟨h,hh⟩ : ∃ h,h=hs[k]:=⟨_,rfl⟩;rw[<- hh]at hdl hb1 hb2 hb3 hb4 ⊢;have hlk:hs[k]=h:=hh.symm;have hop:=Zj3 (Zj2.1 h0).1;have hB:=Zg8 (Zj2.1 h0).1;have h12:=Zga hB;have c2:=ZkL (G:=G) h.ds d (by unfold Sml;omega);have c3:=ZlN (G:=G) r l h h12 λx hx=>by have:=ZlH hB hx;omega
 have c4:=λm=>Zlh (G:=G) r l d m hl hr hd
 have as0:∀ m∈mks l h,asN r l [] m=0:=λm hm=>by
  obtain ⟨q1,q2⟩:=Zi1 hb2 hm;unfold asN;rw[if_pos (Zj2.1 h0).1,if_pos (by simp[truB]),if_pos (ZhV.2 ⟨by omega,by omega⟩)]
 have hpb:∀ m,∀ c∈posL l d m,1<=c/\c<=8:=λm c hc=>(ZhZ.1 hc).1
 have hpl:∀ m,(posL l d m).length<=8:=λm=>by
  unfold posL;exact Nat.le_trans (List.length_filter_le ..) (Nat.le_refl _)
 have hml:=ZlL (l:=l) (h:=h) l.length;rw[ZlM]at hml
 have hnd:ndsL l h d=if d∈h.ds then flL 1 (ndF l d (mks l h) (mks l h).length) 9 else []:=by
  unfold ndsL;by_cases c:d∈h.ds
  . rw[if_pos (by simpa using c),if_pos c];refine Zl5 λj _ _=>?_
    unfold ndF;rw[List.take_length]
  . rw[if_neg (by simpa using c),if_neg c]
 have hho:hoa h=[.int .i64 h.id,.int .i64 h.fr,.int .i64 h.to,.vsl (h.ds.map ia)]:=rfl;have L9:∀ f,(fgC f).length=9:=λ_=>rfl
 obtain ⟨B,hB'⟩ : ∃ B:List AV,B=[.vsl (r.map isa),.vsl (l.map na),.vsl (hs.map hoa),.vsl (ps.map ptA)]:=⟨_,rfl⟩;unfold prA at *;have eF:fgC (λ_=>false)=[.bool false,.bool false,.bool false,.bool false,.bool false,.bool false,.bool false,.bool false,.bool false]:=rfl;refine Z63 rfl λR hG hrd=>?_
 subst hG;refine Qga ?_;simp -implicitDefEqProofs[Z61,Z62];refine Ye.of c1 (by simp[AV.pure,isa,na,hoa,ptA]) ?_;simp -implicitDefEqProofs[hk,hlk,hho];refine ⟨rfl,?_⟩;refine Qco (c2) (by simp) ?_;by_cases c:d∈h.ds
 case' neg =>
  rw[hnd,if_neg c];obtain ⟨f,hf⟩ : ∃ f:Nat->Bool,f=λ_=>false:=⟨_,rfl⟩
  have hfin:([]:List Int)=flL 1 f 9:=(by rw[hf];rfl);rw[hfin];clear hfin;simp -implicitDefEqProofs[c];have h7:[AV.bool false,.bool false,.bool false,.bool false,.bool false,.bool false,.bool false,.bool false,.bool false]=fgC f:=(by rw[hf,eF]);rw[h7]
 case' pos =>
  rw[hnd,if_pos c];rw[hho]at c3;simp -implicitDefEqProofs[c];refine Qco (c3) (by simp) ?_;simp -implicitDefEqProofs[];obtain ⟨M,hM⟩ : ∃ M,M=mks l h:=⟨_,rfl⟩;rw[<- hM]at as0 hml ⊢;rw[<- hB',<- hho];refine Z9v (λi=>nd7S B (hoa h) id d (.vsl (M.map ia)) (ndF l d M i) i) (λ_=>True) M.length ?wk trivial ?round ?done
  case wk =>
   have e0:fgC (ndF l d M 0)=[.bool false,.bool false,.bool false,.bool false,.bool false,.bool false,.bool false,.bool false,.bool false]:=rfl;simp only[nd7S,e0]
   ((try simp only[hB',hho,ia]);refine Ym.sub (by simp[lk,Ya,AV.keys,hB',hho,ia]) ?_;simp only[hB',hho,ia,Wkl,and_true];(try simp[lk,Yc,Ya,AV.keys,hB',hho,ia]))
  case round =>
   intro i hi _;have wi:IntKind.i64.wrap ((i:Int)+1)=(i:Int)+1:=Yf (by omega) (by omega);have sc:=ZlP (l:=l) (d:=d) hi;obtain ⟨m,hm⟩ : ∃ m,m=M[i]:=⟨_,rfl⟩;have c4:=c4 m;have hs0:=as0 m (by rw[hm];exact List.getElem_mem hi);unfold poA at c4;rw[if_pos ⟨hs0,hdn⟩,if_pos hs0,if_pos hdn]at c4;rw[<- hm]at sc;have hlm:M[i]=m:=hm.symm;have hpb:=hpb m;have hpl:=hpl m;generalize posL l d m=P at *;generalize ndF l d M i=f at *;obtain ⟨g,hg⟩ : ∃ g,g=ndF l d M (i+1):=⟨_,rfl⟩;rw[<- hg]at sc;refine Qga ?_;simp -implicitDefEqProofs[nd7S,hi,hlm,ia,hB'];refine Ye.of c4 (by simp[AV.pure,isa,na]) ?_;simp -implicitDefEqProofs[];refine ⟨rfl,?_⟩;rw[<- hB'];refine Z9v (λq=>ne7S B (hoa h) id d (.vsl (M.map ia)) (.vsl (P.map ia)) (orF f P q) i q) (λ_=>True) P.length ?wk2 trivial ?round2 ?done2
   case wk2 =>
    have e0:orF f P 0=f:=(by funext j;simp[orF]);simp only[ne7S,e0]
    ((try simp only[hB',hho,ia]);refine Ym.sub (by simp[lk,Ya,AV.keys,hB',hho,ia]) ?_;simp only[hB',hho,ia,Wkl,Zl0,and_true];(try simp[lk,Yc,Ya,AV.keys,hB',hho,ia]))
   case round2 =>
    intro q hq _;have wq:IntKind.i64.wrap ((q:Int)+1)=(q:Int)+1:=Yf (by omega) (by omega);obtain ⟨b1,b2⟩:=hpb _ (List.getElem_mem hq);obtain ⟨n,hn⟩ : ∃ n:Nat,P[q]=(n:Int):=⟨P[q].toNat,by omega⟩;have so:=ZlO (f:=f) hq hn;rw[hn]at b1 b2;have n9:n<9:=(by omega);have n9':(n:Int)<9:=(by omega);have n8:n<=8:=(by omega);have hpu:=ZkZ (orF f P q) true n9;rw[<- so]at hpu;simp only[Z4,List.length_singleton,List.append_assoc,List.cons_append,List.nil_append]at hpu;refine Qga ?_;simp -implicitDefEqProofs[ne7S,hq,hn,ia,n9',n9,n8,L9,hpu,wq]
    ((try simp only[hB',hho,ia]);refine Ym.sub (by simp[lk,Ya,AV.keys,hB',hho,ia]) ?_;simp only[hB',hho,ia,Wkl,Zl0,and_true];(try simp[lk,Yc,Ya,AV.keys,hB',hho,ia]))
   case done2 =>
    intro _;rw[<- sc];refine Qga ?_;simp -implicitDefEqProofs[ne7S];refine Qgr ?_;simp -implicitDefEqProofs[wi]
    try simp only[nd7S]
    rw[hg]
    ((try simp only[hB',hho,ia]);refine Ym.sub (by simp[lk,Ya,AV.keys,hB',hho,ia]) ?_;simp only[hB',hho,ia,Wkl,Zl0,and_true];(try simp[lk,Yc,Ya,AV.keys,hB',hho,ia]))
  intro _;obtain ⟨f,hf⟩ : ∃ f,f=ndF l d M M.length:=⟨_,rfl⟩;simp only[nd7S];rw[<- hf];refine Qga ?_;simp -implicitDefEqProofs[];refine Qgr ?_;simp -implicitDefEqProofs[]
 all_goals
  clear hf;refine Z9v (λk=>cgS 69 14 15 7 f (k+1)) (λ_=>True) 8 ?_ trivial ?_ ?_
  . have e0:flL 1 f 1=[]:=Zl2 (by omega);simp only[cgS,e0,nlV,nlO,if_true]
    (refine Ym.sub (by simp[lk,Ya,AV.keys]) ?_;simp only[Wkl,Zl0,and_true];(try simp[lk,Yc,Ya,AV.keys]))
  . intro k' hk' _;have sc:=Zl1 (a:=1) (f:=f) (n:=k'+1);have hle:=Zl3 1 f (k'+1);obtain ⟨m',hm⟩ : ∃ m',m'=k'+1:=⟨_,rfl⟩;rw[<- hm]at sc hle;have m9:m'<9:=(by omega);have m9':(m':Int)<9:=(by omega);have m8:m'<=8:=(by omega);have m1:1<=m':=(by omega);have hat:=ZkY f m9;have wm:IntKind.i64.wrap ((m':Int)+1)=((m'+1:Nat):Int):=Yf (by omega) (by omega);obtain ⟨S,hS⟩ : ∃ S,S=flL 1 f m':=⟨_,rfl⟩;obtain ⟨T',hT'⟩ : ∃ T',T'=flL 1 f (m'+1):=⟨_,rfl⟩;rw[<- hS]at sc hle;rw[<- hT']at sc;have bb:(S.length+1)*8<=70368744177664:=(by omega);have hw1:cgS 69 14 15 7 f (k'+1)=⟨[(15,.int .i64 m'),(14,nlV 69 S),(7,.ptr 7 0)],(7,.box (fgC f))::nlO 69 S⟩:=(by rw[<- hm,cgS,<- hS]);have hw2:cgS 69 14 15 7 f (k'+1+1)=⟨[(15,.int .i64 (m'+1:Nat)),(14,nlV 69 T'),(7,.ptr 7 0)],(7,.box (fgC f))::nlO 69 T'⟩:=(by rw[<- hm,cgS,<- hT']);by_cases cS:S=[]
    case' pos =>
     have hV:nlV 69 S = .nils:=(by simp[nlV,cS]);have hQ:nlO 69 S=[]:=by simp[nlO,cS]
    case' neg =>
     have hV:nlV 69 S = .osl 69 S.length:=(by simp[nlV,cS]);have hQ:nlO 69 S=[(69,.row 1 (S.map ia))]:=by simp[nlO,cS]
    all_goals
     refine Qga ?_
     cases hf:f m'
     . have e:T'=S:=(by rw[sc,hf];simp);rw[hf]at hat;simp -implicitDefEqProofs[hw1,hV,hQ,m9',m9,m8,hat,wm];rw[hw2,e,hV,hQ]
       (refine Ym.sub (by simp[lk,Ya,AV.keys]) ?_;simp only[Wkl,Zl0,ZeR,and_true];(try simp[lk,Yc,Ya,AV.keys]))
     . have e:T'=S++[(m':Int)]:=(by rw[sc,if_pos ⟨m1,hf⟩]);have hne:¬T'=[]:=(by rw[e];simp);have em:T'.map ia=S.map ia++[[.int .i64 m']]:=(by rw[e,List.map_append];rfl);have eT:T'.length=S.length+1:=(by rw[e];simp);have hV2:nlV 69 T' = .osl 69 (S.length+1):=(by simp[nlV,hne,eT]);have hQ2:nlO 69 T'=[(69,.row 1 (T'.map ia))]:=(by simp[nlO,hne]);rw[hf]at hat;simp -implicitDefEqProofs[hw1,hV,hQ,m9',m9,m8,hat,wm,bb];rw[hw2,hV2,hQ2]
       first
        |(rw[em,cS];(refine Ym.sub (by simp[lk,Ya,AV.keys]) ?_;simp only[Wkl,Zl0,and_true];(try simp[lk,Yc,Ya,AV.keys]));done)
        |(rw[<- em];((try simp only[eT]);refine Ym.sub (by simp[lk,Ya,AV.keys,eT]) ?_;simp only[eT,Wkl,Zl0,ZeR,and_true];(try simp[lk,Yc,Ya,AV.keys,eT]));done)
  . intro _;obtain ⟨S,hS⟩ : ∃ S,S=flL 1 f 9:=⟨_,rfl⟩;have hw1:cgS 69 14 15 7 f (8+1)=⟨[(15,.int .i64 (9:Nat)),(14,nlV 69 S),(7,.ptr 7 0)],(7,.box (fgC f))::nlO 69 S⟩:=(by rw[cgS,<- hS]);rw[<- hS];refine Qga ?_;by_cases cS:S=[]
    . have hV:nlV 69 S = .nils:=(by simp[nlV,cS]);have hQ:nlO 69 S=[]:=(by simp[nlO,cS]);simp -implicitDefEqProofs[hw1,hV,hQ];refine Qgr ?_;simp -implicitDefEqProofs[Yg,cS]
    . have hV:nlV 69 S = .osl 69 S.length:=(by simp[nlV,cS]);have hQ:nlO 69 S=[(69,.row 1 (S.map ia))]:=(by simp[nlO,cS]);simp -implicitDefEqProofs[hw1,hV,hQ];refine Qgr ?_;simp -implicitDefEqProofs[Yg,cS,ia]
end
def cmk (h:Hld) (x:Nte) (q:Nat):List Int:=([x.fr,x.tu+1].take q).filter λc=>inR c h.fr h.to
theorem ZlR {h:Hld} {x:Nte}:cmk h x 2=mk1 h x:=by
 unfold cmk mk1
 cases h1:inR x.fr h.fr h.to <;> cases h2:inR (x.tu+1) h.fr h.to <;> simp[h1,h2]
def npS (O:AV) (id d:Int) (l:List Nte) (h:Hld) (i:Nat):St :=
 ⟨[(43,.int .i64 i),(42,.int .i64 l.length),(41,.vsl (l.map na)),(8,.osl 35 (mkL l h i).length),(0,O),(1,.int .i64 id),(2,.int .i64 d),(7,.ptr 7 0)],[(35,.row 1 ((mkL l h i).map ia)),(7,.box (hoa h))]⟩
def npI (O:AV) (id d:Int) (l:List Nte) (h:Hld) (x:Nte) (S:List Int) (i q:Nat):St :=
 ⟨[(54,.int .i64 q),(53,.int .i64 2),(52,.vsl ([x.fr,x.tu+1].map ia)),(43,.int .i64 i),(42,.int .i64 l.length),(41,.vsl (l.map na)),(8,.osl 35 (S++cmk h x q).length),(0,O),(1,.int .i64 id),(2,.int .i64 d),(7,.ptr 7 0)],[(35,.row 1 ((S++cmk h x q).map ia)),(7,.box (hoa h))]⟩
def psU (l:List Nte) (d:Int) (M:List Int) (k:Nat):List Int:=(M.take k).flatMap λm=>posL l d m
theorem ZlS {l:List Nte} {d:Int} {M:List Int} {k:Nat} (hk:k<M.length):psU l d M (k+1)=psU l d M k++posL l d M[k]:=by
 unfold psU;rw[List.take_succ_eq_append_getElem hk,List.flatMap_append];simp
theorem ZlT {l:List Nte} {d m:Int}:(posL l d m).length<=8:=by
 unfold posL;exact Nat.le_trans (List.length_filter_le ..) (Nat.le_refl _)
theorem ZlU {l:List Nte} {d:Int} {M:List Int}:∀ k,(psU l d M k).length<=8*k
 |0=>by simp[psU]
 | k + 1=>by
   have:=ZlU (l:=l) (d:=d) (M:=M) k;by_cases hk:k<M.length
   . rw[ZlS hk,List.length_append];have:=ZlT (l:=l) (d:=d) (m:=M[k]);omega
   . have e:psU l d M (k+1)=psU l d M k:=(by unfold psU;rw[List.take_of_length_le (by omega),List.take_of_length_le (by omega)]);rw[e];omega
def nqS (O:AV) (d:Int) (l:List Nte) (M:List Int) (k:Nat):St :=
 ⟨[(73,.int .i64 k),(72,.int .i64 M.length),(71,.vsl (M.map ia)),(13,nlV 90 (psU l d M k)),(0,O),(2,.int .i64 d)],nlO 90 (psU l d M k)⟩
section
variable {G:Nat->Option (List AV)}
set_option maxHeartbeats 4000000 in
theorem ZlV (hG:GC G) (hN:GN G) (r:List Iss) (l:List Nte) (hs:List Hld) (ps:List Prt) (id d:Int) (hl:WfN l) (hr:Wf r) (hd:Sml (nums r)) (hw:WfP hs ps) (h0:ck7 r l hs ps=0) (hi:0<=hoI hs id) (hdn:d∈nums r) :
  PC Tryz.prog G 80 [ofA r l hs ps,.int .i64 id,.int .i64 d] (Yg ((ndI l hs id d).map ia)):=by
 have hhl:=hw.hl;have c1:=Ziz (G:=G) r l hs ps id (by unfold Sml;omega);obtain ⟨k,hk,e1,e2⟩:=ZlG hi;have eN:ndI l hs id d=ndsL l hs[k] d:=(by unfold ndI;rw[e2]);rw[eN];rw[e1]at c1;have hdl:=hw.dl _ (List.getElem_mem hk);obtain ⟨hb1,hb2,hb3,hb4⟩:=ZlI h0 (List.getElem_mem hk);obtain ⟨h,hh⟩ : ∃ h,h=hs[k]:=⟨_,rfl⟩;rw[<- hh]at hdl hb1 hb2 hb3 hb4 ⊢;have hlk:hs[k]=h:=hh.symm;have hop:=Zj3 (Zj2.1 h0).1;have hB:=Zg8 (Zj2.1 h0).1;have h12:=Zga hB;have c2:=Zfc (G:=G) h.ds d (by unfold Sml;omega);have c3:=λc=>Zit (G:=G) h.fr h.to c
 have c4:=λm=>ZjZ hG hN r l d m hl hr hd
 have as0:∀ m∈mks l h,asN r l [] m=0:=λm hm=>by
  obtain ⟨q1,q2⟩:=Zi1 hb2 hm;unfold asN;rw[if_pos (Zj2.1 h0).1,if_pos (by simp[truB]),if_pos (ZhV.2 ⟨by omega,by omega⟩)]
 have hpn:∀ m,posL l d m≠[]:=λm=>Zi2 λv=>Zi7 hop hB hdn m v
 have hml:=ZlL (l:=l) (h:=h) l.length;rw[ZlM]at hml;have hho:hoa h=[.int .i64 h.id,.int .i64 h.fr,.int .i64 h.to,.vsl (h.ds.map ia)]:=rfl;have pO:=Zie r l hs ps;have kO:=Zif r l hs ps;have eO:ofA r l hs ps = .vptr [.vsl (r.map isa),.vsl (l.map na),.vsl (hs.map hoa),.vsl (ps.map ptA),.vsl ((nums r).map ia)] 0:=rfl;have hr2:List.range 2=[0,1]:=rfl;have fO:∀ ok st,frz ok st 6 (ofA r l hs ps)=some (ofA r l hs ps):=λok st=>by unfold ofA;simp[frz,AV.keys]
 obtain ⟨O,hO⟩ : ∃ O,O=ofA r l hs ps:=⟨_,rfl⟩;rw[<- hO]at pO kO eO fO c1 ⊢;clear hO;refine Z69 rfl λR hG' hrd=>?_
 subst hG';refine Qga ?_;simp -implicitDefEqProofs[Z67,Z68,eO];rw[<- eO];refine Ye.of c1 (by simp[pO,AV.pure]) ?_;simp -implicitDefEqProofs[hk,hlk,hho];refine ⟨rfl,?_⟩;refine Qco (c2) (by simp) ?_;by_cases c:d∈h.ds
 case neg =>
  have e:ndsL l h d=[]:=(by unfold ndsL;rw[if_neg (by simpa using c)]);rw[e];simp -implicitDefEqProofs[c,Yg]
 have hset:=Zi4 (l:=l) (h:=h) (d:=d) (by simpa using c);have hnn:ndsL l h d≠[]:=Zi8 hop hB hdn c;simp -implicitDefEqProofs[c,eO];rw[<- eO];refine Z9v (npS O id d l h) (λ_=>True) l.length ?_ trivial ?_ ?_
 . simp only[npS,mkL,List.take_zero,List.flatMap_nil,hho]
   ((try simp only[ia,kO]);refine Ym.sub (by simp[lk,Ya,AV.keys,ia,kO]) ?_;simp only[ia,kO,Wkl,and_true];(try simp[lk,Yc,Ya,AV.keys,ia,kO]))
 . intro i hi _;have wi:IntKind.i64.wrap ((i:Int)+1)=(i:Int)+1:=Yf (by omega) (by omega);have sc:=ZlJ (h:=h) hi;have hle:=ZlL (l:=l) (h:=h) i;have hBx:=ZlH hB (List.getElem_mem hi);obtain ⟨x,hxe⟩ : ∃ x,x=l[i]:=⟨_,rfl⟩;rw[<- hxe]at sc hBx;have hlx:l[i]=x:=hxe.symm;have hnx:na x=[.int .i64 x.nu,.int .i64 x.dy,.int .u8 x.sg,.int .i64 x.dr,.int .i64 x.lt,.int .i64 x.fr,.int .i64 x.tu,.int .i64 x.ca,.bool x.up,.int .u8 x.wy]:=rfl;have wt:IntKind.i64.wrap (x.tu+1)=x.tu+1:=Yf (by omega) (by omega);rw[<- ZlR]at sc;obtain ⟨S,hS⟩ : ∃ S,S=mkL l h i:=⟨_,rfl⟩;obtain ⟨T,hT⟩ : ∃ T,T=mkL l h (i+1):=⟨_,rfl⟩;rw[<- hS,<- hT]at sc;rw[<- hS]at hle;refine Qga ?_;simp -implicitDefEqProofs[npS,<- hS,hi,hlx,hnx,wt];refine Z9v (npI O id d l h x S i) (λ_=>True) 2 ?_ trivial ?_ ?_
   . simp only[npI,cmk,List.take_zero,List.filter_nil,List.append_nil]
     ((try simp only[ia,hho,kO,hr2]);refine Ym.sub (by simp[lk,Ya,AV.keys,ia,hho,kO,hr2]) ?_;simp only[ia,hho,kO,hr2,Wkl,ZeR,and_true];(try simp[lk,Yc,Ya,AV.keys,ia,hho,kO,hr2]))
   . intro q hq _;have wq:IntKind.i64.wrap ((q:Int)+1)=(q:Int)+1:=Yf (by omega) (by omega);have hql:q<[x.fr,x.tu+1].length:=hq
     have sq:cmk h x (q+1)=if inR ([x.fr,x.tu+1][q]) h.fr h.to=true then cmk h x q++[[x.fr,x.tu+1][q]] else cmk h x q:=by
      unfold cmk;rw[List.take_succ_eq_append_getElem hql,List.filter_append]
      cases e:inR ([x.fr,x.tu+1][q]) h.fr h.to <;> simp[List.filter_cons,e]
     have hgq:([x.fr,x.tu+1].map ia)[q]? = some [.int .i64 ([x.fr,x.tu+1][q])]:=by
      rw[List.getElem?_map,List.getElem?_eq_getElem hql];rfl
     have hlc:(cmk h x q).length<=2:=by
      unfold cmk;exact Nat.le_trans (List.length_filter_le ..) (by simp;omega)
     obtain ⟨cc,hcc⟩ : ∃ cc,cc=[x.fr,x.tu+1][q]:=⟨_,rfl⟩;rw[<- hcc]at sq hgq;have c3:=c3 cc;obtain ⟨C,hC⟩ : ∃ C,C=[x.fr,x.tu+1].map ia:=⟨_,rfl⟩;rw[<- hC]at hgq;have hCl:C.length=2:=(by rw[hC];rfl);obtain ⟨g1,g2⟩:=List.getElem?_eq_some_iff.1 hgq;obtain ⟨S1,hS1⟩ : ∃ S1,S1=S++cmk h x q:=⟨_,rfl⟩;obtain ⟨T1,hT1⟩ : ∃ T1,T1=S++cmk h x (q+1):=⟨_,rfl⟩;have hl1:S1.length<=100:=(by rw[hS1,List.length_append];omega);have bb:(S1.length+1)*8<=70368744177664:=(by omega);have hw1:npI O id d l h x S i q=⟨[(54,.int .i64 q),(53,.int .i64 2),(52,.vsl C),(43,.int .i64 i),(42,.int .i64 l.length),(41,.vsl (l.map na)),(8,.osl 35 S1.length),(0,O),(1,.int .i64 id),(2,.int .i64 d),(7,.ptr 7 0)],[(35,.row 1 (S1.map ia)),(7,.box (hoa h))]⟩:=(by rw[npI,<- hC,<- hS1]);have hw2:npI O id d l h x S i (q+1)=⟨[(54,.int .i64 (q+1:Nat)),(53,.int .i64 2),(52,.vsl C),(43,.int .i64 i),(42,.int .i64 l.length),(41,.vsl (l.map na)),(8,.osl 35 T1.length),(0,O),(1,.int .i64 id),(2,.int .i64 d),(7,.ptr 7 0)],[(35,.row 1 (T1.map ia)),(7,.box (hoa h))]⟩:=(by rw[npI,<- hC,<- hT1]);have q2':(q:Int)<2:=(by omega);refine Qga ?_;simp -implicitDefEqProofs[hw1,hho,q2',hCl,hq,g2,hgq];refine Qco (c3) (by simp) ?_
     cases hin:inR cc h.fr h.to
     . rw[hin]at sq;have e:T1=S1:=(by rw[hT1,hS1,sq];simp);simp -implicitDefEqProofs[wq];rw[hw2,e]
       ((try simp only[hho,kO]);refine Ym.sub (by simp[lk,Ya,AV.keys,hho,kO]) ?_;simp only[hho,kO,Wkl,ZeR,and_true];(try simp[lk,Yc,Ya,AV.keys,hho,kO]))
     . rw[hin,if_pos rfl]at sq;have e:T1=S1++[cc]:=(by rw[hT1,hS1,sq,List.append_assoc]);have em:T1.map ia=S1.map ia++[[.int .i64 cc]]:=(by rw[e,List.map_append];rfl);have eT:T1.length=S1.length+1:=(by rw[e];simp);simp -implicitDefEqProofs[wq,bb];rw[hw2,<- em,eT]
       ((try simp only[hho,kO]);refine Ym.sub (by simp[lk,Ya,AV.keys,hho,kO]) ?_;simp only[hho,kO,Wkl,ZeR,and_true];(try simp[lk,Yc,Ya,AV.keys,hho,kO]))
   . intro _;refine Qga ?_;simp -implicitDefEqProofs[npI];refine Qgr ?_;simp -implicitDefEqProofs[wi];have em:T.map ia=S.map ia++(cmk h x 2).map ia:=(by rw[sc,List.map_append]);have eT:T.length=S.length+(cmk h x 2).length:=(by rw[sc,List.length_append]);simp only[npS,<- hT];rw[<- em,<- eT]
     ((try simp only[hho,kO]);refine Ym.sub (by simp[lk,Ya,AV.keys,hho,kO]) ?_;simp only[hho,kO,Wkl,ZeR,and_true];(try simp[lk,Yc,Ya,AV.keys,hho,kO]))
 . intro _;rw[<- hset]at hnn ⊢;simp only[npS,ZlM];obtain ⟨M,hM⟩ : ∃ M,M=mks l h:=⟨_,rfl⟩;rw[<- hM]at as0 hml hnn ⊢;have e3:M.flatMap (λm=>posL l d m)=psU l d M M.length:=(by unfold psU;rw[List.take_length]);rw[e3]at hnn ⊢;refine Qga ?_;simp -implicitDefEqProofs[];refine Qgr ?_;simp -implicitDefEqProofs[];refine Z9v (nqS O d l M) (λ_=>True) M.length ?_ trivial ?_ ?_
   . have e0:psU l d M 0=[]:=rfl;refine Ym.trans (Ym.frz (λk=>k == 35) _) ?_;simp only[nqS,e0,nlV,nlO,if_true]
     ((try simp only[Yi,frzA,frzO,frz,Yh,Yj,St.get,AV.pure,ia,kO,hho,fO]);refine Ym.sub (by simp[lk,Ya,AV.keys,Yi,frzA,frzO,frz,Yh,Yj,St.get,AV.pure,ia,kO,hho,fO]) ?_;simp only[Yi,frzA,frzO,frz,Yh,Yj,St.get,AV.pure,ia,kO,hho,fO,Wkl,and_true];(try simp[lk,Yc,Ya,AV.keys,Yi,frzA,frzO,frz,Yh,Yj,St.get,AV.pure,ia,kO,hho,fO]))
   . intro q hq _;have wq:IntKind.i64.wrap ((q:Int)+1)=(q:Int)+1:=Yf (by omega) (by omega);have sc:=ZlS (l:=l) (d:=d) hq;have hle:=ZlU (l:=l) (d:=d) (M:=M) q;obtain ⟨m,hm⟩ : ∃ m,m=M[q]:=⟨_,rfl⟩;have c4:=c4 m;have hs0:=as0 m (by rw[hm];exact List.getElem_mem hq);unfold poA at c4;rw[if_pos ⟨hs0,hdn⟩,if_pos hs0,if_pos hdn]at c4;rw[<- hm]at sc;have hlm:M[q]=m:=hm.symm;have hpn:=hpn m;have hpl:=ZlT (l:=l) (d:=d) (m:=m);generalize posL l d m=P at *;obtain ⟨S,hS⟩ : ∃ S,S=psU l d M q:=⟨_,rfl⟩;obtain ⟨T,hT⟩ : ∃ T,T=psU l d M (q+1):=⟨_,rfl⟩;rw[<- hS]at sc hle;rw[<- hT]at sc;have hw1:nqS O d l M q=⟨[(73,.int .i64 q),(72,.int .i64 M.length),(71,.vsl (M.map ia)),(13,nlV 90 S),(0,O),(2,.int .i64 d)],nlO 90 S⟩:=(by rw[nqS,<- hS]);have hw2:nqS O d l M (q+1)=⟨[(73,.int .i64 (q+1:Nat)),(72,.int .i64 M.length),(71,.vsl (M.map ia)),(13,nlV 90 T),(0,O),(2,.int .i64 d)],nlO 90 T⟩:=(by rw[nqS,<- hT]);have bb:(S.length+P.length)*8<=70368744177664:=(by omega);have bb2:P.length*8<=70368744177664:=(by omega);have hne:¬T=[]:=(by rw[sc];simp[hpn]);have em:T.map ia=S.map ia++P.map ia:=(by rw[sc,List.map_append]);have eT:T.length=S.length+P.length:=(by rw[sc,List.length_append]);have hV2:nlV 90 T = .osl 90 T.length:=(by simp[nlV,hne]);have hQ2:nlO 90 T=[(90,.row 1 (T.map ia))]:=(by simp[nlO,hne]);by_cases cS:S=[]
     case' pos =>
      have hV:nlV 90 S = .nils:=(by simp[nlV,cS]);have hQ:nlO 90 S=[]:=by simp[nlO,cS]
     case' neg =>
      have hV:nlV 90 S = .osl 90 S.length:=(by simp[nlV,cS]);have hQ:nlO 90 S=[(90,.row 1 (S.map ia))]:=by simp[nlO,cS]
     all_goals
      refine Qga ?_;simp -implicitDefEqProofs[hw1,hV,hQ,hq,hlm,ia];simp -implicitDefEqProofs[eO];rw[<- eO];refine Yd.of c4 (by simp[AV.pure,isa,na]) ?_;simp -implicitDefEqProofs[hpn,bb,bb2,wq,ia];rw[hw2,hV2,hQ2]
      first
       |(rw[em,cS];((try simp only[ia,kO,eT,cS]);refine Ym.sub (by simp[lk,Ya,AV.keys,ia,kO,eT,cS]) ?_;simp only[ia,kO,eT,cS,Wkl,and_true];(try simp[lk,Yc,Ya,AV.keys,ia,kO,eT,cS]));done)
       |(rw[<- em];((try simp only[kO,eT]);refine Ym.sub (by simp[lk,Ya,AV.keys,kO,eT]) ?_;simp only[kO,eT,Wkl,ZeR,and_true];(try simp[lk,Yc,Ya,AV.keys,kO,eT]));done)
   . intro _;have hle:=ZlU (l:=l) (d:=d) (M:=M) M.length;obtain ⟨U,hU⟩ : ∃ U,U=psU l d M M.length:=⟨_,rfl⟩;rw[<- hU]at hnn hle ⊢;have hw1:nqS O d l M M.length=⟨[(73,.int .i64 M.length),(72,.int .i64 M.length),(71,.vsl (M.map ia)),(13,nlV 90 U),(0,O),(2,.int .i64 d)],nlO 90 U⟩:=(by rw[nqS,<- hU]);obtain ⟨hsp,hcp,hOl,hOt,hOf,kO',rO,hCl⟩:=ZjY (G:=R.G) U (by omega);have cU:¬U=[]:=λh=>hnn (List.eq_nil_iff_forall_not_mem.2 λx hx=>by have:=ZhP.1 hx;rw[h]at this;cases this)
     have hV:nlV 90 U = .osl 90 U.length:=(by simp[nlV,cU]);have hQ:nlO 90 U=[(90,.row 1 (U.map ia))]:=(by simp[nlO,cU]);refine Qga ?_;simp -implicitDefEqProofs[hw1,hV,hQ];refine Qgr ?_;simp -implicitDefEqProofs[];refine Yd.sem (Z1B.byref hsp (λ_=>90) (by simp) (by simp) (by simp[St.get,lk,ZeQ]) (by simp[ZeR]) (by simp[Ya,AV.keys,lk]) rfl (by simp[AV.ren]) rfl rfl) ?_;simp -implicitDefEqProofs[Yl,ZeQ];refine Yd.sem (Z1B.byref hcp (λ_=>90) (by simp) (by simp) (by simp[St.get,lk,ZeQ]) (by simp[ZeR]) (by simp[Ya,AV.keys,lk]) rfl (by simp[AV.ren]) rfl rfl) ?_;by_cases hq:(setI U).length=U.length
     . have hOf:=hOf hq;rw[hOf]at *;simp -implicitDefEqProofs[Yl,ZeQ,hq,AV.ren,ia,Yg,hnn]
     . simp -implicitDefEqProofs[Yl,rO,hq,AV.ren,hOl,hOt,hCl,ia,Yg,hnn]
end
end Go.Proofs.YtcdlimgkliklhaaGreatDoor
