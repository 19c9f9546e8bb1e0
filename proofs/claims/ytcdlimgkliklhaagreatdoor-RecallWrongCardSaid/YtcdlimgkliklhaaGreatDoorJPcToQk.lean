/-
  What the program's functions on prints compute: whether holders and prints are valid; offices.
-/
import Derived.Test.YtcdlimgkliklhaaGreatDoorJAmTToPd
import Derived.Shelf.Sort.Plain
import Derived.Test.YtcdlimgkliklhaaGreatDoorJAmXToAmXb
import Derived.Test.YtcdlimgkliklhaaGreatDoorJOpenToOpen
import Derived.Test.YtcdlimgkliklhaaGreatDoorJRowToRow
set_option linter.all false
set_option maxHeartbeats 8000000
namespace Go.Proofs.YtcdlimgkliklhaaGreatDoor
open Go.Proofs.Tryz (prog)
open IntKind (i64)
open Go.RowKit
variable {G:Jg}
def K5p:List AV:=[.func (.func 252) [] [],.func (.func 253) [] [],.func (.func 254) [] [],.func (.func 257) [] [],.func (.func 258) [] []]
def GP (G:Jg):Prop:=G 1=some K5p
def ckP (r:Jr) (hs:Jh) (x:Prt):Nat->Bool
 |0=>inR x.no 1 9999&&inR x.dy 0 14610
 |1=>decide (0<=hoI hs x.ho)
 |2=>(findN x.dw x.lt r).isSome
 |3=>decide (x.lo<=2)
 |_=>decide (x.bk = -1)||(inR x.bk x.dy 14610&&decide (x.lo=0))
def hoF_I (hs:Jh) (id:Int):decide (0<=hoI hs id)=(hoF hs id).isSome:=by
 unfold hoI hoF;rw[Z96,W2h,W14,List.find?_isSome]
def ZjK {r:Jr} {hs:Jh} {x:Prt}:prB r hs x=true↔∀ j,j<5->ckP r hs x j=true:=by
 simp only[prB,W01];rw[<- hoF_I]
 constructor
 . rintro ⟨⟨⟨⟨⟨h1,h2⟩,h3⟩,h4⟩,h5⟩,h6⟩ j hj
   match j,hj with
   |0,_=>simp only[ckP,h1,h2,Bool.and_self]
   |1,_=>exact h3
   |2,_=>exact h5
   |3,_=>exact h4
   |4,_=>exact h6
 . intro h;have h1:=h 0 (by omega);simp only[ckP,W01]at h1;exact ⟨⟨⟨⟨h1,h 1 (by omega)⟩,h 3 (by omega)⟩,h 2 (by omega)⟩,h 4 (by omega)⟩
def ZjL {r:Jr} {hs:Jh} {ps:Jp} {i:Nat} (hi:i<hs.length) (h:hoB (nums r) hs i=false):ptsB r hs ps=false:=by
 cases q:ptsB r hs ps
 . rfl
 . simp only[ptsB,W01]at q;have:=Z8y.1 q.1.2 i hi;rw[h]at this;cases this
def ZjM {r:Jr} {hs:Jh} {ps:Jp} {i:Nat} (hi:i<ps.length) (h:shB r hs ps i=false):ptsB r hs ps=false:=by
 cases q:ptsB r hs ps
 . rfl
 . simp only[ptsB,W01]at q;have:=Z8y.1 q.2 i hi;rw[h]at this;cases this
def hoC (hs:Jh) (i:Nat):Bool:=inR (hAt hs i).id 1 9999&&(i == 0||decide ((hAt hs (i-1)).id<(hAt hs i).id))&&inR (hAt hs i).fr 1 (hAt hs i).to&&decide ((hAt hs i).to<=999)&&decide ((hAt hs i).ds.length<=8)
def wkC (D ds:List Int) (k:Nat):Bool:=D.contains (ds.getD k 0)&&(k == 0||decide (ds.getD (k-1) 0<ds.getD k 0))
def ZjN (D:List Int) (hs:Jh) (i:Nat):hoB D hs i=(hoC hs i&&(List.range (hAt hs i).ds.length).all (wkC D (hAt hs i).ds)):=rfl
def rgT (r:Jr) (l:Jl) (hs:Jh) (ps:Jp) (i:Nat):List (Nat×AV):=[(34,.int .i64 i),(33,.int .i64 hs.length),(32,.vsl (hs.map hoa)),(0,ofA r l hs ps)]
def rgD (r:Jr) (l:Jl) (hs:Jh) (ps:Jp) (h:Hld) (i k:Nat):St:=⟨(88,.int .i64 k)::(87,.int .i64 h.ds.length)::(86,.vsl (h.ds.map ia))::(4,.ptr 4 0)::(3,.int .i64 i)::rgT r l hs ps i,[(4,.box (hoa h))]⟩
def rgP (r:Jr) (l:Jl) (hs:Jh) (ps:Jp) (i:Nat):List (Nat×AV):=[(122,.int .i64 i),(121,.int .i64 ps.length),(120,.vsl (ps.map ptA)),(7,.bool true),(0,ofA r l hs ps)]
def rgK (r:Jr) (l:Jl) (hs:Jh) (ps:Jp) (x:Prt) (i j:Nat):St:=⟨(145,.int .i64 j)::(144,.agg K5p)::(9,.ptr 9 0)::(8,.int .i64 i)::rgP r l hs ps i,[(9,.box (ptA x))]⟩
def kPall {r:Jr} {l:Jl} {hs:Jh} {ps:Jp} (x:Prt) (hr:Sml r) (hh:Sml hs) (j:Nat) (hj:j<5) :
  ∃ f,(K5p.drop j).take 1=[.func (.func f) [] []]/\PC prog G f [ofA r l hs ps,.agg (ptA x)] (.bool (ckP r hs x j)):=by
 match j,hj with
 |0,_=>exact ⟨_,rfl,Zjl _ x⟩
 |1,_=>exact ⟨_,rfl,Zjm r l hs ps x hh⟩
 |2,_=>exact ⟨_,rfl,Zjo r l hs ps x hr⟩
 |3,_=>exact ⟨_,rfl,Zjp _ x⟩
 |4,_=>exact ⟨_,rfl,Zjq _ x⟩
def ZjO (hP:GP G) (r:Jr) (l:Jl) (hs:Jh) (ps:Jp) (hr:Sml r) (hd:Sml (nums r)) (hw:WfP hs ps):PC prog G 132 [ofA r l hs ps] (.bool (ptsB r hs ps)):=by
 have hh:Sml hs:=(by have:=hw.hl;unfold Sml;omega);have hl:=hw.hl;have hp:=hw.pl;have hk2:=λx j hj=>kPall (G:=G) (r:=r) (l:=l) (hs:=hs) (ps:=ps) x hr hh j hj
 have pO:=ZiZ r l hs ps;have kO:=Zj0 r l hs ps;have eO:ofA r l hs ps = .vptr [.vsl (r.map isa),.vsl (l.map na),.vsl (hs.map hoa),.vsl (ps.map ptA),.vsl ((nums r).map ia)] 0:=rfl;have hC:=λn=>Zf9 (G:=G) false (nums r) n hd
 have eC:liA false (nums r) = .vsl ((nums r).map ia):=(by simp[liA]);rw[eC]at hC;unfold GP at hP;refine Zi2 rfl λR hG hrd=>?_
 subst hG;refine Qga ?_;by_cases h6:6<hs.length
 . have h6':(6:Int)<hs.length:=by omega
   have e:ptsB r hs ps=false:=by
    have:¬hs.length<=6:=(by omega);simp[ptsB,this]
   simp -implicitDefEqProofs[Zi0,Zi1,eO,h6',e]
 have h6':¬(6:Int)<hs.length:=(by omega);by_cases h30:30<ps.length
 . have h30':(30:Int)<ps.length:=by omega
   have e:ptsB r hs ps=false:=by
    have:¬ps.length<=30:=(by omega);simp[ptsB,this]
   simp -implicitDefEqProofs[Zi0,Zi1,eO,h6',h30',e]
 have h30':¬(30:Int)<ps.length:=(by omega);simp -implicitDefEqProofs[Zi0,Zi1,eO,h6',h30'];refine Z8g (λi=>⟨rgT r l hs ps i,[]⟩) (λi=>∀ j,j<i->hoB (nums r) hs j=true) hs.length ?_ (by simp) ?_ ?_
 . simp only[rgT,eO]
   (refine Wkc ?_;simp only[Wkl,and_true];(try simp[lk,Yc,Ya,AV.keys]))
 . intro i hi he;have hno:hoB (nums r) hs i=false->ptsB r hs ps=false:=ZjL hi;have hx:=ZiR hi;have hds:=hw.dl _ (W0e hi);have heq:=ZjN (nums r) hs i;have wi:i64.wrap ((i:Int)+1)=(i:Int)+1:=Yf;obtain ⟨h,hhe⟩:=Qex (hs[i]);rw[<- hhe]at hx hds;have hlx:hs[i]=h:=hhe.symm;have hho:hoa h=[.int .i64 h.id,.int .i64 h.fr,.int .i64 h.to,.vsl (h.ds.map ia)]:=rfl;have c1:=Zje (G:=R.G) 1 9999 h.id;have c2:=Zjf (G:=R.G) 1 999 h.fr h.to;have hC0:hoC hs i=(inR h.id 1 9999&&(i == 0||decide ((hAt hs (i-1)).id<h.id))&&inR h.fr 1 h.to&&decide (h.to<=999)&&decide (h.ds.length<=8)):=by unfold hoC;rw[hx]
   have hfin:inR h.id 1 9999=true->(i == 0||decide ((hAt hs (i-1)).id<h.id))=true->hoC hs i=(inR h.fr 1 999&&inR h.to 1 999 && !decide (h.to<h.fr) && !decide (8<h.ds.length)):=λq1 q2=>by
    rw[hC0,q1,q2,W2h];simp only[W1k,W01,ZfF,W0b,W1C,W1b];omega
   have hno2:hoC hs i=false->ptsB r hs ps=false:=λq=>hno (by rw[heq,q];rfl)
   have hst:∀ k:Nat,k<=h.ds.length->(∀ j,j<k->wkC (nums r) h.ds j=true)->k=h.ds.length->hoC hs i=true->∀ j,j<i+1->hoB (nums r) hs j=true:=λk _ hk1 hk2 hc j hj=>by
    rcases W0q j i with h1|h1
    . exact he j h1
    . obtain rfl:j=i:=(by omega);rw[heq,hc,hx,W1k];exact Z8y.2 (by rw[<- hk2];exact hk1)
   refine Qga ?_
   cases q1:inR h.id 1 9999
   . have e:=hno2 (by rw[hC0,q1];rfl);rw[q1]at c1
     cases i
     case' zero=>simp -implicitDefEqProofs[rgT,hi,hlx,hho]
     case' succ k =>
      have k1:(k:Int)+1<hs.length:=(by omega);have k2:((k:Int)+1).toNat=k+1:=(by omega);have k3:(0:Int)<=(k:Int)+1:=(by omega);simp -implicitDefEqProofs[rgT,k1,k2,k3,hi,hlx,hho]
     all_goals
      refine Qco (c1) ?_;simp -implicitDefEqProofs[];refine ⟨rfl,?_⟩;refine Qgr ?_;simp -implicitDefEqProofs[e]
      done
   rw[q1]at c1;obtain ⟨I,hIe⟩:=Qex i
   cases i
   case' zero =>
    have q2:=hfin q1 rfl;simp -implicitDefEqProofs[rgT,hi,hlx,hho];refine Qco (c1) ?_;simp -implicitDefEqProofs[]
   case' succ k =>
    have hk:k<hs.length:=(by omega);have w0:i64.wrap ((k:Int)+1-1)=(k:Int):=(by rw[Yf (by omega) (by omega)];omega);have w2:i64.wrap (k:Int)=(k:Int):=Yf;have g0:(0:Int)<(k:Int)+1:=(by omega);have k1:(k:Int)+1<hs.length:=(by omega);have k2:((k:Int)+1).toNat=k+1:=(by omega);have k3:(0:Int)<=(k:Int)+1:=(by omega);have hhk:hoa hs[k]=[.int .i64 hs[k].id,.int .i64 hs[k].fr,.int .i64 hs[k].to,.vsl (hs[k].ds.map ia)]:=rfl;simp -implicitDefEqProofs[rgT,k1,k2,k3,hi,hlx,hho];refine Qco (c1) ?_;by_cases hp:hs[k].id<h.id
    case' neg =>
     have e:=hno2 (by rw[hC0,W19,ZiR hk,W0S hp];simp);have hp2:h.id<=hs[k].id:=(by omega);simp -implicitDefEqProofs[hk,w0,w2,g0,hhk,hp2,eO,hho];refine ⟨rfl,?_⟩;refine Qgr ?_;simp -implicitDefEqProofs[e]
     done
    have hp2:¬h.id<=hs[k].id:=(by omega);have q2:=hfin q1 (by rw[W19,ZiR hk,W0M hp];simp);simp -implicitDefEqProofs[hk,w0,w2,g0,hhk,hp2,eO,hho]
   all_goals
    refine Qco (c2) ?_
    cases q3:(inR h.fr 1 999&&inR h.to 1 999)
    case false =>
     have e:=hno2 (by rw[q2,q3];rfl);simp -implicitDefEqProofs[];refine ⟨rfl,?_⟩;refine Qgr ?_;simp -implicitDefEqProofs[e]
    by_cases q4:h.to<h.fr
    case pos =>
     have e:=hno2 (by rw[q2,q3,W0M q4];rfl);simp -implicitDefEqProofs[hho,q4];refine ⟨rfl,?_⟩;refine Qgr ?_;simp -implicitDefEqProofs[e]
    by_cases q5:8<h.ds.length
    case pos =>
     have q5':(8:Int)<h.ds.length:=(by omega);have e:=hno2 (by rw[q2,W0M q5];simp);simp -implicitDefEqProofs[hho,q4,q5'];refine ⟨rfl,?_⟩;refine Qgr ?_;simp -implicitDefEqProofs[e]
    have q5':¬(8:Int)<h.ds.length:=(by omega);rw[q3,W0S q4,W0S q5]at q2;simp -implicitDefEqProofs[hho,q4,q5'];refine ⟨rfl,?_⟩;refine Z8g (rgD r l hs ps h I) (λk=>∀ j,j<k->wkC (nums r) h.ds j=true) h.ds.length ?_ (by simp) ?_ ?_
    . simp only[rgD,rgT,eO,hIe]
      ((try simp only[hho]);refine Ym.sub (by simp[lk,Ya,AV.keys,hho]) ?_;simp only[hho,Wkl,and_true];(try simp[lk,Yc,Ya,AV.keys,hho]))
    . intro k hk hK
      have hwf:wkC (nums r) h.ds k=false->ptsB r hs ps=false:=λq=>hno (by
       rw[heq,q2,hx,W1k]
       cases q6:(List.range h.ds.length).all (wkC (nums r) h.ds)
       . rfl
       . have:=Z8y.1 q6 k hk;rw[q]at this;cases this)
      have wk:i64.wrap ((k:Int)+1)=(k:Int)+1:=Yf;have hcd:=hC h.ds[k];have gd:h.ds.getD k 0=h.ds[k]:=(by simp[W0j,hk]);refine Qga ?_;by_cases m1:h.ds[k]∈nums r
      case neg =>
       have e:=hwf (by rw[wkC,gd];simp[m1]);rw[W0S m1]at hcd;simp -implicitDefEqProofs[rgD,rgT,hk,ia,eO];refine Qco (hcd) ?_;simp -implicitDefEqProofs[];refine Qgr ?_;simp -implicitDefEqProofs[];refine Qgr ?_;simp -implicitDefEqProofs[e]
      rw[W0M m1]at hcd
      cases k with
      | zero =>
        have e:wkC (nums r) h.ds 0=true:=(by rw[wkC,gd];simp[m1]);have w1:i64.wrap 1=1:=rfl;simp -implicitDefEqProofs[rgD,rgT,hk,ia,eO];refine Qco (hcd) ?_;simp -implicitDefEqProofs[w1];refine ⟨?_,e⟩;simp only[rgD,rgT,eO]
        ((try simp only[hho]);refine Ym.sub (by simp[lk,Ya,AV.keys,hho]) ?_;simp only[hho,Wkl,and_true];(try simp[lk,Yc,Ya,AV.keys,hho]))
      | succ p =>
        have hp:p<h.ds.length:=(by omega);have g2:h.ds.getD p 0=h.ds[p]:=(by simp[W0j,hp]);have w0:i64.wrap ((p:Int)+1-1)=(p:Int):=(by rw[Yf (by omega) (by omega)];omega);have w2:i64.wrap (p:Int)=(p:Int):=Yf;have g0:(0:Int)<(p:Int)+1:=(by omega);have k1:(p:Int)+1<h.ds.length:=(by omega);have k2:((p:Int)+1).toNat=p+1:=(by omega);have k3:(0:Int)<=(p:Int)+1:=(by omega);have wk2:i64.wrap ((p:Int)+1+1)=(p:Int)+1+1:=Yf;by_cases m2:h.ds[p]<h.ds[p+1]
        . have e:wkC (nums r) h.ds (p+1)=true:=(by rw[wkC,gd,W19,g2];simp[m1,m2]);have m3:¬h.ds[p+1]<=h.ds[p]:=(by omega);simp -implicitDefEqProofs[rgD,rgT,k1,k2,k3,hk,ia,eO];refine Qco (hcd) ?_;simp -implicitDefEqProofs[hp,w0,w2,g0,hho,ia,m3,wk2];refine ⟨?_,λj hj=>?_⟩
          . simp only[rgD,rgT,eO]
            ((try simp only[hho]);refine Ym.sub (by simp[lk,Ya,AV.keys,hho]) ?_;simp only[hho,Wkl,and_true];(try simp[lk,Yc,Ya,AV.keys,hho]))
          . rcases W0q j (p+1) with h4|h4
            . exact hK j h4
            . obtain rfl:j=p+1:=(by omega);exact e
        . have e:=hwf (by rw[wkC,gd,W19,g2];simp[m2]);have m3:h.ds[p+1]<=h.ds[p]:=(by omega);simp -implicitDefEqProofs[rgD,rgT,k1,k2,k3,hk,ia,eO];refine Qco (hcd) ?_;simp -implicitDefEqProofs[hp,w0,w2,g0,hho,ia,m3];refine Qgr ?_;simp -implicitDefEqProofs[];refine Qgr ?_;simp -implicitDefEqProofs[e]
    . intro hK;have hst2:=hst h.ds.length (W0f _) hK rfl q2;refine Qga ?_;have wI:i64.wrap ((I:Int)+1)=(I:Int)+1:=Yf;simp -implicitDefEqProofs[rgD,rgT];refine Qgr ?_;simp -implicitDefEqProofs[wI];refine ⟨?_,by first|exact hst2|exact hst2 0 (by omega)⟩;simp only[rgT,eO]
      ((try simp only[hIe]);refine Ym.sub (by simp[lk,Ya,AV.keys,hIe]) ?_;simp only[hIe,Wkl,and_true];(try simp[lk,Yc,Ya,AV.keys,hIe]))
 . intro he;refine Qga ?_;simp -implicitDefEqProofs[rgT,eO];refine Qgr ?_;simp -implicitDefEqProofs[];refine Z8g (λi=>⟨rgP r l hs ps i,[]⟩) (λi=>∀ j,j<i->shB r hs ps j=true) ps.length ?_ (by simp) ?_ ?_
   . simp only[rgP,eO]
     (refine Wkc ?_;simp only[Wkl,and_true];(try simp[lk,Yc,Ya,AV.keys]))
   . intro i hi hE;have hno:shB r hs ps i=false->ptsB r hs ps=false:=ZjM hi;have hx:=ZiS hi;have wi:i64.wrap ((i:Int)+1)=(i:Int)+1:=Yf;obtain ⟨x,hxe⟩:=Qex (ps[i]);rw[<- hxe]at hx;have hlx:ps[i]=x:=hxe.symm;have hpt:ptA x=[.int .i64 x.no,.int .i64 x.dy,.int .i64 x.ho,.int .i64 x.dw,.int .i64 x.lt,.int .i64 x.bk,.int .u8 x.lo]:=rfl;have hsh:shB r hs ps i=((i == 0||decide ((pAt ps (i-1)).no<x.no))&&prB r hs x):=(by unfold shB;rw[hx]);have t5:K5p.take 5=K5p:=rfl;have l5:K5p.length=5:=rfl;obtain ⟨I,hIe⟩:=Qex i;refine Qga ?_
     cases i
     case' zero =>
      have q2:shB r hs ps 0=prB r hs x:=(by rw[hsh];rfl);simp -implicitDefEqProofs[rgP,hi,hlx,hpt]
     case' succ k =>
      have hk:k<ps.length:=(by omega);have w0:i64.wrap ((k:Int)+1-1)=(k:Int):=(by rw[Yf (by omega) (by omega)];omega);have w2:i64.wrap (k:Int)=(k:Int):=Yf;have g0:(0:Int)<(k:Int)+1:=(by omega);have k1:(k:Int)+1<ps.length:=(by omega);have k2:((k:Int)+1).toNat=k+1:=(by omega);have k3:(0:Int)<=(k:Int)+1:=(by omega);have hpk:ptA ps[k]=[.int .i64 ps[k].no,.int .i64 ps[k].dy,.int .i64 ps[k].ho,.int .i64 ps[k].dw,.int .i64 ps[k].lt,.int .i64 ps[k].bk,.int .u8 ps[k].lo]:=rfl;by_cases hp:ps[k].no<x.no
      case' neg =>
       have e:=hno (by rw[hsh,W19,ZiS hk,W0S hp];simp);have hp2:x.no<=ps[k].no:=(by omega);simp -implicitDefEqProofs[rgP,k1,k2,k3,hi,hlx,hpt,hk,w0,w2,g0,hpk,hp2,eO];refine ⟨rfl,?_⟩;refine Qgr ?_;simp -implicitDefEqProofs[e]
       done
      have hp2:¬x.no<=ps[k].no:=(by omega);have q2:shB r hs ps (k+1)=prB r hs x:=(by rw[hsh,W19,ZiS hk,W0M hp];simp);simp -implicitDefEqProofs[rgP,k1,k2,k3,hi,hlx,hpt,hk,w0,w2,g0,hpk,hp2,eO]
     all_goals
      refine ⟨rfl,?_⟩;simp -implicitDefEqProofs[hP,t5,l5];refine Z8g (rgK r l hs ps x I) (λj=>∀ k,k<j->ckP r hs x k=true) 5 ?_ (by simp) ?_ ?_
      . simp only[rgK,rgP,eO,hIe]
        ((try simp only[hpt,K5p]);refine Ym.sub (by simp[lk,Ya,AV.keys,hpt,K5p]) ?_;simp only[hpt,K5p,Wkl,and_true];(try simp[lk,Yc,Ya,AV.keys,hpt,K5p]))
      . intro j hj hJ;refine Qga ?_;obtain ⟨f,hf1,hf2⟩:=hk2 x j hj;have wj:i64.wrap ((j:Int)+1)=(j:Int)+1:=Yf;have j1:(j:Int)<5:=(by omega);have j2:j+1<=5:=(by omega);have j3:j<=4:=(by omega);simp -implicitDefEqProofs[rgK,rgP,j1,j2,j3,l5,hf1,hj,hpt];rw[hpt]at hf2;refine Yd.of hf2 (by simp[pO,AV.pure]) ?_
        cases hb:ckP r hs x j
        . have e:=hno (by
           rw[q2]
           cases q:prB r hs x
           . rfl
           . have:=ZjK.1 q j hj;rw[hb]at this;cases this)
          simp -implicitDefEqProofs[];refine Qgr ?_;simp -implicitDefEqProofs[];refine Qgr ?_;simp -implicitDefEqProofs[e]
        . simp -implicitDefEqProofs[wj];refine ⟨?_,λk hk=>?_⟩
          . simp only[rgK,rgP,eO]
            ((try simp only[hpt,K5p]);refine Ym.sub (by simp[lk,Ya,AV.keys,hpt,K5p]) ?_;simp only[hpt,K5p,Wkl,and_true];(try simp[lk,Yc,Ya,AV.keys,hpt,K5p]))
          . rcases W0q k j with h1|h1
            . exact hJ k h1
            . obtain rfl:k=j:=(by omega);exact hb
      . intro hJ;rw[ZjK.2 hJ]at q2
        have hE2:∀ j,j<I+1->shB r hs ps j=true:=λj hj=>by
         rcases W0q j I with h1|h1
         . exact hE j (by omega)
         . obtain rfl:j=I:=(by omega);rw[hIe];exact q2
        have wI:i64.wrap ((I:Int)+1)=(I:Int)+1:=Yf;refine Qga ?_;simp -implicitDefEqProofs[rgK,rgP];refine Qgr ?_;simp -implicitDefEqProofs[wI];refine ⟨?_,by first|exact q2|exact λj hj=>hE2 j (by omega)⟩;simp only[rgP,eO]
        ((try simp only[hIe]);refine Ym.sub (by simp[lk,Ya,AV.keys,hIe]) ?_;simp only[hIe,Wkl,and_true];(try simp[lk,Yc,Ya,AV.keys,hIe]))
   . intro hE
     have e:ptsB r hs ps=true:=by
      simp only[ptsB,W01,W0b];exact ⟨⟨⟨by omega,by omega⟩,Z8y.2 he⟩,Z8y.2 hE⟩
     refine Qga ?_;simp -implicitDefEqProofs[rgP];refine Qgr ?_;simp -implicitDefEqProofs[e]
def opP (r:Jr) (l:Jl) (hs:Jh) (ps:Jp):AV:=.tup [if ck7 r l hs ps=0 then ofA r l hs ps else .nilp,.int .i64 (ck7 r l hs ps)]
def ZjP {r:Jr} {l:Jl} {hs:Jh} {ps:Jp}:ck7 r l hs ps=0↔chN r l=0/\ptsB r hs ps=true:=by
 unfold ck7;by_cases h:chN r l=0
 . rw[if_pos h];by_cases h2:ptsB r hs ps=true
   . simp[h,h2]
   . simp[h,h2]
 . simp[h]
def ZjQ {r:Jr} {l:Jl} (h:chN r l=0):openV r=0:=by
 unfold chN at h
 split at h
 . assumption
 . rename_i e;exact absurd h e
def as7 (r:Jr) (l:Jl) (hs:Jh) (ps:Jp) (day m:Int):Int:=if ck7 r l hs ps=0 then if inR day 0 14610=true/\inR m 1 999=true then 0 else 2 else ck7 r l hs ps
def ab7 (r:Jr) (l:Jl) (hs:Jh) (ps:Jp) (day m id:Int) (ds:List Int):Int:=if as7 r l hs ps day m=0 then if 0<=hoI hs id/\(ds.all λd=>decide (d∈nums r))=true then 0 else 6 else as7 r l hs ps day m
def ZjR (hG:GC G) (hN:GN G) (hP:GP G) (r:Jr) (l:Jl) (hs:Jh) (ps:Jp) (hl:WfN l) (hr:Wf r) (hd:Sml (nums r)) (hw:WfP hs ps):PC prog G 76 [prA r l hs ps] (opP r l hs ps):=by
 have hc:=Zff hG hN r l hl hr;have hD:=ZaC hG r hr;rw[rega]at hD;have hR:=ZjO hP r l hs ps hr.1.1 hd hw;have pO:=ZiZ r l hs ps;have kO:=Zj0 r l hs ps;have eO:ofA r l hs ps = .vptr [.vsl (r.map isa),.vsl (l.map na),.vsl (hs.map hoa),.vsl (ps.map ptA),.vsl ((nums r).map ia)] 0:=rfl;have sO:∀ ok st,Yh ok st 6 (ofA r l hs ps)=some (ofA r l hs ps):=λok st=>by rw[eO];rw[eO]at pO;simp[Yh,pO]
 unfold opP prA;by_cases h0:chN r l=0
 case neg =>
  have e:ck7 r l hs ps=chN r l:=(by rw[ck7,if_neg h0]);rw[e,if_neg h0]
  (refine Zi5 rfl λR hG hrd=>Qga ?_;subst hG)
  simp -implicitDefEqProofs[Zi3,Zi4];refine Qco (hc) ?_;simp -implicitDefEqProofs[h0]
 have ho:=ZjQ h0;rw[if_pos ho,ho]at hD;rw[h0]at hc;refine Zi5 rfl λR hG hrd=>?_
 subst hG;refine Qga ?_;simp -implicitDefEqProofs[Zi3,Zi4];refine Qco (hc) ?_;simp -implicitDefEqProofs[];refine Qco (hD) ?_;simp -implicitDefEqProofs[];rw[eO]at hR
 (first|refine Yd.flat (hR) (by simp[AV.flat]) (by simp) ?_|refine Ye.flat (hR) (by simp[AV.flat]) (by simp) ?_)
 cases q:ptsB r hs ps
 . have e:ck7 r l hs ps=70:=(by rw[ck7,if_pos h0,q];rfl);simp -implicitDefEqProofs[e]
 . have e:ck7 r l hs ps=0:=(by rw[ck7,if_pos h0,q];rfl);simp -implicitDefEqProofs[e,eO]
def ZjS (hG:GC G) (hN:GN G) (hP:GP G) (r:Jr) (l:Jl) (hs:Jh) (ps:Jp) (hl:WfN l) (hr:Wf r) (hd:Sml (nums r)) (hw:WfP hs ps):PC prog G 23 [prA r l hs ps] (.int .i64 (ck7 r l hs ps)):=by
 have ho:=ZjR hG hN hP r l hs ps hl hr hd hw;unfold opP prA at ho;unfold prA
 (refine Zi8 rfl λR hG hrd=>Qga ?_;subst hG)
 simp -implicitDefEqProofs[Zi6,Zi7];refine Qco (ho) ?_;simp -implicitDefEqProofs[]
def asP (r:Jr) (l:Jl) (hs:Jh) (ps:Jp) (day m:Int):AV:=.tup [if as7 r l hs ps day m=0 then ofA r l hs ps else .nilp,.int .i64 (as7 r l hs ps day m)]
def ZjT (hG:GC G) (hN:GN G) (hP:GP G) (r:Jr) (l:Jl) (hs:Jh) (ps:Jp) (day m:Int) (hl:WfN l) (hr:Wf r) (hd:Sml (nums r)) (hw:WfP hs ps) :
  PC prog G 89 [prA r l hs ps,.int .i64 day,.int .i64 m] (asP r l hs ps day m):=by
 have ho:=ZjR hG hN hP r l hs ps hl hr hd hw;have c1:=Zje (G:=G) 0 14610 day;have c2:=Zje (G:=G) 1 999 m;have pO:=ZiZ r l hs ps;have kO:=Zj0 r l hs ps;have eO:ofA r l hs ps = .vptr [.vsl (r.map isa),.vsl (l.map na),.vsl (hs.map hoa),.vsl (ps.map ptA),.vsl ((nums r).map ia)] 0:=rfl;have sO:∀ ok st,Yh ok st 6 (ofA r l hs ps)=some (ofA r l hs ps):=λok st=>by rw[eO];rw[eO]at pO;simp[Yh,pO]
 unfold opP at ho;unfold asP as7;by_cases h0:ck7 r l hs ps=0
 case neg =>
  rw[if_neg h0]at ho;unfold prA at *
  (refine Zib rfl λR hG hrd=>Qga ?_;subst hG)
  simp -implicitDefEqProofs[Zi9,Zia];refine Qco (ho) ?_;simp -implicitDefEqProofs[h0]
 rw[if_pos h0,h0]at ho;unfold prA at *;generalize ofA r l hs ps=O at *
 (refine Zib rfl λR hG hrd=>Qga ?_;subst hG)
 simp -implicitDefEqProofs[Zi9,Zia];refine Qco (ho) ?_;simp -implicitDefEqProofs[];refine Qco (c1) ?_
 cases q1:inR day 0 14610
 . simp -implicitDefEqProofs[h0]
 simp -implicitDefEqProofs[];refine Qco (c2) ?_
 cases q2:inR m 1 999
 . simp -implicitDefEqProofs[h0]
 . simp -implicitDefEqProofs[h0,pO,sO]
def abP (r:Jr) (l:Jl) (hs:Jh) (ps:Jp) (day m id:Int) (ds:List Int):AV:=.tup [if ab7 r l hs ps day m id ds=0 then ofA r l hs ps else .nilp,.int .i64 (ab7 r l hs ps day m id ds)]
def ZjU (r:Jr) (l:Jl) (hs:Jh) (ps:Jp) (d:Int) (hd:Sml (nums r)):PC prog G 127 [.int .i64 d,.vptr [ofA r l hs ps] 0] (.bool (!decide (d∈nums r))):=by
 have hC:=Zf9 (G:=G) false (nums r) d hd;have eC:liA false (nums r) = .vsl ((nums r).map ia):=(by simp[liA]);rw[eC]at hC;unfold ofA
 (refine Zih rfl λR hG hrd=>Qga ?_;subst hG)
 simp -implicitDefEqProofs[Zif,Zig];refine Qco (hC) ?_;simp -implicitDefEqProofs[]
def ZjV (hG:GC G) (hN:GN G) (hP:GP G) (r:Jr) (l:Jl) (hs:Jh) (ps:Jp) (day m id:Int) (ds:List Int) (hl:WfN l) (hr:Wf r) (hd:Sml (nums r)) (hw:WfP hs ps) (hds:Sml ds) :
  PC prog G 69 [prA r l hs ps,.int .i64 day,.int .i64 m,.int .i64 id,.vsl (ds.map ia)] (abP r l hs ps day m id ds):=by
 have ho:=ZjT hG hN hP r l hs ps day m hl hr hd hw;have pO:=ZiZ r l hs ps;have hh:Sml hs:=(by have:=hw.hl;unfold Sml;omega);have c1:=Zjk (G:=G) r l hs ps id hh;have c2:=Z98 (G:=G) 127 [.vptr [ofA r l hs ps] 0] (λd=>!decide (d∈nums r)) ds (by simp[AV.pure,pO]) hds (λd _=>ZjU r l hs ps d hd);have kO:=Zj0 r l hs ps;have eO:ofA r l hs ps = .vptr [.vsl (r.map isa),.vsl (l.map na),.vsl (hs.map hoa),.vsl (ps.map ptA),.vsl ((nums r).map ia)] 0:=rfl;have sO:∀ ok st n,Yh ok st (n+1) (ofA r l hs ps)=some (ofA r l hs ps):=λok st n=>by rw[eO];rw[eO]at pO;simp[Yh,pO]
 have eN:(ds.any λd=>!decide (d∈nums r)) = !(ds.all λd=>decide (d∈nums r)):=(by simp[W2l]);rw[eN]at c2;unfold asP at ho;unfold abP ab7;by_cases h0:as7 r l hs ps day m=0
 case neg =>
  rw[if_neg h0]at ho;unfold prA at *
  (refine Zie rfl λR hG hrd=>Qga ?_;subst hG)
  simp -implicitDefEqProofs[Zic,Zid];refine Qco (ho) ?_;simp -implicitDefEqProofs[h0]
 rw[if_pos h0,h0]at ho;unfold prA at *;generalize (ds.all λd=>decide (d∈nums r))=b at *;obtain ⟨cs,hcs⟩ : ∃ cs,ofA r l hs ps = .vptr cs 0:=⟨_,rfl⟩;clear eO;rw[hcs]at ho pO c1 c2 kO sO ⊢;generalize hoI hs id=hid at *
 (refine Zie rfl λR hG hrd=>Qga ?_;subst hG)
 simp -implicitDefEqProofs[Zic,Zid];refine Qco (ho) ?_;simp -implicitDefEqProofs[];refine Yd.of c1 (by simp[pO,AV.pure]) ?_;by_cases q1:hid<0
 . have q1':¬0<=hid:=(by omega);simp -implicitDefEqProofs[q1,q1',h0]
 have q1':0<=hid:=(by omega);simp -implicitDefEqProofs[q1];refine Yd.flat c2 (by simp[AV.flat]) (by simp[snap,Yj,sO,Yh,okAll,St.get,lk]) ?_
 cases b
 . simp -implicitDefEqProofs[q1',h0]
 . simp -implicitDefEqProofs[q1',h0,pO,sO]
def ZjW (ok:Nat->Bool) (st:St) (l:List Int):frzO ok st (.row 1 (l.map ia)) = .row 1 (l.map ia):=by
 simp only[frzO,W10]
 congr 2
 funext p;simp[ia,frzA,frz,AV.keys]
def smI (x y:Int):Bool:=decide (x=y)
def kI (l:List Int):Nat->List Int
 |0=>[]
 |p+1=>if p≠0/\smI (l.getD p default) (l.getD (p-1) default)=true then kI l p else kI l p++[l.getD p default]
def ZjX (l:List Int):∀ p,(kI l p).length<=p
 |0=>W0f _
 | p+1=>by
   have:=ZjX l p;rw[kI];split <;> simp <;> omega
def noI (l:List Int) (p:Nat):Prop:=∀ j,0<j->j<p->smI (l.getD j default) (l.getD (j-1) default)=false
def ZjY {l:List Int}:∀ {p:Nat},noI l p->p<=l.length->kI l p=l.take p
 |0,_,_=>rfl
 | p + 1,h,hp=>by
   rw[kI,ZjY (p:=p) (λj h1 h2=>h j h1 (by omega)) (by omega),W08 (by omega)];have e:l.getD p default=l[p]:=by simp[W0j,show p<l.length by omega]
   split
   . rename_i h2;rw[h p (by omega) (by omega)]at h2;exact absurd h2.2 (by simp)
   . rw[e]
def cpI (l:List Int) (p:Nat):List Int:=kI l p++l.drop (kI l p).length
def ZjZ {l:List Int} {p:Nat} (h:p<=l.length):(cpI l p).length=l.length:=by
 have:=ZjX l p;simp[cpI];omega
def Zk0 {l:List Int} {p j:Nat} (hp:p<l.length) (h1:(kI l p).length<=j) (h2:j<=p):(cpI l p)[j]? = some (l.getD j default):=by
 rw[cpI,W0o h1,W13];have:(kI l p).length+(j-(kI l p).length)=j:=(by omega);rw[this];simp[W0j,show j<l.length by omega]
def Zk1 {l:List Int} {p:Nat} (hp:p<l.length) (h:¬(p≠0/\smI (l.getD p default) (l.getD (p-1) default)=true)):(cpI l p).set (kI l p).length (l.getD p default)=cpI l (p+1):=by
 have hl:=ZjX l p;have e:kI l (p+1)=kI l p++[l.getD p default]:=(by rw[kI,if_neg h]);rw[cpI,cpI,e,W24 _ _ (by omega),W2q,W0x (by omega:(kI l p).length<l.length)];simp only[List.set_cons_zero,W0s,List.length_singleton,W0U,List.singleton_append]
def Zk2 {l:List Int} {p:Nat} (h:p≠0/\smI (l.getD p default) (l.getD (p-1) default)=true):cpI l (p+1)=cpI l p/\kI l (p+1)=kI l p:=by
 have e:kI l (p+1)=kI l p:=(by rw[kI,if_pos h]);exact ⟨by rw[cpI,cpI,e],e⟩
def cpcI (l:List Int):List Int:=kI l l.length
def zrO:List AV:=[.int .i64 0]
def cpoI (l:List Int):List (List AV):=(cpcI l).map ia++List.replicate (l.length-(cpcI l).length) zrO
def cpvI (k:Nat) (l:List Int):AV:=if (cpcI l).length=l.length then .osl k l.length else .oss k l.length 0 (cpcI l).length
def kI_lt {l:List Int} {k:Nat} (hk0:k≠0) (hd:smI (l.getD k default) (l.getD (k-1) default)=true):∀ p,k<p->(kI l p).length<p:=by
 intro p hp
 induction p with
 |zero=>omega
 | succ p ih =>
   by_cases h:p=k
   . subst h;have:=ZjX l p;rw[kI,if_pos ⟨hk0,hd⟩];omega
   . have:=ih (by omega);rw[kI];split <;> simp <;> omega
def Zk3 {l:List Int} {p:Nat} (h:p<l.length):l.getD p default=l[p]:=by simp[W0j,h]
def Zk4 {l:List Int} (h:noI l l.length):cpcI l=l:=by rw[cpcI,ZjY h (W0f _),W0v]
def Zk5 (ok:Nat->Bool) (st:St) (l:List Int):frzO ok st (.row 1 (cpoI l)) = .row 1 (cpoI l):=by
 have h:=ZjW ok st (cpcI l);simp only[frzO,AObj.row.injEq,true_and]at h ⊢;rw[cpoI,W0r,h];simp[zrO,frzA,frz,AV.keys]
def Zk6 (x:Int):∀ (t:List Int) (p:Int),cmpG p (t++[x])=if (p::t).getLast (by simp)=x then cmpG p t else cmpG p t++[x]
 | [],p=>by
   by_cases e:x=p
   . subst e;simp[cmpG]
   . simp[cmpG,e,Ne.symm e]
 | y :: t,p=>by
   have ih:=Zk6 x t y;rw[W1e,cmpG,cmpG,List.getLast_cons (by simp)];by_cases e:y=p
   . rw[if_pos e,if_pos e,<- e,ih]
   . rw[if_neg e,if_neg e,ih]
     split <;> simp
def Zk7 (l:List Int):∀ p,p<=l.length->kI l p=cmpI (l.take p)
 |0,_=>by simp[kI,cmpI]
 | p + 1,h=>by
   have hp:p<l.length:=h;have ih:=Zk7 l p (by omega);rw[kI,ih,Zk3 hp,W08 hp]
   cases p with
   | zero =>
     simp[cmpI,cmpG]
   | succ q =>
     have hq:q<l.length:=(by omega);have e1:(q+1-1)=q:=(by omega);rw[e1,Zk3 hq];have e2:l.take (q+1)=l.take q++[l[q]]:=W08 hq
     obtain ⟨a,t,hat⟩ : ∃ a t,l.take (q+1)=a::t:=by
      cases hh:l.take (q+1) with
      |nil=>exact absurd (congrArg List.length hh) (by simp only[W15,W1U];omega)
      |cons a t=>exact ⟨a,t,rfl⟩
     have hl:(a::t).getLast (by simp)=l[q]:=by
      have:(l.take (q+1)).getLast (by rw[hat];simp)=l[q]:=by
       simp only[List.getLast_eq_getElem,W1V,W15]
       congr 1;omega
      simpa [hat] using this
     rw[hat,W1e,cmpI,cmpI,Zk6,hl];by_cases c:l[q]=l[q+1]
     . rw[if_pos c,if_pos ⟨by omega,by simp[smI,c]⟩]
     . rw[if_neg c,if_neg (λh=>c (by have:=h.2;simp[smI]at this;exact this.symm))];simp
def Zk8 (l:List Int):cpcI l=cmpI l:=by rw[cpcI,Zk7 l _ (W0f _),W0v]
def Zk9 (l:List Int) (h3:l.length<=1000) :
  PB prog G 116 [(1000,.row 1 (l.map ia))] [.osl 1000 l.length] (cpvI 1000 l) [(1000,.row 1 (cpoI l))]:=by
 (refine ZiG (W0C rfl) λR hG hrd=>Qga ?_;subst hG)
 simp -implicitDefEqProofs[ZiE,ZiF];by_cases hs:(l.length:Int)<2
 . have e:cpcI l=l:=Zk4 λj h1 h2=>by omega
   simp -implicitDefEqProofs[hs];refine ⟨[.osl 1000 l.length],?_,?_,?_⟩
   . simp[Z29,evRes,Yi,newK,frzA,frz,AV.keys,lk,St.tmp,ZiF]
   . simp[cpvI,e,tupV]
   . simp[Yi,newK,ZjW,cpoI,e]
 simp -implicitDefEqProofs[hs];refine Z8g (λi=>⟨[(3,.int .i64 ((i:Int)+1)),(0,.osl 1000 l.length)],[(1000,.row 1 (l.map ia))]⟩) (λi=>noI l (i+1)) (l.length-1) ?_ (λj h1 h2=>by omega) ?_ ?_
 . refine Ym.sub (by simp[lk,Ya,AV.keys]) ?_;simp only[W0g,W0Q,or_false,W1M,forall_eq,Zem,and_true];simp[lk]
 . intro i hi hn;refine Qga ?_;have k1:(i:Int)+1<l.length:=(by omega);have k2:((i:Int)+1).toNat=i+1:=(by omega);have k3:(0:Int)<=(i:Int)+1:=(by omega);have k4:i+1<l.length:=(by omega);have k5:i<l.length:=(by omega);have w1:i64.wrap (i:Int)=i:=Yf;have w2:i64.wrap ((i:Int)+1+1)=(i:Int)+1+1:=Yf;have ex:∀ x,ia x=[.int .i64 x]:=λx=>rfl
   have hsm:smI (l.getD (i+1) default) (l.getD i default)=decide (l[i+1]=l[i]):=(by rw[Zk3 k4,Zk3 k5];rfl);by_cases hd:l[i+1]=l[i]
   . simp -implicitDefEqProofs [k1,k2,k3,k4,k5,w1,ex,hd];refine ⟨rfl,?_⟩;rw[W0M hd]at hsm;have hs2:i+1≠0/\smI (l.getD (i+1) default) (l.getD (i+1-1) default)=true:=⟨by omega,hsm⟩;have hk:=ZjY hn (by omega);have hk1:(kI l (i+1)).length=i+1:=(by rw[hk];simp;omega);obtain ⟨c1,c2⟩:=Zk2 hs2;have c3:cpI l (i+1)=l:=(by rw[cpI,hk1,hk,W11]);have hkl:=λp=>kI_lt (l:=l) (k:=i+1) (by omega) hsm p
     have k6:i+1<=l.length:=(by omega);simp -implicitDefEqProofs[k2,k3,k6];refine Z8g (λj=>⟨[(5,.int .i64 ((j:Int)+1)),(4,.oss 1000 l.length (i+1) l.length),(3,.int .i64 (kI l (i+1+1+j)).length),(0,.osl 1000 l.length)],[(1000,.row 1 ((cpI l (i+1+1+j)).map ia))]⟩) (λ_=>True) (l.length-(i+1+1)) ?_ trivial ?_ ?_
     . have z1:cpI l (i+1+1+0)=l:=(by rw[W1X,c1,c3]);have z2:(kI l (i+1+1+0)).length=i+1:=(by rw[W1X,c2,hk1]);rw[z1,z2];refine Ym.sub (by simp[lk,Ya,AV.keys]) ?_;simp only[W0g,W0Q,or_false,W1M,forall_eq,Zem,and_true];simp[lk]
     . intro j hj _;refine Qga ?_;have hq:i+1+1+j<l.length:=(by omega);have hq2:i+1+j<l.length:=(by omega);have hml:=hkl (i+1+1+j) (by omega);have hcl:=ZjZ (l:=l) (p:=i+1+1+j) (by omega);have a1:=Zk0 (j:=i+1+1+j) hq (by omega) (by omega);have a2:=Zk0 (j:=i+1+j) hq (by omega) (by omega);rw[Zk3 hq]at a1;rw[Zk3 hq2]at a2;have hkeep:=Zk1 hq;have hskip:=Zk2 (l:=l) (p:=i+1+1+j);have e3:i+1+1+j-1=i+1+j:=(by omega);have hkk:kI l (i+1+1+j+1)=kI l (i+1+1+j+1):=rfl
       conv at hkk=>rhs;rw[kI]
       have hsm2:smI (l.getD (i+1+1+j) default) (l.getD (i+1+j) default)=decide (l[i+1+1+j]=l[i+1+j]):=(by rw[Zk3 hq,Zk3 hq2];rfl);rw[e3,hsm2,Zk3 hq]at hkeep hkk;rw[e3,hsm2]at hskip;have e4:i+1+1+(j+1)=i+1+1+j+1:=(by omega);have m1:(j:Int)+1<((l.length-(i+1):Nat):Int):=(by omega);have m2:((j:Int)+1).toNat=j+1:=(by omega);have m3:(0:Int)<=(j:Int)+1:=(by omega);have m4:j+1<l.length-(i+1):=(by omega);have m5:j<l.length-(i+1):=(by omega);have m6:i+1+(j+1)=i+1+1+j:=(by omega);have u1:i64.wrap (j:Int)=j:=Yf;have u2:i64.wrap ((j:Int)+1+1)=(j:Int)+1+1:=Yf;have u3:i64.wrap (((kI l (i+1+1+j)).length:Int)+1)=(kI l (i+1+1+j)).length+1:=Yf;have m7:(kI l (i+1+1+j)).length<l.length:=(by omega);have hpl:=ZjX l (i+1+1+j);generalize cpI l (i+1+1+j)=Q at *;obtain ⟨q1,g1⟩:=W02.1 a1;obtain ⟨q2,g2⟩:=W02.1 a2;generalize l[i+1+1+j]=x at *;generalize l[i+1+j]=y at *;have ex1:=ex x;have ey1:=ex y;by_cases hd2:x=y
       . obtain ⟨f1,f2⟩:=hskip ⟨by omega,W0M hd2⟩;simp -implicitDefEqProofs[m1,m2,m3,m4,m5,m6,u1,u2,hq,hq2,g1,g2,hcl,ex1,ey1,hd2];refine ⟨rfl,?_⟩;rw[e4,f1,f2];refine Ym.sub (by simp[lk,Ya,AV.keys]) ?_;simp only[W0g,W0Q,or_false,W1M,forall_eq,Zem,and_true];simp[lk]
       . have hn2:¬(i+1+1+j≠0/\decide (x=y)=true):=by
          rintro ⟨-,h⟩;exact hd2 (W0X h)
         have f1:=hkeep hn2;rw[if_neg hn2]at hkk;have il:∀ z:Int,(ia z).length=1:=λz=>rfl
         have id5:∀ z:Int,(ia z).drop 1=[]:=λz=>rfl
         have m8:(((kI l (i+1+1+j)).length:Int)+1)=((kI l (i+1+1+j+1)).length:Nat):=(by rw[hkk];simp);simp -implicitDefEqProofs[hd2,m1,m2,m3,m4,m5,m6,u1,u2,u3,hq,hq2,g1,g2,hcl,ex1,ey1,m7,il,id5];refine ⟨rfl,?_⟩;rw[<- ex1,<- W2r,f1,m8,e4];refine Ym.sub (by simp[lk,Ya,AV.keys]) ?_;simp only[W0g,W0Q,or_false,W1M,forall_eq,Zem,and_true];simp[lk]
     . intro _;refine Qga ?_;have n1:¬(((l.length-(i+1+1):Nat):Int)+1<((l.length-(i+1):Nat):Int)):=(by omega);have e5:i+1+1+(l.length-(i+1+1))=l.length:=(by omega);rw[e5];have hml:=hkl l.length (by omega);have hcl:=ZjZ (l:=l) (p:=l.length) (W0f _);have n2:(kI l l.length).length<=l.length:=(by omega);simp -implicitDefEqProofs[n1,hcl];refine Qgr ?_;simp -implicitDefEqProofs[hcl,n2];refine Qgr ?_
       have t1:List.take (kI l l.length).length ((cpI l l.length).map ia)=(cpcI l).map ia:=by
        rw[<- List.map_take,cpI,List.take_left'];rfl;rfl
       have t2:List.drop l.length ((cpI l l.length).map ia)=[]:=W1j (by simp[hcl]);rw[t1,t2,W1G];have hne:¬(cpcI l).length=l.length:=(by rw[cpcI];omega);refine ⟨[.oss 1000 l.length 0 (kI l l.length).length],?_,?_,?_⟩
       . simp[Z29,evRes,Yi,newK,frzA,frz,AV.keys,lk,St.tmp]
       . rw[cpvI,if_neg hne];rfl
       . have hz:List.map ia (cpcI l)++List.replicate (l.length-(kI l l.length).length) [AV.int .i64 0]=cpoI l:=rfl;rw[hz];simp[Yi,newK,Zk5]
   . rw [W0S hd]at hsm;simp -implicitDefEqProofs[k1,k2,k3,k4,k5,w1,ex,hd,w2];refine ⟨rfl,?_,λj h1 h2=>?_⟩
     . (refine Wkc ?_;simp only[Zem,Wkl,and_true];(try simp[lk,Yc,Ya,AV.keys]))
     . rcases W0q j (i+1) with h|h
       . exact hn j h1 h
       . have:j=i+1:=(by omega);subst this;exact hsm
 . intro hn;refine Qga ?_;have k1:¬((l.length-1:Nat):Int)+1<l.length:=by omega
   have hn2:noI l l.length:=by
    have:l.length-1+1=l.length:=by omega
    rwa [this]at hn
   have e:cpcI l=l:=Zk4 hn2;simp -implicitDefEqProofs[k1];refine Qgr ?_;simp -implicitDefEqProofs[];refine ⟨[.osl 1000 l.length],?_,?_,?_⟩
   . simp[Z29,evRes,Yi,newK,frzA,frz,AV.keys,lk,St.tmp,ZiF]
   . simp[cpvI,e,tupV]
   . simp[Yi,newK,ZjW,cpoI,e]
end Go.Proofs.YtcdlimgkliklhaaGreatDoor

namespace Go.Proofs
open Go.Shelf
def Tryz.lays189_ren:Go.Shelf.Ren:=⟨fun|189=>115|125=>165|257=>164|128=>192|129=>193|294=>183|295=>184|296=>185|297=>186|298=>187|299=>188|216=>189|300=>190|301=>191|328=>203|329=>204|330=>205|331=>206|332=>207|215=>157|343=>213|n=>n,fun|28=>34|3=>3|46=>225|0=>0|51=>93|53=>156|4=>4|183=>255|182=>254|131=>159|5=>5|9=>9|218=>272|222=>276|228=>284|229=>285|n=>n,fun|n=>n⟩
def Tryz.lays189:Go.Proofs.Lays.n189 prog Tryz.lays189_ren:={
 mixed:=by kernel_rfl
 f125:=Tryz.func165.trans (congrArg some (by kernel_rfl))
 f128:=Tryz.func192.trans (congrArg some (by kernel_rfl))
 f129:=Tryz.func193.trans (congrArg some (by kernel_rfl))
 f189:=Tryz.func115.trans (congrArg some (by kernel_rfl))
 f215:=Tryz.func157.trans (congrArg some (by kernel_rfl))
 f216:=Tryz.func189.trans (congrArg some (by kernel_rfl))
 f257:=Tryz.func164.trans (congrArg some (by kernel_rfl))
 f294:=Tryz.func183.trans (congrArg some (by kernel_rfl))
 f295:=Tryz.func184.trans (congrArg some (by kernel_rfl))
 f296:=Tryz.func185.trans (congrArg some (by kernel_rfl))
 f297:=Tryz.func186.trans (congrArg some (by kernel_rfl))
 f298:=Tryz.func187.trans (congrArg some (by kernel_rfl))
 f299:=Tryz.func188.trans (congrArg some (by kernel_rfl))
 f300:=Tryz.func190.trans (congrArg some (by kernel_rfl))
 f301:=Tryz.func191.trans (congrArg some (by kernel_rfl))
 f328:=Tryz.func203.trans (congrArg some (by kernel_rfl))
 f329:=Tryz.func204.trans (congrArg some (by kernel_rfl))
 f330:=Tryz.func205.trans (congrArg some (by kernel_rfl))
 f331:=Tryz.func206.trans (congrArg some (by kernel_rfl))
 f332:=Tryz.func207.trans (congrArg some (by kernel_rfl))
 f343:=Tryz.func213.trans (congrArg some (by kernel_rfl))
 t0:=Tryz.underlying0
 a0:=Tryz.isAgg0
 z0:=Tryz.sizeOf0
 v0:=Tryz.zeroValue0
 t3:=Tryz.underlying3
 a3:=Tryz.isAgg3
 z3:=Tryz.sizeOf3
 v3:=Tryz.zeroValue3
 t4:=Tryz.underlying4
 a4:=Tryz.isAgg4
 z4:=Tryz.sizeOf4
 v4:=Tryz.zeroValue4
 t5:=Tryz.underlying5
 a5:=Tryz.isAgg5
 z5:=Tryz.sizeOf5
 v5:=Tryz.zeroValue5
 t9:=Tryz.underlying9
 a9:=Tryz.isAgg9
 z9:=Tryz.sizeOf9
 v9:=Tryz.zeroValue9
 t28:=Tryz.underlying34
 a28:=Tryz.isAgg34
 z28:=Tryz.sizeOf34
 v28:=Tryz.zeroValue34
 t46:=Tryz.underlying225
 a46:=Tryz.isAgg225
 z46:=Tryz.sizeOf225
 v46:=Tryz.zeroValue225
 t51:=Tryz.underlying93
 a51:=Tryz.isAgg93
 z51:=Tryz.sizeOf93
 v51:=Tryz.zeroValue93
 t53:=Tryz.underlying156
 a53:=Tryz.isAgg156
 z53:=Tryz.sizeOf156
 v53:=Tryz.zeroValue156
 t131:=Tryz.underlying159
 a131:=Tryz.isAgg159
 z131:=Tryz.sizeOf159
 v131:=Tryz.zeroValue159
 t182:=Tryz.underlying254
 a182:=Tryz.isAgg254
 z182:=Tryz.sizeOf254
 v182:=Tryz.zeroValue254
 t183:=Tryz.underlying255
 a183:=Tryz.isAgg255
 z183:=Tryz.sizeOf255
 v183:=Tryz.zeroValue255
 t218:=Tryz.underlying272
 a218:=Tryz.isAgg272
 z218:=Tryz.sizeOf272
 v218:=Tryz.zeroValue272
 t222:=Tryz.underlying276
 a222:=Tryz.isAgg276
 z222:=Tryz.sizeOf276
 v222:=Tryz.zeroValue276
 t228:=Tryz.underlying284
 a228:=Tryz.isAgg284
 z228:=Tryz.sizeOf284
 v228:=Tryz.zeroValue284
 t229:=Tryz.underlying285
 a229:=Tryz.isAgg285
 z229:=Tryz.sizeOf285
 v229:=Tryz.zeroValue285 }
open Go.Sort Go.RowKit in
def Tryz.slices_Sort_int (blk off cap:Nat) (zs:List Int) (w:World) (hH:Holds (Value.int .i64) w blk off zs.toArray) (hblk:blk<w.heap.size) (hsz:zs.length<4611686018427387904) :
 Calls prog 115 #[.slice (some ⟨blk,off,none⟩) zs.length cap] w λe w' =>
  e = .returned (.tuple #[])/\∃ n os,w'=grow (putRow (Value.int .i64) (Sort.ahead w n) blk off (zs.mergeSort λx y=>decide (x<=y)).toArray) os:=Any.slices_Sort_int Tryz.lays189 blk off cap zs w hH hblk hsz
end Go.Proofs

namespace Go.Proofs.YtcdlimgkliklhaaGreatDoor
open Go.Proofs.Tryz (prog)
open IntKind (i64)
open Go.RowKit
variable {G:Jg}
def Zka (W:World) (os:Array Obj):Ext W (Go.Sort.grow W os):=by
 refine ⟨rfl,rfl,rfl,?_,λk hk=>?_⟩
 . simp[Go.Sort.grow]
 . simp only[Go.Sort.grow];exact W27 hk
def Zkb (l:List Int) (hm:l.length<4611686018427387904) :
  PB prog G 115 [(1000,.row 1 (l.map ia))] [.osl 1000 l.length] (.tup []) [(1000,.row 1 ((sortI l).map ia))]:=by
 refine ⟨by kernel_rfl,λR W κ vs hG hN hW hX hE hk hsz hvs=>?_⟩;have hg:(obSt [(1000,.row 1 (l.map ia))]).get 1000=some (.row 1 (l.map ia)):=rfl;obtain ⟨vs⟩:=vs
 match vs,hsz with
 |[v],_ =>
 have hv:=hvs 0 _ v rfl rfl;obtain ⟨b,s,c,cs,t,hκ,rfl,hnc,hc,hb,hs,hr,hx⟩:=hk.osl hv hg (by simp)
 have hcell:∀ i,i<l.length->cs[s+i]? = some (.int .i64 l[i]!):=by
  intro i hi;obtain ⟨u,hu,hu2⟩:=hx i 0 (ia l[i]) (.int .i64 l[i]) (by simp[hi]) rfl
  have hu3:u = .int .i64 l[i]:=by
   cases hu2 with|pv h=>cases h;rfl
  subst hu3;rw[getElem!_pos l i hi];simpa using hu
 have hH:Go.Sort.Holds (Value.int .i64) W b s l.toArray:=by
  intro j hj;have hj':j<l.length:=(by simpa using hj);refine ⟨?_,by simp[World.frozen?,hb]⟩;rw[World.cell?,hb];simpa using hcell j hj'
 have hlt:=hk.loc_lt hκ;refine (Go.Proofs.Tryz.slices_Sort_int b s c l W hH hlt hm).mono ?_;rintro e W' ⟨rfl,n,os,rfl⟩;have hsl:(sortI l).length=l.length:=Zbo l;refine ⟨_,κ,rfl,?_,.tup [] #[] rfl (by simp)⟩;refine SK.grow ?_ (Zka _ _)
 have:=hk.change (o':=.row 1 ((sortI l).map ia)) (W':=Go.Sort.putRow (Value.int .i64) (Go.Sort.ahead W n) b s (l.mergeSort λx y=>decide (x<=y)).toArray)
  (cs':=Go.Sort.putCells (Value.int .i64) s (l.mergeSort λx y=>decide (x<=y)).toArray cs) hg hκ hb (by simp[AObj.dim,hsl]) (by simp[Go.Sort.putCells])
  (by simp[Go.Sort.putRow,Go.Sort.mapBlock,Go.Sort.ahead])
  (by simp[Go.Sort.putRow,Go.Sort.mapBlock,Go.Sort.ahead,Array.getElem?_modify,hb,Go.Sort.onCells])
  (by intro i hi hne;simp[Go.Sort.putRow,Go.Sort.mapBlock,Go.Sort.ahead,Array.getElem?_modify,Ne.symm hne]) rfl rfl rfl ?_
 . exact this
 . refine ⟨by simp[ia],by simp[Go.Sort.putCells];omega,?_⟩;intro i j r x hi hj
   have hi2:i<l.length:=by
    have:=(W02.1 hi).1;simpa [hsl] using this
   have hi3:i<(sortI l).length:=(by omega);rw[W09,W07 hi3,W0m,W00]at hi;subst hi
   match j,hj with
   |0,hj =>
   have ex:AV.int .i64 (sortI l)[i]=x:=(by simpa [ia] using hj);subst ex;refine ⟨.int .i64 (sortI l)[i],?_,.pv (.int _ _)⟩;have hz:s+i*1+0<cs.size:=(by omega);have e1:s+i*1+0-s=i:=(by omega);have e2:(l.mergeSort λx y=>decide (x<=y))=sortI l:=rfl;simp only[Go.Sort.putCells,e2];rw[Array.getElem?_mapIdx,W0n hz,W0m,if_pos (by simp;omega),e1];simp[hi3]
def sqP (id d:Int) (x:Prt):Bool:=decide (x.ho=id)&&decide (x.dw=d) && !decide (x.lo=1)
def pqP (id d:Int) (x:Prt):Bool:=decide (x.ho=id)&&decide (x.dw=d)&&decide (x.lo=1)
def suK (id d:Int) (L:Jp) (k:Nat):Int:=(pkL (sqP id d) (·.lt) L k).foldl max 0
def peK (id d:Int) (L:Jp) (k:Nat):List Int:=pkL (pqP id d) (·.lt) L k
def Zkc {id d:Int} {L:Jp} {k:Nat} (h:k<L.length):suK id d L (k+1)=if sqP id d L[k]=true then max (suK id d L k) L[k].lt else suK id d L k:=by
 unfold suK;rw[Zj8 h]
 split
 . rw[W1q];rfl
 . rfl
def Zkd {ps:Jp} {day id d:Int} (hlo:∀ x∈ps,0<=x.lo/\x.lo<=2):suK id d (outP ps day) (outP ps day).length=sureM ps day id d:=by
 unfold suK sureM outP;rw[Zjb,List.filter_filter]
 congr 2
 refine List.filter_congr λx hx=>?_
 have:=hlo x hx;rw[W2h];simp only[sqP,herB,outB,W01,W0b,W1C,W1b,W0T]
 constructor
 . rintro ⟨⟨⟨h1,h2⟩,h3⟩,h4,h5⟩;exact ⟨⟨⟨h1,h4,h5⟩,h2⟩,by omega⟩
 . rintro ⟨⟨⟨h1,h4,h5⟩,h2⟩,h3⟩;exact ⟨⟨⟨h1,h2⟩,by omega⟩,h4,h5⟩
def Zke {ps:Jp} {day id d:Int} (hlo:∀ x∈ps,0<=x.lo/\x.lo<=2):peK id d (outP ps day) (outP ps day).length=perhL ps day id d:=by
 unfold peK perhL outP;rw[Zjb,List.filter_filter]
 congr 1
 refine List.filter_congr λx hx=>?_
 have:=hlo x hx;rw[W2h];simp only[pqP,herB,outB,W01,W0b,W1C,W1b,W0T]
 constructor
 . rintro ⟨⟨⟨h1,h2⟩,h3⟩,h4,h5⟩;exact ⟨⟨⟨h1,h4,h5⟩,h2⟩,by omega⟩
 . rintro ⟨⟨⟨h1,h4,h5⟩,h2⟩,h3⟩;exact ⟨⟨⟨h1,h2⟩,by omega⟩,h4,h5⟩
def r1K (k:Nat):Nat:=if 1000<=k then k-1000 else k
def nlV (k:Nat) (S:List Int):AV:=if S=[] then .nils else .osl k S.length
def nlO (k:Nat) (S:List Int):List (Nat×AObj):=if S=[] then [] else [(k,.row 1 (S.map ia))]
def nlN (k:Nat) (S:List Int):Nat:=if S=[] then k-1000 else k
def woB (id d su:Int) (S:List Int):List (Nat×AObj):=[(1006,.box [.int .i64 id]),(1007,.box [.int .i64 d]),(1009,.box [.int .i64 su]),(1010,.box [nlV 1038 S])]++nlO 1038 S
def woU (id d su:Int) (S T:List Int):List (Nat×AObj):=[(1006,.box [.int .i64 id]),(1007,.box [.int .i64 d]),(1009,.box [.int .i64 su]),(1010,.box [nlV (nlN 1038 S) T])]++nlO (nlN 1038 S) T
def Zkf {α β:Type} {p:α->Bool} {f:α->β} {L:List α} {k:Nat} (h:pkL p f L (k+1)=[]):pkL p f L k=[]:=by
 by_cases c:k<L.length
 . rw[Zj8 c]at h
   split at h
   . exact absurd h (by simp)
   . exact h
 . unfold pkL at *;rw[W0J (by omega)]at *;exact h
def Zkg (o:List (Nat×AObj)) (k:Nat) (S:List Int):∀ q∈nlO k S,Yc o q.2=true:=by
 intro q hq;unfold nlO at hq
 split at hq
 . cases hq
 . simp at hq;subst hq;exact Zem o S
def Zkh (ρ:Nat->Nat) (l:List Int):(AObj.row 1 (l.map ia)).ren ρ = .row 1 (l.map ia):=by
 simp only[AObj.ren,W10]
 congr 2
 funext p;simp[ia,AV.ren]
def Zki (r:Jr) (l:Jl) (hs:Jh) (ps:Jp) (day:Int):PC prog G 70 [ofA r l hs ps,.int .i64 day] (.func (.func 128) [] [.vptr [ofA r l hs ps] 0,.vptr [.int .i64 day] 0]):=by
 have pO:=ZiZ r l hs ps;obtain ⟨cs,eS⟩ : ∃ cs,ofA r l hs ps = .vptr cs 0:=⟨_,rfl⟩;rw[eS]at pO ⊢
 (refine Zik rfl λR hG hrd=>Qga ?_;subst hG)
 simp -implicitDefEqProofs[Zii,Zij,pO]
def Zkj (r:Jr) (l:Jl) (hs:Jh) (ps:Jp) (day id d:Int) (hp:ps.length<=41) (hb:∀ x∈ps,0<=x.lt/\x.lt<=8) :
  PC prog G 74 [ofA r l hs ps,.int .i64 day,.int .i64 id,.int .i64 d] (.vsl (((setI (peK id d (outP ps day) (outP ps day).length++[suK id d (outP ps day) (outP ps day).length])).drop ((setI (peK id d (outP ps day) (outP ps day).length++[suK id d (outP ps day) (outP ps day).length])).idxOf (suK id d (outP ps day) (outP ps day).length))).map ia)):=by
 have hO:=Zki (G:=G) r l hs ps day;have hit:=outIt (G:=G) r l hs ps day hp;have pO:=ZiZ r l hs ps;have eN:=Zj6 ps day;have hat:=λk x h=>Zj7 (ps:=ps) (day:=day) (k:=k) (x:=x) h
 have hL:(outP ps day).length<=41:=W0O (W0D ..) hp;have hLb:∀ x∈outP ps day,0<=x.lt/\x.lt<=8:=λx hx=>hb x (W0G.1 hx).1
 generalize outP ps day=L at *;generalize outE ps day=E at *;generalize ofA r l hs ps=O at *;refine Zir rfl λR hG hrd=>?_
 subst hG;refine Qga ?_;simp -implicitDefEqProofs[Zip,Ziq];refine Yd.of hO (by simp[pO,AV.pure]) ?_;simp -implicitDefEqProofs[]
 refine Zjt hrd (by decide) hit (by simp[evA,St.tmp,lk]) (by simp[AV.pure,pO]) (λk=>k == 12) (by intro k hk;simp at hk;omega) r1K [(6,.ptr 1006 0),(7,.ptr 1007 0),(9,.ptr 1009 0),(10,.ptr 1010 0)]
  (λk=>woB id d (suK id d L k) (peK id d L k)) (λk=>woU id d (suK id d L (k+1)) (peK id d L k) (peK id d L (k+1))) (λk=>k<=L.length) (W1f _) ?_ ?_ ?_ ?_ ?_ ?_ ?_ ?_ ?_ ?_ ?_
 . intro k q hq;simp only[woB,nlO]at hq
   split at hq <;> simp at hq
   . rcases hq with rfl|rfl|rfl|rfl <;> simp
   . rcases hq with rfl|rfl|rfl|rfl|rfl <;> simp
 . intro k;simp only[woB,nlO]
   split <;> simp[r1K]
 . intro k;simp only[woU,nlO,nlN]
   split <;> split <;> simp[r1K]
 . intro k q hq;have hne:=Zkf (p:=pqP id d) (f:=(·.lt)) (L:=L) (k:=k);simp only[woB,woU,nlO,nlN]at *;by_cases c:peK id d L k=[]
   . simp only[c,if_true]at *
     split <;> simp at hq ⊢ <;> rcases hq with rfl|rfl|rfl|rfl <;> simp[isK,lk]
   . have c2:¬peK id d L (k+1)=[]:=λh=>c (hne h)
     simp only[c,c2,if_false]at *;simp at hq ⊢;rcases hq with rfl|rfl|rfl|rfl|rfl <;> simp[isK,lk]
 . intro k q hq;simp only[woB,woU,nlO,nlN]at *;by_cases c:peK id d L k=[]
   . simp only[c,if_true]at *
     split at hq <;> simp at hq
     . rcases hq with rfl|rfl|rfl|rfl <;> exact .inl (by simp[isK,lk])
     . rcases hq with rfl|rfl|rfl|rfl|rfl
       . exact .inl (by simp[isK,lk])
       . exact .inl (by simp[isK,lk])
       . exact .inl (by simp[isK,lk])
       . exact .inl (by simp[isK,lk])
       . exact .inr (by simp[Yl,r1K,St.get,St.set,putO,lk])
   . simp only[c,if_false]at *
     split at hq <;> simp at hq
     . rcases hq with rfl|rfl|rfl|rfl <;> exact .inl (by simp[isK,lk])
     . rcases hq with rfl|rfl|rfl|rfl|rfl <;> exact .inl (by simp[isK,lk])
 . intro k;have hne:=Zkf (p:=pqP id d) (f:=(·.lt)) (L:=L) (k:=k);simp only[woB,woU,nlO,nlV,nlN];by_cases c:peK id d L k=[] <;> by_cases c2:peK id d L (k+1)=[]
   . simp[c,c2,Yl,r1K,AV.ren,AObj.ren]
   . simp[c,c2,Yl,r1K,AV.ren,Zfz,Zkh]
   . exact absurd (hne c2) c
   . simp[c,c2,Yl,r1K,AV.ren,Zfz,Zkh]
 . have e0:peK id d L 0=[]:=Zja _ _ _;have e1:suK id d L 0=0:=(by unfold suK;rw[Zja];rfl);simp[woB,nlO,nlV,e0,e1,Yl,r1K,St.set,putO,AObj.ren,AV.ren]
 . intro k q hq;simp only[woB,W0h]at hq;rcases hq with hq|hq
   . simp only[woB,nlO];simp at hq;rcases hq with rfl|rfl|rfl|rfl
     . simp[Yc,Ya,AV.keys]
     . simp[Yc,Ya,AV.keys]
     . simp[Yc,Ya,AV.keys]
     . unfold nlV
       split <;> simp[Yc,Ya,AV.keys,lk]
   . exact Zkg _ _ _ q hq
 . intro q hq;simp at hq;rcases hq with rfl|rfl|rfl|rfl
   all_goals
    refine ⟨by simp[lk,AV.ren,r1K],by simp,by simp,λj k hk=>?_⟩;simp[AV.keys]at hk;subst hk;simp only[woB];simp[isK,lk]
 . intro k x hx hk R' hG hN;obtain ⟨i,hkl,rfl⟩:=hat k x hx;have sc:=Zkc (id:=id) (d:=d) hkl;have pc:=Zj8 (p:=pqP id d) (f:=(·.lt)) hkl;have hle:=Zj9 (pqP id d) (·.lt) L k;have hLx:=hLb _ (W0e hkl);obtain ⟨y,hy⟩:=Qex (L[k]);rw[<- hy]at sc pc hLx ⊢;have hpt:ptA y=[.int .i64 y.no,.int .i64 y.dy,.int .i64 y.ho,.int .i64 y.dw,.int .i64 y.lt,.int .i64 y.bk,.int .u8 y.lo]:=rfl;have e1:pkL (pqP id d) (·.lt) L k=peK id d L k:=rfl;have e2:pkL (pqP id d) (·.lt) L (k+1)=peK id d L (k+1):=rfl;rw[e1,e2]at pc;rw[e1]at hle;generalize suK id d L k=su at *;generalize suK id d L (k+1)=su' at *;generalize peK id d L k=S at *;generalize peK id d L (k+1)=T at *;have bb:(S.length+1)*8<=70368744177664:=by omega
   have no:sqP id d y=false->pqP id d y=false->su'=su/\T=S:=λh1 h2=>by
    rw[h1]at sc;rw[h2]at pc;exact ⟨sc,pc⟩
   have f0:Zf7=Zf7:=rfl;by_cases cS:S=[]
   case' pos =>
    have hV:nlV 1038 S = .nils:=(by simp[nlV,cS]);have hQ:nlO 1038 S=[]:=(by simp[nlO,cS]);have hM:nlN 1038 S=38:=by simp[nlN,cS]
   case' neg =>
    have hV:nlV 1038 S = .osl 1038 S.length:=(by simp[nlV,cS]);have hQ:nlO 1038 S=[(1038,.row 1 (S.map ia))]:=(by simp[nlO,cS]);have hM:nlN 1038 S=1038:=by simp[nlN,cS]
   all_goals
    refine Qga ?_;simp only[woB,hV,hQ,W1e,W18];simp -implicitDefEqProofs[hpt];intro R'' hG'' hN'';refine Qga ?_;by_cases q1:y.ho=id
    case neg =>
     obtain ⟨rfl,rfl⟩:=no (by simp[sqP,q1]) (by simp[pqP,q1]);simp -implicitDefEqProofs[hpt,q1];refine ⟨?_,by omega⟩;simp only[woU,hV,hQ,hM];simp[hV,hQ,Yi,Zf7,ZjW,frzA,frz,AV.keys,nlV,nlO,cS]
    by_cases q2:y.dw=d
    case neg =>
     obtain ⟨rfl,rfl⟩:=no (by simp[sqP,q2]) (by simp[pqP,q2]);simp -implicitDefEqProofs[hpt,q1,q2];refine ⟨?_,by omega⟩;simp only[woU,hV,hQ,hM];simp[hV,hQ,Yi,Zf7,ZjW,frzA,frz,AV.keys,nlV,nlO,cS]
    by_cases q3:y.lo=1
    . have b1:sqP id d y=false:=(by simp[sqP,q3]);have b2:pqP id d y=true:=(by simp[pqP,q1,q2,q3]);rw[b1]at sc;rw[b2,if_pos rfl]at pc;have sc:su'=su:=sc;subst sc;have hne:¬T=[]:=(by rw[pc];simp);have hTl:T.length=S.length+1:=(by rw[pc];simp);have em:T.map ia=S.map ia++[[.int .i64 y.lt]]:=(by rw[pc,W0r];rfl);simp -implicitDefEqProofs[hpt,q1,q2,q3,bb];refine ⟨?_,by omega⟩;simp only[woU,hM,nlV,nlO,hne,if_false,hTl,em];simp[cS,Yi,Zf7,frzO,frzA,frz,AV.keys,ia,W0y]
    . have b1:sqP id d y=true:=(by simp[sqP,q1,q2,q3]);have b2:pqP id d y=false:=(by simp[pqP,q3]);rw[b2]at pc;rw[b1,if_pos rfl]at sc;have pc:T=S:=pc;subst pc;simp -implicitDefEqProofs[hpt,q1,q2,q3];refine ⟨?_,by omega⟩;rw[sc];simp only[woU,hV,hQ,hM];simp[hV,hQ,Yi,Zf7,ZjW,frzA,frz,AV.keys,nlV,nlO,cS]
 . intro _;rw[eN];have hle:=Zj9 (pqP id d) (·.lt) L L.length;have e1:pkL (pqP id d) (·.lt) L L.length=peK id d L L.length:=rfl;rw[e1]at hle;generalize suK id d L L.length=su at *;generalize peK id d L L.length=S at *;have bb:(S.length+1)*8<=70368744177664:=(by omega);obtain ⟨U,hU⟩:=Qex (S++[su]);have hUl:U.length=S.length+1:=(by rw[hU];simp);have hsp:=Zkb (G:=R.G) U (by omega);have sl:(sortI U).length=U.length:=Zbo U;have hcp:=Zk9 (G:=R.G) (sortI U) (by omega);rw[sl]at hcp;have hC:cpcI (sortI U)=setI U:=Zk8 _;have hCm:su∈setI U:=ZbC.2 (by rw[hU];simp)
   have hCl:(setI U).length<=U.length:=by
    have:=ZjX (sortI U) (sortI U).length;rw[<- hC];unfold cpcI;omega
   have hix:=ZeF (G:=R.G) (setI U) su (by unfold Sml;omega);have hid:idx (setI U) su=(((setI U).idxOf su:Nat):Int):=(by unfold idx;rw[if_pos hCm]);rw[hid]at hix;have hlt:(setI U).idxOf su<(setI U).length:=List.idxOf_lt_length_of_mem hCm
   have hOl:(cpoI (sortI U)).length=U.length:=by
    unfold cpoI;rw[W0s,W0N,W1H,hC,sl];omega
   have hOt:(cpoI (sortI U)).take (setI U).length=(setI U).map ia:=by
    unfold cpoI;rw[hC];exact List.take_left' (by simp)
   have hOf:(setI U).length=U.length->cpoI (sortI U)=(setI U).map ia:=λh=>by
    rw[<- hOt,h,<- hOl,W0v]
   have hcv:∀ k,cpvI k (sortI U)=if (setI U).length=U.length then .osl k U.length else .oss k U.length 0 (setI U).length:=λk=>by unfold cpvI;rw[hC,sl]
   rw[hcv]at hcp;have em:U.map ia=S.map ia++[[.int .i64 su]]:=by rw[hU,W0r];rfl
   have kO:∀ o,Yc o (.row 1 (cpoI (sortI U)))=true:=λo=>by
    unfold cpoI;rw[show List.replicate ((sortI U).length-(cpcI (sortI U)).length) zrO=(List.replicate ((sortI U).length-(cpcI (sortI U)).length) (0:Int)).map ia by rw[List.map_replicate];rfl,<- W0r];exact Zem _ _
   have rO:∀ ρ,AObj.ren ρ (.row 1 (cpoI (sortI U))) = .row 1 (cpoI (sortI U)):=λρ=>by
    unfold cpoI;rw[show List.replicate ((sortI U).length-(cpcI (sortI U)).length) zrO=(List.replicate ((sortI U).length-(cpcI (sortI U)).length) (0:Int)).map ia by rw[List.map_replicate];rfl,<- W0r];exact Zel _ _
   have pu:((setI U).map ia).all (λr=>r.all AV.pure)=true:=(by simp[ia,AV.pure]);rw[<- hU]
   have fin:∀ st',Ym st' ⟨[(13,.vsl ((setI U).map ia)),(9,.ptr 9 0)],[(9,.box [.int .i64 su])]⟩->GO prog R 0 (.run ((RCode.reg 12 false [{ d:=some 52,op:=ROp.mov (RA.t 13) },{ d:=some 53,op:=ROp.mov (RA.t 13) },{ d:=some 54,op:=ROp.load false 1 (RA.t 9) },{ d:=some 55,op:=ROp.call 129 [RA.t 53,RA.t 54] },{ d:=some 56,op:=ROp.slc 1 (RA.t 52) (some (RA.t 55)) none },{ d:=some 8,op:=ROp.mov (RA.t 56) }]).seq RCode.ret)) [] (Fin [RRes.t 8] (AV.vsl (List.drop (List.idxOf su (setI U)) (List.map ia (setI U))))) st':=λst' hw=>by
    refine GO0 (Z2Q hw (Qga ?_));have hle:(setI U).idxOf su<=(setI U).length:=(by omega);have hln:∀ x:Int,(ia x).length=1:=λ_=>rfl
    simp -implicitDefEqProofs[];refine Qco (hix) ?_;have ht:List.take (setI U).length (List.map ia (setI U))=List.map ia (setI U):=W0J (by simp)
    have hd:∀ x∈List.drop (List.idxOf su (setI U)) (List.map ia (setI U)),∀ y∈x,y.pure=true:=λx hx y hy=>by
     obtain ⟨z,-,rfl⟩:=W0i.1 (W1S hx);simp[ia]at hy;subst hy;simp[AV.pure]
    simp -implicitDefEqProofs[hle,hln,ht];refine Qgr ?_;generalize List.drop (List.idxOf su (setI U)) (List.map ia (setI U))=D at *;simp -implicitDefEqProofs[]
   by_cases cS:S=[]
   . have hU1:U=[su]:=(by rw[hU,cS];rfl);have hl1:U.length=1:=(by rw[hU1];rfl);have emU:U.map ia=[[.int .i64 su]]:=(by rw[hU1];rfl);simp -implicitDefEqProofs[woB,nlV,nlO,cS,Yl,r1K,AV.ren,AObj.ren];refine Z2R mixed 11 ?_;simp -implicitDefEqProofs[];rw[<- emU];rw[hl1]at hsp hcp;refine Yd.sem (Z1B.byref hsp (λ_=>47) (by simp) (by simp) (by simp[St.get,lk,Zel]) (by simp[Zem]) (by simp[Ya,AV.keys,lk]) rfl (by simp[AV.ren]) rfl rfl) ?_;simp -implicitDefEqProofs[Yl,Zel];refine Yd.sem (Z1B.byref hcp (λ_=>47) (by simp) (by simp) (by simp[St.get,lk,Zel]) (by simp[Zem]) (by simp[Ya,AV.keys,lk]) rfl (by simp[AV.ren]) rfl rfl) ?_;simp -implicitDefEqProofs[Yl,rO];refine fin _ (Ym.trans (Ym.frz (λk=>k == 47) _) ?_);rw[hl1]at hOl hOf;by_cases hq:(setI U).length=1
     . have hOf:=hOf hq;rw[hOf]at *
       ((try simp only[Yi,frzA,frzO,frz,Yh,Yj,St.get,hq,hOl,pu,AV.ren]);refine Ym.sub (by simp[lk,Ya,AV.keys,Yi,frzA,frzO,frz,Yh,Yj,St.get,hq,hOl,pu,AV.ren]) ?_;simp only[Yi,frzA,frzO,frz,Yh,Yj,St.get,hq,hOl,pu,AV.ren,Wkl,and_true];(try simp[lk,Yc,Ya,AV.keys,Yi,frzA,frzO,frz,Yh,Yj,St.get,hq,hOl,pu,AV.ren]))
     . ((try simp only[Yi,frzA,frzO,frz,Yh,Yj,St.get,hq,hOl,hOt,pu,AV.ren]);refine Ym.sub (by simp[lk,Ya,AV.keys,Yi,frzA,frzO,frz,Yh,Yj,St.get,hq,hOl,hOt,pu,AV.ren]) ?_;simp only[Yi,frzA,frzO,frz,Yh,Yj,St.get,hq,hOl,hOt,pu,AV.ren,Wkl,and_true];(try simp[lk,Yc,Ya,AV.keys,Yi,frzA,frzO,frz,Yh,Yj,St.get,hq,hOl,hOt,pu,AV.ren]))
   . simp -implicitDefEqProofs[woB,nlV,nlO,cS,Yl,r1K,AV.ren,Zfz,Zkh];refine Z2R mixed 11 ?_;simp -implicitDefEqProofs[bb];have ei:(S.map ia)++[[AV.int .i64 su]]=U.map ia:=em.symm;rw[ei,<- hUl];refine Yd.sem (Z1B.byref hsp (λ_=>38) (by simp) (by simp) (by simp[St.get,lk,Zel]) (by simp[Zem]) (by simp[Ya,AV.keys,lk]) rfl (by simp[AV.ren]) rfl rfl) ?_;simp -implicitDefEqProofs[Yl,Zel];refine Yd.sem (Z1B.byref hcp (λ_=>38) (by simp) (by simp) (by simp[St.get,lk,Zel]) (by simp[Zem]) (by simp[Ya,AV.keys,lk]) rfl (by simp[AV.ren]) rfl rfl) ?_;simp -implicitDefEqProofs[Yl,rO];refine fin _ (Ym.trans (Ym.frz (λk=>k == 38) _) ?_);by_cases hq:(setI U).length=U.length
     . have hOf:=hOf hq;rw[hOf]at *
       ((try simp only[Yi,frzA,frzO,frz,Yh,Yj,St.get,hq,hOl,pu,AV.ren]);refine Ym.sub (by simp[lk,Ya,AV.keys,Yi,frzA,frzO,frz,Yh,Yj,St.get,hq,hOl,pu,AV.ren]) ?_;simp only[Yi,frzA,frzO,frz,Yh,Yj,St.get,hq,hOl,pu,AV.ren,Wkl,and_true];(try simp[lk,Yc,Ya,AV.keys,Yi,frzA,frzO,frz,Yh,Yj,St.get,hq,hOl,pu,AV.ren]))
     . ((try simp only[Yi,frzA,frzO,frz,Yh,Yj,St.get,hq,hOl,hOt,pu,AV.ren]);refine Ym.sub (by simp[lk,Ya,AV.keys,Yi,frzA,frzO,frz,Yh,Yj,St.get,hq,hOl,hOt,pu,AV.ren]) ?_;simp only[Yi,frzA,frzO,frz,Yh,Yj,St.get,hq,hOl,hOt,pu,AV.ren,Wkl,and_true];(try simp[lk,Yc,Ya,AV.keys,Yi,frzA,frzO,frz,Yh,Yj,St.get,hq,hOl,hOt,pu,AV.ren]))
def Zkk (r:Jr) (l:Jl) (hs:Jh) (ps:Jp) (day id d:Int) (hp:ps.length<=41) (hb:∀ x∈ps,0<=x.lt/\x.lt<=8) (hlo:∀ x∈ps,0<=x.lo/\x.lo<=2) :
  PC prog G 74 [ofA r l hs ps,.int .i64 day,.int .i64 id,.int .i64 d] (.vsl ((wkL ps day id d).map ia)):=by
 have h:=Zkj (G:=G) r l hs ps day id d hp hb
 rw[Zkd hlo,Zke hlo,ZbG λx hx=>by
  obtain ⟨y,hy,-,rfl⟩:=ZfU.1 hx;exact hb y hy]at h
 exact h
def smS (U:List Int) (v i:Nat):St:=⟨[(10,.int .i64 i),(9,.int .i64 U.length),(8,.vsl (U.map ia)),(5,nlV 23 (sbN U v i)),(1,.int .i64 v)],nlO 23 (sbN U v i)⟩
def drA (r:Jr) (l:Jl) (d m:Int):AV:=.tup [if asN r l [] m=0/\d∈nums r then fileA r l else .nilp,.int .i64 (if asN r l [] m=0 then if d∈nums r then 0 else 6 else asN r l [] m)]
def truE (U:List Int):List (AV×AV):=(List.range (2 ^ U.length)).map λ(v:Nat)=>(.int .i64 (v:Int),Yg ((sbT U v).map ia))
def Zkl {U:List Int} {v:Nat} (h:v<2 ^ U.length):(truE U)[v]? = some (.int .i64 v,Yg ((sbT U v).map ia)):=by
 unfold truE;rw[W09,W0L h];rfl
def Zkm (U:List Int):(truE U).length=2 ^ U.length:=by simp[truE]
def Zkn (U:List Int) (v:Nat) (hv:v<64) (hU:U.length<=5):PC prog G 161 [.vsl (U.map ia),.int .i64 v] (Yg ((sbT U v).map ia)):=by
 refine Zhm rfl λR hG hrd=>?_
 subst hG;refine Qga ?_;simp -implicitDefEqProofs[Zhk,Zhl];refine Z8g (smS U v) (λ_=>True) U.length ?_ trivial ?_ ?_
 . have e0:sbN U v 0=[]:=rfl;simp only[smS,nlV,nlO,e0,if_true]
   (refine Wkc ?_;simp only[Wkl,and_true];(try simp[lk,Yc,Ya,AV.keys]))
 . intro i hi _;have sc:sbN U v (i+1)=if v / 2 ^ i % 2=1 then sbN U v i++[U.getD i 0] else sbN U v i:=rfl
   have hle:=ZfC U v i;have bU:=bitU (v:=v) (i:=i) hv (by omega);have hg:U.getD i 0=U[i]:=(by rw[W0j,W07 hi];rfl);rw[hg]at sc;have wi:i64.wrap ((i:Int)+1)=(i:Int)+1:=Yf;obtain ⟨S,hS⟩:=Qex (sbN U v i);rw[<- hS]at sc hle;obtain ⟨T,hT⟩:=Qex (sbN U v (i+1));rw[<- hT]at sc;have bb:(S.length+1)*8<=70368744177664:=(by omega);by_cases cS:S=[]
   case' pos =>
    have hV:nlV 23 S = .nils:=(by simp[nlV,cS]);have hQ:nlO 23 S=[]:=by simp[nlO,cS]
   case' neg =>
    have hV:nlV 23 S = .osl 23 S.length:=(by simp[nlV,cS]);have hQ:nlO 23 S=[(23,.row 1 (S.map ia))]:=by simp[nlO,cS]
   all_goals
    refine Qga ?_;by_cases q:v / 2 ^ i % 2=1
    . rw[if_pos q]at sc bU;have hne:¬T=[]:=(by rw[sc];simp);have hV2:nlV 23 T = .osl 23 (S.length+1):=(by rw[nlV,if_neg hne,sc];simp);have hQ2:nlO 23 T=[(23,.row 1 (S.map ia++[ia U[i]]))]:=(by rw[nlO,if_neg hne,sc];simp);simp -implicitDefEqProofs[smS,<- hS,hV,hQ,hi,ia,bU,wi,bb];simp only[smS,<- hT,hV2,hQ2]
      ((try simp only[ia,cS]);refine Ym.sub (by simp[lk,Ya,AV.keys,ia,cS]) ?_;simp only[ia,cS,Wkl,Zem,and_true];(try simp[lk,Yc,Ya,AV.keys,ia,cS]))
    . rw[if_neg q]at sc bU;have sc:T=S:=sc;subst sc;simp -implicitDefEqProofs[smS,<- hS,hV,hQ,hi,ia,bU,wi];simp only[smS,<- hT,hV,hQ]
      ((try simp only[ia]);refine Ym.sub (by simp[lk,Ya,AV.keys,ia]) ?_;simp only[ia,Wkl,Zem,and_true];(try simp[lk,Yc,Ya,AV.keys,ia]))
 . intro _;obtain ⟨S,hS⟩:=Qex (sbN U v U.length);have eT:sbT U v=S:=hS.symm;refine Qga ?_;by_cases cS:S=[]
   . have hV:nlV 23 S = .nils:=(by simp[nlV,cS]);have hQ:nlO 23 S=[]:=(by simp[nlO,cS]);simp -implicitDefEqProofs[smS,<- hS,hV,hQ];refine Qgr ?_;simp -implicitDefEqProofs[eT,cS,Yg]
   . have hV:nlV 23 S = .osl 23 S.length:=(by simp[nlV,cS]);have hQ:nlO 23 S=[(23,.row 1 (S.map ia))]:=(by simp[nlO,cS]);simp -implicitDefEqProofs[smS,<- hS,hV,hQ];refine Qgr ?_;simp -implicitDefEqProofs[eT,cS,Yg,ia]
def Zko (hG:GC G) (hN:GN G) (r:Jr) (l:Jl) (d m:Int) (hw:WfN l) (hr:Wf r) (hd:Sml (nums r)):PC prog G 111 [.agg [.vsl (r.map isa),.vsl (l.map na)],.nils,.int .i64 m,.int .i64 d] (drA r l d m):=by
 have ha:=PC.sub (Zfg hG hN r l [] m hw hr (by simp[Sml])) (xs:=[.agg [.vsl (r.map isa),.vsl (l.map na)],.nils,.int .i64 m]) ⟨.rfl',.nils,.rfl',trivial⟩;have hc:=ZeG (G:=G) (nums r) d hd;have pF:=Zfc r l;have kF:(fileA r l).keys=[]:=AV.pure_keys _ pF;have hF:fileA r l = .vptr [.vsl (r.map isa),.vsl (l.map na),.vsl ((nums r).map ia),opA l] 0:=rfl;unfold drA;unfold askA at ha;by_cases h0:asN r l [] m=0
 . rw[h0]at ha ⊢;rw[hF]at ha pF ⊢
   (refine Zhf rfl λR hG hrd=>Qga ?_;subst hG)
   simp -implicitDefEqProofs[Zhd,Zhe];refine Qco (ha) ?_;simp -implicitDefEqProofs[pF];refine Qco (hc) ?_;by_cases h1:d∈nums r
   . simp -implicitDefEqProofs[h1,pF]
   . simp -implicitDefEqProofs[h1,pF]
 . rw[if_neg h0]at ha
   (refine Zhf rfl λR hG hrd=>Qga ?_;subst hG)
   simp -implicitDefEqProofs[Zhd,Zhe];refine Qco (ha) ?_;simp -implicitDefEqProofs[h0]
def Zkp (r:Jr) (l:Jl):PC prog G 112 [fileA r l] (.func (.func 160) [] [.vptr [fileA r l] 0]):=by
 have pO:=Zfc r l;obtain ⟨cs,eS⟩ : ∃ cs,fileA r l = .vptr cs 0:=⟨_,rfl⟩;rw[eS]at pO ⊢
 (refine Zhi rfl λR hG hrd=>Qga ?_;subst hG)
 simp -implicitDefEqProofs[Zhg,Zhh,pO]
def toT (F:AV) (K:Nat) (l i:Nat):List (Nat×AV):=[(10,.int .i64 i),(9,.int .i64 K),(1,.vptr [F] 0),(0,.func (.yield l) [] [])]
def Zkq (S:List Int):(Yg (S.map ia)).pure=true:=by unfold Yg;split <;> simp_all [AV.pure,ia]
def Zkr (r:Jr) (l:Jl) (hU:(opQ l).length<=5) :
  Zjr prog G 160 [.vptr [fileA r l] 0] (truE (opQ l)):=by
 have pO:=Zfc r l;have hpw:=pow5 hU;have sh:=shU (n:=(opQ l).length) (by omega)
 have oA:opA l=Yg ((opQ l).map ia):=by
  unfold opA Yg opQ;by_cases c:opU l=[]
  . simp[c,sortI]
  . have h2:sortI (opU l)≠[]:=λh=>c (by have:=congrArg List.length h;rw[Zbo]at this;exact W0l.1 this)
    rw[if_neg c,if_neg (by simpa using h2)]
 have hA:=λ(v:Nat) (hv:v<64)=>PC.sub (Zkn (G:=G) (opQ l) v hv hU) (xs:=[opA l,.int .i64 v]) ⟨by rw[oA];exact .orNil _,.rfl',trivial⟩
 have eO:fileA r l = .vptr [.vsl (r.map isa),.vsl (l.map na),.vsl ((nums r).map ia),opA l] 0:=rfl;have pA:(opA l).pure=true:=by rw[oA];exact Zkq _
 have lenO:opA l = .nils/\(opQ l).length=0∨opA l = .vsl ((opQ l).map ia):=by
  rw[oA];unfold Yg
  split
  . rename_i h;left;exact ⟨rfl,by simpa using h⟩
  . right;rfl
 have hat:=λv (h:v<2 ^ (opQ l).length)=>Zkl (U:=opQ l) h
 have hln:=Zkm (opQ l);refine ZjJ Tryz.func160 (by kernel_rfl) (rc:=Zhj) (by kernel_rfl) rfl (W0C rfl) λn l' J K hn H hY=>?_
 generalize truE (opQ l)=E at *;obtain ⟨k,hk⟩:=Qex (2 ^ (opQ l).length);rw[<- hk]at hpw sh hat hln
 have pT:∀ i,∀ q∈toT (fileA r l) k l' i,q.2.pure=true:=λi q hq=>by
  simp only[toT,W0g,W0Q,or_false]at hq;rcases hq with rfl|rfl|rfl|rfl <;> simp[AV.pure,pO]
 unfold Zhj;refine Zjz ⟨toT (fileA r l) k l' 0,[]⟩ (λM A=>?_) (ZjB (ZjC (λi=>i) (λi=>⟨toT (fileA r l) k l' i,[]⟩) (λi=>i<=k) (λi=>k-i) 0 rfl rfl (W1f _) λi hi=>?_))
 . refine Qga ?_;rcases lenO with ⟨h1,h2⟩|h1
   . rw[h2]at sh;have k1:k=1:=(by rw[hk,h2]);have sh0:i64.wrap 1=(k:Int):=(by rw[k1];rfl);simp -implicitDefEqProofs[iniT,eO,toT,h1,sh0]
     (refine Wkc ?_;simp only[Wkl,and_true];(try simp[lk,Yc,Ya,AV.keys]))
   . simp -implicitDefEqProofs[iniT,eO,toT,h1,sh]
     (refine Wkc ?_;simp only[Wkl,and_true];(try simp[lk,Yc,Ya,AV.keys]))
 by_cases hlt:i<k
 case neg =>
  obtain rfl:i=k:=(by omega);refine Zjz ⟨(11,.bool false)::toT (fileA r l) i l' i,[]⟩ (λM A=>?_) (Zjx (ZjA (.exit 0) ⟨[],[]⟩ (λM A=>?_) ?_))
  . refine Qga ?_;simp -implicitDefEqProofs[toT];exact (by (first|exact Wka|exact Wkb))
  . refine Qga ?_;simp -implicitDefEqProofs[toT];exact (by (first|exact Wka|exact Wkb))
  . simp only[ItBk,if_true];refine ⟨by simp,by simp[hln],λ_ _ _ h=>h⟩
 have wi:i64.wrap ((i:Int)+1)=((i+1:Nat):Int):=Yf;have hA:=hA i (by omega);have hat:=hat i hlt;have pV:=Zkq (sbT (opQ l) i);obtain ⟨V,hV⟩:=Qex (Yg ((sbT (opQ l) i).map ia));rw[<- hV]at hA hat pV;refine Zjz ⟨(11,.bool true)::toT (fileA r l) k l' i,[]⟩ (λM A=>?_) (Zjz ⟨toT (fileA r l) k l' i,[]⟩ (λM A=>?_) (Zjy (ZjB ?_)))
 . refine Qga ?_;simp -implicitDefEqProofs[toT,hlt];exact (by (first|exact Wka|exact Wkb))
 . refine Qga ?_;simp -implicitDefEqProofs[toT];exact (by (first|exact Wka|exact Wkb))
 refine Zjz ⟨(3,.int .i64 i)::toT (fileA r l) k l' i,[]⟩ (λM A=>?_) ?_
 . refine Qga ?_;simp -implicitDefEqProofs[toT];exact (by (first|exact Wka|exact Wkb))
 refine ZjE H hY 8 (d:=21) (f:=.t 13) (ys:=[.t 14,.t 20]) (gd:=none) rfl (xs:=[.int .i64 i,V])
  ((20,V)::(14,.int .i64 i)::(13,.func (.yield l') [] [])::toT (fileA r l) k l' i) ⟨(22,.bool false)::toT (fileA r l) k l' i,[]⟩ [] [(22,.bool true)] (W0C rfl) ?_ ?_ ?_ ?_ rfl rfl ?_ ?_ ?_ ?_ ?_ ?_
 . rw[W09,hat];rfl
 . intro x hx;simp only[W0g,W0Q,or_false]at hx;rcases hx with rfl|rfl
   . simp[AV.pure]
   . exact pV
 . intro q hq;simp only[W0g]at hq;rcases hq with rfl|rfl|rfl|hq
   . exact pV
   . simp[AV.pure]
   . simp[AV.pure]
   . exact pT i q hq
 . simp -implicitDefEqProofs[toT,eO]
   first|refine Yd.of hA (by simp[pA]) ?_|refine Ye.of hA (by simp[pA]) ?_
   simp -implicitDefEqProofs[pV]
   ((try simp only[AV.pure_keys _ pV]);refine Ym.sub (by simp[lk,Ya,AV.keys,AV.pure_keys _ pV]) ?_;simp only[AV.pure_keys _ pV,Wkl,and_true];(try simp[lk,Yc,Ya,AV.keys,AV.pure_keys _ pV]))
 . rfl
 . simp -implicitDefEqProofs[toT];exact (by (first|exact Wka|exact Wkb))
 . refine ZjA .normal ⟨toT (fileA r l) k l' i,[]⟩ (λM A=>?_) ⟨rfl,ZjA .normal ⟨toT (fileA r l) k l' (i+1),[]⟩ (λM A=>?_) ⟨i+1,rfl,rfl,by omega,by omega⟩⟩
   . refine Qga ?_;simp -implicitDefEqProofs[toT];exact (by (first|exact Wka|exact Wkb))
   . refine Qga ?_;simp -implicitDefEqProofs[toT,wi];exact (by (first|exact Wka|exact Wkb))
 . intro q hq
   cases hq
 . simp -implicitDefEqProofs[];exact (by (first|exact Wka|exact Wkb))
 . intro A;refine Qga ?_;simp -implicitDefEqProofs[];exact (by (first|exact Wka|exact Wkb))
def Z1B.sub {P:Program} {G:Jg} {st st1:St} {f:FuncId} {xs ys:List AV} {v:AV} (h:Z1B P G st f ys v st1) (hp:xs.all AV.pure=true) (hs:NsubL xs ys):Z1B P G st f xs v st1 :=
 λR a W κ vs hG hk ha=>h R a W κ vs hG hk ⟨ha.1.trans hs.len,λi y u hi hu=>by
  obtain ⟨x,h2,h3⟩:=hs.at i y hi;exact .pv (h3 _ _ _ ((ha.2 i x u h2 hu).toPV (W03.1 hp x (W0d h2))))⟩
def NewS.sub {P:Program} {G:Jg} {st:St} {ρ:Nat->Nat} {os:List (Nat×AObj)} {f:FuncId} {xs ys:List AV} {v:AV} (h:NewS P G st ρ os f ys v) (hp:xs.all AV.pure=true) (hs:NsubL xs ys):NewS P G st ρ os f xs v:=by
 obtain ⟨pre,h1,h2⟩:=h;exact ⟨pre,h1,λst' h'=>(h2 st' h').sub hp hs⟩
structure SetP (P:Program) (G:Jg) (so co:FuncId) (U:List Int):Prop where
 hsp:PB P G so [(1000,.row 1 (U.map ia))] [.osl 1000 U.length] (.tup []) [(1000,.row 1 ((sortI U).map ia))]
 hcp:PB P G co [(1000,.row 1 ((sortI U).map ia))] [.osl 1000 U.length] (if (setI U).length=U.length then .osl 1000 U.length else .oss 1000 U.length 0 (setI U).length) [(1000,.row 1 (cpoI (sortI U)))]
 hOl:(cpoI (sortI U)).length=U.length
 hOt:(cpoI (sortI U)).take (setI U).length=(setI U).map ia
 hOf:(setI U).length=U.length->cpoI (sortI U)=(setI U).map ia
 kO:∀ o,Yc o (.row 1 (cpoI (sortI U)))=true
 rO:∀ ρ,AObj.ren ρ (.row 1 (cpoI (sortI U))) = .row 1 (cpoI (sortI U))
 hCl:(setI U).length<=U.length
def poK (l:Jl) (d m:Int) (k:Nat):List Int:=(List.range k).map (ltV l d m)
def ZkD {l:Jl} {d m:Int} {k:Nat}:poK l d m (k+1)=poK l d m k++[ltV l d m k]:=by simp[poK,W1y]
def ZkE {l:Jl} {d m:Int} {k:Nat}:(poK l d m k).length=k:=by simp[poK]
def poB (F:AV) (d m:Int) (S:List Int):List (Nat×AObj):=[(1004,.box [.int .i64 d]),(1005,.box [.int .i64 m]),(1008,.box [F]),(1010,.box [nlV 1037 S])]++nlO 1037 S
def poU (F:AV) (d m:Int) (S T:List Int):List (Nat×AObj):=[(1004,.box [.int .i64 d]),(1005,.box [.int .i64 m]),(1008,.box [F]),(1010,.box [nlV (nlN 1037 S) T])]++nlO (nlN 1037 S) T
def poF (k:Nat):Bool:=decide (k<1000)&&(k == 12||k == 204||k == 205||k == 206||k == 207||k == 209||k == 210||k == 211)
def poA (r:Jr) (l:Jl) (d m:Int):AV:=.tup [if asN r l [] m=0/\d∈nums r then .vsl ((posL l d m).map ia) else .nils,.int .i64 (if asN r l [] m=0 then if d∈nums r then 0 else 6 else asN r l [] m)]
def ZkF (U:List Int) (h:U.length<=1000):SetP prog G 115 116 U:=by
 have hsp:=Zkb (G:=G) U (by omega);have sl:(sortI U).length=U.length:=Zbo U;have hcp:=Zk9 (G:=G) (sortI U) (by omega);rw[sl]at hcp;have hC:cpcI (sortI U)=setI U:=Zk8 _
 have hCl:(setI U).length<=U.length:=by
  have:=ZjX (sortI U) (sortI U).length;rw[<- hC];unfold cpcI;omega
 have hOl:(cpoI (sortI U)).length=U.length:=by
  unfold cpoI;rw[W0s,W0N,W1H,hC,sl];omega
 have hOt:(cpoI (sortI U)).take (setI U).length=(setI U).map ia:=by
  unfold cpoI;rw[hC];exact List.take_left' (by simp)
 have hOf:(setI U).length=U.length->cpoI (sortI U)=(setI U).map ia:=λh=>by
  rw[<- hOt,h,<- hOl,W0v]
 have hcv:∀ k,cpvI k (sortI U)=if (setI U).length=U.length then .osl k U.length else .oss k U.length 0 (setI U).length:=λk=>by unfold cpvI;rw[hC,sl]
 rw[hcv]at hcp;have hz:∀ n,List.replicate n zrO=(List.replicate n (0:Int)).map ia:=λn=>by rw[List.map_replicate];rfl
 exact ⟨hsp,hcp,hOl,hOt,hOf,λo=>by unfold cpoI;rw[hz,<- W0r];exact Zem _ _,λρ=>by unfold cpoI;rw[hz,<- W0r];exact Zel _ _,hCl⟩
def ZkG (hG:GC G) (hN:GN G) (r:Jr) (l:Jl) (d m:Int) (hw:WfN l) (hr:Wf r) (hd:Sml (nums r)):PC prog G 61 [.agg [.vsl (r.map isa),.vsl (l.map na)],.int .i64 d,.int .i64 m] (poA r l d m):=by
 have c1:=Zko hG hN r l d m hw hr hd;unfold drA at c1;unfold poA;by_cases h0:asN r l [] m=0/\d∈nums r
 case neg =>
  rw[if_neg h0]at c1 ⊢;obtain ⟨e,he⟩:=Qex ((if asN r l [] m=0 then if d∈nums r then (0:Int) else 6 else asN r l [] m))
  have e0:¬e=0:=by
   rw[he];by_cases h1:asN r l [] m=0
   . rw[if_pos h1,if_neg λh=>h0 ⟨h1,h⟩];decide
   . rw[if_neg h1];exact h1
  rw[<- he]at c1 ⊢
  (refine Zhp rfl λR hG hrd=>Qga ?_;subst hG)
  simp -implicitDefEqProofs[Zhn,Zho];refine Qco (c1) ?_;simp -implicitDefEqProofs[e0]
 rw[if_pos h0,if_pos h0.1,if_pos h0.2]at c1;rw[if_pos h0,if_pos h0.1,if_pos h0.2];have hop:=ZjQ (Zfj h0.1).1;have hB:=Zfi (Zfj h0.1).1;have hU:=ZfD hB;have h12:=Zfk hB;have hp2:=pow5 hU;have hpos:0<2 ^ (opQ l).length:=Nat.pos_of_ne_zero (by simp);have hps:=ZiH (l:=l) (d:=d) (m:=m) λv _=>ZiP hop hB h0.2 m v
 have e3:(List.range (2 ^ (opQ l).length)).map (ltV l d m)=poK l d m (2 ^ (opQ l).length):=rfl;rw[e3]at hps;have hlv:∀ v,ltV l d m v=(byV (sbT (opQ l) v) m l d l.length).lt:=λv=>rfl
 have tf:=Zkp (G:=G) r l;have hit:=Zkr (G:=G) r l hU;have hat:=λv (h:v<2 ^ (opQ l).length)=>Zkl (U:=opQ l) h
 have hln:=Zkm (opQ l);have sbl:=λv=>ZfC (opQ l) v (opQ l).length
 have hSP:=ZkF (G:=G) (poK l d m (2 ^ (opQ l).length)) (by rw[ZkE];omega);have hff:=λv=>Zfh (G:=G) r l false true (sbT (opQ l) v) [] m
 have hby:=λv=>by_pb (G:=G) r l (sbT (opQ l) v) m d [] h12 (by have:=sbl v;unfold Sml sbT;omega) (λ_ _ h=>by cases h)
 have l1:∀ s,liA false s = .vsl (s.map ia):=λs=>by simp[liA]
 have l2:liA true [] = .nils:=(by simp[liA]);simp only[l1,l2]at hff;generalize truE (opQ l)=E at *;obtain ⟨N,hN'⟩:=Qex (2 ^ (opQ l).length);rw[<- hN']at hp2 hpos hps hat hln hSP;have pF:=Zfc r l;have kF:(fileA r l).keys=[]:=AV.pure_keys _ pF;have rF:=λρ=>AV.ren_pure (ρ:=ρ) (fileA r l) pF
 have fF:∀ ok st,frz ok st 6 (fileA r l)=some (fileA r l):=λok st=>by unfold fileA;simp[frz,AV.keys]
 obtain ⟨cs,hF⟩ : ∃ cs,fileA r l = .vptr cs 0:=⟨_,rfl⟩;simp only[hF]at c1 tf hit hff hby pF kF rF fF;clear hF;refine Zhp rfl λR hG' hrd=>?_
 subst hG';refine Qga ?_;simp -implicitDefEqProofs[Zhn,Zho];refine Qco (c1) ?_;simp -implicitDefEqProofs[];refine Yd.of tf (by simp[pF]) ?_;simp -implicitDefEqProofs[]
 refine Zjt hrd (by decide) hit (by simp[evA,St.tmp,lk]) (by simp[AV.pure,pF]) poF (by intro k hk;simp[poF]at hk;omega) r1K [(4,.ptr 1004 0),(5,.ptr 1005 0),(8,.ptr 1008 0),(10,.ptr 1010 0)]
  (λk=>poB (.vptr cs 0) d m (poK l d m k)) (λk=>poU (.vptr cs 0) d m (poK l d m k) (poK l d m (k+1))) (λk=>k<=N) (W1f _) ?_ ?_ ?_ ?_ ?_ ?_ ?_ ?_ ?_ ?_ ?_
 . intro k q hq;simp only[poB,nlO]at hq
   split at hq <;> simp at hq
   . rcases hq with rfl|rfl|rfl|rfl <;> simp
   . rcases hq with rfl|rfl|rfl|rfl|rfl <;> simp
 . intro k;simp only[poB,nlO]
   split <;> simp[r1K]
 . intro k;simp only[poU,nlO,nlN]
   split <;> split <;> simp[r1K]
 . intro k q hq;have hne:poK l d m (k+1)≠[]:=(by rw[ZkD];simp);simp only[poB,poU,nlO,nlN]at *;by_cases c:poK l d m k=[]
   . simp only[c,if_true]at *
     split <;> simp at hq ⊢ <;> rcases hq with rfl|rfl|rfl|rfl <;> simp[isK,lk]
   . simp only[c,hne,if_false]at *;simp at hq ⊢;rcases hq with rfl|rfl|rfl|rfl|rfl <;> simp[isK,lk]
 . intro k q hq;simp only[poB,poU,nlO,nlN]at *;by_cases c:poK l d m k=[]
   . simp only[c,if_true]at *
     split at hq <;> simp at hq
     . rcases hq with rfl|rfl|rfl|rfl <;> exact .inl (by simp[isK,lk])
     . rcases hq with rfl|rfl|rfl|rfl|rfl
       . exact .inl (by simp[isK,lk])
       . exact .inl (by simp[isK,lk])
       . exact .inl (by simp[isK,lk])
       . exact .inl (by simp[isK,lk])
       . exact .inr (by simp[Yl,r1K,St.get,St.set,putO,lk])
   . simp only[c,if_false]at *
     split at hq <;> simp at hq
     . rcases hq with rfl|rfl|rfl|rfl <;> exact .inl (by simp[isK,lk])
     . rcases hq with rfl|rfl|rfl|rfl|rfl <;> exact .inl (by simp[isK,lk])
 . intro k;have hne:poK l d m (k+1)≠[]:=(by rw[ZkD];simp);simp only[poB,poU,nlO,nlV,nlN];by_cases c:poK l d m k=[]
   . simp[c,hne,Yl,r1K,AV.ren,Zfz,Zkh]
   . simp[c,hne,Yl,r1K,AV.ren,Zfz,Zkh]
 . have e0:poK l d m 0=[]:=rfl;simp[poB,nlO,nlV,e0,Yl,r1K,St.set,putO,AObj.ren,AV.ren,rF]
 . intro k q hq;simp only[poB,W0h]at hq;rcases hq with hq|hq
   . simp only[poB,nlO];simp at hq;rcases hq with rfl|rfl|rfl|rfl
     . simp[Yc,Ya,AV.keys]
     . simp[Yc,Ya,AV.keys]
     . simp[Yc,Ya,kF]
     . unfold nlV
       split <;> simp[Yc,Ya,AV.keys,lk]
   . exact Zkg _ _ _ q hq
 . intro q hq;simp at hq;rcases hq with rfl|rfl|rfl|rfl
   all_goals
    refine ⟨by simp[lk,AV.ren,r1K],by simp,by simp,λj k hk=>?_⟩;simp[AV.keys]at hk;subst hk;simp only[poB];simp[isK,lk]
 . intro k x hx hk R' hG hN;have hkl:k<N:=(by rw[<- hln];exact (W02.1 hx).1);rw[hat k hkl]at hx;obtain rfl:=W1L hx;have hff:=hff k;have hby:=hby k;have sc:=ZkD (l:=l) (d:=d) (m:=m) (k:=k);have hle:=ZkE (l:=l) (d:=d) (m:=m) (k:=k);rw[hlv]at sc;have pV:=Zkq (sbT (opQ l) k);have kV:=AV.pure_keys _ pV;have nV:Nsub (Yg ((sbT (opQ l) k).map ia)) (.vsl ((sbT (opQ l) k).map ia)):=.orNil _;obtain ⟨V,hV'⟩:=Qex (Yg ((sbT (opQ l) k).map ia));rw[<- hV']at pV kV nV ⊢;obtain ⟨x,hx'⟩:=Qex (byV (sbT (opQ l) k) m l d l.length);have hnx:na x=[.int .i64 x.nu,.int .i64 x.dy,.int .u8 x.sg,.int .i64 x.dr,.int .i64 x.lt,.int .i64 x.fr,.int .i64 x.tu,.int .i64 x.ca,.bool x.up,.int .u8 x.wy]:=rfl;rw[<- hx',hnx]at hby;rw[<- hx']at sc;obtain ⟨B,hB'⟩:=Qex (AV.vsl ((sbT (opQ l) k).map ia));rw[<- hB']at hff hby nV;have pB:B.pure=true:=(by rw[hB'];simp[AV.pure,ia]);have rB:=λρ=>AV.ren_pure (ρ:=ρ) B pB
   have kB:B.keys=[]:=AV.pure_keys _ pB;generalize byK (sbT (opQ l) k) m l d l.length []=K at *;clear hB';generalize poK l d m k=S at *;generalize poK l d m (k+1)=T at *;have bb:(S.length+1)*8<=70368744177664:=(by omega);have hne:¬T=[]:=(by rw[sc];simp);have hTl:T.length=S.length+1:=(by rw[sc];simp);have em:T.map ia=S.map ia++[[.int .i64 x.lt]]:=(by rw[sc,W0r];rfl);by_cases cS:S=[]
   case' pos =>
    have hV:nlV 1037 S = .nils:=(by simp[nlV,cS]);have hQ:nlO 1037 S=[]:=(by simp[nlO,cS]);have hM:nlN 1037 S=37:=by simp[nlN,cS]
   case' neg =>
    have hV:nlV 1037 S = .osl 1037 S.length:=(by simp[nlV,cS]);have hQ:nlO 1037 S=[(1037,.row 1 (S.map ia))]:=(by simp[nlO,cS]);have hM:nlN 1037 S=1037:=by simp[nlN,cS]
   all_goals
    refine Qga ?_;simp only[poB,hV,hQ,W1e,W18];simp -implicitDefEqProofs[];intro R'' hG'' hN'';refine Z1P (ZkA mixed ?_);rw[hG'']
    iterate 5 (rw[RE_op (by simp[wants]) (by simp[Z1y])];simp -implicitDefEqProofs[execE])
    rw[ZkC (by simp[wants])];simp -implicitDefEqProofs[];refine CallE.new (NewS.sub (ys:=[.vptr cs 0,B,.nils,.int .i64 m]) (NewS.of hff (λk=>k+200) (by simp[ffO]) (by simp[ffO,St.get,lk]) (by simp[AV.pure,pF,pB]) rfl) (by simp[AV.pure,pF,pV]) ⟨.rfl',nV,.rfl',.rfl',trivial⟩) ?_;simp -implicitDefEqProofs[Yl,ffO,ffC,AV.ren,AObj.ren,rF,rB,kV,kF,kB]
    iterate 1 (rw[RE_op (by simp[wants]) (by simp[Z1y])];simp -implicitDefEqProofs[execE])
    rw[ZkC (by simp[wants])];simp -implicitDefEqProofs[];refine CallE.new (NewS.ref hby (λk=>k-800) (by simp[fcO]) (by simp[fcO]) (by simp[fcO,St.get,lk,AV.ren,AObj.ren,mpA,rF,rB,fcC]) (by simp only[fcO,W0g,W0Q,or_false,W1M,forall_eq,Zf0,and_true];simp[lk,Yc,Ya,AV.keys,kF,kB,fcC]) (by simp[Ya,AV.keys,kF,lk,fcC,fcO]) rfl (by simp[AV.ren,rF,fcC]) rfl) ?_;simp -implicitDefEqProofs[Yl,fcO,fcC,AV.ren,AObj.ren,Zf1,rF,rB,kV,kF,kB]
    iterate 4 (rw[RE_op (by simp[wants]) (by simp[Z1y])];simp -implicitDefEqProofs[execE,bb])
    refine ⟨rfl,?_⟩;refine ⟨rfl,?_,by omega⟩;simp only[poU,hM,nlV,nlO,hne,if_false,hTl,em];simp[cS,Yi,poF,Zf7,frzO,frzA,frz,AV.keys,ia,fF,W0y]
 . intro _;rw[hln];have hUl:=ZkE (l:=l) (d:=d) (m:=m) (k:=N);generalize poK l d m N=U at *;obtain ⟨hsp,hcp,hOl,hOt,hOf,kO,rO,hCl⟩:=hSP;have cU:¬U=[]:=λh=>by rw[h]at hUl;simp at hUl;omega
   rw[<- hps];have pu:((setI U).map ia).all (λr=>r.all AV.pure)=true:=(by simp[ia,AV.pure]);simp -implicitDefEqProofs[poB,nlV,nlO,cU,Yl,r1K,AV.ren,Zfz,Zkh,rF];refine Qgr ?_;simp -implicitDefEqProofs[];refine Yd.sem (Z1B.byref hsp (λ_=>37) (by simp) (by simp) (by simp[St.get,lk,Zel]) (by simp[Zem]) (by simp[Ya,AV.keys,lk]) rfl (by simp[AV.ren]) rfl rfl) ?_;simp -implicitDefEqProofs[Yl,Zel];refine Yd.sem (Z1B.byref hcp (λ_=>37) (by simp) (by simp) (by simp[St.get,lk,Zel]) (by simp[Zem]) (by simp[Ya,AV.keys,lk]) rfl (by simp[AV.ren]) rfl rfl) ?_;by_cases hq:(setI U).length=U.length
   . have hOf:=hOf hq;rw[hOf]at *;simp -implicitDefEqProofs[Yl,Zel,hq,AV.ren,ia]
   . skip
     simp -implicitDefEqProofs[Yl,rO,hq,AV.ren,hOl,hOt,hCl,ia]
section
open Qq Go.Proofs.Tryz
def ZkH:RCode :=
 S [r 0 [n 6 (.bool false)],r 1 [m 7 0,m 8 1,o 9 .geq 7 8,m 10 9,g 10 true (m 11 0),g 10 true (m 12 2),g 10 true (o 13 .leq 11 12),v 14 10 13,m 6 14],.ret]
def ZkI:List RRes:=[.t 6]
def ZkJ:PCt prog 147 f147 ZkH ZkI:=pcT func147 rfl
def ZkK:RCode :=
 S [r 0 [n 4 (.bool false)],S [r 1 [n 5 O],.block 0 (.loop (S [S [r 2 [m 6 5,m 7 0,e 8 7,o 9 .lss 6 8],.cond (.t 9) .skip (.exit 0)],.block 1 (S [r 4 [m 12 0,m 13 5,i 14 1 12 13,l 15 14,m 16 1,o 17 .eql 15 16],K 17 5 [n 4 (.bool true)]]),r 3 [m 10 5,k 11 .add 10 I,m 5 11]]))],r 6 [n 4 (.bool false)],.ret]
def ZkL:List RRes:=[.t 4]
def ZkM:PCt prog 104 f104 ZkK ZkL:=pcT func104 rfl
def ZkN:RCode :=
 S [r 0 [b 2 0,n 4 (.bool false)],r 1 [f 8 2 2,l 9 8,m 10 1,i 11 4 9 10,L 12 4 11,w 5 (.alloc [O,O,O,.nils]),s 4 5 12],S [R 2 [f 13 0 5,a [0] (l 14 13),a [1] (w 15 (.call 147 [.t 14,.c I,.c (.int .i64 9999)])),a [2] (t 16 15),a [3,2] (m 17 16),a [4] (g 17 false (m 18 1)),a [5,4] (g 17 false (k 19 .gtr 18 O)),a [6,4,4] (g 17 false (m 20 19)),a [7] (g 20 true (f 21 0 5)),a [8,7] (g 20 true (l 22 21)),a [7] (g 20 true (f 23 2 2)),a [10,7] (g 20 true (l 24 23)),a [7] (g 20 true (m 25 1)),a [12,7] (g 20 true (k 26 .sub 25 I)),a [11,13,7] (g 20 true (i 27 4 24 26)),a [14,7] (g 20 true (f 28 0 27)),a [15,7] (g 20 true (l 29 28)),a [9,16,7] (g 20 true (o 30 .leq 22 29)),a [7,17,4] (g 17 false (v 31 20 30)),a [4,18] (u 32 17 31),a [19,7] (m 33 32),a [20] (g 33 false (f 34 1 5)),a [21,20] (g 33 false (l 35 34)),a [20] (g 33 false (f 36 2 5)),a [23,20] (g 33 false (l 37 36)),a [22,24,20,20] (g 33 false (w 38 (.call 147 [.t 35,.c I,.t 37]))),a [25,20] (g 33 false (t 39 38)),a [20,26] (u 40 33 39),a [27,25] (m 41 40),a [28] (g 41 false (f 42 2 5)),a [29,28] (g 41 false (l 43 42)),a [30,28] (g 41 false (k 44 .gtr 43 (.int .i64 999))),a [28,31] (u 45 41 44),a [32,28] (m 46 45),a [33] (g 46 false (f 47 3 5)),a [34,33] (g 46 false (l 48 47)),a [35,33] (g 46 false (e 49 48)),a [36,33] (g 46 false (k 50 .gtr 49 (.int .i64 8))),a [33,37] (u 51 46 50)],K 51 3 [n 4 (.bool false)]],r 4 [f 52 0 2,f 53 0 52,L 54 1 53,c 55 54 [54],m 6 55],S [r 5 [n 7 O],.block 0 (.loop (S [S [r 6 [m 56 7,f 57 3 5,l 58 57,e 59 58,o 60 .lss 56 59],.cond (.t 60) .skip (.exit 0)],.block 1 (S [R 8 [m 63 6,f 64 3 5,a [1] (l 65 64),m 66 7,a [2,3] (i 67 1 65 66),a [4] (l 68 67),a [0,5] (c 69 104 [63,68]),a [6] (t 70 69),a [7,6] (m 71 70),a [8] (g 71 false (m 72 7)),a [9,8] (g 71 false (k 73 .gtr 72 O)),a [10,8,8] (g 71 false (m 74 73)),a [11] (g 74 true (f 75 3 5)),a [12,11] (g 74 true (l 76 75)),a [11] (g 74 true (m 77 7)),a [13,14,11] (g 74 true (i 78 1 76 77)),a [15,11] (g 74 true (l 79 78)),a [11] (g 74 true (f 80 3 5)),a [17,11] (g 74 true (l 81 80)),a [11] (g 74 true (m 82 7)),a [19,11] (g 74 true (k 83 .sub 82 I)),a [18,20,11] (g 74 true (i 84 1 81 83)),a [21,11] (g 74 true (l 85 84)),a [16,22,11] (g 74 true (o 86 .leq 79 85)),a [11,23,8] (g 71 false (v 87 74 86)),a [8,24] (u 88 71 87)],K 88 9 [n 4 (.bool false)]]),r 7 [m 61 7,k 62 .add 61 I,m 7 62]]))],r 10 [n 4 (.bool true)],.ret]
def ZkO:List RRes:=[.t 4]
def ZkP:PCt prog 135 f135 ZkN ZkO:=pcT func135 rfl
def ZkQ:RCode :=
 S [r 0 [b 2 0,n 4 O],S [r 1 [n 5 O],.block 0 (.loop (S [S [r 2 [m 6 5,f 7 2 2,l 8 7,e 9 8,o 10 .lss 6 9],.cond (.t 10) .skip (.exit 0)],.block 1 (S [r 4 [f 13 2 2,l 14 13,m 15 5,i 16 4 14 15,f 17 0 16,l 18 17,m 19 1,o 20 .eql 18 19],K 20 5 [m 21 5,m 4 21]]),r 3 [m 11 5,k 12 .add 11 I,m 5 12]]))],r 6 [n 4 (.int .i64 (-1))],.ret]
def ZkR:List RRes:=[.t 4]
def ZkS:PCt prog 83 f83 ZkQ ZkR:=pcT func83 rfl
def ZkT:RCode :=
 S [r 0 [b 2 0,n 4 (.bool false)],r 1 [f 8 3 2,l 9 8,m 10 1,i 11 7 9 10,L 12 7 11,w 5 (.alloc [O,O,O,O,O,O,.int .u8 0]),s 7 5 12],S [R 2 [f 13 0 5,a [0] (l 14 13),a [1] (w 15 (.call 147 [.t 14,.c I,.c (.int .i64 9999)])),a [2] (t 16 15),a [3,2] (m 17 16),a [4] (g 17 false (m 18 1)),a [5,4] (g 17 false (k 19 .gtr 18 O)),a [6,4,4] (g 17 false (m 20 19)),a [7] (g 20 true (f 21 0 5)),a [8,7] (g 20 true (l 22 21)),a [7] (g 20 true (f 23 3 2)),a [10,7] (g 20 true (l 24 23)),a [7] (g 20 true (m 25 1)),a [12,7] (g 20 true (k 26 .sub 25 I)),a [11,13,7] (g 20 true (i 27 7 24 26)),a [14,7] (g 20 true (f 28 0 27)),a [15,7] (g 20 true (l 29 28)),a [9,16,7] (g 20 true (o 30 .leq 22 29)),a [7,17,4] (g 17 false (v 31 20 30)),a [4,18] (u 32 17 31),a [19,7] (m 33 32),a [20] (g 33 false (f 34 1 5)),a [21,20] (g 33 false (l 35 34)),a [22,20,20] (g 33 false (w 36 (.call 147 [.t 35,.c O,.c (.int .i64 14610)]))),a [23,20] (g 33 false (t 37 36)),a [20,24] (u 38 33 37),a [25,23] (m 39 38),a [26] (g 39 false (L 40 4 2)),a [26] (g 39 false (f 41 2 5)),a [28,26] (g 39 false (l 42 41)),a [27,29,26,26] (g 39 false (c 43 83 [40,42])),a [30,26] (g 39 false (k 44 .lss 43 O)),a [26,31] (u 45 39 44),a [32,30] (m 46 45),a [33] (g 46 false (f 47 6 5)),a [34,33] (g 46 false (l 48 47)),a [35,33] (g 46 false (k 49 .gtr 48 (.int .u8 2))),a [33,36] (u 50 46 49)],K 50 3 [n 4 (.bool false)]],S [r 4 [f 52 0 2,f 53 0 52,L 54 1 53,f 55 3 5,L 56 2 55,c 57 172 [54,56],m 51 57,x 58 0 51,x 59 1 51,w 6 (.alloc [O,O,.int .u8 0,.nils,.nils]),s 5 6 58,m 7 59],r 5 [m 60 7,t 61 60],K 61 6 [n 4 (.bool false)]],r 7 [f 62 5 5,l 63 62,k 64 .eql 63 (.int .i64 (-1)),m 65 64,g 65 false (f 66 5 5),g 65 false (l 67 66),g 65 false (f 68 1 5),g 65 false (l 69 68),g 65 false (w 70 (.call 147 [.t 67,.t 69,.c (.int .i64 14610)])),g 65 false (m 71 70),g 71 true (f 72 6 5),g 71 true (l 73 72),g 71 true (k 74 .eql 73 (.int .u8 0)),g 65 false (v 75 71 74),u 76 65 75,m 4 76],.ret]
def ZkU:List RRes:=[.t 4]
def ZkV:PCt prog 136 f136 ZkT ZkU:=pcT func136 rfl
def ZkW:RCode :=
 S [r 0 [b 1 0,n 2 (.bool false)],S [r 1 [f 5 2 1,l 6 5,e 7 6,k 8 .gtr 7 (.int .i64 6),m 9 8,g 9 false (f 10 3 1),g 9 false (l 11 10),g 9 false (e 12 11),g 9 false (k 13 .gtr 12 (.int .i64 30)),u 14 9 13],K 14 2 [n 2 (.bool false)]],S [r 3 [n 3 O],.block 0 (.loop (S [S [r 4 [m 15 3,f 16 2 1,l 17 16,e 18 17,o 19 .lss 15 18],.cond (.t 19) .skip (.exit 0)],.block 1 (S [r 6 [L 22 4 1,m 23 3,c 24 135 [22,23],t 25 24],K 25 7 [n 2 (.bool false)]]),r 5 [m 20 3,k 21 .add 20 I,m 3 21]]))],S [r 8 [n 4 O],.block 2 (.loop (S [S [r 9 [m 26 4,f 27 3 1,l 28 27,e 29 28,o 30 .lss 26 29],.cond (.t 30) .skip (.exit 2)],.block 3 (S [r 11 [L 33 4 1,m 34 4,c 35 136 [33,34],t 36 35],K 36 12 [n 2 (.bool false)]]),r 10 [m 31 4,k 32 .add 31 I,m 4 32]]))],r 13 [n 2 (.bool true)],.ret]
def ZkX:List RRes:=[.t 2]
def ZkY:PCt prog 78 f78 ZkW ZkX:=pcT func78 rfl
def ZkZ:RCode :=
 S [r 0 [b 1 0,n 2 O],S [r 1 [f 4 0 1,L 5 2 4,c 6 77 [5],m 3 6],r 2 [m 7 3,k 8 .neq 7 O],K 8 3 [m 9 3,m 2 9]],S [r 4 [L 10 4 1,c 11 78 [10],t 12 11],K 12 5 [n 2 (.int .i64 70)]],r 6 [n 2 O],.ret]
def Zl0:List RRes:=[.t 2]
def Zl1:PCt prog 24 f24 ZkZ Zl0:=pcT func24 rfl
def Zl2:RCode :=
 S [r 0 [b 2 0,n 4 (.bool false)],r 1 [f 5 1 2,l 6 5,m 7 1,o 8 .leq 6 7,m 9 8,g 9 true (f 10 5 2),g 9 true (l 11 10),g 9 true (k 12 .eql 11 (.int .i64 (-1))),g 9 true (m 13 12),g 13 false (f 14 5 2),g 13 false (l 15 14),g 13 false (m 16 1),g 13 false (o 17 .gtr 15 16),g 9 true (u 18 13 17),v 19 9 18,m 20 19,g 20 true (f 21 6 2),g 20 true (l 22 21),g 20 true (k 23 .neq 22 (.int .u8 2)),v 24 20 23,m 4 24],.ret]
def Zl3:List RRes:=[.t 4]
def Zl4:PCt prog 57 f57 Zl2 Zl3:=pcT func57 rfl
def Zl5:RCode :=
 S [r 0 [b 1 0,n 2 (.bool false)],S [r 1 [f 4 0 1,L 5 2 4,c 6 67 [5],m 7 6,g 7 false (f 8 2 1),g 7 false (l 9 8),g 7 false (e 10 9),g 7 false (k 11 .gtr 10 (.int .i64 8)),u 12 7 11,m 13 12,g 13 false (f 14 3 1),g 13 false (l 15 14),g 13 false (e 16 15),g 13 false (k 17 .gtr 16 (.int .i64 40)),u 18 13 17],K 18 2 [n 2 (.bool true)]],S [r 3 [n 3 O],.block 0 (.loop (S [S [r 4 [m 19 3,f 20 2 1,l 21 20,e 22 21,o 23 .lss 19 22],.cond (.t 23) .skip (.exit 0)],.block 1 (S [r 6 [f 26 2 1,l 27 26,m 28 3,i 29 4 27 28,f 30 3 29,l 31 30,e 32 31,k 33 .gtr 32 (.int .i64 20)],K 33 7 [n 2 (.bool true)]]),r 5 [m 24 3,k 25 .add 24 I,m 3 25]]))],r 8 [n 2 (.bool false)],.ret]
def Zl6:List RRes:=[.t 2]
def Zl7:PCt prog 17 f17 Zl5 Zl6:=pcT func17 rfl
def Zl8:RCode :=
 S [r 0 [b 1 0,w 2 (.alloc [.nils,.nils,.nils,.nils])],R 1 [f 6 0 1,a [0] (L 7 2 6),a [1] (c 8 68 [7]),w 9 (.bsl true 7 0 [] []),f 10 3 1,a [4] (l 11 10),a [3,5,2] (w 12 (.app 7 56 (.t 9) (.t 11))),a [2,6] (w 13 (.build [.nils,.nils,.nils,.nils] [(0,2,.t 8),(3,1,.t 12)])),w 3 (.alloc [.nils,.nils,.nils,.nils]),a [8,7,6,0,1,2,3,4,5,6,7,8] (s 4 3 13)],S [r 2 [n 4 O],.block 0 (.loop (S [S [r 3 [m 14 4,f 15 2 1,l 16 15,e 17 16,o 18 .lss 14 17],.cond (.t 18) .skip (.exit 0)],.block 1 (S [r 5 [f 21 2 1,l 22 21,m 23 4,i 24 4 22 23,L 25 4 24,w 5 (.alloc [O,O,O,.nils]),s 4 5 25],r 6 [w 26 (.bsl true 1 0 [] []),f 27 3 5,l 28 27,w 29 (.app 1 8 (.t 26) (.t 28)),f 30 3 5,s 1 30 29],r 7 [f 31 2 3,l 32 31,L 33 4 5,w 34 (.bsl false 4 1 [O,O,O,.nils] [(0,.t 33)]),w 35 (.app 4 48 (.t 32) (.t 34)),f 36 2 3,s 1 36 35]]),r 4 [m 19 4,k 20 .add 19 I,m 4 20]]))],r 8 [L 37 4 3,s 4 2 37],.ret]
def Zl9:List RRes:=[.c 2 true 4]
end
def Zla {r:Jr} (h:openV r=0):r≠[]:=by
 rintro rfl;exact absurd h (by decide)
def Zlb (n lo hi:Int):PC prog G 147 [.int .i64 n,.int .i64 lo,.int .i64 hi] (.bool (inR n lo hi)):=by
 (refine ZkJ rfl λR hG hrd=>Qga ?_;subst hG)
 by_cases h1:lo<=n <;> by_cases h2:n<=hi <;> simp -implicitDefEqProofs[ZkH,ZkI,inR,h1,h2]
def Zlc (l:List Int) (n:Int) (h:Sml l):PC prog G 104 [.vsl (l.map ia),.int .i64 n] (.bool (decide (n∈l))):=by
 (refine ZkM rfl λR hG hrd=>Qga ?_;subst hG)
 unfold Sml at h;simp -implicitDefEqProofs[ZkK,ZkL];refine Z8g (λi=>⟨[(5,.int .i64 i),(0,.vsl (l.map ia)),(1,.int .i64 n)],[]⟩) (λi=>∀ j (h:j<l.length),j<i->¬l[j]=n) l.length (by (first|exact Wka|exact Wkb)) (by simp) ?_ ?_
 . intro i hi he;refine Qga ?_;have w1:i64.wrap ((i:Int)+1)=(i:Int)+1:=Yf;by_cases e:l[i]=n
   . have hm:n∈l:=e ▸ W0e hi;simp -implicitDefEqProofs[hi,ia,e];refine Qgr ?_;simp -implicitDefEqProofs[hm]
   . simp -implicitDefEqProofs[hi,ia,e,w1];refine ⟨by (first|exact Wka|exact Wkb),λj hj hji=>?_⟩;rcases W0q j i with h2|h2
     . exact he j hj h2
     . obtain rfl:j=i:=(by omega);exact e
 . intro he;refine Qga ?_
   have hm:¬n∈l:=λhm=>by
    obtain ⟨j,hj,e⟩:=W0k hm;exact he j hj hj e
   simp -implicitDefEqProofs[];refine Qgr ?_;simp -implicitDefEqProofs[hm]
def Zld (r:Jr) (l:Jl) (hs:Jh) (ps:Jp) (id:Int) (hh:Sml hs):PC prog G 83 [prA r l hs ps,.int .i64 id] (.int .i64 (hoI hs id)):=by
 unfold Sml at hh;unfold prA
 (refine ZkS rfl λR hG hrd=>Qga ?_;subst hG)
 simp -implicitDefEqProofs[ZkQ,ZkR];refine Z8g (λi=>⟨[(5,.int .i64 i),(2,.ptr 2 0),(1,.int .i64 id)],[(2,.box [.vsl (r.map isa),.vsl (l.map na),.vsl (hs.map hoa),.vsl (ps.map ptA)])]⟩) (λi=>∀ j (h:j<hs.length),j<i->decide (hs[j].id=id)=false) hs.length ?_ (by simp) ?_ ?_
 . (refine Wkc ?_;simp only[Wkl,and_true];(try simp[lk,Yc,Ya,AV.keys]))
 . intro i hi he;refine Qga ?_;have w1:i64.wrap ((i:Int)+1)=(i:Int)+1:=Yf;by_cases h:hs[i].id=id
   . have hf:hoI hs id=i:=(by unfold hoI;exact Z94 hi (by simpa using h) he);simp -implicitDefEqProofs[hi,hoa,h];refine Qgr ?_;simp -implicitDefEqProofs[hf]
   . simp -implicitDefEqProofs[hi,hoa,h,w1];refine ⟨?_,λj q1 q2=>?_⟩
     . (refine Wkc ?_;simp only[Wkl,and_true];(try simp[lk,Yc,Ya,AV.keys]))
     . by_cases e:j=i
       . subst e;simpa using h
       . simpa using he j q1 (by omega)
 . intro he;refine Qga ?_;have hf:hoI hs id = -1:=(by unfold hoI;exact Z95 (λj hj=>he j hj hj));simp -implicitDefEqProofs[];refine Qgr ?_;simp -implicitDefEqProofs[hf]
def Zle (x:Prt) (day:Int):PC prog G 57 [.agg (ptA x),.int .i64 day] (.bool (outB x day)):=by
 (refine Zl4 rfl λR hG hrd=>Qga ?_;subst hG)
 by_cases h1:x.dy<=day
 . by_cases h2:x.bk = -1
   . by_cases h3:x.lo=2
     . simp -implicitDefEqProofs[Zl2,Zl3,ptA,h1,h2,h3,outB]
     . simp -implicitDefEqProofs[Zl2,Zl3,ptA,h1,h2,h3,outB]
   . by_cases h4:day<x.bk
     . by_cases h3:x.lo=2
       . simp -implicitDefEqProofs[Zl2,Zl3,ptA,h1,h2,h3,h4,outB]
       . simp -implicitDefEqProofs[Zl2,Zl3,ptA,h1,h2,h3,h4,outB]
     . simp -implicitDefEqProofs[Zl2,Zl3,ptA,h1,h2,h4,outB]
 . simp -implicitDefEqProofs[Zl2,Zl3,ptA,h1,outB]
def Zlf (r:Jr) (l:Jl) (hs:Jh) (ps:Jp) (i:Nat) (hi:i<hs.length) (hr:Sml r) (hne:r≠[]) (hd:Sml (nums r)) (hw:WfP hs ps) :
  PC prog G 135 [prA r l hs ps,.int .i64 i] (.bool (hoB (nums r) hs i)):=by
 have hl:=hw.hl;have hn:=Z8z (G:=G) r hr hne;rw[rega]at hn;have hC:=λn=>Zlc (G:=G) (nums r) n hd
 have hx:=ZiR hi;have hds:=hw.dl _ (W0e hi);have heq:=ZjN (nums r) hs i;obtain ⟨h,hhe⟩:=Qex (hs[i]);rw[<- hhe]at hx hds;have hlx:hs[i]=h:=hhe.symm;have hho:hoa h=[.int .i64 h.id,.int .i64 h.fr,.int .i64 h.to,.vsl (h.ds.map ia)]:=rfl;have hC0:hoC hs i=(inR h.id 1 9999&&(i == 0||decide ((hAt hs (i-1)).id<h.id))&&inR h.fr 1 h.to&&decide (h.to<=999)&&decide (h.ds.length<=8)):=(by unfold hoC;rw[hx]);have hno2:hoC hs i=false->hoB (nums r) hs i=false:=λq=>by rw[heq,q];rfl
 have c1:=Zlb (G:=G) h.id 1 9999;have c2:=Zlb (G:=G) h.fr 1 h.to;unfold prA;refine ZkP rfl λR hG hrd=>?_
 subst hG;refine Qga ?_
 cases q1:inR h.id 1 9999
 . have e:=hno2 (by rw[hC0,q1];rfl);rw[q1]at c1
   cases i
   case' zero=>simp -implicitDefEqProofs[ZkN,ZkO,hi,hlx,hho]
   case' succ k =>
    have k1:(k:Int)+1<hs.length:=(by omega);have k2:((k:Int)+1).toNat=k+1:=(by omega);have k3:(0:Int)<=(k:Int)+1:=(by omega);simp -implicitDefEqProofs[ZkN,ZkO,k1,k2,k3,hi,hlx,hho]
   all_goals
    refine Qco (c1) ?_;simp -implicitDefEqProofs[];exact ⟨rfl,e⟩
 rw[q1]at c1;obtain ⟨I,hIe⟩:=Qex i
 cases i
 case' zero =>
  have q2:hoC hs 0=(inR h.fr 1 h.to&&decide (h.to<=999)&&decide (h.ds.length<=8)):=(by rw[hC0,q1];rfl);simp -implicitDefEqProofs[ZkN,ZkO,hi,hlx,hho];refine Qco (c1) ?_;simp -implicitDefEqProofs[]
 case' succ k =>
  have hk:k<hs.length:=(by omega);have w0:i64.wrap ((k:Int)+1-1)=(k:Int):=(by rw[Yf (by omega) (by omega)];omega);have w2:i64.wrap (k:Int)=(k:Int):=Yf;have g0:(0:Int)<(k:Int)+1:=(by omega);have k1:(k:Int)+1<hs.length:=(by omega);have k2:((k:Int)+1).toNat=k+1:=(by omega);have k3:(0:Int)<=(k:Int)+1:=(by omega);have hhk:hoa hs[k]=[.int .i64 hs[k].id,.int .i64 hs[k].fr,.int .i64 hs[k].to,.vsl (hs[k].ds.map ia)]:=rfl;simp -implicitDefEqProofs[ZkN,ZkO,k1,k2,k3,hi,hlx,hho];refine Qco (c1) ?_;by_cases hp:hs[k].id<h.id
  case' neg =>
   have e:=hno2 (by rw[hC0,W19,ZiR hk,W0S hp];simp);have hp2:h.id<=hs[k].id:=(by omega);simp -implicitDefEqProofs[hk,w0,w2,g0,hhk,hp2,hho];exact ⟨rfl,e⟩
  have hp2:¬h.id<=hs[k].id:=(by omega);have q2:hoC hs (k+1)=(inR h.fr 1 h.to&&decide (h.to<=999)&&decide (h.ds.length<=8)):=(by rw[hC0,q1,W19,ZiR hk,W0M hp];simp);simp -implicitDefEqProofs[hk,w0,w2,g0,hhk,hp2,hho]
 all_goals
  refine Qco (c2) ?_
  cases q3:inR h.fr 1 h.to
  case false =>
   have e:=hno2 (by rw[q2,q3];rfl);simp -implicitDefEqProofs[];exact ⟨rfl,e⟩
  by_cases q4:999<h.to
  case pos =>
   have e:=hno2 (by rw[q2,W0S (show ¬h.to<=999 by omega)];simp);simp -implicitDefEqProofs[hho,q4];exact ⟨rfl,e⟩
  by_cases q5:8<h.ds.length
  case pos =>
   have q5':(8:Int)<h.ds.length:=(by omega);have e:=hno2 (by rw[q2,W0S (show ¬h.ds.length<=8 by omega)];simp);simp -implicitDefEqProofs[hho,q4,q5'];exact ⟨rfl,e⟩
  have q5':¬(8:Int)<h.ds.length:=(by omega);rw[q3,W0M (show h.to<=999 by omega),W0M (show h.ds.length<=8 by omega)]at q2;simp -implicitDefEqProofs[hho,q4,q5'];refine ⟨rfl,?_⟩;refine Qco (hn) ?_;simp -implicitDefEqProofs[];refine Z8g (λk=>⟨[(7,.int .i64 k),(6,.vsl ((nums r).map ia)),(5,.ptr 5 0)],[(5,.box (hoa h))]⟩) (λk=>∀ j,j<k->wkC (nums r) h.ds j=true) h.ds.length ?_ (by simp) ?_ ?_
  . ((try simp only[hho]);refine Ym.sub (by simp[lk,Ya,AV.keys,hho]) ?_;simp only[hho,Wkl,and_true];(try simp[lk,Yc,Ya,AV.keys,hho]))
  . intro k hk hK
    have hwf:wkC (nums r) h.ds k=false->hoB (nums r) hs I=false:=λq=>by
     rw[hIe,heq,hx]
     cases q6:(List.range h.ds.length).all (wkC (nums r) h.ds)
     . rw[W2a]
     . have:=Z8y.1 q6 k hk;rw[q]at this;cases this
    rw[hIe]at hwf;have hcd:=hC h.ds[k];have gd:h.ds.getD k 0=h.ds[k]:=(by simp[W0j,hk]);refine Qga ?_;by_cases m1:h.ds[k]∈nums r
    case neg =>
     have e:=hwf (by rw[wkC,gd];simp[m1]);rw[W0S m1]at hcd
     cases k
     case' zero=>simp -implicitDefEqProofs[hk,ia,hho]
     case' succ p =>
      have k1:(p:Int)+1<h.ds.length:=(by omega);have k2:((p:Int)+1).toNat=p+1:=(by omega);have k3:(0:Int)<=(p:Int)+1:=(by omega);simp -implicitDefEqProofs[k1,k2,k3,hk,ia,hho]
     all_goals
      refine Qco (hcd) ?_;simp -implicitDefEqProofs[];refine ⟨rfl,?_⟩;refine Qgr ?_;simp -implicitDefEqProofs[e]
      done
    rw[W0M m1]at hcd
    cases k with
    | zero =>
      have e:wkC (nums r) h.ds 0=true:=(by rw[wkC,gd];simp[m1]);have w1:i64.wrap 1=1:=rfl;simp -implicitDefEqProofs[hk,ia,hho];refine Qco (hcd) ?_;simp -implicitDefEqProofs[w1];refine ⟨rfl,?_,e⟩
      ((try simp only[hho]);refine Ym.sub (by simp[lk,Ya,AV.keys,hho]) ?_;simp only[hho,Wkl,and_true];(try simp[lk,Yc,Ya,AV.keys,hho]))
    | succ p =>
      have hp:p<h.ds.length:=(by omega);have g2:h.ds.getD p 0=h.ds[p]:=(by simp[W0j,hp]);have w0:i64.wrap ((p:Int)+1-1)=(p:Int):=(by rw[Yf (by omega) (by omega)];omega);have w2:i64.wrap (p:Int)=(p:Int):=Yf;have g0:(0:Int)<(p:Int)+1:=(by omega);have k1:(p:Int)+1<h.ds.length:=(by omega);have k2:((p:Int)+1).toNat=p+1:=(by omega);have k3:(0:Int)<=(p:Int)+1:=(by omega);have wk2:i64.wrap ((p:Int)+1+1)=(p:Int)+1+1:=Yf;by_cases m2:h.ds[p]<h.ds[p+1]
      . have e:wkC (nums r) h.ds (p+1)=true:=(by rw[wkC,gd,W19,g2];simp[m1,m2]);have m3:¬h.ds[p+1]<=h.ds[p]:=(by omega);simp -implicitDefEqProofs[k1,k2,k3,hk,ia,hho];refine Qco (hcd) ?_;simp -implicitDefEqProofs[hp,w0,w2,g0,hho,ia,m3,wk2,k1,k2,k3,hk];refine ⟨rfl,?_,λj hj=>?_⟩
        . ((try simp only[hho]);refine Ym.sub (by simp[lk,Ya,AV.keys,hho]) ?_;simp only[hho,Wkl,and_true];(try simp[lk,Yc,Ya,AV.keys,hho]))
        . rcases W0q j (p+1) with h4|h4
          . exact hK j h4
          . obtain rfl:j=p+1:=(by omega);exact e
      . have e:=hwf (by rw[wkC,gd,W19,g2];simp[m2]);have m3:h.ds[p+1]<=h.ds[p]:=(by omega);simp -implicitDefEqProofs[k1,k2,k3,hk,ia,hho];refine Qco (hcd) ?_;simp -implicitDefEqProofs[hp,w0,w2,g0,hho,ia,m3,k1,k2,k3,hk];refine ⟨rfl,?_⟩;refine Qgr ?_;simp -implicitDefEqProofs[e]
  . intro hK
    have e:hoB (nums r) hs I=true:=by
     rw[hIe,heq,q2,hx];simp only[W1k,Bool.and_self];exact Z8y.2 hK
    rw[hIe]at e;refine Qga ?_;simp -implicitDefEqProofs[hho];refine Qgr ?_;simp -implicitDefEqProofs[e]
def Zlg (r:Jr) (l:Jl) (hs:Jh) (ps:Jp) (i:Nat) (hi:i<ps.length) (hr:Sml r) (hw:WfP hs ps) :
  PC prog G 136 [prA r l hs ps,.int .i64 i] (.bool (shB r hs ps i)):=by
 have hpl:=hw.pl;have hh:Sml hs:=(by have:=hw.hl;unfold Sml;omega);have hx:=ZiS hi;obtain ⟨x,hxe⟩:=Qex (ps[i]);have hpo:=hw.po _ (W0e hi);rw[<- hxe]at hx hpo;have hlx:ps[i]=x:=hxe.symm;have hpt:ptA x=[.int .i64 x.no,.int .i64 x.dy,.int .i64 x.ho,.int .i64 x.dw,.int .i64 x.lt,.int .i64 x.bk,.int .u8 x.lo]:=rfl;have hsh:shB r hs ps i=((i == 0||decide ((pAt ps (i-1)).no<x.no))&&prB r hs x):=(by unfold shB;rw[hx]);have c1:=Zlb (G:=G) x.no 1 9999;have c2:=Zlb (G:=G) x.dy 0 14610;have c3:=Zld (G:=G) r l hs ps x.ho hh;have c4:=Z8x (G:=G) r x.dw x.lt hr;have c5:=Zlb (G:=G) x.bk x.dy 14610;rw[rega]at c4;have hI:=hoF_I hs x.ho;have hfst:∀ c:Bool,prB r hs x=false->(c&&prB r hs x)=false:=λc h=>by rw[h,W2a]
 unfold prA at *;refine ZkV rfl λR hG hrd=>?_
 subst hG;refine Qga ?_
 cases q1:inR x.no 1 9999
 . have e:shB r hs ps i=false:=(by rw[hsh];exact hfst _ (by simp[prB,q1]));rw[q1]at c1
   cases i
   case' zero=>simp -implicitDefEqProofs[ZkT,ZkU,hi,hlx,hpt]
   case' succ k =>
    have k1:(k:Int)+1<ps.length:=(by omega);have k2:((k:Int)+1).toNat=k+1:=(by omega);have k3:(0:Int)<=(k:Int)+1:=(by omega);simp -implicitDefEqProofs[ZkT,ZkU,k1,k2,k3,hi,hlx,hpt]
   all_goals
    refine Qco (c1) ?_;simp -implicitDefEqProofs[];exact ⟨rfl,e⟩
 rw[q1]at c1;obtain ⟨P,hP⟩:=Qex (shB r hs ps i);rw[<- hP]
 cases i
 case' zero =>
  have q2:P=prB r hs x:=(by rw[hP,hsh];rfl);simp -implicitDefEqProofs[ZkT,ZkU,hi,hlx,hpt];refine Qco (c1) ?_;simp -implicitDefEqProofs[]
 case' succ k =>
  have hk:k<ps.length:=(by omega);have w0:i64.wrap ((k:Int)+1-1)=(k:Int):=(by rw[Yf (by omega) (by omega)];omega);have w2:i64.wrap (k:Int)=(k:Int):=Yf;have g0:(0:Int)<(k:Int)+1:=(by omega);have k1:(k:Int)+1<ps.length:=(by omega);have k2:((k:Int)+1).toNat=k+1:=(by omega);have k3:(0:Int)<=(k:Int)+1:=(by omega);have hpk:ptA ps[k]=[.int .i64 ps[k].no,.int .i64 ps[k].dy,.int .i64 ps[k].ho,.int .i64 ps[k].dw,.int .i64 ps[k].lt,.int .i64 ps[k].bk,.int .u8 ps[k].lo]:=rfl;simp -implicitDefEqProofs[ZkT,ZkU,k1,k2,k3,hi,hlx,hpt];refine Qco (c1) ?_;by_cases hp:ps[k].no<x.no
  case' neg =>
   have e:P=false:=(by rw[hP,hsh,W19,ZiS hk,W0S hp];simp);have hp2:x.no<=ps[k].no:=(by omega);simp -implicitDefEqProofs[hk,w0,w2,g0,hpk,hp2,hpt];exact ⟨rfl,e⟩
  have hp2:¬x.no<=ps[k].no:=(by omega);have q2:P=prB r hs x:=(by rw[hP,hsh,W19,ZiS hk,W0M hp];simp);simp -implicitDefEqProofs[hk,w0,w2,g0,hpk,hp2,hpt]
 all_goals
  clear hP hsh;subst q2;refine Qco (c2) ?_
  cases q3:inR x.dy 0 14610
  case false =>
   have e:prB r hs x=false:=(by simp[prB,q3]);simp -implicitDefEqProofs[];exact ⟨rfl,e⟩
  simp -implicitDefEqProofs[];refine Qco (c3) ?_;by_cases q4:hoI hs x.ho<0
  case pos =>
   have e:prB r hs x=false:=by
    rw[W0S (show ¬0<=hoI hs x.ho by omega)]at hI;simp[prB,<- hI]
   simp -implicitDefEqProofs[q4];exact ⟨rfl,e⟩
  rw[W0M (show 0<=hoI hs x.ho by omega)]at hI;by_cases q5:2<x.lo
  case pos =>
   have e:prB r hs x=false:=by
    have:¬x.lo<=2:=(by omega);simp[prB,this]
   simp -implicitDefEqProofs[q4,hpt,q5];exact ⟨rfl,e⟩
  have q5':x.lo<=2:=(by omega);simp -implicitDefEqProofs[q4,hpt,q5];refine ⟨rfl,?_⟩;refine Qco (c4) ?_
  cases q6:findN x.dw x.lt r with
  | none =>
    have e:prB r hs x=false:=(by simp[prB,q6]);simp -implicitDefEqProofs[q6,fndA,noIs,e]
  | some y =>
    have ey:isa y=[.int .i64 y.d,.int .i64 y.l,.int .u8 y.k,.vsl (y.its.map ita),.vsl (y.dms.map dma)]:=rfl;have e:prB r hs x=(decide (x.bk = -1)||(inR x.bk x.dy 14610&&decide (x.lo=0))):=(by simp[prB,q1,q3,<- hI,q5',q6]);rw[e];by_cases q7:x.bk = -1
    . simp -implicitDefEqProofs[q6,fndA,ey,hpt,q7]
    . simp -implicitDefEqProofs[q6,fndA,ey,hpt,q7];refine Qco (c5) ?_
      cases inR x.bk x.dy 14610
      . simp -implicitDefEqProofs[]
      . simp -implicitDefEqProofs[hpt]
def Zlh (r:Jr) (l:Jl) (hs:Jh) (ps:Jp) (hr:Sml r) (hne:r≠[]) (hd:Sml (nums r)) (hw:WfP hs ps):PC prog G 78 [prA r l hs ps] (.bool (ptsB r hs ps)):=by
 have hl:=hw.hl;have hp:=hw.pl;have c1:=λi hi=>Zlf (G:=G) r l hs ps i hi hr hne hd hw
 have c2:=λi hi=>Zlg (G:=G) r l hs ps i hi hr hw
 unfold prA at *;refine ZkY rfl λR hG hrd=>?_
 subst hG;refine Qga ?_;by_cases h6:6<hs.length
 . have h6':(6:Int)<hs.length:=by omega
   have e:ptsB r hs ps=false:=by
    have:¬hs.length<=6:=(by omega);simp[ptsB,this]
   simp -implicitDefEqProofs[ZkW,ZkX,h6',e]
 have h6':¬(6:Int)<hs.length:=(by omega);by_cases h30:30<ps.length
 . have h30':(30:Int)<ps.length:=by omega
   have e:ptsB r hs ps=false:=by
    have:¬ps.length<=30:=(by omega);simp[ptsB,this]
   simp -implicitDefEqProofs[ZkW,ZkX,h6',h30',e]
 have h30':¬(30:Int)<ps.length:=(by omega);simp -implicitDefEqProofs[ZkW,ZkX,h6',h30'];refine Z8g (λi=>⟨[(3,.int .i64 i),(1,.ptr 1 0)],[(1,.box [.vsl (r.map isa),.vsl (l.map na),.vsl (hs.map hoa),.vsl (ps.map ptA)])]⟩) (λi=>∀ j,j<i->hoB (nums r) hs j=true) hs.length ?_ (by simp) ?_ ?_
 . (refine Wkc ?_;simp only[Wkl,and_true];(try simp[lk,Yc,Ya,AV.keys]))
 . intro i hi he;have c1:=c1 i hi;have wi:i64.wrap ((i:Int)+1)=(i:Int)+1:=Yf;refine Qga ?_
   cases q:hoB (nums r) hs i
   . have e:=ZjL (ps:=ps) hi q;rw[q]at c1;simp -implicitDefEqProofs[hi];refine Qco (c1) ?_;simp -implicitDefEqProofs[];refine Qgr ?_;simp -implicitDefEqProofs[e]
   . rw [q]at c1;simp -implicitDefEqProofs[hi];refine Qco (c1) ?_;simp -implicitDefEqProofs[wi];refine ⟨?_,λj hj=>?_⟩
     . (refine Wkc ?_;simp only[Wkl,and_true];(try simp[lk,Yc,Ya,AV.keys]))
     . rcases W0q j i with h4|h4
       . exact he j h4
       . obtain rfl:j=i:=(by omega);exact q
 . intro he;refine Qga ?_;simp -implicitDefEqProofs[];refine Qgr ?_;simp -implicitDefEqProofs[];refine Z8g (λi=>⟨[(4,.int .i64 i),(1,.ptr 1 0)],[(1,.box [.vsl (r.map isa),.vsl (l.map na),.vsl (hs.map hoa),.vsl (ps.map ptA)])]⟩) (λi=>∀ j,j<i->shB r hs ps j=true) ps.length ?_ (by simp) ?_ ?_
   . (refine Wkc ?_;simp only[Wkl,and_true];(try simp[lk,Yc,Ya,AV.keys]))
   . intro i hi hE;have c2:=c2 i hi;have wi:i64.wrap ((i:Int)+1)=(i:Int)+1:=Yf;refine Qga ?_
     cases q:shB r hs ps i
     . have e:=ZjM hi q;rw[q]at c2;simp -implicitDefEqProofs[hi];refine Qco (c2) ?_;simp -implicitDefEqProofs[];refine Qgr ?_;simp -implicitDefEqProofs[e]
     . rw [q]at c2;simp -implicitDefEqProofs[hi];refine Qco (c2) ?_;simp -implicitDefEqProofs[wi];refine ⟨?_,λj hj=>?_⟩
       . (refine Wkc ?_;simp only[Wkl,and_true];(try simp[lk,Yc,Ya,AV.keys]))
       . rcases W0q j i with h4|h4
         . exact hE j h4
         . obtain rfl:j=i:=(by omega);exact q
   . intro hE
     have e:ptsB r hs ps=true:=by
      simp only[ptsB,W01,W0b];exact ⟨⟨⟨by omega,by omega⟩,Z8y.2 he⟩,Z8y.2 hE⟩
     refine Qga ?_;simp -implicitDefEqProofs[];refine Qgr ?_;simp -implicitDefEqProofs[e]
def Zli (r:Jr) (l:Jl) (hs:Jh) (ps:Jp) (hl:WfN l) (hr:Wf r) (hd:Sml (nums r)) (hw:WfP hs ps):PC prog G 24 [prA r l hs ps] (.int .i64 (ck7 r l hs ps)):=by
 have c1:=ZcC (G:=G) r l hl hr;by_cases h0:chN r l=0
 . have c2:=Zlh (G:=G) r l hs ps hr.1.1 (Zla (ZjQ h0)) hd hw;rw[h0]at c1;unfold prA at *;unfold ck7;rw[if_pos h0]
   (refine Zl1 rfl λR hG hrd=>Qga ?_;subst hG)
   simp -implicitDefEqProofs[ZkZ,Zl0];refine Qco (c1) ?_;simp -implicitDefEqProofs[];refine Qco (c2) ?_
   cases q:ptsB r hs ps
   . simp -implicitDefEqProofs[]
   . simp -implicitDefEqProofs[]
 . have e:ck7 r l hs ps=chN r l:=(by rw[ck7,if_neg h0]);rw[e];unfold prA
   (refine Zl1 rfl λR hG hrd=>Qga ?_;subst hG)
   simp -implicitDefEqProofs[ZkZ,Zl0];refine Qco (c1) ?_;simp -implicitDefEqProofs[h0]
def Zlj {r:Jr} {l:Jl} {hs:Jh} {ps:Jp} {day m:Int} (h:as7 r l hs ps day m=0):ck7 r l hs ps=0/\inR day 0 14610=true/\inR m 1 999=true:=by
 unfold as7 at h;by_cases c:ck7 r l hs ps=0
 . rw[if_pos c]at h;by_cases c2:inR day 0 14610=true/\inR m 1 999=true
   . exact ⟨c,c2⟩
   . rw[if_neg c2]at h;cases h
 . rw[if_neg c]at h;exact absurd h c
def Zlk {r:Jr} {l:Jl} {hs:Jh} {ps:Jp} {day m id:Int} {ds:List Int} (h:ab7 r l hs ps day m id ds=0):as7 r l hs ps day m=0/\0<=hoI hs id/\∀ d∈ds,d∈nums r:=by
 unfold ab7 at h;by_cases c:as7 r l hs ps day m=0
 . rw[if_pos c]at h
   split at h
   . rename_i c2;exact ⟨c,c2.1,λd hd=>by simpa using W03.1 c2.2 d hd⟩
   . cases h
 . rw[if_neg c]at h;exact absurd h c
def helP (id day lo:Int) (x:Prt):Bool:=decide (x.ho=id)&&outB x day&&decide (x.lo=lo)
def helK (id day lo:Int) (ps:Jp) (i:Nat):List Int:=pkL (helP id day lo) (·.no) ps i
def heE (r:Jr) (l:Jl) (hs:Jh) (ps:Jp) (day id:Int):List Int×List Int×Int :=
 if ab7 r l hs ps day 1 id []=0 then (helK id day 0 ps ps.length,helK id day 1 ps ps.length,0) else ([],[],ab7 r l hs ps day 1 id [])
def heA (r:Jr) (l:Jl) (hs:Jh) (ps:Jp) (day id:Int):AV:=.tup [Yg ((heE r l hs ps day id).1.map ia),Yg ((heE r l hs ps day id).2.1.map ia),.int .i64 (heE r l hs ps day id).2.2]
def shP (id:Int) (x:Prt):Bool:=decide (x.ho=id) && !decide (x.lo=1)
def phP (id:Int) (x:Prt):Bool:=decide (x.ho=id)&&decide (x.lo=1)
def shK (id:Int) (L:Jp) (k:Nat):List Int:=pkL (shP id) (·.no) L k
def phK (id:Int) (L:Jp) (k:Nat):List Int:=pkL (phP id) (·.no) L k
def Zll {ps:Jp} {day id:Int} (hlo:∀ x∈ps,0<=x.lo/\x.lo<=2):shK id (outP ps day) (outP ps day).length=helK id day 0 ps ps.length:=by
 unfold shK helK outP;rw[Zjb,Zjb,List.filter_filter]
 congr 1
 refine List.filter_congr λx hx=>?_
 have:=hlo x hx;rw[W2h];simp only[shP,helP,outB,W01,W0b,W1C,W1b,W0T]
 constructor
 . rintro ⟨⟨h1,h3⟩,h4,h5⟩;exact ⟨⟨h1,h4,h5⟩,by omega⟩
 . rintro ⟨⟨h1,h4,h5⟩,h3⟩;exact ⟨⟨h1,by omega⟩,h4,h5⟩
def Zlm {ps:Jp} {day id:Int}:phK id (outP ps day) (outP ps day).length=helK id day 1 ps ps.length:=by
 unfold phK helK outP;rw[Zjb,Zjb,List.filter_filter]
 congr 1
 refine List.filter_congr λx hx=>?_
 simp only[phP,helP,Bool.and_assoc,Bool.and_comm,Bool.and_left_comm]
def Zln {α β:Type} {p:α->Bool} {f:α->β} {L:List α} {j:Nat} (h:pkL p f L j=[]):∀ {i},i<=j->pkL p f L i=[]:=by
 intro i hi
 induction j with
 | zero => obtain rfl:i=0:=by omega
           exact h
 | succ j ih =>
   rcases W0q i (j+1) with c|c
   . exact ih (Zkf h) (by omega)
   . obtain rfl:i=j+1:=(by omega);exact h
def Zlo {α β γ:Type} (p:α->Bool) (f:α->β) (q:α->Bool) (g:α->γ) (L:List α):∃ w:Bool,(∀ k,pkL p f L k=[]->pkL q g L k≠[]->w=true)/\∀ k,pkL q g L k=[]->pkL p f L k≠[]->w=false:=by
 by_cases h:∃ k,pkL p f L k=[]/\pkL q g L k≠[]
 . refine ⟨true,λ_ _ _=>rfl,λk h1 h2=>?_⟩;obtain ⟨j,h3,h4⟩:=h;rcases Nat.le_total j k with c|c
   . exact absurd (Zln h1 c) h4
   . exact absurd (Zln h3 c) h2
 . exact ⟨false,λk h1 h2=>absurd ⟨k,h1,h2⟩ h,λ_ _ _=>rfl⟩
def hpB (id:Int) (w:Bool) (S P:List Int):List (Nat×AObj):=[(1005,.box [.int .i64 id]),(1006,.box [nlV 1031 S]),(1007,.box [nlV 1045 P])]++(if w=true then nlO 1045 P++nlO 1031 S else nlO 1031 S++nlO 1045 P)
def hpU (id:Int) (w:Bool) (S T P Q:List Int):List (Nat×AObj):=[(1005,.box [.int .i64 id]),(1006,.box [nlV (nlN 1031 S) T]),(1007,.box [nlV (nlN 1045 P) Q])] ++
 (if w=true then (if P=[] then [] else nlO 1045 Q)++(if S=[] then [] else nlO 1031 T) else (if S=[] then [] else nlO 1031 T)++(if P=[] then [] else nlO 1045 Q))++(if S=[] then nlO 31 T else [])++(if P=[] then nlO 45 Q else [])
def Zlp (hG:GC G) (hN:GN G) (hP:GP G) (r:Jr) (l:Jl) (hs:Jh) (ps:Jp) (day id d:Int) (hl:WfN l) (hr:Wf r) (hd:Sml (nums r)) (hw:WfP hs ps) (hb:ck7 r l hs ps=0->(∀ x∈ps,0<=x.lt/\x.lt<=8)/\∀ x∈ps,0<=x.lo/\x.lo<=2) :
  PC prog G 21 [prA r l hs ps,.int .i64 day,.int .i64 id,.int .i64 d] (if ab7 r l hs ps day 1 id [d]=0 then .tup [.vsl ((wkL ps day id d).map ia),.int .i64 0] else .tup [.nils,.int .i64 (ab7 r l hs ps day 1 id [d])]):=by
 have ha:=ZjV hG hN hP r l hs ps day 1 id [d] hl hr hd hw (by simp[Sml]);have pO:=ZiZ r l hs ps;have kO:=Zj0 r l hs ps;have e1:[d].map ia=[[.int .i64 d]]:=rfl;rw[e1]at ha;unfold abP at ha;by_cases h0:ab7 r l hs ps day 1 id [d]=0
 . obtain ⟨g1,g2⟩:=hb (Zlj (Zlk h0).1).1;have hW:=Zkk (G:=G) r l hs ps day id d hw.pl g1 g2;rw[if_pos h0,h0]at ha;rw[if_pos h0];unfold prA at *;generalize ofA r l hs ps=O at *
   (refine Ziu rfl λR hG hrd=>Qga ?_;subst hG)
   simp -implicitDefEqProofs[Zis,Zit];refine Qco (ha) ?_;simp -implicitDefEqProofs[];refine Yd.of hW (by simp[pO,AV.pure]) ?_;simp -implicitDefEqProofs[ia]
 . rw[if_neg h0]at ha ⊢;unfold prA at *
   (refine Ziu rfl λR hG hrd=>Qga ?_;subst hG)
   simp -implicitDefEqProofs[Zis,Zit];refine Qco (ha) ?_;simp -implicitDefEqProofs[h0]
def Zlq (hG:GC G) (hN:GN G) (hP:GP G) (r:Jr) (l:Jl) (hs:Jh) (ps:Jp) (day id:Int) (hl:WfN l) (hr:Wf r) (hd:Sml (nums r)) (hw:WfP hs ps) (hlo:ck7 r l hs ps=0->∀ x∈ps,0<=x.lo/\x.lo<=2) :
  PC prog G 19 [prA r l hs ps,.int .i64 day,.int .i64 id] (heA r l hs ps day id):=by
 have ha0:=ZjV hG hN hP r l hs ps day 1 id [] hl hr hd hw (by simp[Sml]);have ha:=PC.sub ha0 (xs:=[prA r l hs ps,.int .i64 day,.int .i64 1,.int .i64 id,.nils]) ⟨.rfl',.rfl',.rfl',.rfl',.nils,trivial⟩;have pO:=ZiZ r l hs ps;unfold abP at ha;unfold heA heE;by_cases h0:ab7 r l hs ps day 1 id []=0
 case neg =>
  rw[if_neg h0]at ha ⊢;unfold prA at *
  (refine Zio rfl λR hG hrd=>Qga ?_;subst hG)
  simp -implicitDefEqProofs[Zim,Zin];refine Qco (ha) ?_;simp -implicitDefEqProofs[h0,Yg]
 have g2:=hlo (Zlj (Zlk h0).1).1;rw[if_pos h0,h0]at ha;rw[if_pos h0,<- Zll g2,<- Zlm];have hO:=Zki (G:=G) r l hs ps day;have hit:=outIt (G:=G) r l hs ps day hw.pl;have eN:=Zj6 ps day;have hat:=λk x h=>Zj7 (ps:=ps) (day:=day) (k:=k) (x:=x) h
 have hL:(outP ps day).length<=41:=W0O (W0D ..) hw.pl;unfold prA at *;generalize outP ps day=L at *;generalize outE ps day=E at *;obtain ⟨B,hB⟩ : ∃ B:List AV,B=[.vsl (r.map isa),.vsl (l.map na),.vsl (hs.map hoa),.vsl (ps.map ptA)]:=⟨_,rfl⟩;generalize ofA r l hs ps=O at *;refine Zio rfl λR hG hrd=>?_
 subst hG;refine Qga ?_;simp -implicitDefEqProofs[Zim,Zin];refine Qco (ha) ?_;simp -implicitDefEqProofs[];refine Yd.of hO (by simp[pO,AV.pure]) ?_;simp -implicitDefEqProofs[];obtain ⟨w,hwA,hwB⟩:=Zlo (shP id) (·.no) (phP id) (·.no) L
 refine Zjt hrd (by decide) hit (by simp[evA,St.tmp,lk]) (by simp[AV.pure,pO]) (λk=>k == 11) (by intro k hk;simp at hk;omega) r1K [(5,.ptr 1005 0),(6,.ptr 1006 0),(7,.ptr 1007 0)]
  (λk=>hpB id w (shK id L k) (phK id L k)) (λk=>hpU id w (shK id L k) (shK id L (k+1)) (phK id L k) (phK id L (k+1))) (λk=>k<=L.length) (W1f _) ?_ ?_ ?_ ?_ ?_ ?_ ?_ ?_ ?_ ?_ ?_
 . intro k q hq
   cases w <;> by_cases c1:shK id L k=[] <;> by_cases c2:phK id L k=[] <;> simp[hpB,nlO,c1,c2]at hq
   all_goals
    first
     |(rcases hq with rfl|rfl|rfl <;> simp;done)
     |(rcases hq with rfl|rfl|rfl|rfl <;> simp;done)
     |(rcases hq with rfl|rfl|rfl|rfl|rfl <;> simp;done)
 . intro k
   cases w <;> by_cases c1:shK id L k=[] <;> by_cases c2:phK id L k=[] <;> simp[hpB,nlO,c1,c2,r1K]
 . intro k;simp only[hpU,nlO]
   cases w <;> by_cases c1:shK id L k=[] <;> by_cases c2:phK id L k=[] <;> by_cases c3:shK id L (k+1)=[] <;> by_cases c4:phK id L (k+1)=[] <;> simp[c1,c2,c3,c4,r1K]
 . intro k q hq;have n1:=Zkf (p:=shP id) (f:=(·.no)) (L:=L) (k:=k);have n2:=Zkf (p:=phP id) (f:=(·.no)) (L:=L) (k:=k);simp only[hpB,hpU,nlO]at *
   cases w <;> by_cases c1:shK id L k=[] <;> by_cases c2:phK id L k=[] <;> by_cases c3:shK id L (k+1)=[] <;> by_cases c4:phK id L (k+1)=[]
   all_goals
    first
     |exact absurd (n1 c3) c1
     |exact absurd (n2 c4) c2
     | (simp[c1,c2]at hq
        rcases hq with rfl|rfl|rfl <;> simp[isK,lk,c1,c2,c3,c4];done)
     | (simp[c1,c2]at hq
        rcases hq with rfl|rfl|rfl|rfl <;> simp[isK,lk,c1,c2,c3,c4];done)
     | (simp[c1,c2]at hq
        rcases hq with rfl|rfl|rfl|rfl|rfl <;> simp[isK,lk,c1,c2,c3,c4];done)
 . intro k q hq;simp only[hpB,hpU,nlO]at *
   cases w <;> by_cases c1:shK id L k=[] <;> by_cases c2:phK id L k=[] <;> by_cases c3:shK id L (k+1)=[] <;> by_cases c4:phK id L (k+1)=[]
   all_goals
    simp[c1,c2,c3,c4]at hq
    first
     |(rcases hq with rfl|rfl|rfl <;> first|(left;simp[isK,lk,c1,c2];done)|(right;simp[Yl,r1K,St.get,St.set,putO,lk,c1,c2];done))
     |(rcases hq with rfl|rfl|rfl|rfl <;> first|(left;simp[isK,lk,c1,c2];done)|(right;simp[Yl,r1K,St.get,St.set,putO,lk,c1,c2];done))
     |(rcases hq with rfl|rfl|rfl|rfl|rfl <;> first|(left;simp[isK,lk,c1,c2];done)|(right;simp[Yl,r1K,St.get,St.set,putO,lk,c1,c2];done))
 . intro k;have n1:=Zkf (p:=shP id) (f:=(·.no)) (L:=L) (k:=k);have n2:=Zkf (p:=phP id) (f:=(·.no)) (L:=L) (k:=k);have m1:shK id L k=[]->¬phK id L k=[]->w=true:=hwA k;have m2:phK id L k=[]->¬shK id L k=[]->w=false:=hwB k
   have m3:shK id L k=[]->phK id L k=[]->shK id L (k+1)=[]∨phK id L (k+1)=[]:=λh1 h2=>by
    by_cases c:k<L.length
    . have a1:=Zj8 (p:=shP id) (f:=(·.no)) c;have a2:=Zj8 (p:=phP id) (f:=(·.no)) c;by_cases b:shP id L[k]=true
      . right
        have b2:phP id L[k]=false:=by
         simp only[shP,phP,W01,W1C,W1b,Bool.and_eq_false_iff]at b ⊢;exact .inr b.2
        rw[b2]at a2;exact a2.trans h2
      . left
        rw[if_neg b]at a1;exact a1.trans h1
    . left
      unfold shK pkL at *;rw[W0J (by omega)]at *;exact h1
   simp only[hpB,hpU,nlO,nlV,nlN];by_cases c1:shK id L k=[] <;> by_cases c2:phK id L k=[] <;> by_cases c3:shK id L (k+1)=[] <;> by_cases c4:phK id L (k+1)=[]
   all_goals
    first
     |exact absurd (n1 c3) c1
     |exact absurd (n2 c4) c2
     |(have:=m3 c1 c2;simp[c3,c4]at this;done)
     |(simp[m1 c1 c2,c1,c2,c3,c4,Yl,r1K,AV.ren,Zfz,Zkh];done)
     |(simp[m2 c2 c1,c1,c2,c3,c4,Yl,r1K,AV.ren,Zfz,Zkh];done)
     |(cases w <;> simp[c1,c2,c3,c4,Yl,r1K,AV.ren,Zfz,Zkh];done)
 . have e0:shK id L 0=[]:=Zja _ _ _;have e1:phK id L 0=[]:=Zja _ _ _;simp[hpB,nlO,nlV,e0,e1,Yl,r1K,St.set,putO,AObj.ren,AV.ren]
 . intro k q hq;have hk1:∀ o:List (Nat×AObj),Yc o (.row 1 ((shK id L k).map ia))=true:=λo=>Zem o _
   have hk2:∀ o:List (Nat×AObj),Yc o (.row 1 ((phK id L k).map ia))=true:=λo=>Zem o _
   cases w <;> by_cases c1:shK id L k=[] <;> by_cases c2:phK id L k=[] <;> simp only[hpB,nlO,nlV,c1,c2,if_true,if_false,W05,W1e,W18,W1G,W0g,W0Q,or_false]at hq ⊢
   all_goals
    first
     |(rcases hq with rfl|rfl|rfl <;> first|exact hk1 _|exact hk2 _|(simp[Yc,Ya,AV.keys,lk];done))
     |(rcases hq with rfl|rfl|rfl|rfl <;> first|exact hk1 _|exact hk2 _|(simp[Yc,Ya,AV.keys,lk];done))
     |(rcases hq with rfl|rfl|rfl|rfl|rfl <;> first|exact hk1 _|exact hk2 _|(simp[Yc,Ya,AV.keys,lk];done))
 . intro q hq;simp at hq;rcases hq with rfl|rfl|rfl
   all_goals
    refine ⟨by simp[lk,AV.ren,r1K],by simp,by simp,λj k hk=>?_⟩;simp[AV.keys]at hk;subst hk;simp only[hpB];simp[isK,lk]
 . intro k x hx hk R' hG hN;obtain ⟨i,hkl,rfl⟩:=hat k x hx;have sc:=Zj8 (p:=shP id) (f:=(·.no)) hkl;have pc:=Zj8 (p:=phP id) (f:=(·.no)) hkl;have hle:=Zj9 (shP id) (·.no) L k;have hle2:=Zj9 (phP id) (·.no) L k;obtain ⟨y,hy⟩:=Qex (L[k]);rw[<- hy]at sc pc ⊢;have hpt:ptA y=[.int .i64 y.no,.int .i64 y.dy,.int .i64 y.ho,.int .i64 y.dw,.int .i64 y.lt,.int .i64 y.bk,.int .u8 y.lo]:=rfl;have e1:∀ k,pkL (shP id) (·.no) L k=shK id L k:=λ_=>rfl
   have e2:∀ k,pkL (phP id) (·.no) L k=phK id L k:=λ_=>rfl
   rw[e1,e1]at sc;rw[e2,e2]at pc;rw[e1]at hle;rw[e2]at hle2;clear hwA hwB;generalize shK id L k=S at *;generalize shK id L (k+1)=T at *;generalize phK id L k=P at *;generalize phK id L (k+1)=Q at *;have bb:(S.length+1)*8<=70368744177664:=(by omega);have bb2:(P.length+1)*8<=70368744177664:=by omega
   cases w <;> by_cases cS:S=[] <;> by_cases cP:P=[]
   all_goals
    refine Qga ?_;simp only[hpB,nlV,nlO,cS,cP,if_true,if_false,W05,W1e,W18,W1G];simp -implicitDefEqProofs[hpt];intro R'' hG'' hN'';refine Qga ?_;by_cases q1:y.ho=id
    case neg =>
     have b1:shP id y=false:=(by simp[shP,q1]);have b2:phP id y=false:=(by simp[phP,q1]);rw[b1]at sc;rw[b2]at pc;have sc:T=S:=sc;have pc:Q=P:=pc;subst sc pc;simp -implicitDefEqProofs[hpt,q1];refine ⟨?_,by omega⟩;simp[hpU,Yi,Zf7,ZjW,frzA,frz,AV.keys,nlV,nlO,nlN,cS,cP]
    by_cases q3:y.lo=1
    . have b1:shP id y=false:=(by simp[shP,q3]);have b2:phP id y=true:=(by simp[phP,q1,q3]);rw[b1]at sc;rw[b2,if_pos rfl]at pc;have sc:T=S:=sc;subst sc;have hne:¬Q=[]:=(by rw[pc];simp);have hTl:Q.length=P.length+1:=(by rw[pc];simp);have em:Q.map ia=P.map ia++[[.int .i64 y.no]]:=(by rw[pc,W0r];rfl);simp -implicitDefEqProofs[hpt,q1,q3,bb2];refine ⟨?_,by omega⟩;simp only[hpU,nlV,nlO,nlN,hne,if_false,hTl,em,cS,cP];simp[cS,cP,Yi,Zf7,frzO,frzA,frz,AV.keys,ia,W0y]
    . have b1:shP id y=true:=(by simp[shP,q1,q3]);have b2:phP id y=false:=(by simp[phP,q3]);rw[b2]at pc;rw[b1,if_pos rfl]at sc;have pc:Q=P:=pc;subst pc;have hne:¬T=[]:=(by rw[sc];simp);have hTl:T.length=S.length+1:=(by rw[sc];simp);have em:T.map ia=S.map ia++[[.int .i64 y.no]]:=(by rw[sc,W0r];rfl);simp -implicitDefEqProofs[hpt,q1,q3,bb];refine ⟨?_,by omega⟩;simp only[hpU,nlV,nlO,nlN,hne,if_false,hTl,em,cS,cP];simp[cS,cP,Yi,Zf7,frzO,frzA,frz,AV.keys,ia,W0y]
 . intro _;rw[eN];generalize shK id L L.length=S at *;generalize phK id L L.length=P at *
   cases w <;> by_cases cS:S=[] <;> by_cases cP:P=[]
   all_goals
    simp only[hpB,nlV,nlO,cS,cP,if_true,if_false,W05,W1e,W18,W1G];simp -implicitDefEqProofs[Yl,r1K,AV.ren,Zfz,Zkh];refine Qgr ?_;simp -implicitDefEqProofs[Yg,cS,cP,ia];rfl
section
open Qq Go.Proofs.Tryz
end
open Go.ChangeShapes Go.WideShapes Go.ChangeAt Go.WideMaps Go.WideElems Go.RowKit Go.Deep
def own:ownKnob prog.godebug=none:=by kernel_rfl
def Zlz:laidOutB prog=true:=by kernel_rfl
def cF:prog.cellsOf 262=1:=by kernel_rfl
def ZlA {P:Program} {G:Jg} {f:FuncId} {args:List AV} {W:World} {vs:Array Value} (h:PC P G f args (.bool true)) (hG:GR G noM W) (hs:vs.size=args.length)
  (hv:∀ (i:Nat) (x:AV) (u:Value),args[i]? = some x->vs[i]? = some u->PV noM W x u):Calls P f vs W λe W'=>e = .returned (.bool true)/\Ext W W' :=
 (h.2 noM W vs (λ_ h=>h.elim) hG hs hv).mono λe W' ⟨v,h1,h2,h3⟩=>by
  cases h2
  exact ⟨h1,h3⟩
def itK:List TY:=[.int .i64,.int .i64]
def dmK:List TY:=[.int .i64,.int .i64,.int .i64]
def isK2:List TY:=[.int .i64,.int .i64,.int .u8,.sl itK,.sl dmK]
def ZlB {xs:List AV} (h:TVs itK xs):∃ p:Int×Int,xs=ita p:=by
 obtain ⟨x0,_,rfl,h0,h⟩:=h.cons_inv;obtain ⟨x1,_,rfl,h1,h⟩:=h.cons_inv;obtain rfl:=h.nil_inv;obtain ⟨n,rfl,-⟩:=h0.int_inv;obtain ⟨l,rfl,-⟩:=h1.int_inv;exact ⟨(n,l),rfl⟩
def ZlC {xs:List AV} (h:TVs dmK xs):∃ d:Dm,xs=dma d:=by
 obtain ⟨x0,_,rfl,h0,h⟩:=h.cons_inv;obtain ⟨x1,_,rfl,h1,h⟩:=h.cons_inv;obtain ⟨x2,_,rfl,h2,h⟩:=h.cons_inv;obtain rfl:=h.nil_inv;obtain ⟨n,rfl,-⟩:=h0.int_inv;obtain ⟨l,rfl,-⟩:=h1.int_inv;obtain ⟨u,rfl,-⟩:=h2.int_inv;exact ⟨⟨n,l,u⟩,rfl⟩
def KOk (x:Iss):Prop:=0<=x.k/\x.k<=255
def ZlD {xs:List AV} (h:TVs isK2 xs):∃ x:Iss,xs=isa x/\KOk x:=by
 obtain ⟨x0,_,rfl,h0,h⟩:=h.cons_inv;obtain ⟨x1,_,rfl,h1,h⟩:=h.cons_inv;obtain ⟨x2,_,rfl,h2,h⟩:=h.cons_inv;obtain ⟨x3,_,rfl,h3,h⟩:=h.cons_inv;obtain ⟨x4,_,rfl,h4,h⟩:=h.cons_inv;obtain rfl:=h.nil_inv;obtain ⟨n,rfl,-⟩:=h0.int_inv;obtain ⟨l,rfl,-⟩:=h1.int_inv;obtain ⟨k,rfl,hk⟩:=h2.int_inv;obtain ⟨r3,rfl,-,g3⟩:=h3.sl_inv;obtain ⟨r4,rfl,-,g4⟩:=h4.sl_inv;obtain ⟨its,rfl⟩:=Zlw (f:=ita) λr hr=>ZlB (g3 r hr)
 obtain ⟨dms,rfl⟩:=Zlw (f:=dma) λr hr=>ZlC (g4 r hr)
 exact ⟨⟨n,l,k,its,dms⟩,rfl,bounds_u8 hk⟩
def ZlE {α β:Type} {f:α->β} {p:α->Prop} {rows:List β} (h:∀ r∈rows,∃ d,r=f d/\p d):∃ l:List α,rows=l.map f/\∀ x∈l,p x:=by
 induction rows with
 |nil=>exact ⟨[],rfl,by simp⟩
 | cons r rows ih =>
   obtain ⟨d,rfl,hd⟩:=h r (W0H ..);obtain ⟨l,rfl,hl⟩:=ih λr hr=>h r (W0z _ hr)
   exact ⟨d::l,rfl,λx hx=>by
    rcases W0g.1 hx with rfl|hx
    . exact hd
    . exact hl x hx⟩
def ZlF {G:Jg} (r:Jr):PC prog G 125 [rega r] (.bool (Z8s r)):=by
 by_cases h1:80<r.length
 . (refine Z8a rfl λR hG hrd=>Qga ?_;subst hG)
   have h1':(80:Int)<r.length:=(by omega);simp -implicitDefEqProofs[Z88,Z89,rega,h1',Z8s,h1]
 . exact Z8w r (by unfold Sml;omega)
def ZlG {r:Jr} (h:Z8s r=false) (hk:∀ x∈r,KOk x):Wf r:=by
 simp only[Z8s,W1T,W1b,W26,W0T,W0b,not_or]at h;exact ⟨⟨by unfold Sml;omega,λx hx=>by have:=h.2 x hx;unfold Sml;omega⟩,hk⟩
def gr7 (r:Jr) (l:Jl) (hs:Jh) (ps:Jp):Bool:=Z8s r||decide (16<l.length)||decide (8<hs.length)||decide (40<ps.length)||hs.any λh=>decide (20<h.ds.length)
def ZlH (o:List (Nat×AObj)) (l:Jh):Yc o (.row 4 (l.map hoa))=true:=by
 simp only[Yc,W03,W0i];rintro x ⟨y,-,rfl⟩ v hv;simp only[hoa,W0g,W0Q,or_false]at hv;rcases hv with rfl|rfl|rfl|rfl <;> simp[Ya,AV.keys]
def ZlI (o:List (Nat×AObj)) (l:Jp):Yc o (.row 7 (l.map ptA))=true:=by
 simp only[Yc,W03,W0i];rintro x ⟨y,-,rfl⟩ v hv;simp only[ptA,W0g,W0Q,or_false]at hv;rcases hv with rfl|rfl|rfl|rfl|rfl|rfl|rfl <;> simp[Ya,AV.keys]
def hlV (k:Nat) (H:Jh):AV:=if H=[] then .nils else .osl k H.length
def hlO (k:Nat) (H:Jh):List (Nat×AObj):=if H=[] then [] else [(k,.row 4 (H.map hoa))]
def ZlJ (r:Jr) (l:Jl):PC prog G 67 [.agg [.vsl (r.map isa),.vsl (l.map na)]] (.bool (Z8s r||decide (16<l.length))):=by
 have hg:=ZlF (G:=G) r;rw[rega]at hg
 (refine Zct rfl λR hG hrd=>Qga ?_;subst hG)
 simp -implicitDefEqProofs[Zcr,Zcs];refine Qco (hg) ?_
 cases q:Z8s r
 . have e:decide ((16:Int)<l.length)=decide (16<l.length):=(by rw[decide_eq_decide];omega);simp -implicitDefEqProofs[e]
 . simp -implicitDefEqProofs[]
def ZlK (r:Jr) (l:Jl) (hs:Jh) (ps:Jp):PC prog G 17 [prA r l hs ps] (.bool (gr7 r l hs ps)):=by
 have hg:=ZlJ (G:=G) r l;unfold gr7 prA;generalize (Z8s r||decide (16<l.length))=g at *;refine Zl7 rfl λR hG hrd=>?_
 subst hG;refine Qga ?_;simp -implicitDefEqProofs[Zl5,Zl6];refine Qco (hg) ?_
 cases g
 case true=>simp -implicitDefEqProofs[]
 by_cases h8:8<hs.length
 . have h8':(8:Int)<hs.length:=(by omega);simp -implicitDefEqProofs[h8,h8']
 have h8':¬(8:Int)<hs.length:=(by omega);by_cases h40:40<ps.length
 . have h40':(40:Int)<ps.length:=(by omega);simp -implicitDefEqProofs[h8,h8',h40,h40']
 have h40':¬(40:Int)<ps.length:=(by omega);simp -implicitDefEqProofs[h8',h40'];refine Z8g (λi=>⟨[(3,.int .i64 i),(1,.ptr 1 0)],[(1,.box [.vsl (r.map isa),.vsl (l.map na),.vsl (hs.map hoa),.vsl (ps.map ptA)])]⟩) (λi=>∀ j (h:j<hs.length),j<i->¬20<hs[j].ds.length) hs.length ?_ (by simp) ?_ ?_
 . (refine Wkc ?_;simp only[Wkl,and_true];(try simp[lk,Yc,Ya,AV.keys]))
 . intro i hi he;have wi:i64.wrap ((i:Int)+1)=(i:Int)+1:=Yf;refine Qga ?_;by_cases q:20<hs[i].ds.length
   . have q':(20:Int)<hs[i].ds.length:=(by omega);have e:(hs.any λh=>decide (20<h.ds.length))=true:=W14.2 ⟨_,W0e hi,by simpa using q⟩;simp -implicitDefEqProofs[hi,hoa,q'];refine Qgr ?_;rw[e];simp -implicitDefEqProofs[]
   . have q':¬(20:Int)<hs[i].ds.length:=(by omega);simp -implicitDefEqProofs[hi,hoa,q',wi];refine ⟨?_,λj h1 h2=>?_⟩
     . (refine Wkc ?_;simp only[Wkl,and_true];(try simp[lk,Yc,Ya,AV.keys]))
     . rcases W0q j i with h4|h4
       . have:=he j h1 h4;omega
       . obtain rfl:j=i:=(by omega);omega
 . intro he
   have e:(hs.any λh=>decide (20<h.ds.length))=false:=W26.2 λx hx=>by
    obtain ⟨j,hj,rfl⟩:=W0k hx;simpa using he j hj hj
   refine Qga ?_;simp -implicitDefEqProofs[];refine Qgr ?_;simp -implicitDefEqProofs[h8,h40,e]
def ZlL {r:Jr} (hr:openV r=0) {d:Int} {y:Int} (h:(findN d y r).isSome=true):0<=y/\y<=8:=by
 obtain ⟨x,hx⟩:=W0t.1 h;obtain ⟨h1,h2,h3⟩:=Z91 hx;have h4:=ZiN hr;simp only[Z8B,W01,W03]at h4;have h5:=h4.1.1.1.2 _ h1;simp only[issB,headB,W01]at h5;have h6:1<=x.l/\x.l<=8:=(by simpa [inR] using h5.1.1.1.1.2);omega
def ZlM {r:Jr} {l:Jl} {hs:Jh} {ps:Jp} (hp:∀ x∈ps,POk x) (h:ck7 r l hs ps=0):(∀ x∈ps,0<=x.lt/\x.lt<=8)/\∀ x∈ps,0<=x.lo/\x.lo<=2:=by
 obtain ⟨h1,h2⟩:=ZjP.1 h;have h3:=(ZiW.1 h2).2.2.2;refine ⟨λx hx=>?_,λx hx=>?_⟩
 . have h4:=h3 x hx;simp only[prB,W01]at h4;exact ZlL (ZjQ h1) h4.1.2
 . have h4:=h3 x hx;simp only[prB,W01,W0b]at h4;exact ⟨(hp x hx).1,h4.1.1.2⟩
def ZlN {r:Jr} {l:Jl} {hs:Jh} {ps:Jp} (h:gr7 r l hs ps=false) (hr:∀ x∈r,KOk x) (hl:∀ x∈l,NOk7 x) (hp:∀ x∈ps,POk x):WfN l/\Wf r/\Sml (nums r)/\WfP hs ps:=by
 simp only[gr7,W1T,W1b,W26,W0b]at h;have hw:=ZlG h.1.1.1.1 hr;exact ⟨⟨by unfold Sml;omega,hl⟩,hw,Zay hw.1.1,by omega,by omega,λx hx=>by have:=h.2 x hx;omega,hp⟩
def wkE (r:Jr) (l:Jl) (hs:Jh) (ps:Jp) (day id d:Int):List Int:=if ab7 r l hs ps day 1 id [d]=0 then wkL ps day id d else []
def ZlO {hs:Jh} {id:Int} (h:0<=hoI hs id):∃ (k:Nat) (hk:k<hs.length),hoI hs id=k/\hoF hs id=some hs[k]:=by
 unfold hoI fstOf at *
 cases e:hs.findIdx? (λh=>decide (h.id=id)) with
 |none=>rw[e]at h;simp at h
 | some i =>
   obtain ⟨h1,h2,h3⟩:=W1A.1 e;exact ⟨i,h1,rfl,List.find?_eq_some_iff_getElem.2 ⟨h2,i,h1,rfl,λj hj=>by simpa using h3 j hj⟩⟩
def ZlP {r:Jr} {l:Jl} (h:Zbe r l=true) {x:Nte} (hx:x∈l):1<=x.fr/\x.fr<=999/\1<=x.tu/\x.tu<=999:=by
 obtain ⟨i,hi,rfl⟩:=W0k hx;simp only[Zbe,W01,W03]at h;have h1:=h.1.2 i (W1u.2 hi);simp only[noteB,cN3,W01,Zbb hi,ZfF]at h1;have h2:=h1.1.1.1.1.1.2;omega
def ZlQ {r:Jr} {l:Jl} {hs:Jh} {ps:Jp} (h:ck7 r l hs ps=0) {x:Hld} (hx:x∈hs):1<=x.fr/\x.fr<=x.to/\x.to<=999/\x.ds.length<=8:=by
 obtain ⟨i,hi,rfl⟩:=W0k hx;have h1:=W03.1 (ZiW.1 (ZjP.1 h).2).1.2 i (W1u.2 hi);simp only[hoB,W01,ZiR hi,ZfF,W0b]at h1;omega
def ndI (l:Jl) (hs:Jh) (id d:Int):List Int:=match hoF hs id with
 |some h=>ndsL l h d
 |none=>[]
def mkL (l:Jl) (h:Hld) (i:Nat):List Int:=h.fr::(l.take i).flatMap (mk1 h)
def ZlR {l:Jl} {h:Hld} {i:Nat} (hi:i<l.length):mkL l h (i+1)=mkL l h i++mk1 h l[i]:=by
 unfold mkL;rw[W08 hi,List.flatMap_append];simp
def ZlS {h:Hld} {x:Nte}:(mk1 h x).length<=2:=by
 unfold mk1;rw[W0s]
 split <;> split <;> simp
def ZlT {l:Jl} {h:Hld}:∀ i,(mkL l h i).length<=1+2*i
 |0=>by simp[mkL]
 | i + 1=>by
   have:=ZlT (l:=l) (h:=h) i;by_cases hi:i<l.length
   . rw[ZlR hi,W0s];have:=ZlS (h:=h) (x:=l[i]);omega
   . have e:mkL l h (i+1)=mkL l h i:=(by unfold mkL;rw[W0J (by omega),W0J (by omega)]);rw[e];omega
def ZlU {l:Jl} {h:Hld}:mkL l h l.length=mks l h:=by unfold mkL mks;rw[W0v]
end Go.Proofs.YtcdlimgkliklhaaGreatDoor
