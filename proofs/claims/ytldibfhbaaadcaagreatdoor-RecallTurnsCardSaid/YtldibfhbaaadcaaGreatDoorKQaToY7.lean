/-
  What the document's functions on prints compute: holders, prints, whether they are valid.
-/
import Derived.Test.YtldibfhbaaadcaaGreatDoorKNqToRcZ
import Derived.Test.YtldibfhbaaadcaaGreatDoorKOpenToOpen
import Derived.Test.YtldibfhbaaadcaaGreatDoorKRowToRow
set_option linter.all false
set_option maxHeartbeats 8000000
namespace Go.Proofs.YtldibfhbaaadcaaGreatDoor
open Go.Proofs.Tryz (prog)
open IntKind (i64)
open Go.RowKit
variable {G:Jg}
def Zkl {r:Jr} (h:openV r=0):r≠[]:=by
 rintro rfl;exact absurd h (by decide)
def Zkm (n lo hi:Int):PC prog G 51 [.int .i64 n,.int .i64 lo,.int .i64 hi] (.bool (inR n lo hi)):=by
 (refine ZjN rfl λR hG hrd=>Qga ?_;subst hG)
 by_cases h1:lo<=n <;> by_cases h2:n<=hi <;> simp -implicitDefEqProofs[ZjL,ZjM,inR,h1,h2]
def Zkn (l:List Int) (n:Int) (h:Sml l):PC prog G 25 [.vsl (l.map ia),.int .i64 n] (.bool (decide (n∈l))):=by
 (refine ZjQ rfl λR hG hrd=>Qga ?_;subst hG)
 unfold Sml at h;simp -implicitDefEqProofs[ZjO,ZjP];refine Z9H (λi=>⟨[(5,.int .i64 i),(0,.vsl (l.map ia)),(1,.int .i64 n)],[]⟩) (λi=>∀ j (h:j<l.length),j<i->¬l[j]=n) l.length (by (first|exact Wka|exact Wkb)) (by simp) ?_ ?_
 . intro i hi he;refine Qga ?_;have w1:i64.wrap ((i:Int)+1)=(i:Int)+1:=Yf;by_cases e:l[i]=n
   . have hm:n∈l:=e ▸ W0e hi;simp -implicitDefEqProofs[hi,ia,e];refine Qgr ?_;simp -implicitDefEqProofs[hm]
   . simp -implicitDefEqProofs[hi,ia,e,w1];refine ⟨by (first|exact Wka|exact Wkb),λj hj hji=>?_⟩;rcases W0q j i with h2|h2
     . exact he j hj h2
     . obtain rfl:j=i:=(by omega);exact e
 . intro he;refine Qga ?_
   have hm:¬n∈l:=λhm=>by
    obtain ⟨j,hj,e⟩:=W0k hm;exact he j hj hj e
   simp -implicitDefEqProofs;refine Qgr ?_;simp -implicitDefEqProofs[hm]
def Zko (r:Jr) (l:Jl) (hs:Jh) (ps:Jp) (id:Int) (hh:Sml hs):PC prog G 24 [prA r l hs ps,.int .i64 id] (.int .i64 (hoI hs id)):=by
 unfold Sml at hh;unfold prA
 (refine ZjW rfl λR hG hrd=>Qga ?_;subst hG)
 simp -implicitDefEqProofs[ZjU,ZjV];refine Z9H (λi=>⟨[(5,.int .i64 i),(2,.ptr 2 0),(1,.int .i64 id)],[(2,.box [.vsl (r.map isa),.vsl (l.map na),.vsl (hs.map hoa),.vsl (ps.map ptA)])]⟩) (λi=>∀ j (h:j<hs.length),j<i->decide (hs[j].id=id)=false) hs.length ?_ (by simp) ?_ ?_
 . (refine Wkc ?_;simp only[Wkl,and_true];(try simp[lk,Yc,Ya,AV.keys]))
 . intro i hi he;refine Qga ?_;have w1:i64.wrap ((i:Int)+1)=(i:Int)+1:=Yf;by_cases h:hs[i].id=id
   . have hf:hoI hs id=i:=(by unfold hoI;exact Zay hi (by simpa using h) he);simp -implicitDefEqProofs[hi,hoa,h];refine Qgr ?_;simp -implicitDefEqProofs[hf]
   . simp -implicitDefEqProofs[hi,hoa,h,w1];refine ⟨?_,λj q1 q2=>?_⟩
     . (refine Wkc ?_;simp only[Wkl,and_true];(try simp[lk,Yc,Ya,AV.keys]))
     . by_cases e:j=i
       . subst e;simpa using h
       . simpa using he j q1 (by omega)
 . intro he;refine Qga ?_;have hf:hoI hs id = -1:=(by unfold hoI;exact Zaz (λj hj=>he j hj hj));simp -implicitDefEqProofs;refine Qgr ?_;simp -implicitDefEqProofs[hf]
def Zkp (x:Prt) (day:Int):PC prog G 52 [.agg (ptA x),.int .i64 day] (.bool (outB x day)):=by
 (refine Zk8 rfl λR hG hrd=>Qga ?_;subst hG)
 by_cases h1:x.dy<=day
 . by_cases h2:x.bk = -1
   . by_cases h3:x.lo=2
     . simp -implicitDefEqProofs[Zk6,Zk7,ptA,h1,h2,h3,outB]
     . simp -implicitDefEqProofs[Zk6,Zk7,ptA,h1,h2,h3,outB]
   . by_cases h4:day<x.bk
     . by_cases h3:x.lo=2
       . simp -implicitDefEqProofs[Zk6,Zk7,ptA,h1,h2,h3,h4,outB]
       . simp -implicitDefEqProofs[Zk6,Zk7,ptA,h1,h2,h3,h4,outB]
     . simp -implicitDefEqProofs[Zk6,Zk7,ptA,h1,h2,h4,outB]
 . simp -implicitDefEqProofs[Zk6,Zk7,ptA,h1,outB]
def Zkq (r:Jr) (l:Jl) (hs:Jh) (ps:Jp) (i:Nat) (hi:i<hs.length) (hr:Sml r) (hne:r≠[]) (hd:Sml (nums r)) (hw:WfP hs ps) :
  PC prog G 61 [prA r l hs ps,.int .i64 i] (.bool (hoB (nums r) hs i)):=by
 have hl:=hw.hl;have hn:=Za3 (G:=G) r hr hne;rw[rega]at hn;have hC:=λn=>Zkn (G:=G) (nums r) n hd
 have hx:=Zic hi;have hds:=hw.dl _ (W0e hi);have heq:=ZiZ (nums r) hs i;obtain ⟨h,hhe⟩:=Qex (hs[i]);rw[<- hhe]at hx hds;have hlx:hs[i]=h:=hhe.symm;have hho:hoa h=[.int .i64 h.id,.int .i64 h.fr,.int .i64 h.to,.vsl (h.ds.map ia)]:=rfl;have hC0:hoC hs i=(inR h.id 1 9999&&(i == 0||decide ((hAt hs (i-1)).id<h.id))&&inR h.fr 1 h.to&&decide (h.to<=999)&&decide (h.ds.length<=8)):=(by unfold hoC;rw[hx]);have hno2:hoC hs i=false->hoB (nums r) hs i=false:=λq=>by rw[heq,q];rfl
 have c1:=Zkm (G:=G) h.id 1 9999;have c2:=Zkm (G:=G) h.fr 1 h.to;unfold prA;refine ZjT rfl λR hG hrd=>?_
 subst hG;refine Qga ?_
 cases q1:inR h.id 1 9999
 . have e:=hno2 (by rw[hC0,q1];rfl);rw[q1]at c1
   cases i
   case' zero=>simp -implicitDefEqProofs[ZjR,ZjS,hi,hlx,hho]
   case' succ k =>
    have k1:(k:Int)+1<hs.length:=(by omega);have k2:((k:Int)+1).toNat=k+1:=(by omega);have k3:(0:Int)<=(k:Int)+1:=(by omega);simp -implicitDefEqProofs[ZjR,ZjS,k1,k2,k3,hi,hlx,hho]
   all_goals
    refine Qco (c1) ?_;simp -implicitDefEqProofs;exact ⟨rfl,e⟩
 rw[q1]at c1;obtain ⟨I,hIe⟩:=Qex i
 cases i
 case' zero =>
  have q2:hoC hs 0=(inR h.fr 1 h.to&&decide (h.to<=999)&&decide (h.ds.length<=8)):=(by rw[hC0,q1];rfl);simp -implicitDefEqProofs[ZjR,ZjS,hi,hlx,hho];refine Qco (c1) ?_;simp -implicitDefEqProofs
 case' succ k =>
  have hk:k<hs.length:=(by omega);have w0:i64.wrap ((k:Int)+1-1)=(k:Int):=(by rw[Yf (by omega) (by omega)];omega);have w2:i64.wrap (k:Int)=(k:Int):=Yf;have g0:(0:Int)<(k:Int)+1:=(by omega);have k1:(k:Int)+1<hs.length:=(by omega);have k2:((k:Int)+1).toNat=k+1:=(by omega);have k3:(0:Int)<=(k:Int)+1:=(by omega);have hhk:hoa hs[k]=[.int .i64 hs[k].id,.int .i64 hs[k].fr,.int .i64 hs[k].to,.vsl (hs[k].ds.map ia)]:=rfl;simp -implicitDefEqProofs[ZjR,ZjS,k1,k2,k3,hi,hlx,hho];refine Qco (c1) ?_;by_cases hp:hs[k].id<h.id
  case' neg =>
   have e:=hno2 (by rw[hC0,W19,Zic hk,W0S hp];simp);have hp2:h.id<=hs[k].id:=(by omega);simp -implicitDefEqProofs[hk,w0,w2,g0,hhk,hp2,hho];exact ⟨rfl,e⟩
  have hp2:¬h.id<=hs[k].id:=(by omega);have q2:hoC hs (k+1)=(inR h.fr 1 h.to&&decide (h.to<=999)&&decide (h.ds.length<=8)):=(by rw[hC0,q1,W19,Zic hk,W0M hp];simp);simp -implicitDefEqProofs[hk,w0,w2,g0,hhk,hp2,hho]
 all_goals
  refine Qco (c2) ?_
  cases q3:inR h.fr 1 h.to
  case false =>
   have e:=hno2 (by rw[q2,q3];rfl);simp -implicitDefEqProofs;exact ⟨rfl,e⟩
  by_cases q4:999<h.to
  case pos =>
   have e:=hno2 (by rw[q2,W0S (show ¬h.to<=999 by omega)];simp);simp -implicitDefEqProofs[hho,q4];exact ⟨rfl,e⟩
  by_cases q5:8<h.ds.length
  case pos =>
   have q5':(8:Int)<h.ds.length:=(by omega);have e:=hno2 (by rw[q2,W0S (show ¬h.ds.length<=8 by omega)];simp);simp -implicitDefEqProofs[hho,q4,q5'];exact ⟨rfl,e⟩
  have q5':¬(8:Int)<h.ds.length:=(by omega);rw[q3,W0M (show h.to<=999 by omega),W0M (show h.ds.length<=8 by omega)]at q2;simp -implicitDefEqProofs[hho,q4,q5'];refine ⟨rfl,?_⟩;refine Qco (hn) ?_;simp -implicitDefEqProofs;refine Z9H (λk=>⟨[(7,.int .i64 k),(6,.vsl ((nums r).map ia)),(5,.ptr 5 0)],[(5,.box (hoa h))]⟩) (λk=>∀ j,j<k->wkC (nums r) h.ds j=true) h.ds.length ?_ (by simp) ?_ ?_
  . ((try simp only[hho]);refine Ym.sub (by simp[lk,Ya,AV.keys,hho]) ?_;simp only[hho,Wkl,and_true];(try simp[lk,Yc,Ya,AV.keys,hho]))
  . intro k hk hK
    have hwf:wkC (nums r) h.ds k=false->hoB (nums r) hs I=false:=λq=>by
     rw[hIe,heq,hx]
     cases q6:(List.range h.ds.length).all (wkC (nums r) h.ds)
     . rw[W29]
     . have:=Za2.1 q6 k hk;rw[q]at this;cases this
    rw[hIe]at hwf;have hcd:=hC h.ds[k];have gd:h.ds.getD k 0=h.ds[k]:=(by simp[W0j,hk]);refine Qga ?_;by_cases m1:h.ds[k]∈nums r
    case neg =>
     have e:=hwf (by rw[wkC,gd];simp[m1]);rw[W0S m1]at hcd
     cases k
     case' zero=>simp -implicitDefEqProofs[hk,ia,hho]
     case' succ p =>
      have k1:(p:Int)+1<h.ds.length:=(by omega);have k2:((p:Int)+1).toNat=p+1:=(by omega);have k3:(0:Int)<=(p:Int)+1:=(by omega);simp -implicitDefEqProofs[k1,k2,k3,hk,ia,hho]
     all_goals
      refine Qco (hcd) ?_;simp -implicitDefEqProofs;refine ⟨rfl,?_⟩;refine Qgr ?_;simp -implicitDefEqProofs[e]
      done
    rw[W0M m1]at hcd
    cases k with
    | zero =>
      have e:wkC (nums r) h.ds 0=true:=(by rw[wkC,gd];simp[m1]);have w1:i64.wrap 1=1:=rfl;simp -implicitDefEqProofs[hk,ia,hho];refine Qco (hcd) ?_;simp -implicitDefEqProofs[w1];refine ⟨rfl,?_,e⟩
      ((try simp only[hho]);refine Ym.sub (by simp[lk,Ya,AV.keys,hho]) ?_;simp only[hho,Wkl,and_true];(try simp[lk,Yc,Ya,AV.keys,hho]))
    | succ p =>
      have hp:p<h.ds.length:=(by omega);have g2:h.ds.getD p 0=h.ds[p]:=(by simp[W0j,hp]);have w0:i64.wrap ((p:Int)+1-1)=(p:Int):=(by rw[Yf (by omega) (by omega)];omega);have w2:i64.wrap (p:Int)=(p:Int):=Yf;have g0:(0:Int)<(p:Int)+1:=(by omega);have k1:(p:Int)+1<h.ds.length:=(by omega);have k2:((p:Int)+1).toNat=p+1:=(by omega);have k3:(0:Int)<=(p:Int)+1:=(by omega);have wk2:i64.wrap ((p:Int)+1+1)=(p:Int)+1+1:=Yf;by_cases m2:h.ds[p]<h.ds[p+1]
      . have e:wkC (nums r) h.ds (p+1)=true:=(by rw[wkC,gd,W19,g2];simp[m1,m2]);have m3:¬h.ds[p+1]<=h.ds[p]:=(by omega);simp -implicitDefEqProofs[k1,k2,k3,hk,ia,hho];refine Qco (hcd) ?_;simp -implicitDefEqProofs[hp,w0,w2,g0,hho,ia,m3,wk2,k1,k2,k3,hk];refine ⟨rfl,?_,λj hj=>?_⟩
        . ((try simp only[hho]);refine Ym.sub (by simp[lk,Ya,AV.keys,hho]) ?_;simp only[hho,Wkl,and_true];(try simp[lk,Yc,Ya,AV.keys,hho]))
        . rcases W0q j (p+1) with h4|h4
          . exact hK j h4
          . obtain rfl:j=p+1:=(by omega);exact e
      . have e:=hwf (by rw[wkC,gd,W19,g2];simp[m2]);have m3:h.ds[p+1]<=h.ds[p]:=(by omega);simp -implicitDefEqProofs[k1,k2,k3,hk,ia,hho];refine Qco (hcd) ?_;simp -implicitDefEqProofs[hp,w0,w2,g0,hho,ia,m3,k1,k2,k3,hk];refine ⟨rfl,?_⟩;refine Qgr ?_;simp -implicitDefEqProofs[e]
  . intro hK
    have e:hoB (nums r) hs I=true:=by
     rw[hIe,heq,q2,hx];simp only[W1k,Bool.and_self];exact Za2.2 hK
    rw[hIe]at e;refine Qga ?_;simp -implicitDefEqProofs[hho];refine Qgr ?_;simp -implicitDefEqProofs[e]
def Zkr (r:Jr) (l:Jl) (hs:Jh) (ps:Jp) (i:Nat) (hi:i<ps.length) (hr:Sml r) (hw:WfP hs ps) :
  PC prog G 62 [prA r l hs ps,.int .i64 i] (.bool (shB r hs ps i)):=by
 have hpl:=hw.pl;have hh:Sml hs:=(by have:=hw.hl;unfold Sml;omega);have hx:=Zid hi;obtain ⟨x,hxe⟩:=Qex (ps[i]);have hpo:=hw.po _ (W0e hi);rw[<- hxe]at hx hpo;have hlx:ps[i]=x:=hxe.symm;have hpt:ptA x=[.int .i64 x.no,.int .i64 x.dy,.int .i64 x.ho,.int .i64 x.dw,.int .i64 x.lt,.int .i64 x.bk,.int .u8 x.lo]:=rfl;have hsh:shB r hs ps i=((i == 0||decide ((pAt ps (i-1)).no<x.no))&&prB r hs x):=(by unfold shB;rw[hx]);have c1:=Zkm (G:=G) x.no 1 9999;have c2:=Zkm (G:=G) x.dy 0 14610;have c3:=Zko (G:=G) r l hs ps x.ho hh;have c4:=Za1 (G:=G) r x.dw x.lt hr;have c5:=Zkm (G:=G) x.bk x.dy 14610;rw[rega]at c4;have hI:=hoF_I hs x.ho;have hfst:∀ c:Bool,prB r hs x=false->(c&&prB r hs x)=false:=λc h=>by rw[h,W29]
 unfold prA at *;refine ZjZ rfl λR hG hrd=>?_
 subst hG;refine Qga ?_
 cases q1:inR x.no 1 9999
 . have e:shB r hs ps i=false:=(by rw[hsh];exact hfst _ (by simp[prB,q1]));rw[q1]at c1
   cases i
   case' zero=>simp -implicitDefEqProofs[ZjX,ZjY,hi,hlx,hpt]
   case' succ k =>
    have k1:(k:Int)+1<ps.length:=(by omega);have k2:((k:Int)+1).toNat=k+1:=(by omega);have k3:(0:Int)<=(k:Int)+1:=(by omega);simp -implicitDefEqProofs[ZjX,ZjY,k1,k2,k3,hi,hlx,hpt]
   all_goals
    refine Qco (c1) ?_;simp -implicitDefEqProofs;exact ⟨rfl,e⟩
 rw[q1]at c1;obtain ⟨P,hP⟩:=Qex (shB r hs ps i);rw[<- hP]
 cases i
 case' zero =>
  have q2:P=prB r hs x:=(by rw[hP,hsh];rfl);simp -implicitDefEqProofs[ZjX,ZjY,hi,hlx,hpt];refine Qco (c1) ?_;simp -implicitDefEqProofs
 case' succ k =>
  have hk:k<ps.length:=(by omega);have w0:i64.wrap ((k:Int)+1-1)=(k:Int):=(by rw[Yf (by omega) (by omega)];omega);have w2:i64.wrap (k:Int)=(k:Int):=Yf;have g0:(0:Int)<(k:Int)+1:=(by omega);have k1:(k:Int)+1<ps.length:=(by omega);have k2:((k:Int)+1).toNat=k+1:=(by omega);have k3:(0:Int)<=(k:Int)+1:=(by omega);have hpk:ptA ps[k]=[.int .i64 ps[k].no,.int .i64 ps[k].dy,.int .i64 ps[k].ho,.int .i64 ps[k].dw,.int .i64 ps[k].lt,.int .i64 ps[k].bk,.int .u8 ps[k].lo]:=rfl;simp -implicitDefEqProofs[ZjX,ZjY,k1,k2,k3,hi,hlx,hpt];refine Qco (c1) ?_;by_cases hp:ps[k].no<x.no
  case' neg =>
   have e:P=false:=(by rw[hP,hsh,W19,Zid hk,W0S hp];simp);have hp2:x.no<=ps[k].no:=(by omega);simp -implicitDefEqProofs[hk,w0,w2,g0,hpk,hp2,hpt];exact ⟨rfl,e⟩
  have hp2:¬x.no<=ps[k].no:=(by omega);have q2:P=prB r hs x:=(by rw[hP,hsh,W19,Zid hk,W0M hp];simp);simp -implicitDefEqProofs[hk,w0,w2,g0,hpk,hp2,hpt]
 all_goals
  clear hP hsh;subst q2;refine Qco (c2) ?_
  cases q3:inR x.dy 0 14610
  case false =>
   have e:prB r hs x=false:=(by simp[prB,q3]);simp -implicitDefEqProofs;exact ⟨rfl,e⟩
  simp -implicitDefEqProofs;refine Qco (c3) ?_;by_cases q4:hoI hs x.ho<0
  case pos =>
   have e:prB r hs x=false:=by
    rw[W0S (show ¬0<=hoI hs x.ho by omega)]at hI;simp[prB,<- hI]
   simp -implicitDefEqProofs[q4];exact ⟨rfl,e⟩
  rw[W0M (show 0<=hoI hs x.ho by omega)]at hI;by_cases q5:2<x.lo
  case pos =>
   have e:prB r hs x=false:=by
    have:¬x.lo<=2:=(by omega);simp[prB,this]
   simp -implicitDefEqProofs[q4,hpt,q5];exact ⟨rfl,e⟩
  have q5':x.lo<=2:=(by omega);simp -implicitDefEqProofs[q4,hpt,q5];refine ⟨rfl,?_⟩;refine Qco (c4) ?_
  cases q6:findN x.dw x.lt r with
  | none =>
    have e:prB r hs x=false:=(by simp[prB,q6]);simp -implicitDefEqProofs[q6,fndA,noIs,e]
  | some y =>
    have ey:isa y=[.int .i64 y.d,.int .i64 y.l,.int .u8 y.k,.vsl (y.its.map ita),.vsl (y.dms.map dma)]:=rfl;have e:prB r hs x=(decide (x.bk = -1)||(inR x.bk x.dy 14610&&decide (x.lo=0))):=(by simp[prB,q1,q3,<- hI,q5',q6]);rw[e];by_cases q7:x.bk = -1
    . simp -implicitDefEqProofs[q6,fndA,ey,hpt,q7]
    . simp -implicitDefEqProofs[q6,fndA,ey,hpt,q7];refine Qco (c5) ?_
      cases inR x.bk x.dy 14610
      . simp -implicitDefEqProofs
      . simp -implicitDefEqProofs[hpt]
def Zks (r:Jr) (l:Jl) (hs:Jh) (ps:Jp) (hr:Sml r) (hne:r≠[]) (hd:Sml (nums r)) (hw:WfP hs ps):PC prog G 35 [prA r l hs ps] (.bool (ptsB r hs ps)):=by
 have hl:=hw.hl;have hp:=hw.pl;have c1:=λi hi=>Zkq (G:=G) r l hs ps i hi hr hne hd hw
 have c2:=λi hi=>Zkr (G:=G) r l hs ps i hi hr hw
 unfold prA at *;refine Zk2 rfl λR hG hrd=>?_
 subst hG;refine Qga ?_;by_cases h6:6<hs.length
 . have h6':(6:Int)<hs.length:=by omega
   have e:ptsB r hs ps=false:=by
    have:¬hs.length<=6:=(by omega);simp[ptsB,this]
   simp -implicitDefEqProofs[Zk0,Zk1,h6',e]
 have h6':¬(6:Int)<hs.length:=(by omega);by_cases h30:30<ps.length
 . have h30':(30:Int)<ps.length:=by omega
   have e:ptsB r hs ps=false:=by
    have:¬ps.length<=30:=(by omega);simp[ptsB,this]
   simp -implicitDefEqProofs[Zk0,Zk1,h6',h30',e]
 have h30':¬(30:Int)<ps.length:=(by omega);simp -implicitDefEqProofs[Zk0,Zk1,h6',h30'];refine Z9H (λi=>⟨[(3,.int .i64 i),(1,.ptr 1 0)],[(1,.box [.vsl (r.map isa),.vsl (l.map na),.vsl (hs.map hoa),.vsl (ps.map ptA)])]⟩) (λi=>∀ j,j<i->hoB (nums r) hs j=true) hs.length ?_ (by simp) ?_ ?_
 . (refine Wkc ?_;simp only[Wkl,and_true];(try simp[lk,Yc,Ya,AV.keys]))
 . intro i hi he;have c1:=c1 i hi;have wi:i64.wrap ((i:Int)+1)=(i:Int)+1:=Yf;refine Qga ?_
   cases q:hoB (nums r) hs i
   . have e:=ZiX (ps:=ps) hi q;rw[q]at c1;simp -implicitDefEqProofs[hi];refine Qco (c1) ?_;simp -implicitDefEqProofs;refine Qgr ?_;simp -implicitDefEqProofs[e]
   . rw [q]at c1;simp -implicitDefEqProofs[hi];refine Qco (c1) ?_;simp -implicitDefEqProofs[wi];refine ⟨?_,λj hj=>?_⟩
     . (refine Wkc ?_;simp only[Wkl,and_true];(try simp[lk,Yc,Ya,AV.keys]))
     . rcases W0q j i with h4|h4
       . exact he j h4
       . obtain rfl:j=i:=(by omega);exact q
 . intro he;refine Qga ?_;simp -implicitDefEqProofs;refine Qgr ?_;simp -implicitDefEqProofs;refine Z9H (λi=>⟨[(4,.int .i64 i),(1,.ptr 1 0)],[(1,.box [.vsl (r.map isa),.vsl (l.map na),.vsl (hs.map hoa),.vsl (ps.map ptA)])]⟩) (λi=>∀ j,j<i->shB r hs ps j=true) ps.length ?_ (by simp) ?_ ?_
   . (refine Wkc ?_;simp only[Wkl,and_true];(try simp[lk,Yc,Ya,AV.keys]))
   . intro i hi hE;have c2:=c2 i hi;have wi:i64.wrap ((i:Int)+1)=(i:Int)+1:=Yf;refine Qga ?_
     cases q:shB r hs ps i
     . have e:=ZiY hi q;rw[q]at c2;simp -implicitDefEqProofs[hi];refine Qco (c2) ?_;simp -implicitDefEqProofs;refine Qgr ?_;simp -implicitDefEqProofs[e]
     . rw [q]at c2;simp -implicitDefEqProofs[hi];refine Qco (c2) ?_;simp -implicitDefEqProofs[wi];refine ⟨?_,λj hj=>?_⟩
       . (refine Wkc ?_;simp only[Wkl,and_true];(try simp[lk,Yc,Ya,AV.keys]))
       . rcases W0q j i with h4|h4
         . exact hE j h4
         . obtain rfl:j=i:=(by omega);exact q
   . intro hE
     have e:ptsB r hs ps=true:=by
      simp only[ptsB,W01,W0b];exact ⟨⟨⟨by omega,by omega⟩,Za2.2 he⟩,Za2.2 hE⟩
     refine Qga ?_;simp -implicitDefEqProofs;refine Qgr ?_;simp -implicitDefEqProofs[e]
def Zkt (r:Jr) (l:Jl) (hs:Jh) (ps:Jp) (hl:WfN l) (hr:Wf r) (hd:Sml (nums r)) (hw:WfP hs ps):PC prog G 34 [prA r l hs ps] (.int .i64 (ck7 r l hs ps)):=by
 have c1:=Zdj (G:=G) r l hl hr;by_cases h0:chN r l=0
 . have c2:=Zks (G:=G) r l hs ps hr.1.1 (Zkl (Zj2 h0)) hd hw;rw[h0]at c1;unfold prA at *;unfold ck7;rw[if_pos h0]
   (refine Zk5 rfl λR hG hrd=>Qga ?_;subst hG)
   simp -implicitDefEqProofs[Zk3,Zk4];refine Qco (c1) ?_;simp -implicitDefEqProofs;refine Qco (c2) ?_
   cases q:ptsB r hs ps
   . simp -implicitDefEqProofs
   . simp -implicitDefEqProofs
 . have e:ck7 r l hs ps=chN r l:=(by rw[ck7,if_neg h0]);rw[e];unfold prA
   (refine Zk5 rfl λR hG hrd=>Qga ?_;subst hG)
   simp -implicitDefEqProofs[Zk3,Zk4];refine Qco (c1) ?_;simp -implicitDefEqProofs[h0]
def Zku (r:Jr) (l:Jl) (hs:Jh) (ps:Jp) (day m:Int) (hl:WfN l) (hr:Wf r) (hd:Sml (nums r)) (hw:WfP hs ps):PC prog G 23 [prA r l hs ps,.int .i64 day,.int .i64 m] (.int .i64 (as7 r l hs ps day m)):=by
 have c1:=Zkt (G:=G) r l hs ps hl hr hd hw;have c2:=Zkm (G:=G) day 0 14610;have c3:=Zkm (G:=G) m 1 999;unfold as7 prA at *;by_cases h0:ck7 r l hs ps=0
 . rw[h0]at c1
   (refine Zkb rfl λR hG hrd=>Qga ?_;subst hG)
   simp -implicitDefEqProofs[Zk9,Zka];refine Qco (c1) ?_;simp -implicitDefEqProofs;refine Qco (c2) ?_
   cases q1:inR day 0 14610
   . simp -implicitDefEqProofs[h0]
   simp -implicitDefEqProofs;refine Qco (c3) ?_
   cases q2:inR m 1 999
   . simp -implicitDefEqProofs[h0]
   . simp -implicitDefEqProofs[h0]
 . (refine Zkb rfl λR hG hrd=>Qga ?_;subst hG)
   simp -implicitDefEqProofs[Zk9,Zka];refine Qco (c1) ?_;simp -implicitDefEqProofs[h0]
def Zkv {r:Jr} {l:Jl} {hs:Jh} {ps:Jp} {day m:Int} (h:as7 r l hs ps day m=0):ck7 r l hs ps=0/\inR day 0 14610=true/\inR m 1 999=true:=by
 unfold as7 at h;by_cases c:ck7 r l hs ps=0
 . rw[if_pos c]at h;by_cases c2:inR day 0 14610=true/\inR m 1 999=true
   . exact ⟨c,c2⟩
   . rw[if_neg c2]at h;cases h
 . rw[if_neg c]at h;exact absurd h c
def fgC (f:Nat->Bool):List AV:=[.bool (f 0),.bool (f 1),.bool (f 2),.bool (f 3),.bool (f 4),.bool (f 5),.bool (f 6),.bool (f 7),.bool (f 8)]
def Zkw (f:Nat->Bool):∀ {n:Nat},n<9->(fgC f)[n]? = some (.bool (f n))
 |0,_=>rfl
 |1,_=>rfl
 |2,_=>rfl
 |3,_=>rfl
 |4,_=>rfl
 |5,_=>rfl
 |6,_=>rfl
 |7,_=>rfl
 |8,_=>rfl
 |n+9,h=>by omega
def Zkx (f:Nat->Bool) (v:Bool):∀ {n:Nat},n<9->Z4 (fgC f) n [.bool v]=fgC λj=>if j=n then v else f j
 |0,_=>rfl
 |1,_=>rfl
 |2,_=>rfl
 |3,_=>rfl
 |4,_=>rfl
 |5,_=>rfl
 |6,_=>rfl
 |7,_=>rfl
 |8,_=>rfl
 |n+9,h=>by omega
def Zky (o:List (Nat×AObj)) (f:Nat->Bool):Yc o (.box (fgC f))=true:=by simp[Yc,fgC,Ya,AV.keys]
def flL (a:Nat) (f:Nat->Bool) (n:Nat):List Int:=((List.range n).filter λj=>decide (a<=j)&&f j).map λ(j:Nat)=>(j:Int)
def Zkz {a:Nat} {f:Nat->Bool} {n:Nat}:flL a f (n+1)=if a<=n/\f n=true then flL a f n++[(n:Int)] else flL a f n:=by
 unfold flL;rw[W1y,W1a,W0r];by_cases c:a<=n/\f n=true
 . rw[if_pos c];simp[c]
 . rw [if_neg c]
   have:(decide (a<=n)&&f n)=false:=by
    cases q:f n
    . simp
    . have:¬a<=n:=λh=>c ⟨h,q⟩
      simp[this]
   simp[this]
def ZkA {a:Nat} {f:Nat->Bool}:∀ {n:Nat},n<=a->flL a f n=[]
 |0,_=>rfl
 |n+1,h=>by rw[Zkz,if_neg (by omega),ZkA (by omega)]
def ZkB (a:Nat) (f:Nat->Bool) (n:Nat):(flL a f n).length<=n:=by
 unfold flL;rw[W0N];exact W0O (W0D ..) (by simp)
def ZkC {p:Int->Bool} {f:Nat->Bool} (h:∀ j:Nat,1<=j->j<9->p (j:Int)=f j):r8.filter p=flL 1 f 9:=by
 have e:r8=((List.range 9).filter λj=>decide (1<=j)).map λ(j:Nat)=>(j:Int):=rfl
 rw[e,List.filter_map,List.filter_filter];unfold flL
 congr 1
 refine List.filter_congr λj hj=>?_
 have hj:=W1u.1 hj;by_cases c:1<=j
 . simp[c,h j c hj]
 . simp[c]
def lsI (f:Nat->Bool) (l:Jl) (d:Int):Nat->Int
 |0=>-1
 |i+1=>if (f i&&decide ((nAt l i).dr=d))=true then (i:Int) else lsI f l d i
def ZkD {f:Nat->Bool} {l:Jl} {d:Int}:∀ i,-1<=lsI f l d i/\lsI f l d i<i
 |0=>by simp[lsI]
 | i+1=>by
   have:=ZkD (f:=f) (l:=l) (d:=d) i;rw[lsI]
   split <;> omega
def ZkE (s:List Int) (m:Int) (l:Jl) (d:Int):∀ i,(byV s m l d i).lt=if 0<=lsI (fB s [] m l) l d i then (nAt l (lsI (fB s [] m l) l d i).toNat).lt else 1
 |0=>by simp[byV,lsI,zN1]
 | i + 1=>by
   rw[byV,lsI];by_cases c:(fB s [] m l i&&decide ((nAt l i).dr=d))=true
   . rw[if_pos c];simp only[W01,W0b]at c;rw[if_pos ⟨c.2,c.1⟩,if_pos (by omega)];simp
   . rw[if_neg c];simp only[W01,W0b]at c;rw[if_neg (λh=>c ⟨h.2,h.1⟩)];exact ZkE s m l d i
def ZkF (r:Jr) (l:Jl) (f:Nat->Bool) (d:Int) (hl:l.length<=12):PC prog G 120 [.agg [.vsl (r.map isa),.vsl (l.map na)],.vsl ((rbK f l.length 0).map ba),.int .i64 d] (.int .i64 (lsI f l d l.length)):=by
 have hat:=λi (hi:i<l.length)=>Zgb (f:=f) (k:=0) (W1f i) hi
 have hlen:=Zga (f:=f) (n:=l.length) (k:=0);generalize rbK f l.length 0=B at *
 (refine Z6v rfl λR hG hrd=>Qga ?_;subst hG)
 simp -implicitDefEqProofs[Z6t,Z6u];refine Z9H (λi=>⟨[(8,.int .i64 i),(7,.int .i64 (lsI f l d i)),(3,.ptr 3 0),(1,.vsl (B.map ba)),(2,.int .i64 d)],[(3,.box [.vsl (r.map isa),.vsl (l.map na)])]⟩) (λ_=>True) l.length ?_ trivial ?_ ?_
 . ((try simp only[lsI]);refine Ym.sub (by simp[lk,Ya,AV.keys,lsI]) ?_;simp only[lsI,Wkl,and_true];(try simp[lk,Yc,Ya,AV.keys,lsI]))
 . intro i hi _;have wi:i64.wrap ((i:Int)+1)=(i:Int)+1:=Yf;obtain ⟨hb,eb⟩:=W02.1 (hat i hi);have hx:=ZcF hi;have sn:lsI f l d (i+1)=if (f i&&decide ((nAt l i).dr=d))=true then (i:Int) else lsI f l d i:=rfl
   rw[hx]at sn;generalize hlx:l[i]=x at *;have hnx:na x=[.int .i64 x.nu,.int .i64 x.dy,.int .u8 x.sg,.int .i64 x.dr,.int .i64 x.lt,.int .i64 x.fr,.int .i64 x.tu,.int .i64 x.ca,.bool x.up,.int .u8 x.wy]:=rfl;refine Qga ?_
   cases hf:f i
   . rw[hf]at eb sn;simp only[W1K,W05,if_false]at sn;simp -implicitDefEqProofs[hlen,hi,hb,eb,ba,wi,sn]
     (refine Wkc ?_;simp only[Wkl,and_true];(try simp[lk,Yc,Ya,AV.keys]))
   . rw[hf]at eb sn;by_cases c:x.dr=d
     . simp only[c,W1i,Bool.and_self,if_true]at sn;simp -implicitDefEqProofs[hlen,hi,hb,eb,ba,hlx,hnx,c,wi,sn]
       (refine Wkc ?_;simp only[Wkl,and_true];(try simp[lk,Yc,Ya,AV.keys]))
     . simp only[c,W1x,W29,W05,if_false]at sn;simp -implicitDefEqProofs[hlen,hi,hb,eb,ba,hlx,hnx,c,wi,sn]
       (refine Wkc ?_;simp only[Wkl,and_true];(try simp[lk,Yc,Ya,AV.keys]))
 . intro _;refine Qga ?_;simp -implicitDefEqProofs[hlen];refine Qgr ?_;simp -implicitDefEqProofs
def ZkG (r:Jr) (l:Jl) (s:List Int) (m d:Int) (hl:l.length<=12):PC prog G 88 [.agg [.vsl (r.map isa),.vsl (l.map na)],.vsl ((rbK (fB s [] m l) l.length 0).map ba),.int .i64 d] (.int .i64 (byV s m l d l.length).lt):=by
 have hb:=ZkF (G:=G) r l (fB s [] m l) d hl;have hlt:=ZkD (f:=fB s [] m l) (l:=l) (d:=d) l.length;have hV:=ZkE s m l d l.length;generalize lsI (fB s [] m l) l d l.length=k at *;generalize (byV s m l d l.length).lt=V at *
 (refine Z6s rfl λR hG hrd=>Qga ?_;subst hG)
 simp -implicitDefEqProofs[Z6q,Z6r];refine Qco (hb) ?_;by_cases c:0<=k
 . obtain ⟨n,rfl⟩:=Int.eq_ofNat_of_zero_le c;have hn:n<l.length:=(by omega);have hx:=ZcF hn;rw[if_pos c]at hV;simp only[Int.ofNat_eq_natCast,Int.toNat_natCast]at hV;rw[hx]at hV;generalize hlx:l[n]=x at *;have hnx:na x=[.int .i64 x.nu,.int .i64 x.dy,.int .u8 x.sg,.int .i64 x.dr,.int .i64 x.lt,.int .i64 x.fr,.int .i64 x.tu,.int .i64 x.ca,.bool x.up,.int .u8 x.wy]:=rfl;simp -implicitDefEqProofs[c,hn,hlx,hnx,hV]
 . rw[if_neg c]at hV;simp -implicitDefEqProofs[c,hV]
def pfF (l:Jl) (d m:Int) (i j:Nat):Bool:=(List.range i).any λv=>decide (ltV l d m v=(j:Int))
def ZkH {l:Jl} {d m:Int} {i n:Nat} (h:ltV l d m i=(n:Int)):pfF l d m (i+1)=λj=>if j=n then true else pfF l d m i j:=by
 funext j
 unfold pfF;rw[W1y,W2f];by_cases c:j=n
 . subst c;simp[h]
 . have c2:¬(n:Int)=(j:Int):=(by omega);simp[c,c2,h]
def p3S (r:Jr) (l:Jl) (d m:Int) (T:AV) (i:Nat):St:=⟨[(11,.int .i64 i),(10,T),(9,.ptr 9 0),(3,.ptr 3 0),(1,.int .i64 d),(2,.int .i64 m)],[(9,.box (fgC (pfF l d m i))),(3,.box [.vsl (r.map isa),.vsl (l.map na)])]⟩
def cgS (key t:Nat) (p b:Nat) (f:Nat->Bool) (k:Nat):St:=⟨[(p,.int .i64 k),(t,nlV key (flL 1 f k)),(b,.ptr b 0)],(b,.box (fgC f))::nlO key (flL 1 f k)⟩
def ZkI (r:Jr) (l:Jl) (d:Int) (hr:Sml r) (hne:r≠[]) (hd:Sml (nums r)):PC prog G 86 [.agg [.vsl (r.map isa),.vsl (l.map na)],.int .i64 d] (.bool (decide (d∈nums r))):=by
 have c1:=Za3 (G:=G) r hr hne;rw[rega]at c1;have c2:=ZcU (G:=G) (nums r) d hd
 (refine Z6a rfl λR hG hrd=>Qga ?_;subst hG)
 simp -implicitDefEqProofs[Z68,Z69];refine Qco (c1) ?_;simp -implicitDefEqProofs;refine Qco (c2) ?_;simp -implicitDefEqProofs
def ZkJ (r:Jr) (l:Jl) (d m:Int) (hw:WfN l) (hr:Wf r) (hd:Sml (nums r)):PC prog G 71 [.agg [.vsl (r.map isa),.vsl (l.map na)],.int .i64 d,.int .i64 m] (poA r l d m):=by
 have c1:=PC.sub (Zgj (G:=G) r l [] m hw hr (by simp[Sml])) (xs:=[.agg [.vsl (r.map isa),.vsl (l.map na)],.nils,.int .i64 m]) ⟨.rfl',.nils,.rfl',trivial⟩;unfold poA;by_cases h0:asN r l [] m=0
 case neg =>
  rw[if_neg (λh=>h0 h.1),if_neg h0]
  (refine Z6d rfl λR hG hrd=>Qga ?_;subst hG)
  simp -implicitDefEqProofs[Z6b,Z6c];refine Qco (c1) ?_;simp -implicitDefEqProofs[h0]
 have hop:=Zj2 (Zgh h0).1;have hB:=Zgg (Zgh h0).1;have c2:=ZkI (G:=G) r l d hr.1.1 (Zkl hop) hd;rw[h0]at c1 ⊢;by_cases h1:d∈nums r
 case neg =>
  rw[if_neg (λh=>h1 h.2),if_pos rfl,if_neg h1];rw[W0S h1]at c2
  (refine Z6d rfl λR hG hrd=>Qga ?_;subst hG)
  simp -implicitDefEqProofs[Z6b,Z6c];refine Qco (c1) ?_;simp -implicitDefEqProofs;refine Qco (c2) ?_;simp -implicitDefEqProofs
 rw[if_pos ⟨rfl,h1⟩,if_pos rfl,if_pos h1];rw[W0M h1]at c2;have hU:=ZgD hB;have h12:=Zgi hB;have hp2:=pow5 hU;have c3:=ZgO (G:=G) r l hB;have sbl:=λv=>ZgA (opQ l) v (opQ l).length
 have hbd:=λv=>Zi5 hop hB h1 m v
 have hlv:∀ v,ltV l d m v=(byV (sbT (opQ l) v) m l d l.length).lt:=λv=>rfl
 have hff:=λv=>Zgf (G:=G) r l false true (sbT (opQ l) v) [] m h12 (by have:=sbl v;unfold Sml sbT;omega) (by simp[Sml])
 have hll:=λv=>ZkG (G:=G) r l (sbT (opQ l) v) m d h12
 have l1:∀ s,liA false s = .vsl (s.map ia):=λs=>by simp[liA]
 have l2:liA true [] = .nils:=(by simp[liA]);simp only[l1,l2]at hff;simp only[<- hlv]at hll
 have hps:posL l d m=flL 1 (pfF l d m (2 ^ (opQ l).length)) 9:=by
  unfold posL;exact ZkC λj _ _=>rfl
 have hpn:posL l d m≠[]:=Zi0 λv=>hbd v
 obtain ⟨N,hN'⟩:=Qex (2 ^ (opQ l).length);rw[<- hN']at hp2 hps c3;have tl:=ZgF (opQ l) N
 have tat:∀ v,v<N->(trK (opQ l) N)[v]? = some [.vsl ((sbT (opQ l) v).map ia)]:=λv hv=>by
  unfold trK;rw[W09,W0L hv];rfl
 have tp:=ZgH (opQ l) N;obtain ⟨T,hT⟩:=Qex (trK (opQ l) N);rw[<- hT]at c3 tl tat tp;refine Z6d rfl λR hG hrd=>?_
 subst hG;refine Qga ?_;simp -implicitDefEqProofs[Z6b,Z6c];refine Qco (c1) ?_;simp -implicitDefEqProofs;refine Qco (c2) ?_;simp -implicitDefEqProofs;refine Qco (c3) ?_;simp -implicitDefEqProofs;refine Z9H (p3S r l d m (.vsl T)) (λ_=>True) N ?_ trivial ?_ ?_
 . have e0:fgC (pfF l d m 0)=[.bool false,.bool false,.bool false,.bool false,.bool false,.bool false,.bool false,.bool false,.bool false]:=rfl;simp only[p3S,e0]
   (refine Wkc ?_;simp only[Wkl,and_true];(try simp[lk,Yc,Ya,AV.keys]))
 . intro i hi _;have wi:i64.wrap ((i:Int)+1)=(i:Int)+1:=Yf;have hff:=hff i;have hll:=hll i;obtain ⟨b1,b2⟩:=hbd i;obtain ⟨n,hn⟩ : ∃ n:Nat,ltV l d m i=n:=⟨(ltV l d m i).toNat,by omega⟩;have sc:=ZkH hn;rw[hn]at hll b1 b2;have n9:n<9:=(by omega);have n9':(n:Int)<9:=(by omega);have n8:n<=8:=(by omega);have hpu:=Zkx (pfF l d m i) true n9;rw[<- sc]at hpu;simp only[Z4,W2r,W0U,W1e,W18]at hpu;have L9:∀ f,(fgC f).length=9:=λ_=>rfl
   have tat:=tat i hi;obtain ⟨g1,g2⟩:=W02.1 tat;have pR:(AV.vsl ((rbK (fB (sbT (opQ l) i) [] m l) l.length 0).map ba)).pure=true:=(by simp[AV.pure,ba]);refine Qga ?_;simp -implicitDefEqProofs[p3S,hi,tl,g2,tat];refine Ye.of hff (by simp[AV.pure,isa,na,ia]) ?_;simp -implicitDefEqProofs;refine Ye.of hll (by simp[AV.pure,isa,na,ba]) ?_;simp -implicitDefEqProofs[n9',n9,n8,L9,hpu,wi];refine ⟨rfl,?_⟩;simp only[p3S]
   (refine Wkc ?_;simp only[Zky,Wkl,and_true];(try simp[lk,Yc,Ya,AV.keys]))
 . intro _;have hln:¬flL 1 (pfF l d m N) 9=[]:=(by rw[<- hps];exact hpn);rw[hps];simp only[p3S];generalize pfF l d m N=f at *;refine Qga ?_;simp -implicitDefEqProofs[tl];refine Qgr ?_;simp -implicitDefEqProofs;refine Z9H (λk=>cgS 53 12 13 9 f (k+1)) (λ_=>True) 8 ?_ trivial ?_ ?_
   . have e0:flL 1 f 1=[]:=ZkA (by omega);simp only[cgS,e0,nlV,nlO,if_true]
     (refine Wkc ?_;simp only[Zky,Wkl,and_true];(try simp[lk,Yc,Ya,AV.keys]))
   . intro k hk _;have sc:=Zkz (a:=1) (f:=f) (n:=k+1);have hle:=ZkB 1 f (k+1);obtain ⟨m',hm⟩:=Qex (k+1);rw[<- hm]at sc hle;have m9:m'<9:=(by omega);have m9':(m':Int)<9:=(by omega);have m8:m'<=8:=(by omega);have m1:1<=m':=(by omega);have hat:=Zkw f m9;have wm:i64.wrap ((m':Int)+1)=((m'+1:Nat):Int):=Yf;obtain ⟨S,hS⟩:=Qex (flL 1 f m');obtain ⟨T',hT'⟩:=Qex (flL 1 f (m'+1));rw[<- hS]at sc hle;rw[<- hT']at sc;have bb:(S.length+1)*8<=70368744177664:=(by omega);have hw1:cgS 53 12 13 9 f (k+1)=⟨[(13,.int .i64 m'),(12,nlV 53 S),(9,.ptr 9 0)],(9,.box (fgC f))::nlO 53 S⟩:=(by rw[<- hm,cgS,<- hS]);have hw2:cgS 53 12 13 9 f (k+1+1)=⟨[(13,.int .i64 (m'+1:Nat)),(12,nlV 53 T'),(9,.ptr 9 0)],(9,.box (fgC f))::nlO 53 T'⟩:=(by rw[<- hm,cgS,<- hT']);by_cases cS:S=[]
     case' pos =>
      have hV:nlV 53 S = .nils:=(by simp[nlV,cS]);have hQ:nlO 53 S=[]:=by simp[nlO,cS]
     case' neg =>
      have hV:nlV 53 S = .osl 53 S.length:=(by simp[nlV,cS]);have hQ:nlO 53 S=[(53,.row 1 (S.map ia))]:=by simp[nlO,cS]
     all_goals
      refine Qga ?_
      cases hf:f m'
      . have e:T'=S:=(by rw[sc,hf];simp);rw[hf]at hat;simp -implicitDefEqProofs[hw1,hV,hQ,m9',m9,m8,hat,wm];rw[hw2,e,hV,hQ]
        (refine Wkc ?_;simp only[Zky,Zf3,Wkl,and_true];(try simp[lk,Yc,Ya,AV.keys]))
      . have e:T'=S++[(m':Int)]:=(by rw[sc,if_pos ⟨m1,hf⟩]);have hne:¬T'=[]:=(by rw[e];simp);have em:T'.map ia=S.map ia++[[.int .i64 m']]:=(by rw[e,W0r];rfl);have eT:T'.length=S.length+1:=(by rw[e];simp);have hV2:nlV 53 T' = .osl 53 (S.length+1):=(by simp[nlV,hne,eT]);have hQ2:nlO 53 T'=[(53,.row 1 (T'.map ia))]:=(by simp[nlO,hne]);rw[hf]at hat;simp -implicitDefEqProofs[hw1,hV,hQ,m9',m9,m8,hat,wm,bb];rw[hw2,hV2,hQ2]
        first
         |(rw[em,cS];(refine Wkc ?_;simp only[Zky,Wkl,and_true];(try simp[lk,Yc,Ya,AV.keys]));done)
         |(rw[<- em];((try simp only[eT]);refine Ym.sub (by simp[lk,Ya,AV.keys,eT]) ?_;simp only[eT,Wkl,Zky,Zf3,and_true];(try simp[lk,Yc,Ya,AV.keys,eT]));done)
   . intro _;obtain ⟨S,hS⟩:=Qex (flL 1 f 9);rw[<- hS]at hln ⊢;have hV:nlV 53 S = .osl 53 S.length:=(by simp[nlV,hln]);have hQ:nlO 53 S=[(53,.row 1 (S.map ia))]:=(by simp[nlO,hln]);have e9:(8:Nat)+1=9:=rfl;refine Qga ?_;simp -implicitDefEqProofs[cgS,e9,<- hS,hV,hQ];refine Qgr ?_;simp -implicitDefEqProofs[ia]
section
open Qq Go.Proofs.Tryz
end
open Go.ChangeShapes Go.WideShapes Go.ChangeAt Go.WideMaps Go.WideElems Go.RowKit Go.Deep
def own:ownKnob prog.godebug=none:=by kernel_rfl
def ZkS:laidOutB prog=true:=by kernel_rfl
def cF:prog.cellsOf 166=1:=by kernel_rfl
def ZkT {P:Program} {G:Jg} {f:FuncId} {args:List AV} {W:World} {vs:Array Value} (h:PC P G f args (.bool true)) (hG:GR G noM W) (hs:vs.size=args.length)
  (hv:∀ (i:Nat) (x:AV) (u:Value),args[i]? = some x->vs[i]? = some u->PV noM W x u):Calls P f vs W λe W'=>e = .returned (.bool true)/\Ext W W' :=
 (h.2 noM W vs (λ_ h=>h.elim) hG hs hv).mono λe W' ⟨v,h1,h2,h3⟩=>by
  cases h2
  exact ⟨h1,h3⟩
def itK:List TY:=[.int .i64,.int .i64]
def dmK:List TY:=[.int .i64,.int .i64,.int .i64]
def isK2:List TY:=[.int .i64,.int .i64,.int .u8,.sl itK,.sl dmK]
def ZkU {xs:List AV} (h:TVs itK xs):∃ p:Int×Int,xs=ita p:=by
 obtain ⟨x0,_,rfl,h0,h⟩:=h.cons_inv;obtain ⟨x1,_,rfl,h1,h⟩:=h.cons_inv;obtain rfl:=h.nil_inv;obtain ⟨n,rfl,-⟩:=h0.int_inv;obtain ⟨l,rfl,-⟩:=h1.int_inv;exact ⟨(n,l),rfl⟩
def ZkV {xs:List AV} (h:TVs dmK xs):∃ d:Dm,xs=dma d:=by
 obtain ⟨x0,_,rfl,h0,h⟩:=h.cons_inv;obtain ⟨x1,_,rfl,h1,h⟩:=h.cons_inv;obtain ⟨x2,_,rfl,h2,h⟩:=h.cons_inv;obtain rfl:=h.nil_inv;obtain ⟨n,rfl,-⟩:=h0.int_inv;obtain ⟨l,rfl,-⟩:=h1.int_inv;obtain ⟨u,rfl,-⟩:=h2.int_inv;exact ⟨⟨n,l,u⟩,rfl⟩
def KOk (x:Iss):Prop:=0<=x.k/\x.k<=255
def ZkW {xs:List AV} (h:TVs isK2 xs):∃ x:Iss,xs=isa x/\KOk x:=by
 obtain ⟨x0,_,rfl,h0,h⟩:=h.cons_inv;obtain ⟨x1,_,rfl,h1,h⟩:=h.cons_inv;obtain ⟨x2,_,rfl,h2,h⟩:=h.cons_inv;obtain ⟨x3,_,rfl,h3,h⟩:=h.cons_inv;obtain ⟨x4,_,rfl,h4,h⟩:=h.cons_inv;obtain rfl:=h.nil_inv;obtain ⟨n,rfl,-⟩:=h0.int_inv;obtain ⟨l,rfl,-⟩:=h1.int_inv;obtain ⟨k,rfl,hk⟩:=h2.int_inv;obtain ⟨r3,rfl,-,g3⟩:=h3.sl_inv;obtain ⟨r4,rfl,-,g4⟩:=h4.sl_inv;obtain ⟨its,rfl⟩:=ZkP (f:=ita) λr hr=>ZkU (g3 r hr)
 obtain ⟨dms,rfl⟩:=ZkP (f:=dma) λr hr=>ZkV (g4 r hr)
 exact ⟨⟨n,l,k,its,dms⟩,rfl,bounds_u8 hk⟩
def ZkX {α β:Type} {f:α->β} {p:α->Prop} {rows:List β} (h:∀ r∈rows,∃ d,r=f d/\p d):∃ l:List α,rows=l.map f/\∀ x∈l,p x:=by
 induction rows with
 |nil=>exact ⟨[],rfl,by simp⟩
 | cons r rows ih =>
   obtain ⟨d,rfl,hd⟩:=h r (W0H ..);obtain ⟨l,rfl,hl⟩:=ih λr hr=>h r (W0z _ hr)
   exact ⟨d::l,rfl,λx hx=>by
    rcases W0g.1 hx with rfl|hx
    . exact hd
    . exact hl x hx⟩
def ZkY {G:Jg} (r:Jr):PC prog G 37 [rega r] (.bool (Z9W r)):=by
 by_cases h1:80<r.length
 . (refine Z9B rfl λR hG hrd=>Qga ?_;subst hG)
   have h1':(80:Int)<r.length:=(by omega);simp -implicitDefEqProofs[Z9z,Z9A,rega,h1',Z9W,h1]
 . exact Za0 r (by unfold Sml;omega)
def ZkZ {r:Jr} (h:Z9W r=false) (hk:∀ x∈r,KOk x):Wf r:=by
 simp only[Z9W,W1T,W1b,W25,W0T,W0b,not_or]at h;exact ⟨⟨by unfold Sml;omega,λx hx=>by have:=h.2 x hx;unfold Sml;omega⟩,hk⟩
def gr7 (r:Jr) (l:Jl) (hs:Jh) (ps:Jp):Bool:=Z9W r||decide (16<l.length)||decide (8<hs.length)||decide (40<ps.length)||hs.any λh=>decide (20<h.ds.length)
def Zl0 (o:List (Nat×AObj)) (l:Jh):Yc o (.row 4 (l.map hoa))=true:=by
 simp only[Yc,W03,W0i];rintro x ⟨y,-,rfl⟩ v hv;simp only[hoa,W0g,W0Q,or_false]at hv;rcases hv with rfl|rfl|rfl|rfl <;> simp[Ya,AV.keys]
def Zl1 (o:List (Nat×AObj)) (l:Jp):Yc o (.row 7 (l.map ptA))=true:=by
 simp only[Yc,W03,W0i];rintro x ⟨y,-,rfl⟩ v hv;simp only[ptA,W0g,W0Q,or_false]at hv;rcases hv with rfl|rfl|rfl|rfl|rfl|rfl|rfl <;> simp[Ya,AV.keys]
def hlV (k:Nat) (H:Jh):AV:=if H=[] then .nils else .osl k H.length
def hlO (k:Nat) (H:Jh):List (Nat×AObj):=if H=[] then [] else [(k,.row 4 (H.map hoa))]
def tw7 (B:List AV) (R L:AV) (hs:Jh) (P:AV) (i:Nat):St :=
 ⟨[(4,.int .i64 i),(3,.ptr 3 0),(2,.ptr 2 0),(1,.ptr 1 0)],[(1,.box B),(2,.box [.nils,.nils,.nils,.nils]),(3,.box [R,L,hlV 35 (hs.take i),P])]++hlO 35 (hs.take i)⟩
def Zl2 (r:Jr) (l:Jl):PC prog G 12 [.agg [.vsl (r.map isa),.vsl (l.map na)]] (.bool (Z9W r||decide (16<l.length))):=by
 have hg:=ZkY (G:=G) r;rw[rega]at hg
 (refine Z75 rfl λR hG hrd=>Qga ?_;subst hG)
 simp -implicitDefEqProofs[Z73,Z74];refine Qco (hg) ?_
 cases q:Z9W r
 . have e:decide ((16:Int)<l.length)=decide (16<l.length):=(by rw[decide_eq_decide];omega);simp -implicitDefEqProofs[e]
 . simp -implicitDefEqProofs
def Zl3 (r:Jr) (l:Jl) (hs:Jh) (ps:Jp):PC prog G 4 [prA r l hs ps] (.bool (gr7 r l hs ps)):=by
 have hg:=Zl2 (G:=G) r l;unfold gr7 prA;generalize (Z9W r||decide (16<l.length))=g at *;refine Zke rfl λR hG hrd=>?_
 subst hG;refine Qga ?_;simp -implicitDefEqProofs[Zkc,Zkd];refine Qco (hg) ?_
 cases g
 case true=>simp -implicitDefEqProofs
 by_cases h8:8<hs.length
 . have h8':(8:Int)<hs.length:=(by omega);simp -implicitDefEqProofs[h8,h8']
 have h8':¬(8:Int)<hs.length:=(by omega);by_cases h40:40<ps.length
 . have h40':(40:Int)<ps.length:=(by omega);simp -implicitDefEqProofs[h8,h8',h40,h40']
 have h40':¬(40:Int)<ps.length:=(by omega);simp -implicitDefEqProofs[h8',h40'];refine Z9H (λi=>⟨[(3,.int .i64 i),(1,.ptr 1 0)],[(1,.box [.vsl (r.map isa),.vsl (l.map na),.vsl (hs.map hoa),.vsl (ps.map ptA)])]⟩) (λi=>∀ j (h:j<hs.length),j<i->¬20<hs[j].ds.length) hs.length ?_ (by simp) ?_ ?_
 . (refine Wkc ?_;simp only[Wkl,and_true];(try simp[lk,Yc,Ya,AV.keys]))
 . intro i hi he;have wi:i64.wrap ((i:Int)+1)=(i:Int)+1:=Yf;refine Qga ?_;by_cases q:20<hs[i].ds.length
   . have q':(20:Int)<hs[i].ds.length:=(by omega);have e:(hs.any λh=>decide (20<h.ds.length))=true:=W14.2 ⟨_,W0e hi,by simpa using q⟩;simp -implicitDefEqProofs[hi,hoa,q'];refine Qgr ?_;rw[e];simp -implicitDefEqProofs
   . have q':¬(20:Int)<hs[i].ds.length:=(by omega);simp -implicitDefEqProofs[hi,hoa,q',wi];refine ⟨?_,λj h1 h2=>?_⟩
     . (refine Wkc ?_;simp only[Wkl,and_true];(try simp[lk,Yc,Ya,AV.keys]))
     . rcases W0q j i with h4|h4
       . have:=he j h1 h4;omega
       . obtain rfl:j=i:=(by omega);omega
 . intro he
   have e:(hs.any λh=>decide (20<h.ds.length))=false:=W25.2 λx hx=>by
    obtain ⟨j,hj,rfl⟩:=W0k hx;simpa using he j hj hj
   refine Qga ?_;simp -implicitDefEqProofs;refine Qgr ?_;simp -implicitDefEqProofs[h8,h40,e]
def Zl4 (r:Jr) (l:Jl) (hs:Jh) (ps:Jp) (hr:SmlR r) (hl:Sml l) (hw:WfP hs ps):PC prog G 10 [prA r l hs ps,prA r l hs ps] (.bool true):=by
 have c1:=Zgl (G:=G) r r l l hr hl;rw[W0M ⟨rfl,rfl⟩]at c1;have c2:=λh (hh:h∈hs)=>Z9O (G:=G) h.ds h.ds (by have:=hw.dl h hh;unfold Sml;omega)
 have hhl:=hw.hl;have hpl:=hw.pl;unfold prA;refine Zkh rfl λR hG hrd=>?_
 subst hG;refine Qga ?_;simp -implicitDefEqProofs[Zkf,Zkg];refine Qco (c1) ?_;simp -implicitDefEqProofs;refine Z9H (λi=>⟨[(5,.int .i64 i),(2,.ptr 2 0),(3,.ptr 3 0)],[(2,.box [.vsl (r.map isa),.vsl (l.map na),.vsl (hs.map hoa),.vsl (ps.map ptA)]),(3,.box [.vsl (r.map isa),.vsl (l.map na),.vsl (hs.map hoa),.vsl (ps.map ptA)])]⟩) (λ_=>True) hs.length ?_ trivial ?_ ?_
 . (refine Wkc ?_;simp only[Wkl,and_true];(try simp[lk,Yc,Ya,AV.keys]))
 . intro i hi _;have c2:=c2 _ (W0e hi);rw[W0M rfl]at c2;have wi:i64.wrap ((i:Int)+1)=(i:Int)+1:=Yf;refine Qga ?_;simp -implicitDefEqProofs[hi,hoa];refine ⟨rfl,?_⟩;refine Qco (c2) ?_;simp -implicitDefEqProofs[wi]
   (refine Wkc ?_;simp only[Wkl,and_true];(try simp[lk,Yc,Ya,AV.keys]))
 . intro _;refine Qga ?_;simp -implicitDefEqProofs;refine Qgr ?_;simp -implicitDefEqProofs;refine Z9H (λi=>⟨[(8,.int .i64 i),(2,.ptr 2 0),(3,.ptr 3 0)],[(2,.box [.vsl (r.map isa),.vsl (l.map na),.vsl (hs.map hoa),.vsl (ps.map ptA)]),(3,.box [.vsl (r.map isa),.vsl (l.map na),.vsl (hs.map hoa),.vsl (ps.map ptA)])]⟩) (λ_=>True) ps.length ?_ trivial ?_ ?_
   . (refine Wkc ?_;simp only[Wkl,and_true];(try simp[lk,Yc,Ya,AV.keys]))
   . intro i hi _;have wi:i64.wrap ((i:Int)+1)=(i:Int)+1:=Yf;refine Qga ?_;simp -implicitDefEqProofs[hi,ptA,wi];refine ⟨rfl,?_⟩
     (refine Wkc ?_;simp only[Wkl,and_true];(try simp[lk,Yc,Ya,AV.keys]))
   . intro _;refine Qga ?_;simp -implicitDefEqProofs;refine Qgr ?_;simp -implicitDefEqProofs
def Zl5 (r:Jr) (l:Jl) (hs:Jh) (ps:Jp) (hr:SmlR r) (hl:Sml l) (hw:WfP hs ps):PC prog G 5 [prA r l hs ps] (prA r l hs ps):=by
 have c1:=Zgm (G:=G) r l hr hl;have hhl:=hw.hl;have hpl:=hw.pl;have hdl:=hw.dl;have b2:ps.length*56<=70368744177664:=(by omega);refine PC.out (v:=.agg [.vsl (r.map isa),.vsl (l.map na),Yg (hs.map hoa),.vsl (ps.map ptA)]) ?_ (Nsub.agg ⟨.rfl',.rfl',.orNil _,.rfl',trivial⟩);obtain ⟨B,hB⟩ : ∃ B:List AV,B=[.vsl (r.map isa),.vsl (l.map na),.vsl (hs.map hoa),.vsl (ps.map ptA)]:=⟨_,rfl⟩;unfold prA;rw[<- hB];refine Zkk rfl λR hG hrd=>?_
 subst hG;refine Qga ?_;simp -implicitDefEqProofs[Zki,Zkj,hB];refine Qco (c1) ?_;by_cases p0:ps=[]
 case' pos =>
  simp only[p0,W1d]at hB;simp -implicitDefEqProofs[p0]
 case' neg=>simp -implicitDefEqProofs[p0,b2,ptA]
 all_goals
  refine ⟨rfl,?_⟩;rw[<- hB];refine Z9H (tw7 B (.vsl (r.map isa)) (.vsl (l.map na)) hs (.vsl (ps.map ptA))) (λ_=>True) hs.length ?_ trivial ?_ ?_
  . refine Ym.trans (Ym.frz (λk=>k == 9) _) ?_;simp only[tw7,hlV,hlO,W1g,if_true,hB,W1G]
    ((try simp only[Yi,frzA,frzO,frz,Yh,Yj,St.get,AV.pure,p0,ptA]);refine Ym.sub (by simp[lk,Ya,AV.keys,Yi,frzA,frzO,frz,Yh,Yj,St.get,AV.pure,p0,ptA]) ?_;simp only[Yi,frzA,frzO,frz,Yh,Yj,St.get,AV.pure,p0,ptA,Wkl,and_true];(try simp[lk,Yc,Ya,AV.keys,Yi,frzA,frzO,frz,Yh,Yj,St.get,AV.pure,p0,ptA]))
  . intro i hi _;have hdi:=hdl _ (W0e hi);obtain ⟨h,hhe⟩:=Qex (hs[i]);rw[<- hhe]at hdi;have hlx:hs[i]=h:=hhe.symm;have hho:hoa h=[.int .i64 h.id,.int .i64 h.fr,.int .i64 h.to,.vsl (h.ds.map ia)]:=rfl;have wi:i64.wrap ((i:Int)+1)=(i:Int)+1:=Yf;have tk:hs.take (i+1)=hs.take i++[h]:=(by rw[W08 hi,hlx]);have tl:(hs.take i).length=i:=(by simp;omega);have bb:(i+1)*48<=70368744177664:=(by omega);have b3:h.ds.length*8<=70368744177664:=(by omega);obtain ⟨H,hH⟩:=Qex (hs.take i);rw[<- hH]at tk tl;have em:(H++[h]).map hoa=H.map hoa++[hoa h]:=(by simp);have hne:¬H++[h]=[]:=(by simp);have hV2:hlV 35 (H++[h]) = .osl 35 (i+1):=(by unfold hlV;rw[if_neg hne];simp[tl]);have hO2:hlO 35 (H++[h])=[(35,.row 4 (H.map hoa++[hoa h]))]:=by unfold hlO;rw[if_neg hne,em]
    have pH:∀ ok st,(H.map hoa).map (λr=>r.map (frzA ok st))=H.map hoa:=λok st=>by
     rw[W10]
     congr 1
     funext x;simp[hoa,frzA,frz,AV.keys]
    refine Yb mixed 15 ?_;by_cases cH:H=[]
    case' pos =>
     have hV:hlV 35 H = .nils:=(by simp[hlV,cH]);have hQ:hlO 35 H=[]:=by simp[hlO,cH]
    case' neg =>
     have hV:hlV 35 H = .osl 35 i:=(by simp[hlV,cH,tl]);have hQ:hlO 35 H=[(35,.row 4 (H.map hoa))]:=by simp[hlO,cH]
    all_goals
     by_cases d0:h.ds=[]
     case' pos=>simp -implicitDefEqProofs[tw7,<- hH,hV,hQ,hB,hi,hlx,hho,d0,wi,bb,tl]
     case' neg=>simp -implicitDefEqProofs[tw7,<- hH,hV,hQ,hB,hi,hlx,hho,d0,ia,wi,bb,b3,tl]
     all_goals
      refine GO0 (Z2R (st':=⟨[(5,.ptr 5 0),(4,.int .i64 i),(3,.ptr 3 0),(2,.ptr 2 0),(1,.ptr 1 0)],[(1,.box [.vsl (r.map isa),.vsl (l.map na),.vsl (hs.map hoa),.vsl (ps.map ptA)]),(2,.box [.nils,.nils,.nils,.nils]),(3,.box [.vsl (r.map isa),.vsl (l.map na),hlV 35 H,.vsl (ps.map ptA)]),(5,.box [.int .i64 h.id,.int .i64 h.fr,.int .i64 h.to,.vsl (h.ds.map ia)])]++hlO 35 H⟩) (Ym.trans (Ym.frz (λk=>k == 26) _) ?_) ?_)
      . simp only[hV,hQ]
        ((try simp only[Yi,frzA,frzO,frz,Yh,Yj,St.get,pH,d0,AV.pure,ia]);refine Ym.sub (by simp[lk,Ya,AV.keys,Yi,frzA,frzO,frz,Yh,Yj,St.get,pH,d0,AV.pure,ia]) ?_;simp only[Yi,frzA,frzO,frz,Yh,Yj,St.get,pH,d0,AV.pure,ia,Wkl,Zl0,and_true];(try simp[lk,Yc,Ya,AV.keys,Yi,frzA,frzO,frz,Yh,Yj,St.get,pH,d0,AV.pure,ia]))
        all_goals exact p0
      . refine Qga ?_;simp -implicitDefEqProofs[hV,hQ,wi,bb,tl];refine Qgr ?_;simp -implicitDefEqProofs[wi];simp only[tw7,tk,hV2,hO2,hB,hho];rw[<- hho,<- em]
        ((try simp only[hho,p0]);refine Ym.sub (by simp[lk,Ya,AV.keys,hho,p0]) ?_;simp only[hho,p0,Wkl,Zl0,and_true];(try simp[lk,Yc,Ya,AV.keys,hho,p0]))
        all_goals exact ⟨by rw[<- tl,cH];rfl,cH⟩
  . intro _;have tl:hs.take hs.length=hs:=W0v;refine Qga ?_;by_cases cH:hs=[]
    . have hV:hlV 35 hs = .nils:=(by simp[hlV,cH]);have hQ:hlO 35 hs=[]:=(by simp[hlO,cH]);simp -implicitDefEqProofs[tw7,tl,hV,hQ,hB];refine Qgr ?_;simp -implicitDefEqProofs[Yg,cH,p0,AV.pure,ptA]
    . have hV:hlV 35 hs = .osl 35 hs.length:=(by simp[hlV,cH]);have hQ:hlO 35 hs=[(35,.row 4 (hs.map hoa))]:=(by simp[hlO,cH]);simp -implicitDefEqProofs[tw7,tl,hV,hQ,hB];refine Qgr ?_;simp -implicitDefEqProofs[Yg,cH,hoa,p0,AV.pure,ptA]
def Zl6 {r:Jr} {l:Jl} {hs:Jh} {ps:Jp} (h:gr7 r l hs ps=false) (hr:∀ x∈r,KOk x) (hl:∀ x∈l,NOk7 x) (hp:∀ x∈ps,POk x):WfN l/\Wf r/\Sml (nums r)/\WfP hs ps:=by
 simp only[gr7,W1T,W1b,W25,W0b]at h;have hw:=ZkZ h.1.1.1.1 hr;exact ⟨⟨by unfold Sml;omega,hl⟩,hw,Zc2 hw.1.1,by omega,by omega,λx hx=>by have:=h.2 x hx;omega,hp⟩
def wkE (r:Jr) (l:Jl) (hs:Jh) (ps:Jp) (day id d:Int):List Int:=if ab7 r l hs ps day 1 id [d]=0 then wkL ps day id d else []
def Zl7 {hs:Jh} {id:Int} (h:0<=hoI hs id):∃ (k:Nat) (hk:k<hs.length),hoI hs id=k/\hoF hs id=some hs[k]:=by
 unfold hoI fstOf at *
 cases e:hs.findIdx? (λh=>decide (h.id=id)) with
 |none=>rw[e]at h;simp at h
 | some i =>
   obtain ⟨h1,h2,h3⟩:=W1A.1 e;exact ⟨i,h1,rfl,List.find?_eq_some_iff_getElem.2 ⟨h2,i,h1,rfl,λj hj=>by simpa using h3 j hj⟩⟩
def Zl8 {r:Jr} {l:Jl} (h:ZcI r l=true) {x:Nte} (hx:x∈l):1<=x.fr/\x.fr<=999/\1<=x.tu/\x.tu<=999:=by
 obtain ⟨i,hi,rfl⟩:=W0k hx;simp only[ZcI,W01,W03]at h;have h1:=h.1.2 i (W1u.2 hi);simp only[noteB,cN3,W01,ZcF hi,ZhT]at h1;have h2:=h1.1.1.1.1.1.2;omega
def Zl9 {r:Jr} {l:Jl} {hs:Jh} {ps:Jp} (h:ck7 r l hs ps=0) {x:Hld} (hx:x∈hs):1<=x.fr/\x.fr<=x.to/\x.to<=999/\x.ds.length<=8:=by
 obtain ⟨i,hi,rfl⟩:=W0k hx;have h1:=W03.1 (Zif.1 (Zj1.1 h).2).1.2 i (W1u.2 hi);simp only[hoB,W01,Zic hi,ZhT,W0b]at h1;omega
def ndI (l:Jl) (hs:Jh) (id d:Int):List Int:=match hoF hs id with
 |some h=>ndsL l h d
 |none=>[]
def mkL (l:Jl) (h:Hld) (i:Nat):List Int:=h.fr::(l.take i).flatMap (mk1 h)
def Zla {l:Jl} {h:Hld} {i:Nat} (hi:i<l.length):mkL l h (i+1)=mkL l h i++mk1 h l[i]:=by
 unfold mkL;rw[W08 hi,List.flatMap_append];simp
def Zlb {h:Hld} {x:Nte}:(mk1 h x).length<=2:=by
 unfold mk1;rw[W0s]
 split <;> split <;> simp
def Zlc {l:Jl} {h:Hld}:∀ i,(mkL l h i).length<=1+2*i
 |0=>by simp[mkL]
 | i + 1=>by
   have:=Zlc (l:=l) (h:=h) i;by_cases hi:i<l.length
   . rw[Zla hi,W0s];have:=Zlb (h:=h) (x:=l[i]);omega
   . have e:mkL l h (i+1)=mkL l h i:=(by unfold mkL;rw[W0J (by omega),W0J (by omega)]);rw[e];omega
def Zld {l:Jl} {h:Hld}:mkL l h l.length=mks l h:=by unfold mkL mks;rw[W0v]
def mk7S (r:Jr) (l:Jl) (h:Hld) (i:Nat):St :=
 ⟨[(6,.int .i64 i),(5,.osl 11 (mkL l h i).length),(2,.ptr 2 0),(3,.ptr 3 0)],[(11,.row 1 ((mkL l h i).map ia)),(2,.box [.vsl (r.map isa),.vsl (l.map na)]),(3,.box (hoa h))]⟩
def Zle (r:Jr) (l:Jl) (h:Hld) (h12:l.length<=12) (hB:∀ x∈l,1<=x.tu/\x.tu<=999):PC prog G 70 [.agg [.vsl (r.map isa),.vsl (l.map na)],.agg (hoa h)] (.vsl ((mks l h).map ia)):=by
 have c1:=λn=>Zkm (G:=G) n h.fr h.to
 have hho:hoa h=[.int .i64 h.id,.int .i64 h.fr,.int .i64 h.to,.vsl (h.ds.map ia)]:=rfl;refine Z6g rfl λR hG hrd=>?_
 subst hG;refine Qga ?_;simp -implicitDefEqProofs[Z6e,Z6f,hho];refine Z9H (mk7S r l h) (λ_=>True) l.length ?_ trivial ?_ ?_
 . simp only[mk7S,mkL,W1g,List.flatMap_nil,hho]
   ((try simp only[ia]);refine Ym.sub (by simp[lk,Ya,AV.keys,ia]) ?_;simp only[ia,Wkl,and_true];(try simp[lk,Yc,Ya,AV.keys,ia]))
 . intro i hi _;have wi:i64.wrap ((i:Int)+1)=(i:Int)+1:=Yf;have sc:=Zla (h:=h) hi;have hle:=Zlc (l:=l) (h:=h) i;have hBx:=hB _ (W0e hi);obtain ⟨x,hxe⟩:=Qex (l[i]);rw[<- hxe]at sc hBx;have hlx:l[i]=x:=hxe.symm;have hnx:na x=[.int .i64 x.nu,.int .i64 x.dy,.int .u8 x.sg,.int .i64 x.dr,.int .i64 x.lt,.int .i64 x.fr,.int .i64 x.tu,.int .i64 x.ca,.bool x.up,.int .u8 x.wy]:=rfl;have wt:i64.wrap (x.tu+1)=x.tu+1:=Yf;have c1:=c1 x.fr;unfold mk1 at sc;obtain ⟨S,hS⟩:=Qex (mkL l h i);obtain ⟨T,hT⟩:=Qex (mkL l h (i+1));rw[<- hS,<- hT]at sc;rw[<- hS]at hle;have b1:(S.length+1)*8<=70368744177664:=(by omega);have b2:(S.length+1+1)*8<=70368744177664:=by omega
   have i2:inR (x.tu+1) h.fr h.to=(decide (x.tu<h.to)&&decide (h.fr<=x.tu+1)):=by
    rw[W2g,ZhT];simp;omega
   rw[i2]at sc;refine Qga ?_;simp -implicitDefEqProofs[mk7S,<- hS,hi,hlx,hnx,hho];refine Qco (c1) ?_
   cases q1:inR x.fr h.fr h.to
   all_goals
    rw[q1]at sc;by_cases q2:x.tu<h.to
    case' neg =>
     have sc:T=_:=sc;simp only[q2,W1x,W1K,W05,if_false,if_true,W1G]at sc;simp -implicitDefEqProofs[hnx,hho,wi,wt,q2,b1,b2,hi,hlx];simp only[mk7S,<- hT,sc,hho]
     ((try simp only[hnx,ia]);refine Ym.sub (by simp[lk,Ya,AV.keys,hnx,ia]) ?_;simp only[hnx,ia,Wkl,Zf3,and_true];(try simp[lk,Yc,Ya,AV.keys,hnx,ia]))
    by_cases q3:h.fr<=x.tu+1
    . simp only[q2,q3,W1i,Bool.and_self,W05,if_false,if_true,W18]at sc;simp -implicitDefEqProofs[hnx,hho,wi,wt,q2,q3,b1,b2,hi,hlx];simp only[mk7S,<- hT,sc,hho,W0r]
      ((try simp only[hnx,ia]);refine Ym.sub (by simp[lk,Ya,AV.keys,hnx,ia]) ?_;simp only[hnx,ia,Wkl,Zf3,and_true];(try simp[lk,Yc,Ya,AV.keys,hnx,ia]))
    . simp only[q2,q3,W1i,W1x,W29,W05,if_false,if_true,W1G]at sc;simp -implicitDefEqProofs[hnx,hho,wi,wt,q2,q3,b1,b2,hi,hlx];simp only[mk7S,<- hT,sc,hho,W0r]
      ((try simp only[hnx,ia]);refine Ym.sub (by simp[lk,Ya,AV.keys,hnx,ia]) ?_;simp only[hnx,ia,Wkl,Zf3,and_true];(try simp[lk,Yc,Ya,AV.keys,hnx,ia]))
 . intro _;refine Qga ?_;rw[<- Zld];simp only[mk7S];generalize mkL l h l.length=S at *;simp -implicitDefEqProofs[hho];refine Qgr ?_;simp -implicitDefEqProofs[ia]
def ndF (l:Jl) (d:Int) (M:List Int) (i j:Nat):Bool:=(M.take i).any λm=>(posL l d m).contains (j:Int)
def orF (f:Nat->Bool) (P:List Int) (q j:Nat):Bool:=f j||(P.take q).contains (j:Int)
def Zlf {f:Nat->Bool} {P:List Int} {q n:Nat} (hq:q<P.length) (hn:P[q]=(n:Int)):orF f P (q+1)=λj=>if j=n then true else orF f P q j:=by
 funext j
 unfold orF;rw[W08 hq,hn];by_cases c:j=n
 . subst c;simp
 . have c2:¬(j:Int)=(n:Int):=(by omega);simp[c,c2]
def Zlg {l:Jl} {d:Int} {M:List Int} {i:Nat} (hi:i<M.length):ndF l d M (i+1)=orF (ndF l d M i) (posL l d M[i]) (posL l d M[i]).length:=by
 funext j
 unfold ndF orF;rw[W08 hi,W2f,W0v];simp
def nd7S (B H:List AV) (id d:Int) (V:AV) (f:Nat->Bool) (i:Nat):St :=
 ⟨[(10,.int .i64 i),(9,V),(7,.ptr 7 0),(3,.ptr 3 0),(8,.ptr 8 0),(1,.int .i64 id),(2,.int .i64 d)],[(7,.box (fgC f)),(3,.box B),(8,.box H)]⟩
def ne7S (B H:List AV) (id d:Int) (V P:AV) (f:Nat->Bool) (i q:Nat):St :=
 ⟨[(13,.int .i64 q),(11,P),(10,.int .i64 i),(9,V),(7,.ptr 7 0),(3,.ptr 3 0),(8,.ptr 8 0),(1,.int .i64 id),(2,.int .i64 d)],[(7,.box (fgC f)),(3,.box B),(8,.box H)]⟩
def Zlh (r:Jr) (l:Jl) (hs:Jh) (ps:Jp) (id d:Int) (hl:WfN l) (hr:Wf r) (hd:Sml (nums r)) (hw:WfP hs ps) (h0:ck7 r l hs ps=0) (hi:0<=hoI hs id) (hdn:d∈nums r) :
  PC prog G 53 [prA r l hs ps,.int .i64 id,.int .i64 d] (Yg ((ndI l hs id d).map ia)):=by
 have hhl:=hw.hl;have c1:=Zko (G:=G) r l hs ps id (by unfold Sml;omega);obtain ⟨k,hk,e1,e2⟩:=Zl7 hi;have eN:ndI l hs id d=ndsL l hs[k] d:=(by unfold ndI;rw[e2]);rw[eN];rw[e1]at c1;have hdl:=hw.dl _ (W0e hk);obtain ⟨hb1,hb2,hb3,hb4⟩:=Zl9 h0 (W0e hk);obtain ⟨h,hh⟩:=Qex (hs[k]);rw[<- hh]at hdl hb1 hb2 hb3 hb4 ⊢;have hlk:hs[k]=h:=hh.symm;have hop:=Zj2 (Zj1.1 h0).1;have hB:=Zgg (Zj1.1 h0).1;have h12:=Zgi hB;have c2:=Zkn (G:=G) h.ds d (by unfold Sml;omega);have c3:=Zle (G:=G) r l h h12 λx hx=>by have:=Zl8 hB hx;omega
 have c4:=λm=>ZkJ (G:=G) r l d m hl hr hd
 have as0:∀ m∈mks l h,asN r l [] m=0:=λm hm=>by
  obtain ⟨q1,q2⟩:=ZhZ hb2 hm;unfold asN;rw[if_pos (Zj1.1 h0).1,if_pos (by simp[truB]),if_pos (ZhT.2 ⟨by omega,by omega⟩)]
 have hpb:∀ m,∀ c∈posL l d m,1<=c/\c<=8:=λm c hc=>(ZhX.1 hc).1
 have hpl:∀ m,(posL l d m).length<=8:=λm=>by
  unfold posL;exact W0O (W0D ..) (W0f _)
 have hml:=Zlc (l:=l) (h:=h) l.length;rw[Zld]at hml
 have hnd:ndsL l h d=if d∈h.ds then flL 1 (ndF l d (mks l h) (mks l h).length) 9 else []:=by
  unfold ndsL;by_cases c:d∈h.ds
  . rw[if_pos (by simpa using c),if_pos c];refine ZkC λj _ _=>?_
    unfold ndF;rw[W0v]
  . rw[if_neg (by simpa using c),if_neg c]
 have hho:hoa h=[.int .i64 h.id,.int .i64 h.fr,.int .i64 h.to,.vsl (h.ds.map ia)]:=rfl;have L9:∀ f,(fgC f).length=9:=λ_=>rfl
 obtain ⟨B,hB'⟩ : ∃ B:List AV,B=[.vsl (r.map isa),.vsl (l.map na),.vsl (hs.map hoa),.vsl (ps.map ptA)]:=⟨_,rfl⟩;unfold prA at *;have eF:fgC (λ_=>false)=[.bool false,.bool false,.bool false,.bool false,.bool false,.bool false,.bool false,.bool false,.bool false]:=rfl;refine Z6j rfl λR hG hrd=>?_
 subst hG;refine Qga ?_;simp -implicitDefEqProofs[Z6h,Z6i];refine Ye.of c1 (by simp[AV.pure,isa,na,hoa,ptA]) ?_;simp -implicitDefEqProofs[hk,hlk,hho];refine ⟨rfl,?_⟩;refine Qco (c2) ?_;by_cases c:d∈h.ds
 case' neg =>
  rw[hnd,if_neg c];obtain ⟨f,hf⟩ : ∃ f:Nat->Bool,f=λ_=>false:=⟨_,rfl⟩
  have hfin:([]:List Int)=flL 1 f 9:=(by rw[hf];rfl);rw[hfin];clear hfin;simp -implicitDefEqProofs[c];have h7:[AV.bool false,.bool false,.bool false,.bool false,.bool false,.bool false,.bool false,.bool false,.bool false]=fgC f:=(by rw[hf,eF]);rw[h7]
 case' pos =>
  rw[hnd,if_pos c];rw[hho]at c3;simp -implicitDefEqProofs[c];refine Qco (c3) ?_;simp -implicitDefEqProofs;obtain ⟨M,hM⟩:=Qex (mks l h);rw[<- hM]at as0 hml ⊢;rw[<- hB',<- hho];refine Z9H (λi=>nd7S B (hoa h) id d (.vsl (M.map ia)) (ndF l d M i) i) (λ_=>True) M.length ?wk trivial ?round ?done
  case wk =>
   have e0:fgC (ndF l d M 0)=[.bool false,.bool false,.bool false,.bool false,.bool false,.bool false,.bool false,.bool false,.bool false]:=rfl;simp only[nd7S,e0]
   ((try simp only[hB',hho,ia]);refine Ym.sub (by simp[lk,Ya,AV.keys,hB',hho,ia]) ?_;simp only[hB',hho,ia,Wkl,and_true];(try simp[lk,Yc,Ya,AV.keys,hB',hho,ia]))
  case round =>
   intro i hi _;have wi:i64.wrap ((i:Int)+1)=(i:Int)+1:=Yf;have sc:=Zlg (l:=l) (d:=d) hi;obtain ⟨m,hm⟩:=Qex (M[i]);have c4:=c4 m;have hs0:=as0 m (by rw[hm];exact W0e hi);unfold poA at c4;rw[if_pos ⟨hs0,hdn⟩,if_pos hs0,if_pos hdn]at c4;rw[<- hm]at sc;have hlm:M[i]=m:=hm.symm;have hpb:=hpb m;have hpl:=hpl m;generalize posL l d m=P at *;generalize ndF l d M i=f at *;obtain ⟨g,hg⟩:=Qex (ndF l d M (i+1));rw[<- hg]at sc;refine Qga ?_;simp -implicitDefEqProofs[nd7S,hi,hlm,ia,hB'];refine Ye.of c4 (by simp[AV.pure,isa,na]) ?_;simp -implicitDefEqProofs;refine ⟨rfl,?_⟩;rw[<- hB'];refine Z9H (λq=>ne7S B (hoa h) id d (.vsl (M.map ia)) (.vsl (P.map ia)) (orF f P q) i q) (λ_=>True) P.length ?wk2 trivial ?round2 ?done2
   case wk2 =>
    have e0:orF f P 0=f:=(by funext j;simp[orF]);simp only[ne7S,e0]
    ((try simp only[hB',hho,ia]);refine Ym.sub (by simp[lk,Ya,AV.keys,hB',hho,ia]) ?_;simp only[hB',hho,ia,Wkl,Zky,and_true];(try simp[lk,Yc,Ya,AV.keys,hB',hho,ia]))
   case round2 =>
    intro q hq _;have wq:i64.wrap ((q:Int)+1)=(q:Int)+1:=Yf;obtain ⟨b1,b2⟩:=hpb _ (W0e hq);obtain ⟨n,hn⟩ : ∃ n:Nat,P[q]=(n:Int):=⟨P[q].toNat,by omega⟩;have so:=Zlf (f:=f) hq hn;rw[hn]at b1 b2;have n9:n<9:=(by omega);have n9':(n:Int)<9:=(by omega);have n8:n<=8:=(by omega);have hpu:=Zkx (orF f P q) true n9;rw[<- so]at hpu;simp only[Z4,W2r,W0U,W1e,W18]at hpu;refine Qga ?_;simp -implicitDefEqProofs[ne7S,hq,hn,ia,n9',n9,n8,L9,hpu,wq]
    ((try simp only[hB',hho,ia]);refine Ym.sub (by simp[lk,Ya,AV.keys,hB',hho,ia]) ?_;simp only[hB',hho,ia,Wkl,Zky,and_true];(try simp[lk,Yc,Ya,AV.keys,hB',hho,ia]))
   case done2 =>
    intro _;rw[<- sc];refine Qga ?_;simp -implicitDefEqProofs[ne7S];refine Qgr ?_;simp -implicitDefEqProofs[wi]
    try simp only[nd7S]
    rw[hg]
    ((try simp only[hB',hho,ia]);refine Ym.sub (by simp[lk,Ya,AV.keys,hB',hho,ia]) ?_;simp only[hB',hho,ia,Wkl,Zky,and_true];(try simp[lk,Yc,Ya,AV.keys,hB',hho,ia]))
  intro _;obtain ⟨f,hf⟩:=Qex (ndF l d M M.length);simp only[nd7S];rw[<- hf];refine Qga ?_;simp -implicitDefEqProofs;refine Qgr ?_;simp -implicitDefEqProofs
 all_goals
  clear hf;refine Z9H (λk=>cgS 69 14 15 7 f (k+1)) (λ_=>True) 8 ?_ trivial ?_ ?_
  . have e0:flL 1 f 1=[]:=ZkA (by omega);simp only[cgS,e0,nlV,nlO,if_true]
    (refine Wkc ?_;simp only[Zky,Wkl,and_true];(try simp[lk,Yc,Ya,AV.keys]))
  . intro k' hk' _;have sc:=Zkz (a:=1) (f:=f) (n:=k'+1);have hle:=ZkB 1 f (k'+1);obtain ⟨m',hm⟩:=Qex (k'+1);rw[<- hm]at sc hle;have m9:m'<9:=(by omega);have m9':(m':Int)<9:=(by omega);have m8:m'<=8:=(by omega);have m1:1<=m':=(by omega);have hat:=Zkw f m9;have wm:i64.wrap ((m':Int)+1)=((m'+1:Nat):Int):=Yf;obtain ⟨S,hS⟩:=Qex (flL 1 f m');obtain ⟨T',hT'⟩:=Qex (flL 1 f (m'+1));rw[<- hS]at sc hle;rw[<- hT']at sc;have bb:(S.length+1)*8<=70368744177664:=(by omega);have hw1:cgS 69 14 15 7 f (k'+1)=⟨[(15,.int .i64 m'),(14,nlV 69 S),(7,.ptr 7 0)],(7,.box (fgC f))::nlO 69 S⟩:=(by rw[<- hm,cgS,<- hS]);have hw2:cgS 69 14 15 7 f (k'+1+1)=⟨[(15,.int .i64 (m'+1:Nat)),(14,nlV 69 T'),(7,.ptr 7 0)],(7,.box (fgC f))::nlO 69 T'⟩:=(by rw[<- hm,cgS,<- hT']);by_cases cS:S=[]
    case' pos =>
     have hV:nlV 69 S = .nils:=(by simp[nlV,cS]);have hQ:nlO 69 S=[]:=by simp[nlO,cS]
    case' neg =>
     have hV:nlV 69 S = .osl 69 S.length:=(by simp[nlV,cS]);have hQ:nlO 69 S=[(69,.row 1 (S.map ia))]:=by simp[nlO,cS]
    all_goals
     refine Qga ?_
     cases hf:f m'
     . have e:T'=S:=(by rw[sc,hf];simp);rw[hf]at hat;simp -implicitDefEqProofs[hw1,hV,hQ,m9',m9,m8,hat,wm];rw[hw2,e,hV,hQ]
       (refine Wkc ?_;simp only[Zky,Zf3,Wkl,and_true];(try simp[lk,Yc,Ya,AV.keys]))
     . have e:T'=S++[(m':Int)]:=(by rw[sc,if_pos ⟨m1,hf⟩]);have hne:¬T'=[]:=(by rw[e];simp);have em:T'.map ia=S.map ia++[[.int .i64 m']]:=(by rw[e,W0r];rfl);have eT:T'.length=S.length+1:=(by rw[e];simp);have hV2:nlV 69 T' = .osl 69 (S.length+1):=(by simp[nlV,hne,eT]);have hQ2:nlO 69 T'=[(69,.row 1 (T'.map ia))]:=(by simp[nlO,hne]);rw[hf]at hat;simp -implicitDefEqProofs[hw1,hV,hQ,m9',m9,m8,hat,wm,bb];rw[hw2,hV2,hQ2]
       first
        |(rw[em,cS];(refine Wkc ?_;simp only[Zky,Wkl,and_true];(try simp[lk,Yc,Ya,AV.keys]));done)
        |(rw[<- em];((try simp only[eT]);refine Ym.sub (by simp[lk,Ya,AV.keys,eT]) ?_;simp only[eT,Wkl,Zky,Zf3,and_true];(try simp[lk,Yc,Ya,AV.keys,eT]));done)
  . intro _;obtain ⟨S,hS⟩:=Qex (flL 1 f 9);have hw1:cgS 69 14 15 7 f (8+1)=⟨[(15,.int .i64 (9:Nat)),(14,nlV 69 S),(7,.ptr 7 0)],(7,.box (fgC f))::nlO 69 S⟩:=(by rw[cgS,<- hS]);rw[<- hS];refine Qga ?_;by_cases cS:S=[]
    . have hV:nlV 69 S = .nils:=(by simp[nlV,cS]);have hQ:nlO 69 S=[]:=(by simp[nlO,cS]);simp -implicitDefEqProofs[hw1,hV,hQ];refine Qgr ?_;simp -implicitDefEqProofs[Yg,cS]
    . have hV:nlV 69 S = .osl 69 S.length:=(by simp[nlV,cS]);have hQ:nlO 69 S=[(69,.row 1 (S.map ia))]:=(by simp[nlO,cS]);simp -implicitDefEqProofs[hw1,hV,hQ];refine Qgr ?_;simp -implicitDefEqProofs[Yg,cS,ia]
def cmk (h:Hld) (x:Nte) (q:Nat):List Int:=([x.fr,x.tu+1].take q).filter λc=>inR c h.fr h.to
def Zli {h:Hld} {x:Nte}:cmk h x 2=mk1 h x:=by
 unfold cmk mk1
 cases h1:inR x.fr h.fr h.to <;> cases h2:inR (x.tu+1) h.fr h.to <;> simp[h1,h2]
def npS (O:AV) (id d:Int) (l:Jl) (h:Hld) (i:Nat):St :=
 ⟨[(43,.int .i64 i),(42,.int .i64 l.length),(41,.vsl (l.map na)),(8,.osl 35 (mkL l h i).length),(0,O),(1,.int .i64 id),(2,.int .i64 d),(7,.ptr 7 0)],[(35,.row 1 ((mkL l h i).map ia)),(7,.box (hoa h))]⟩
def npI (O:AV) (id d:Int) (l:Jl) (h:Hld) (x:Nte) (S:List Int) (i q:Nat):St :=
 ⟨[(54,.int .i64 q),(53,.int .i64 2),(52,.vsl ([x.fr,x.tu+1].map ia)),(43,.int .i64 i),(42,.int .i64 l.length),(41,.vsl (l.map na)),(8,.osl 35 (S++cmk h x q).length),(0,O),(1,.int .i64 id),(2,.int .i64 d),(7,.ptr 7 0)],[(35,.row 1 ((S++cmk h x q).map ia)),(7,.box (hoa h))]⟩
def psU (l:Jl) (d:Int) (M:List Int) (k:Nat):List Int:=(M.take k).flatMap λm=>posL l d m
def Zlj {l:Jl} {d:Int} {M:List Int} {k:Nat} (hk:k<M.length):psU l d M (k+1)=psU l d M k++posL l d M[k]:=by
 unfold psU;rw[W08 hk,List.flatMap_append];simp
def Zlk {l:Jl} {d m:Int}:(posL l d m).length<=8:=by
 unfold posL;exact W0O (W0D ..) (W0f _)
def Zll {l:Jl} {d:Int} {M:List Int}:∀ k,(psU l d M k).length<=8*k
 |0=>by simp[psU]
 | k + 1=>by
   have:=Zll (l:=l) (d:=d) (M:=M) k;by_cases hk:k<M.length
   . rw[Zlj hk,W0s];have:=Zlk (l:=l) (d:=d) (m:=M[k]);omega
   . have e:psU l d M (k+1)=psU l d M k:=(by unfold psU;rw[W0J (by omega),W0J (by omega)]);rw[e];omega
def nqS (O:AV) (d:Int) (l:Jl) (M:List Int) (k:Nat):St :=
 ⟨[(73,.int .i64 k),(72,.int .i64 M.length),(71,.vsl (M.map ia)),(13,nlV 90 (psU l d M k)),(0,O),(2,.int .i64 d)],nlO 90 (psU l d M k)⟩
def Zlm (hG:GC G) (hN:GN G) (r:Jr) (l:Jl) (hs:Jh) (ps:Jp) (id d:Int) (hl:WfN l) (hr:Wf r) (hd:Sml (nums r)) (hw:WfP hs ps) (h0:ck7 r l hs ps=0) (hi:0<=hoI hs id) (hdn:d∈nums r) :
  PC prog G 50 [ofA r l hs ps,.int .i64 id,.int .i64 d] (Yg ((ndI l hs id d).map ia)):=by
 have hhl:=hw.hl;have c1:=Ziy (G:=G) r l hs ps id (by unfold Sml;omega);obtain ⟨k,hk,e1,e2⟩:=Zl7 hi;have eN:ndI l hs id d=ndsL l hs[k] d:=(by unfold ndI;rw[e2]);rw[eN];rw[e1]at c1;have hdl:=hw.dl _ (W0e hk);obtain ⟨hb1,hb2,hb3,hb4⟩:=Zl9 h0 (W0e hk);obtain ⟨h,hh⟩:=Qex (hs[k]);rw[<- hh]at hdl hb1 hb2 hb3 hb4 ⊢;have hlk:hs[k]=h:=hh.symm;have hop:=Zj2 (Zj1.1 h0).1;have hB:=Zgg (Zj1.1 h0).1;have h12:=Zgi hB;have c2:=Zfo (G:=G) h.ds d (by unfold Sml;omega);have c3:=λc=>Zis (G:=G) h.fr h.to c
 have c4:=λm=>ZjK hG hN r l d m hl hr hd
 have as0:∀ m∈mks l h,asN r l [] m=0:=λm hm=>by
  obtain ⟨q1,q2⟩:=ZhZ hb2 hm;unfold asN;rw[if_pos (Zj1.1 h0).1,if_pos (by simp[truB]),if_pos (ZhT.2 ⟨by omega,by omega⟩)]
 have hpn:∀ m,posL l d m≠[]:=λm=>Zi0 λv=>Zi5 hop hB hdn m v
 have hml:=Zlc (l:=l) (h:=h) l.length;rw[Zld]at hml;have hho:hoa h=[.int .i64 h.id,.int .i64 h.fr,.int .i64 h.to,.vsl (h.ds.map ia)]:=rfl;have pO:=Zih r l hs ps;have kO:=Zii r l hs ps;have eO:ofA r l hs ps = .vptr [.vsl (r.map isa),.vsl (l.map na),.vsl (hs.map hoa),.vsl (ps.map ptA),.vsl ((nums r).map ia)] 0:=rfl;have hr2:List.range 2=[0,1]:=rfl;have fO:∀ ok st,frz ok st 6 (ofA r l hs ps)=some (ofA r l hs ps):=λok st=>by unfold ofA;simp[frz,AV.keys]
 obtain ⟨O,hO⟩:=Qex (ofA r l hs ps);rw[<- hO]at pO kO eO fO c1 ⊢;clear hO;refine Z6m rfl λR hG' hrd=>?_
 subst hG';refine Qga ?_;simp -implicitDefEqProofs[Z6k,Z6l,eO];rw[<- eO];refine Ye.of c1 (by simp[pO,AV.pure]) ?_;simp -implicitDefEqProofs[hk,hlk,hho];refine ⟨rfl,?_⟩;refine Qco (c2) ?_;by_cases c:d∈h.ds
 case neg =>
  have e:ndsL l h d=[]:=(by unfold ndsL;rw[if_neg (by simpa using c)]);rw[e];simp -implicitDefEqProofs[c,Yg]
 have hset:=Zi2 (l:=l) (h:=h) (d:=d) (by simpa using c);have hnn:ndsL l h d≠[]:=Zi6 hop hB hdn c;simp -implicitDefEqProofs[c,eO];rw[<- eO];refine Z9H (npS O id d l h) (λ_=>True) l.length ?_ trivial ?_ ?_
 . simp only[npS,mkL,W1g,List.flatMap_nil,hho]
   ((try simp only[ia,kO]);refine Ym.sub (by simp[lk,Ya,AV.keys,ia,kO]) ?_;simp only[ia,kO,Wkl,and_true];(try simp[lk,Yc,Ya,AV.keys,ia,kO]))
 . intro i hi _;have wi:i64.wrap ((i:Int)+1)=(i:Int)+1:=Yf;have sc:=Zla (h:=h) hi;have hle:=Zlc (l:=l) (h:=h) i;have hBx:=Zl8 hB (W0e hi);obtain ⟨x,hxe⟩:=Qex (l[i]);rw[<- hxe]at sc hBx;have hlx:l[i]=x:=hxe.symm;have hnx:na x=[.int .i64 x.nu,.int .i64 x.dy,.int .u8 x.sg,.int .i64 x.dr,.int .i64 x.lt,.int .i64 x.fr,.int .i64 x.tu,.int .i64 x.ca,.bool x.up,.int .u8 x.wy]:=rfl;have wt:i64.wrap (x.tu+1)=x.tu+1:=Yf;rw[<- Zli]at sc;obtain ⟨S,hS⟩:=Qex (mkL l h i);obtain ⟨T,hT⟩:=Qex (mkL l h (i+1));rw[<- hS,<- hT]at sc;rw[<- hS]at hle;refine Qga ?_;simp -implicitDefEqProofs[npS,<- hS,hi,hlx,hnx,wt];refine Z9H (npI O id d l h x S i) (λ_=>True) 2 ?_ trivial ?_ ?_
   . simp only[npI,cmk,W1g,List.filter_nil,W1G]
     ((try simp only[ia,hho,kO,hr2]);refine Ym.sub (by simp[lk,Ya,AV.keys,ia,hho,kO,hr2]) ?_;simp only[ia,hho,kO,hr2,Wkl,Zf3,and_true];(try simp[lk,Yc,Ya,AV.keys,ia,hho,kO,hr2]))
   . intro q hq _;have wq:i64.wrap ((q:Int)+1)=(q:Int)+1:=Yf;have hql:q<[x.fr,x.tu+1].length:=hq
     have sq:cmk h x (q+1)=if inR ([x.fr,x.tu+1][q]) h.fr h.to=true then cmk h x q++[[x.fr,x.tu+1][q]] else cmk h x q:=by
      unfold cmk;rw[W08 hql,W1a]
      cases e:inR ([x.fr,x.tu+1][q]) h.fr h.to <;> simp[List.filter_cons,e]
     have hgq:([x.fr,x.tu+1].map ia)[q]? = some [.int .i64 ([x.fr,x.tu+1][q])]:=by
      rw[W09,W07 hql];rfl
     have hlc:(cmk h x q).length<=2:=by
      unfold cmk;exact W0O (W0D ..) (by simp;omega)
     obtain ⟨cc,hcc⟩:=Qex ([x.fr,x.tu+1][q]);rw[<- hcc]at sq hgq;have c3:=c3 cc;obtain ⟨C,hC⟩:=Qex ([x.fr,x.tu+1].map ia);rw[<- hC]at hgq;have hCl:C.length=2:=(by rw[hC];rfl);obtain ⟨g1,g2⟩:=W02.1 hgq;obtain ⟨S1,hS1⟩:=Qex (S++cmk h x q);obtain ⟨T1,hT1⟩:=Qex (S++cmk h x (q+1));have hl1:S1.length<=100:=(by rw[hS1,W0s];omega);have bb:(S1.length+1)*8<=70368744177664:=(by omega);have hw1:npI O id d l h x S i q=⟨[(54,.int .i64 q),(53,.int .i64 2),(52,.vsl C),(43,.int .i64 i),(42,.int .i64 l.length),(41,.vsl (l.map na)),(8,.osl 35 S1.length),(0,O),(1,.int .i64 id),(2,.int .i64 d),(7,.ptr 7 0)],[(35,.row 1 (S1.map ia)),(7,.box (hoa h))]⟩:=(by rw[npI,<- hC,<- hS1]);have hw2:npI O id d l h x S i (q+1)=⟨[(54,.int .i64 (q+1:Nat)),(53,.int .i64 2),(52,.vsl C),(43,.int .i64 i),(42,.int .i64 l.length),(41,.vsl (l.map na)),(8,.osl 35 T1.length),(0,O),(1,.int .i64 id),(2,.int .i64 d),(7,.ptr 7 0)],[(35,.row 1 (T1.map ia)),(7,.box (hoa h))]⟩:=(by rw[npI,<- hC,<- hT1]);have q2':(q:Int)<2:=(by omega);refine Qga ?_;simp -implicitDefEqProofs[hw1,hho,q2',hCl,hq,g2,hgq];refine Qco (c3) ?_
     cases hin:inR cc h.fr h.to
     . rw[hin]at sq;have e:T1=S1:=(by rw[hT1,hS1,sq];simp);simp -implicitDefEqProofs[wq];rw[hw2,e]
       ((try simp only[hho,kO]);refine Ym.sub (by simp[lk,Ya,AV.keys,hho,kO]) ?_;simp only[hho,kO,Wkl,Zf3,and_true];(try simp[lk,Yc,Ya,AV.keys,hho,kO]))
     . rw[hin,if_pos rfl]at sq;have e:T1=S1++[cc]:=(by rw[hT1,hS1,sq,W0U]);have em:T1.map ia=S1.map ia++[[.int .i64 cc]]:=(by rw[e,W0r];rfl);have eT:T1.length=S1.length+1:=(by rw[e];simp);simp -implicitDefEqProofs[wq,bb];rw[hw2,<- em,eT]
       ((try simp only[hho,kO]);refine Ym.sub (by simp[lk,Ya,AV.keys,hho,kO]) ?_;simp only[hho,kO,Wkl,Zf3,and_true];(try simp[lk,Yc,Ya,AV.keys,hho,kO]))
   . intro _;refine Qga ?_;simp -implicitDefEqProofs[npI];refine Qgr ?_;simp -implicitDefEqProofs[wi];have em:T.map ia=S.map ia++(cmk h x 2).map ia:=(by rw[sc,W0r]);have eT:T.length=S.length+(cmk h x 2).length:=(by rw[sc,W0s]);simp only[npS,<- hT];rw[<- em,<- eT]
     ((try simp only[hho,kO]);refine Ym.sub (by simp[lk,Ya,AV.keys,hho,kO]) ?_;simp only[hho,kO,Wkl,Zf3,and_true];(try simp[lk,Yc,Ya,AV.keys,hho,kO]))
 . intro _;rw[<- hset]at hnn ⊢;simp only[npS,Zld];obtain ⟨M,hM⟩:=Qex (mks l h);rw[<- hM]at as0 hml hnn ⊢;have e3:M.flatMap (λm=>posL l d m)=psU l d M M.length:=(by unfold psU;rw[W0v]);rw[e3]at hnn ⊢;refine Qga ?_;simp -implicitDefEqProofs;refine Qgr ?_;simp -implicitDefEqProofs;refine Z9H (nqS O d l M) (λ_=>True) M.length ?_ trivial ?_ ?_
   . have e0:psU l d M 0=[]:=rfl;refine Ym.trans (Ym.frz (λk=>k == 35) _) ?_;simp only[nqS,e0,nlV,nlO,if_true]
     ((try simp only[Yi,frzA,frzO,frz,Yh,Yj,St.get,AV.pure,ia,kO,hho,fO]);refine Ym.sub (by simp[lk,Ya,AV.keys,Yi,frzA,frzO,frz,Yh,Yj,St.get,AV.pure,ia,kO,hho,fO]) ?_;simp only[Yi,frzA,frzO,frz,Yh,Yj,St.get,AV.pure,ia,kO,hho,fO,Wkl,and_true];(try simp[lk,Yc,Ya,AV.keys,Yi,frzA,frzO,frz,Yh,Yj,St.get,AV.pure,ia,kO,hho,fO]))
   . intro q hq _;have wq:i64.wrap ((q:Int)+1)=(q:Int)+1:=Yf;have sc:=Zlj (l:=l) (d:=d) hq;have hle:=Zll (l:=l) (d:=d) (M:=M) q;obtain ⟨m,hm⟩:=Qex (M[q]);have c4:=c4 m;have hs0:=as0 m (by rw[hm];exact W0e hq);unfold poA at c4;rw[if_pos ⟨hs0,hdn⟩,if_pos hs0,if_pos hdn]at c4;rw[<- hm]at sc;have hlm:M[q]=m:=hm.symm;have hpn:=hpn m;have hpl:=Zlk (l:=l) (d:=d) (m:=m);generalize posL l d m=P at *;obtain ⟨S,hS⟩:=Qex (psU l d M q);obtain ⟨T,hT⟩:=Qex (psU l d M (q+1));rw[<- hS]at sc hle;rw[<- hT]at sc;have hw1:nqS O d l M q=⟨[(73,.int .i64 q),(72,.int .i64 M.length),(71,.vsl (M.map ia)),(13,nlV 90 S),(0,O),(2,.int .i64 d)],nlO 90 S⟩:=(by rw[nqS,<- hS]);have hw2:nqS O d l M (q+1)=⟨[(73,.int .i64 (q+1:Nat)),(72,.int .i64 M.length),(71,.vsl (M.map ia)),(13,nlV 90 T),(0,O),(2,.int .i64 d)],nlO 90 T⟩:=(by rw[nqS,<- hT]);have bb:(S.length+P.length)*8<=70368744177664:=(by omega);have bb2:P.length*8<=70368744177664:=(by omega);have hne:¬T=[]:=(by rw[sc];simp[hpn]);have em:T.map ia=S.map ia++P.map ia:=(by rw[sc,W0r]);have eT:T.length=S.length+P.length:=(by rw[sc,W0s]);have hV2:nlV 90 T = .osl 90 T.length:=(by simp[nlV,hne]);have hQ2:nlO 90 T=[(90,.row 1 (T.map ia))]:=(by simp[nlO,hne]);by_cases cS:S=[]
     case' pos =>
      have hV:nlV 90 S = .nils:=(by simp[nlV,cS]);have hQ:nlO 90 S=[]:=by simp[nlO,cS]
     case' neg =>
      have hV:nlV 90 S = .osl 90 S.length:=(by simp[nlV,cS]);have hQ:nlO 90 S=[(90,.row 1 (S.map ia))]:=by simp[nlO,cS]
     all_goals
      refine Qga ?_;simp -implicitDefEqProofs[hw1,hV,hQ,hq,hlm,ia];simp -implicitDefEqProofs[eO];rw[<- eO];refine Yd.of c4 (by simp[AV.pure,isa,na]) ?_;simp -implicitDefEqProofs[hpn,bb,bb2,wq,ia];rw[hw2,hV2,hQ2]
      first
       |(rw[em,cS];((try simp only[ia,kO,eT,cS]);refine Ym.sub (by simp[lk,Ya,AV.keys,ia,kO,eT,cS]) ?_;simp only[ia,kO,eT,cS,Wkl,and_true];(try simp[lk,Yc,Ya,AV.keys,ia,kO,eT,cS]));done)
       |(rw[<- em];((try simp only[kO,eT]);refine Ym.sub (by simp[lk,Ya,AV.keys,kO,eT]) ?_;simp only[kO,eT,Wkl,Zf3,and_true];(try simp[lk,Yc,Ya,AV.keys,kO,eT]));done)
   . intro _;have hle:=Zll (l:=l) (d:=d) (M:=M) M.length;obtain ⟨U,hU⟩:=Qex (psU l d M M.length);rw[<- hU]at hnn hle ⊢;have hw1:nqS O d l M M.length=⟨[(73,.int .i64 M.length),(72,.int .i64 M.length),(71,.vsl (M.map ia)),(13,nlV 90 U),(0,O),(2,.int .i64 d)],nlO 90 U⟩:=(by rw[nqS,<- hU]);obtain ⟨hsp,hcp,hOl,hOt,hOf,kO',rO,hCl⟩:=ZjJ (G:=R.G) U (by omega);have cU:¬U=[]:=λh=>hnn (W1t.2 λx hx=>by have:=ZhQ.1 hx;rw[h]at this;cases this)
     have hV:nlV 90 U = .osl 90 U.length:=(by simp[nlV,cU]);have hQ:nlO 90 U=[(90,.row 1 (U.map ia))]:=(by simp[nlO,cU]);refine Qga ?_;simp -implicitDefEqProofs[hw1,hV,hQ];refine Qgr ?_;simp -implicitDefEqProofs;refine Yd.sem (Z1B.byref hsp (λ_=>90) (by simp) (by simp) (by simp[St.get,lk,Zf2]) (by simp[Zf3]) (by simp[Ya,AV.keys,lk]) rfl (by simp[AV.ren]) rfl rfl) ?_;simp -implicitDefEqProofs[Yl,Zf2];refine Yd.sem (Z1B.byref hcp (λ_=>90) (by simp) (by simp) (by simp[St.get,lk,Zf2]) (by simp[Zf3]) (by simp[Ya,AV.keys,lk]) rfl (by simp[AV.ren]) rfl rfl) ?_;by_cases hq:(setI U).length=U.length
     . have hOf:=hOf hq;rw[hOf]at *;simp -implicitDefEqProofs[Yl,Zf2,hq,AV.ren,ia,Yg,hnn]
     . simp -implicitDefEqProofs[Yl,rO,hq,AV.ren,hOl,hOt,hCl,ia,Yg,hnn]
def siK (l:Jl) (hs:Jh) (day:Int) (ps:Jp) (i:Nat):List Int:=((List.range i).filter λj=>stB l hs day (pAt ps j)).map λ(j:Nat)=>(j:Int)
def Zln {l:Jl} {hs:Jh} {day:Int} {ps:Jp} {i:Nat}:siK l hs day ps (i+1)=if stB l hs day (pAt ps i)=true then siK l hs day ps i++[(i:Int)] else siK l hs day ps i:=by
 unfold siK;rw[W1y,W1a,W0r]
 cases e:stB l hs day (pAt ps i) <;> simp[e]
def Zlo {l:Jl} {hs:Jh} {day:Int} {ps:Jp} {i:Nat}:(siK l hs day ps i).length<=i:=by
 unfold siK;rw[W0N];exact W0O (W0D ..) (by simp)
def Zlp {l:Jl} {hs:Jh} {day:Int} {ps:Jp} {x:Int} (h:x∈siK l hs day ps ps.length):∃ k:Nat,k<ps.length/\x=k:=by
 obtain ⟨k,hk,rfl⟩:=W0i.1 h;exact ⟨k,W1u.1 (W0G.1 hk).1,rfl⟩
def Zlq {l:Jl} {hs:Jh} {day:Int} {ps:Jp}:(siK l hs day ps ps.length).map (λx=>(pAt ps x.toNat))=staL l hs ps day:=by
 unfold siK staL;rw[W10]
 have e:ps=(List.range ps.length).map (pAt ps):=by
  apply W1I
  . simp
  . intro i h1 h2;simp[Zid h1]
 conv=>rhs;rw[e,List.filter_map]
 simp[W0y]
def Zlr {r:Jr} {l:Jl} {hs:Jh} {ps:Jp} (h:ck7 r l hs ps=0) {x:Prt} (hx:x∈ps):0<=hoI hs x.ho/\x.dw∈nums r:=by
 have h2:=(Zif.1 (Zj1.1 h).2).2.2.2 x hx;simp only[prB,W01]at h2;refine ⟨?_,?_⟩
 . have:=hoF_I hs x.ho;rw[h2.1.1.1.2]at this;simpa using this
 . obtain ⟨y,hy⟩:=W0t.1 h2.1.2;obtain ⟨g1,g2,g3⟩:=Zav hy;obtain ⟨j,hj,rfl⟩:=W0k g1;rw[<- g2];exact Zai (Zad (Zi3 (Zj2 (Zj1.1 h).1))) hj
def st7S (B:List AV) (day:Int) (l:Jl) (hs:Jh) (ps:Jp) (i:Nat):St :=
 ⟨[(6,.int .i64 i),(5,nlV 55 (siK l hs day ps i)),(2,.ptr 2 0),(1,.int .i64 day)],(2,.box B)::nlO 55 (siK l hs day ps i)⟩
def Zls (r:Jr) (l:Jl) (hs:Jh) (ps:Jp) (day:Int) (hl:WfN l) (hr:Wf r) (hd:Sml (nums r)) (hw:WfP hs ps) (h0:ck7 r l hs ps=0) :
  PC prog G 27 [prA r l hs ps,.int .i64 day] (Yg ((siK l hs day ps ps.length).map ia)):=by
 have hhl:=hw.hl;have hpl:=hw.pl;have c1:=λx=>Zkp (G:=G) x day
 have c2:=λid=>Zko (G:=G) r l hs ps id (by unfold Sml;omega)
 have c4:=λid d h1 h2=>Zlh (G:=G) r l hs ps id d hl hr hd hw h0 h1 h2
 have c3:=λL n h=>Zkn (G:=G) L n h
 obtain ⟨B,hB'⟩ : ∃ B:List AV,B=[.vsl (r.map isa),.vsl (l.map na),.vsl (hs.map hoa),.vsl (ps.map ptA)]:=⟨_,rfl⟩;unfold prA at *;refine Z5R rfl λR hG hrd=>?_
 subst hG;refine Qga ?_;simp -implicitDefEqProofs[Z5P,Z5Q];rw[<- hB'];refine Z9H (st7S B day l hs ps) (λ_=>True) ps.length ?_ trivial ?_ ?_
 . have e0:siK l hs day ps 0=[]:=rfl;simp only[st7S,e0,nlV,nlO,if_true]
   ((try simp only[hB']);refine Ym.sub (by simp[lk,Ya,AV.keys,hB']) ?_;simp only[hB',Wkl,and_true];(try simp[lk,Yc,Ya,AV.keys,hB']))
 . intro i hi _;have wi:i64.wrap ((i:Int)+1)=(i:Int)+1:=Yf;have sc:=Zln (l:=l) (hs:=hs) (day:=day) (ps:=ps) (i:=i);have hle:=Zlo (l:=l) (hs:=hs) (day:=day) (ps:=ps) (i:=i);rw[Zid hi]at sc;obtain ⟨b1,b2⟩:=Zlr h0 (W0e hi);obtain ⟨x,hxe⟩:=Qex (ps[i]);rw[<- hxe]at sc b1 b2;have hlx:ps[i]=x:=hxe.symm;have hpt:ptA x=[.int .i64 x.no,.int .i64 x.dy,.int .i64 x.ho,.int .i64 x.dw,.int .i64 x.lt,.int .i64 x.bk,.int .u8 x.lo]:=rfl;obtain ⟨k,hk,e1,e2⟩:=Zl7 b1;have c2:=c2 x.ho;have c4:=c4 x.ho x.dw b1 b2;have eN:ndI l hs x.ho x.dw=ndsL l hs[k] x.dw:=(by unfold ndI;rw[e2]);rw[e1]at c2;rw[eN]at c4;have hdl:=hw.dl _ (W0e hk);obtain ⟨h,hh⟩:=Qex (hs[k]);rw[<- hh]at hdl c4 e2;have hlk:hs[k]=h:=hh.symm;have hho:hoa h=[.int .i64 h.id,.int .i64 h.fr,.int .i64 h.to,.vsl (h.ds.map ia)]:=rfl
   have hn8:(ndsL l h x.dw).length<=8:=by
    unfold ndsL
    split
    . exact W0O (W0D ..) (W0f _)
    . simp
   have c5:=c3 h.ds x.dw (by unfold Sml;omega);have c6:=PC.sub (c3 (ndsL l h x.dw) x.lt (by unfold Sml;omega)) (xs:=[Yg ((ndsL l h x.dw).map ia),.int .i64 x.lt]) ⟨.orNil _,.rfl',trivial⟩
   have hst:stB l hs day x=(outB x day&&(decide (x.dw∈h.ds) && !decide (x.lt∈ndsL l h x.dw))):=by
    unfold stB;rw[e2];simp
   rw[hst]at sc;have pV:=Zju (ndsL l h x.dw);obtain ⟨u1,hu1⟩ : ∃ u,u=decide (x.dw∈h.ds):=⟨_,rfl⟩;obtain ⟨u2,hu2⟩ : ∃ u,u=decide (x.lt∈ndsL l h x.dw):=⟨_,rfl⟩;rw[<- hu1]at c5 sc;rw[<- hu2]at c6 sc;generalize Yg ((ndsL l h x.dw).map ia)=V at *;have c1:=c1 x;rw[hpt]at c1;obtain ⟨S,hS⟩:=Qex (siK l hs day ps i);obtain ⟨T,hT⟩:=Qex (siK l hs day ps (i+1));rw[<- hS]at sc hle;rw[<- hT]at sc;have bb:(S.length+1)*8<=70368744177664:=(by omega);have hw1:st7S B day l hs ps i=⟨[(6,.int .i64 i),(5,nlV 55 S),(2,.ptr 2 0),(1,.int .i64 day)],(2,.box B)::nlO 55 S⟩:=(by rw[st7S,<- hS]);have hw2:st7S B day l hs ps (i+1)=⟨[(6,.int .i64 (i+1:Nat)),(5,nlV 55 T),(2,.ptr 2 0),(1,.int .i64 day)],(2,.box B)::nlO 55 T⟩:=(by rw[st7S,<- hT]);obtain ⟨S2,hS2⟩:=Qex (st7S B day l hs ps (i+1));rw[<- hS2]at hw2;have b3:B[3]? = some (.vsl (ps.map ptA)):=(by rw[hB'];rfl);by_cases cS:S=[]
   case' pos =>
    have hV:nlV 55 S = .nils:=(by simp[nlV,cS]);have hQ:nlO 55 S=[]:=by simp[nlO,cS]
   case' neg =>
    have hV:nlV 55 S = .osl 55 S.length:=(by simp[nlV,cS]);have hQ:nlO 55 S=[(55,.row 1 (S.map ia))]:=by simp[nlO,cS]
   all_goals
    refine Qga ?_;simp -implicitDefEqProofs[hw1,hV,hQ,hi,hlx,hpt,b3];refine Ye.of c1 (by simp[AV.pure]) ?_
    cases u0:outB x day
    . have e:T=S:=(by rw[sc,u0];simp);simp -implicitDefEqProofs;refine ⟨rfl,?_⟩;simp -implicitDefEqProofs[wi];rw[<- hS2,hw2,e,hV,hQ]
      ((try simp only[hB',hpt]);refine Ym.sub (by simp[lk,Ya,AV.keys,hB',hpt]) ?_;simp only[hB',hpt,Wkl,Zf3,and_true];(try simp[lk,Yc,Ya,AV.keys,hB',hpt]))
    simp -implicitDefEqProofs[hB'];refine Ye.of c2 (by simp[AV.pure,isa,na,hoa,ptA]) ?_;simp -implicitDefEqProofs[hk,hlk,hho];refine Ye.of c5 (by simp[AV.pure,ia]) ?_
    cases u1
    . have e:T=S:=(by rw[sc,u0];simp);simp -implicitDefEqProofs;refine ⟨rfl,?_⟩;simp -implicitDefEqProofs[wi];rw[<- hB',<- hS2,hw2,e,hV,hQ]
      ((try simp only[hB',hpt]);refine Ym.sub (by simp[lk,Ya,AV.keys,hB',hpt]) ?_;simp only[hB',hpt,Wkl,Zf3,and_true];(try simp[lk,Yc,Ya,AV.keys,hB',hpt]))
    simp -implicitDefEqProofs;refine Ye.of c4 (by simp[AV.pure,isa,na,hoa,ptA]) ?_;simp -implicitDefEqProofs;refine Ye.of c6 (by simp[pV]) ?_
    cases u2
    . have e:T=S++[(i:Int)]:=(by rw[sc,u0];simp);have hne:¬T=[]:=(by rw[e];simp);have em:T.map ia=S.map ia++[[.int .i64 i]]:=(by rw[e,W0r];rfl);have eT:T.length=S.length+1:=(by rw[e];simp);have hV2:nlV 55 T = .osl 55 (S.length+1):=(by simp[nlV,hne,eT]);have hQ2:nlO 55 T=[(55,.row 1 (T.map ia))]:=(by simp[nlO,hne]);simp -implicitDefEqProofs[AV.pure_keys _ pV];refine ⟨rfl,?_⟩;simp -implicitDefEqProofs[wi,bb];rw[<- hB',<- hS2,hw2,hV2,hQ2]
      first
       |(rw[em,cS];((try simp only[hB',hpt]);refine Ym.sub (by simp[lk,Ya,AV.keys,hB',hpt]) ?_;simp only[hB',hpt,Wkl,and_true];(try simp[lk,Yc,Ya,AV.keys,hB',hpt]));done)
       |(rw[<- em];((try simp only[hB',hpt,eT]);refine Ym.sub (by simp[lk,Ya,AV.keys,hB',hpt,eT]) ?_;simp only[hB',hpt,eT,Wkl,Zf3,and_true];(try simp[lk,Yc,Ya,AV.keys,hB',hpt,eT]));done)
    . have e:T=S:=(by rw[sc,u0];simp);simp -implicitDefEqProofs[AV.pure_keys _ pV];refine ⟨rfl,?_⟩;simp -implicitDefEqProofs[wi];rw[<- hB',<- hS2,hw2,e,hV,hQ]
      ((try simp only[hB',hpt]);refine Ym.sub (by simp[lk,Ya,AV.keys,hB',hpt]) ?_;simp only[hB',hpt,Wkl,Zf3,and_true];(try simp[lk,Yc,Ya,AV.keys,hB',hpt]))
 . intro _;obtain ⟨S,hS⟩:=Qex (siK l hs day ps ps.length);rw[<- hS];have b3:B[3]? = some (.vsl (ps.map ptA)):=(by rw[hB'];rfl);refine Qga ?_;by_cases cS:S=[]
   . have hV:nlV 55 S = .nils:=(by simp[nlV,cS]);have hQ:nlO 55 S=[]:=(by simp[nlO,cS]);simp -implicitDefEqProofs[st7S,<- hS,hV,hQ,b3];refine Qgr ?_;simp -implicitDefEqProofs[Yg,cS]
   . have hV:nlV 55 S = .osl 55 S.length:=(by simp[nlV,cS]);have hQ:nlO 55 S=[(55,.row 1 (S.map ia))]:=(by simp[nlO,cS]);simp -implicitDefEqProofs[st7S,<- hS,hV,hQ,b3];refine Qgr ?_;simp -implicitDefEqProofs[Yg,cS,ia]
def rfK (x:Rf):AV:=.agg [.int .i64 x.1,.int .i64 x.2]
def rf_eq (x p:Rf):(KK.ag [.i,.i]).eq (rfK x) (rfK p)=some (decide (x=p)):=by
 obtain ⟨a,b⟩:=x;obtain ⟨e,f⟩:=p;simp only[rfK,KK.eq,eqL,eq1,if_true,W06,W2b]
 congr 1
 by_cases h1:a=e <;> by_cases h2:b=f <;> simp[h1,h2]
def rf_is (x:Rf):(KK.ag [.i,.i]).is (rfK x)=true:=rfl
def addU (l:List Rf) (x:Rf):List Rf:=if x∈l then l else l++[x]
def nd2 (l:Jl) (hs:Jh) (x:Rf):AV:=Yg ((ndI l hs x.1 x.2).map ia)
def mmA (f:Rf->AV) (K:List Rf):List (AV×AV):=K.map λp=>(rfK p,f p)
def Zlt (f:Rf->AV) (x:Rf):∀ l:List Rf,(KK.ag [.i,.i]).find (rfK x) (mmA f l)=some (l.findIdx? λp=>decide (x=p))
 |[]=>rfl
 | p::r=>by
   have ih:=Zlt f x r;have e:mmA f (p::r)=(rfK p,f p)::mmA f r:=rfl;rw[e,KK.find,rf_eq,ih,List.findIdx?_cons];by_cases c:x=p
   . simp[c]
   . simp[c]
def Zlu (f:Rf->AV) (a b:Int) (l:List Rf):(KK.ag [.i,.i]).get (.agg [.int .i64 a,.int .i64 b]) (mmA f l)=some (if (a,b)∈l then some (f (a,b)) else none):=by
 show (KK.ag [.i,.i]).get (rfK (a,b)) (mmA f l)=_;unfold KK.get;rw[if_pos (rf_is (a,b)),Zlt]
 cases q:l.findIdx? λp=>decide ((a,b)=p) with
 | none =>
   rw[W1F]at q;have:(a,b) ∉ l:=λh=>by have:=q _ h;simp at this
   simp[this]
 | some j =>
   rw[W1A]at q;obtain ⟨h1,h2,-⟩:=q;have h4:(a,b)=l[j]:=(by simpa using h2);have h3:(a,b)∈l:=(by rw[h4];exact W0e h1);simp[mmA,h1,h3,<- h4]
def Zlv (f:Rf->AV) (a b:Int) (l:List Rf) (h:(a,b) ∉ l):(KK.ag [.i,.i]).put (.agg [.int .i64 a,.int .i64 b]) (f (a,b)) (mmA f l)=some (mmA f (l++[(a,b)])):=by
 show (KK.ag [.i,.i]).put (rfK (a,b)) (f (a,b)) (mmA f l)=_;unfold KK.put;rw[if_pos (rf_is (a,b)),Zlt]
 have q:(l.findIdx? λp=>decide ((a,b)=p))=none:=by
  rw[W1F];intro y hy;simp;rintro rfl;exact h hy
 rw[q];simp[mmA,rfK]
def Zlw (o:List (Nat×AObj)) {f:Rf->AV} (hf:∀ x,(f x).pure=true) (l:List Rf):Yc o (.mp (mmA f l))=true:=by
 simp only[Yc,W03,mmA,W0i];rintro x ⟨y,-,rfl⟩;simp[rfK,Ya,AV.keys,AV.pure_keys _ (hf y)]
def Zlx (ρ:Nat->Nat) {f:Rf->AV} (hf:∀ x,(f x).pure=true) (l:List Rf):AObj.ren ρ (.mp (mmA f l)) = .mp (mmA f l):=by
 simp[AObj.ren,mmA,rfK,AV.ren,W0y,λx=>AV.ren_pure (ρ:=ρ) (f x) (hf x)]
def Zly (ok:Nat->Bool) (st:St) {f:Rf->AV} (hf:∀ st x,frz ok st 6 (f x)=some (f x)) (l:List Rf):frzO ok st (.mp (mmA f l)) = .mp (mmA f l):=by
 simp[frzO,mmA,rfK,frzA,frz,AV.keys,W0y,hf]
def wB (hs:Jh) (y:Prt):Bool:=match hoF hs y.ho with
 |some h=>decide (y.dw∈h.ds)
 |none=>false
def slB1 (l:Jl) (hs:Jh) (y:Prt):Bool:=wB hs y && !decide (y.lt∈ndI l hs y.ho y.dw)
def kyK (hs:Jh) (L:Jp) (k:Nat):List Rf:=(L.take k).foldl (λa y=>if wB hs y=true then addU a (y.ho,y.dw) else a) []
def Zlz {hs:Jh} {L:Jp} {k:Nat} (h:k<L.length):kyK hs L (k+1)=if wB hs L[k]=true then addU (kyK hs L k) (L[k].ho,L[k].dw) else kyK hs L k:=by
 unfold kyK;rw[W08 h,W1q];rfl
def slK (l:Jl) (hs:Jh) (L:Jp) (k:Nat):List Prt:=(L.take k).filter (slB1 l hs)
def ZlA {l:Jl} {hs:Jh} {L:Jp} {k:Nat} (h:k<L.length):slK l hs L (k+1)=if slB1 l hs L[k]=true then slK l hs L k++[L[k]] else slK l hs L k:=by
 unfold slK;rw[W08 h,W1a]
 cases e:slB1 l hs L[k] <;> simp[e]
def ZlB {l:Jl} {hs:Jh} {L:Jp} {k:Nat}:(slK l hs L k).length<=k:=by
 unfold slK;exact W0O (W0D ..) (by simp;omega)
def ZlC {l:Jl} {hs:Jh} {ps:Jp} {day:Int}:slK l hs (outP ps day) (outP ps day).length=staL l hs ps day:=by
 unfold slK staL outP;rw[W0v,List.filter_filter];refine List.filter_congr λy _=>?_
 unfold stB slB1 wB ndI
 cases hoF hs y.ho with
 |none=>simp
 |some h=>cases outB y day <;> simp
def p7V (k:Nat) (S:Jp):AV:=if S=[] then .nils else .osl k S.length
def p7O (k:Nat) (S:Jp):List (Nat×AObj):=if S=[] then [] else [(k,.row 7 (S.map ptA))]
def p7N (k:Nat) (S:Jp):Nat:=if S=[] then k-1000 else k
def slB (f:Rf->AV) (O:AV) (K:List Rf) (S:Jp):List (Nat×AObj):=[(1002,.box [O]),(1005,.box [.mp 1010]),(1010,.mp (mmA f K)),(1006,.box [p7V 1063 S])]++p7O 1063 S
def slU (f:Rf->AV) (O:AV) (K:List Rf) (S T:Jp):List (Nat×AObj):=[(1002,.box [O]),(1005,.box [.mp 1010]),(1010,.mp (mmA f K)),(1006,.box [p7V (p7N 1063 S) T])]++p7O (p7N 1063 S) T
def ZlD (ρ:Nat->Nat) (L:Jp):AObj.ren ρ (.row 7 (L.map ptA)) = .row 7 (L.map ptA):=by
 simp[AObj.ren,ptA,AV.ren,W0y]
def ZlE (ok:Nat->Bool) (st:St) (n:Nat) (rows:List (List AV)):frzO ok st (.row n rows) = .row n (rows.map λr=>r.map (frzA ok st)):=rfl
def ZlF (ok:Nat->Bool) (st:St) (l:Jp):frzO ok st (.row 7 (l.map ptA)) = .row 7 (l.map ptA):=by
 simp[frzO,ptA,frzA,frz,AV.keys,W0y]
def ZlG (hG:GC G) (hN:GN G) (r:Jr) (l:Jl) (hs:Jh) (ps:Jp) (day:Int) (hl:WfN l) (hr:Wf r) (hd:Sml (nums r)) (hw:WfP hs ps) (h0:ck7 r l hs ps=0) :
  PC prog G 21 [ofA r l hs ps,.int .i64 day] (Yg ((staL l hs ps day).map ptA)):=by
 have hhl:=hw.hl;rw[<- ZlC];have hO:=Zjo (G:=G) r l hs ps day;have hit:=outIt (G:=G) r l hs ps day hw.pl;have eNl:=Zio ps day;have hat:=λk x h=>Zip (ps:=ps) (day:=day) (k:=k) (x:=x) h
 have hL:(outP ps day).length<=41:=W0O (W0D ..) hw.pl;have hLp:∀ x∈outP ps day,x∈ps:=λx hx=>(W0G.1 hx).1
 have c1:=λid=>Ziy (G:=G) r l hs ps id (by unfold Sml;omega)
 have c4:=λid d h1 h2=>Zlm hG hN r l hs ps id d hl hr hd hw h0 h1 h2
 have c3:=λL n h=>Zfo (G:=G) L n h
 have pf:∀ x,(nd2 l hs x).pure=true:=λx=>Zju _
 have ff:∀ (ok:Nat->Bool) st x,frz ok st 6 (nd2 l hs x)=some (nd2 l hs x):=λok st x=>by
  unfold nd2 Yg
  split <;> simp[frz,AV.keys]
 have c4':∀ id d,0<=hoI hs id->d∈nums r->PC prog G 50 [ofA r l hs ps,.int .i64 id,.int .i64 d] (nd2 l hs (id,d)):=c4;clear c4;have pO:=Zih r l hs ps;have kO:=Zii r l hs ps;have rO:=λρ=>AV.ren_pure (ρ:=ρ) (ofA r l hs ps) pO
 have fO:∀ ok st,frz ok st 6 (ofA r l hs ps)=some (ofA r l hs ps):=λok st=>by unfold ofA;simp[frz,AV.keys]
 have hop:=Zj2 (Zj1.1 h0).1;have hB:=Zgg (Zj1.1 h0).1
 have fv:∀ y:Prt,y∈ps->wB hs y=true->nd2 l hs (y.ho,y.dw) = .vsl ((ndI l hs y.ho y.dw).map ia)/\(ndI l hs y.ho y.dw).length<=8/\ndI l hs y.ho y.dw≠[]:=λy hy hwb=>by
  have hb:=(Zlr h0 hy).2;unfold wB at hwb
  cases e:hoF hs y.ho with
  |none=>rw[e]at hwb;cases hwb
  | some h =>
    rw[e]at hwb;have hm:y.dw∈h.ds:=(by simpa using hwb);have en:ndI l hs y.ho y.dw=ndsL l h y.dw:=(by unfold ndI;rw[e]);have hn:=Zi6 (h:=h) hop hB hb hm;refine ⟨?_,?_,?_⟩
    . unfold nd2 Yg;rw[en,if_neg (by simpa using hn)]
    . rw[en];unfold ndsL
      split
      . exact W0O (W0D ..) (W0f _)
      . simp
    . rw[en];exact hn
 have eO:ofA r l hs ps = .vptr [.vsl (r.map isa),.vsl (l.map na),.vsl (hs.map hoa),.vsl (ps.map ptA),.vsl ((nums r).map ia)] 0:=rfl;obtain ⟨f,hf⟩:=Qex (nd2 l hs);rw[<- hf]at pf ff c4' fv;obtain ⟨cs,hOe,hc2⟩ : ∃ cs,ofA r l hs ps = .vptr cs 0/\cs[2]? = some (.vsl (hs.map hoa)):=⟨_,rfl,rfl⟩;rw[hOe]at pO kO rO hO hit;simp only[hOe]at c1 c4' fO ⊢;clear hOe eO;generalize outP ps day=L at *;generalize outE ps day=E at *;refine Z5U rfl λR hG' hrd=>?_
 subst hG';refine Qga ?_;simp -implicitDefEqProofs[Z5S,Z5T];refine Yd.of hO (by simp[pO,AV.pure]) ?_;simp -implicitDefEqProofs
 refine ZiH hrd (by decide) hit (by simp[evA,St.tmp,lk]) (by simp[AV.pure,pO]) (λk=>k == 8||k == 9) (by intro k hk;simp at hk;omega) r1K [(2,.ptr 1002 0),(5,.ptr 1005 0),(6,.ptr 1006 0)]
  (λk=>slB f (.vptr cs 0) (kyK hs L k) (slK l hs L k)) (λk=>slU f (.vptr cs 0) (kyK hs L (k+1)) (slK l hs L k) (slK l hs L (k+1))) (λk=>k<=L.length) (W1f _) ?_ ?_ ?_ ?_ ?_ ?_ ?_ ?_ ?_ ?_ ?_
 . intro k q hq;simp only[slB,p7O]at hq
   split at hq <;> simp at hq
   . rcases hq with rfl|rfl|rfl|rfl <;> simp
   . rcases hq with rfl|rfl|rfl|rfl|rfl <;> simp
 . intro k;simp only[slB,p7O]
   split <;> simp[r1K]
 . intro k;simp only[slU,p7O,p7N]
   split <;> split <;> simp[r1K]
 . intro k q hq
   have hne:slK l hs L (k+1)=[]->slK l hs L k=[]:=λh=>by
    by_cases c:k<L.length
    . rw[ZlA c]at h
      split at h
      . simp at h
      . exact h
    . unfold slK at *;rw[W0J (by omega)]at h ⊢;exact h
   simp only[slB,slU,p7O,p7N]at *;by_cases c:slK l hs L k=[]
   . simp only[c,if_true]at *
     split <;> simp at hq ⊢ <;> rcases hq with rfl|rfl|rfl|rfl <;> simp[isK,lk]
   . have c2:¬slK l hs L (k+1)=[]:=λh=>c (hne h)
     simp only[c,c2,if_false]at *;simp at hq ⊢;rcases hq with rfl|rfl|rfl|rfl|rfl <;> simp[isK,lk]
 . intro k q hq;simp only[slB,slU,p7O,p7N]at *;by_cases c:slK l hs L k=[]
   . simp only[c,if_true]at *
     split at hq <;> simp at hq
     . rcases hq with rfl|rfl|rfl|rfl <;> exact .inl (by simp[isK,lk])
     . rcases hq with rfl|rfl|rfl|rfl|rfl
       . exact .inl (by simp[isK,lk])
       . exact .inl (by simp[isK,lk])
       . exact .inl (by simp[isK,lk])
       . exact .inl (by simp[isK,lk])
       . exact .inr (by simp[Yl,r1K,St.get,St.set,putO,lk])
   . simp only[c,if_false]at *
     split at hq <;> simp at hq
     . rcases hq with rfl|rfl|rfl|rfl <;> exact .inl (by simp[isK,lk])
     . rcases hq with rfl|rfl|rfl|rfl|rfl <;> exact .inl (by simp[isK,lk])
 . intro k
   have hne:slK l hs L (k+1)=[]->slK l hs L k=[]:=λh=>by
    by_cases c:k<L.length
    . rw[ZlA c]at h
      split at h
      . simp at h
      . exact h
    . unfold slK at *;rw[W0J (by omega)]at h ⊢;exact h
   simp only[slB,slU,p7O,p7V,p7N];by_cases c:slK l hs L k=[] <;> by_cases c2:slK l hs L (k+1)=[]
   . simp[c,c2,Yl,r1K,AV.ren,Zgx,Zlx _ pf]
   . simp[c,c2,Yl,r1K,AV.ren,Zgx,ZlD,Zlx _ pf]
   . exact absurd (hne c2) c
   . simp[c,c2,Yl,r1K,AV.ren,Zgx,ZlD,Zlx _ pf]
 . have e0:slK l hs L 0=[]:=rfl;have e1:kyK hs L 0=[]:=rfl;have e2:mmA f []=[]:=rfl;simp[slB,p7O,p7V,e0,e1,e2,Yl,r1K,St.set,putO,AObj.ren,AV.ren,rO]
 . intro k q hq;simp only[slB,W0h]at hq;rcases hq with hq|hq
   . simp only[slB,p7O];simp at hq;rcases hq with rfl|rfl|rfl|rfl
     . simp[Yc,Ya,kO]
     . simp[Yc,Ya,AV.keys,lk]
     . exact Zlw _ pf _
     . unfold p7V
       split <;> simp[Yc,Ya,AV.keys,lk]
   . unfold p7O at hq
     split at hq
     . cases hq
     . rw[W0B]at hq;subst hq;exact Zl1 _ _
 . intro q hq;simp at hq;rcases hq with rfl|rfl|rfl
   all_goals
    refine ⟨by simp[lk,AV.ren,r1K],by simp,by simp,λj k hk=>?_⟩;simp[AV.keys]at hk;subst hk;simp only[slB];simp[isK,lk]
 . intro k x hx hk R' hG1 hN1;obtain ⟨i,hkl,rfl⟩:=hat k x hx;have sc:=ZlA (l:=l) (hs:=hs) hkl;have kc:=Zlz (hs:=hs) hkl;have hle:=ZlB (l:=l) (hs:=hs) (L:=L) (k:=k);have hyp:=hLp _ (W0e hkl);obtain ⟨b1,b2⟩:=Zlr h0 hyp;have fv:=fv _ hyp;obtain ⟨y,hy⟩:=Qex (L[k]);rw[<- hy]at sc kc b1 b2 fv ⊢;have hpt:ptA y=[.int .i64 y.no,.int .i64 y.dy,.int .i64 y.ho,.int .i64 y.dw,.int .i64 y.lt,.int .i64 y.bk,.int .u8 y.lo]:=rfl;obtain ⟨k2,hk2,e1,e2⟩:=Zl7 b1;have c1:=c1 y.ho;rw[e1]at c1;have c4:=c4' y.ho y.dw b1 b2;have hdl:=hw.dl _ (W0e hk2);obtain ⟨h,hh⟩:=Qex (hs[k2]);rw[<- hh]at hdl e2;have hlk:hs[k2]=h:=hh.symm;have hho:hoa h=[.int .i64 h.id,.int .i64 h.fr,.int .i64 h.to,.vsl (h.ds.map ia)]:=rfl;have c5:=c3 h.ds y.dw (by unfold Sml;omega);have hwb:wB hs y=decide (y.dw∈h.ds):=(by unfold wB;rw[e2]);obtain ⟨u1,hu1⟩ : ∃ u,u=decide (y.dw∈h.ds):=⟨_,rfl⟩;rw[<- hu1]at c5 hwb;unfold slB1 at sc;rw[hwb]at sc kc fv;obtain ⟨N,hNe⟩:=Qex (ndI l hs y.ho y.dw);rw[<- hNe]at sc fv;generalize kyK hs L k=K at *;generalize kyK hs L (k+1)=K' at *;generalize slK l hs L k=S at *;generalize slK l hs L (k+1)=T at *;have bb:(S.length+1)*56<=70368744177664:=(by omega);by_cases cS:S=[]
   case' pos =>
    have hV:p7V 1063 S = .nils:=(by simp[p7V,cS]);have hQ:p7O 1063 S=[]:=(by simp[p7O,cS]);have hM:p7N 1063 S=63:=by simp[p7N,cS]
   case' neg =>
    have hV:p7V 1063 S = .osl 1063 S.length:=(by simp[p7V,cS]);have hQ:p7O 1063 S=[(1063,.row 7 (S.map ptA))]:=(by simp[p7O,cS]);have hM:p7N 1063 S=1063:=by simp[p7N,cS]
   all_goals
    refine Qga ?_;simp only[slB,hV,hQ,W1e,W18];simp -implicitDefEqProofs[hpt];intro R'' hG2 hN2;refine Qga ?_;simp -implicitDefEqProofs[hpt,hc2,hG2];refine Ye.of c1 (by simp[pO,AV.pure]) ?_;simp -implicitDefEqProofs[hk2,hlk,hho];refine Ye.of c5 (by simp[AV.pure,ia]) ?_
    cases u1
    case false =>
     have kc:K'=K:=kc;have sc:T=S:=(by rw[sc];simp);simp -implicitDefEqProofs;refine ⟨rfl,?_⟩;refine ⟨?_,by omega⟩;simp only[slU,hM,kc,sc];simp[p7V,p7O,cS,Yi,ZfM,ZlF,Zly _ _ (ff _),frzA,frz,AV.keys,fO]
    obtain ⟨fv1,fv2,fv3⟩:=fv rfl;have c6:=c3 N y.lt (by unfold Sml;omega);obtain ⟨u2,hu2⟩ : ∃ u,u=decide (y.lt∈N):=⟨_,rfl⟩;rw[<- hu2]at c6 sc;simp -implicitDefEqProofs;refine ⟨rfl,?_⟩;by_cases c:(y.ho,y.dw)∈K
    . have kc:K'=K:=(by rw[kc];simp[addU,c]);simp -implicitDefEqProofs[hpt,Zlu,c,fv1,fv3,hG2];refine Ye.of c6 (by simp[AV.pure,ia]) ?_
      cases u2
      . have sc:T=S++[y]:=(by rw[sc];simp);have hne:¬T=[]:=(by rw[sc];simp);have hTl:T.length=S.length+1:=(by rw[sc];simp);have em:T.map ptA=S.map ptA++[ptA y]:=(by rw[sc,W0r];rfl);simp -implicitDefEqProofs;refine ⟨rfl,?_⟩
        try simp -implicitDefEqProofs[bb]
        refine ⟨?_,by omega⟩;simp only[slU,hM,kc,p7V,p7O,hne,if_false,hTl,em];simp[cS,Yi,ZfM,ZlE,Zly _ _ (ff _),frzA,frz,AV.keys,fO,ptA,W0y]
      . have sc:T=S:=(by rw[sc];simp);simp -implicitDefEqProofs;refine ⟨rfl,?_⟩;refine ⟨?_,by omega⟩;simp only[slU,hM,kc,sc];simp[p7V,p7O,cS,Yi,ZfM,ZlF,Zly _ _ (ff _),frzA,frz,AV.keys,fO]
    . have kc:K'=K++[(y.ho,y.dw)]:=(by rw[kc];simp[addU,c]);have hin:(y.ho,y.dw)∈K++[(y.ho,y.dw)]:=(by simp);simp -implicitDefEqProofs[hpt,Zlu,c,hG2];refine Ye.of c4 (by simp[pO,AV.pure]) ?_;simp -implicitDefEqProofs[Zlv f _ _ K c];refine ⟨rfl,?_⟩;simp -implicitDefEqProofs[hpt,Zlu,hin,fv1,hG2];refine Ye.of c6 (by simp[AV.pure,ia]) ?_
      cases u2
      . have sc:T=S++[y]:=(by rw[sc];simp);have hne:¬T=[]:=(by rw[sc];simp);have hTl:T.length=S.length+1:=(by rw[sc];simp);have em:T.map ptA=S.map ptA++[ptA y]:=(by rw[sc,W0r];rfl);simp -implicitDefEqProofs;refine ⟨rfl,?_⟩
        try simp -implicitDefEqProofs[bb]
        refine ⟨?_,by omega⟩;simp only[slU,hM,kc,p7V,p7O,hne,if_false,hTl,em];simp[cS,Yi,ZfM,ZlE,Zly _ _ (ff _),frzA,frz,AV.keys,fO,ptA,W0y]
      . have sc:T=S:=(by rw[sc];simp);simp -implicitDefEqProofs;refine ⟨rfl,?_⟩;refine ⟨?_,by omega⟩;simp only[slU,hM,kc,sc];simp[p7V,p7O,cS,Yi,ZfM,ZlF,Zly _ _ (ff _),frzA,frz,AV.keys,fO]
 . intro _;rw[eNl];generalize kyK hs L L.length=K at *;generalize slK l hs L L.length=S at *;by_cases cS:S=[]
   . simp -implicitDefEqProofs[slB,p7V,p7O,cS,Yl,r1K,AV.ren,Zgx,Zlx _ pf,rO];refine Qgr ?_;simp -implicitDefEqProofs[Yg]
   . simp -implicitDefEqProofs[slB,p7V,p7O,cS,Yl,r1K,AV.ren,Zgx,Zlx _ pf,rO,ZlD];refine Qgr ?_;simp -implicitDefEqProofs[Yg,cS,ptA]
def ZlH {x y:Prt}:(decide (x.no=y.no)&&(decide (x.dy=y.dy)&&(decide (x.ho=y.ho)&&(decide (x.dw=y.dw)&&(decide (x.lt=y.lt)&&(decide (x.bk=y.bk)&&decide (x.lo=y.lo)))))))=decide (x=y):=by
 cases x;cases y
 rw[W2g];simp
def ZlI (x:Prt) (l:Jp) (hl:Sml l):PC prog G 22 [.vsl (l.map ptA),.agg (ptA x)] (.int .i64 (fstOf (λy=>decide (x=y)) l)):=by
 unfold Sml at hl;have hpx:ptA x=[.int .i64 x.no,.int .i64 x.dy,.int .i64 x.ho,.int .i64 x.dw,.int .i64 x.lt,.int .i64 x.bk,.int .u8 x.lo]:=rfl;refine Z5q rfl λR hG hrd=>?_
 subst hG;refine Qga ?_;simp -implicitDefEqProofs[Z5o,Z5p];refine Z9H (λi=>⟨[(8,.int .i64 i),(7,.int .i64 l.length),(0,.vsl (l.map ptA)),(3,.ptr 3 0)],[(3,.box (ptA x))]⟩) (λi=>∀ j (h:j<l.length),j<i->decide (x=l[j])=false) l.length ?_ (by simp) ?_ ?_
 . ((try simp only[hpx]);refine Ym.sub (by simp[lk,Ya,AV.keys,hpx]) ?_;simp only[hpx,Wkl,and_true];(try simp[lk,Yc,Ya,AV.keys,hpx]))
 . intro i hi he;have w1:i64.wrap ((i:Int)+1)=((i+1:Nat):Int):=Yf;obtain ⟨y,hy⟩:=Qex (l[i]);have hly:l[i]=y:=hy.symm;have hpy:ptA y=[.int .i64 y.no,.int .i64 y.dy,.int .i64 y.ho,.int .i64 y.dw,.int .i64 y.lt,.int .i64 y.bk,.int .u8 y.lo]:=rfl;have hpi:=ZlH (x:=x) (y:=y);refine Qga ?_;simp -implicitDefEqProofs[hi,hly,hpx,hpy,eqL,eq1];refine ⟨rfl,?_⟩;rw[hpi];by_cases e:x=y
   . have hf:fstOf (λy=>decide (x=y)) l=i:=Zay hi (by simp[hly,e]) he;rw[W0M e];simp -implicitDefEqProofs;refine Qgr ?_;simp -implicitDefEqProofs[hf]
   . rw[W0S e];simp -implicitDefEqProofs[w1];refine ⟨?_,λj q1 q2=>?_⟩
     . ((try simp only[hpx]);refine Ym.sub (by simp[lk,Ya,AV.keys,hpx]) ?_;simp only[hpx,Wkl,and_true];(try simp[lk,Yc,Ya,AV.keys,hpx]))
     . by_cases e2:j=i
       . subst e2;rw[hly];exact e
       . exact of_decide_eq_false (he j q1 (by omega))
 . intro he;refine Qga ?_;simp -implicitDefEqProofs;refine Qgr ?_;simp -implicitDefEqProofs[Zaz (p:=λy=>decide (x=y)) (l:=l) (λj hj=>he j hj hj)]
def cmN (a b:Int):Int:=if a<b then -1 else if b<a then 1 else 0
def ZlJ (z:Prt) (n:Int):PC prog G 30 [.agg (ptA z),.int .i64 n] (.int .i64 (cmN z.no n)):=by
 have c:=Zbe (G:=G) z.no n
 (refine Z5I rfl λR hG hrd=>Qga ?_;subst hG)
 simp -implicitDefEqProofs[Z5G,Z5H,ptA];unfold cmN;refine Qco (c) ?_;simp -implicitDefEqProofs
def ZlK (r:Jr) (l:Jl) (hs:Jh) (ps:Jp) (d:Int) (hd:Sml (nums r)):PC prog G 17 [.int .i64 d,.vptr [ofA r l hs ps] 0] (.bool (!decide (d∈nums r))):=by
 have c:=Zfo (G:=G) (nums r) d hd;have eO:ofA r l hs ps = .vptr [.vsl (r.map isa),.vsl (l.map na),.vsl (hs.map hoa),.vsl (ps.map ptA),.vsl ((nums r).map ia)] 0:=rfl;rw[eO]
 (refine Z5w rfl λR hG hrd=>Qga ?_;subst hG)
 simp -implicitDefEqProofs[Z5u,Z5v];refine Qco (c) ?_;simp -implicitDefEqProofs
def ZlL {l:Jp} (h:riP l) {i j:Nat} (hij:i<j) (hj:j<l.length):(l[i]'(by omega)).no<l[j].no:=W0Y.1 h i j (by omega) hj hij
def bsB (l:Jp) (x:Prt):Bool:=match l[plP l x]? with|some y=>decide (y.no=x.no)|none=>false
def ZlM (a b:Int):decide (cmN a b<0)=decide (a<b):=by unfold cmN;split <;> (try split) <;> simp_all
def ZlN (a b:Int):decide (cmN a b=0)=decide (a=b):=by unfold cmN;split <;> (try split) <;> simp_all <;> omega
def ZlO (g:Nat) (x:Prt) (l:Jp) (hl:Sml l) (hr:riP l) (hg:∀ z∈l,PC prog G g [.agg (ptA z),.int .i64 x.no] (.int .i64 (cmN z.no x.no))) :
  PC prog G 29 [.vsl (l.map ptA),.int .i64 x.no,.func (.func g) [] []] (.tup [.int .i64 (plP l x),.bool (bsB l x)]):=by
 unfold Sml at hl;have hpl:=λz:Prt=>show ptA z=[.int .i64 z.no,.int .i64 z.dy,.int .i64 z.ho,.int .i64 z.dw,.int .i64 z.lt,.int .i64 z.bk,.int .u8 z.lo] from rfl
 (refine Z5L rfl λR hG hrd=>Qga ?_;subst hG)
 simp -implicitDefEqProofs[Z5J,Z5K]
 refine Z1Q (λp:Nat×Nat=>⟨[(10,.int .i64 p.2),(9,.int .i64 p.1),(8,.int .i64 l.length),(0,.vsl (l.map ptA)),(1,.int .i64 x.no),(2,.func (.func g) [] [])],[]⟩)
  (λp=>p.1<=p.2/\p.2<=l.length/\(∀ y∈l.take p.1,y.no<x.no)/\∀ y∈l.drop p.2,x.no<=y.no) (λp=>p.2-p.1) (0,l.length) ?_ ⟨W1f _,W0f _,by simp,by simp⟩ ?_
 . (first|exact Wka|exact Wkb)
 rintro ⟨a,b⟩ ⟨hab,hbl,h1,h2⟩;dsimp only at hab hbl h1 h2;refine Qga ?_;by_cases hlt:a<b
 . obtain ⟨m,hm⟩:=Qex ((a+b) / 2);have w1:i64.wrap ((a:Int)+b)=(a:Int)+b:=Yf;have w2:IntKind.u64.wrap ((a:Int)+b)=(a:Int)+b:=by rw[IntKind.wrap_u64];omega
   have w3:((a:Int)+b).fdiv (2 ^ min 1 IntKind.u64.bits)=(m:Int):=by
    rw[show (2:Int) ^ min 1 IntKind.u64.bits=2 from rfl,Int.fdiv_eq_ediv_of_nonneg _ (by omega)];omega
   have w4:i64.wrap (m:Int)=(m:Int):=Yf;have w5:i64.wrap ((m:Int)+1)=((m+1:Nat):Int):=Yf;have hml:m<l.length:=(by omega);obtain ⟨z,hz⟩:=Qex (l[m]);have hlz:l[m]=z:=hz.symm;have hgz:=hg z (by rw[hz];exact W0e hml);rw[hpl]at hgz;simp -implicitDefEqProofs[hlt,w1,w2,w3,w4,hml,hlz,hpl];refine Yd.of hgz (by simp[AV.pure]) ?_;by_cases c:z.no<x.no
   . simp -implicitDefEqProofs[ZlM,c,w5];refine ⟨(m+1,b),?_,⟨by dsimp only;omega,hbl,?_,h2⟩,by dsimp only;omega⟩
     . (first|exact Wka|exact Wkb)
     . intro y hy;obtain ⟨j,hj,rfl⟩:=W0k hy;rw[W1V];have hj2:j<m+1:=(by simp at hj;omega);by_cases e:j=m
       . subst e;rw[hlz];exact c
       . have:=ZlL hr (i:=j) (j:=m) (by omega) hml;rw[hlz]at this;omega
   . simp -implicitDefEqProofs[ZlM,c];refine ⟨(a,m),?_,⟨by dsimp only;omega,by dsimp only;omega,h1,?_⟩,by dsimp only;omega⟩
     . (first|exact Wka|exact Wkb)
     . intro y hy;dsimp only at hy;obtain ⟨j,hj,rfl⟩:=W0k hy;rw[List.getElem_drop];have hj2:m+j<l.length:=(by simp at hj;omega);by_cases e:j=0
       . subst e;simp only[W1X,hlz];omega
       . have:=ZlL hr (i:=m) (j:=m+j) (by omega) hj2;rw[hlz]at this;omega
 . have eab:a=b:=(by omega);subst eab;have hp:plP l x=a:=Zia hr hbl h1 h2;by_cases c:a<l.length
   . obtain ⟨z,hz⟩:=Qex (l[a]);have hlz:l[a]=z:=hz.symm;have hgz:=hg z (by rw[hz];exact W0e c);rw[hpl]at hgz;have hb:bsB l x=decide (z.no=x.no):=(by unfold bsB;rw[hp,W07 c,hlz]);rw[hp,hb];simp -implicitDefEqProofs[hlt];refine Qgr ?_;simp -implicitDefEqProofs[c,hlz,hpl];refine Yd.of hgz (by simp[AV.pure]) ?_;simp -implicitDefEqProofs[ZlN]
   . have hb:bsB l x=false:=(by unfold bsB;rw[hp,W24 (by omega)]);rw[hp,hb];simp -implicitDefEqProofs[hlt];refine Qgr ?_;simp -implicitDefEqProofs[c]
def ocF (v:Nat):Int:=((List.range 8).filter λi=>v.testBit i).length
def ZlP:∀ v,v<256->(ocF v=0↔v=0):=by decide +kernel
def ZlQ:∀ v,v<256->0<=ocF v/\ocF v<=8:=by decide +kernel
def ZlR:∀ v,v<256->PC prog G 20 [.int .u64 (v:Nat)] (.int .i64 (ocF v)):=by
 intro v hv
 (refine Z5t rfl λR hG hrd=>Qga ?_;subst hG)
 simp -implicitDefEqProofs[Z5r,Z5s];clear hrd
 revert v
 decide +kernel
section
open Qq Go.Proofs.Tryz
end
section
open Qq Go.Proofs.Tryz
def ZlS:RCode :=
 S [r 0 [n 2 .nils],S [r 1 [m 3 0,w 4 (.vop (.eqn false) [(.t 3),(.c .nils)])],K 4 2 [n 2 .nils]],r 3 [w 5 (.bsl true 7 0 [] []),m 6 0,w 7 (.app 7 56 (.t 5) (.t 6)),m 2 7],.ret]
def ZlT:List RRes:=[.t 2]
end
def ZlU (l:Jp) (hne:l≠[]) (hl:Sml l):PB prog G 45 [] [.vsl (l.map ptA)] (.osl 5 l.length) [(5,.row 7 (l.map ptA))]:=by
 refine Z5j (λk=>decide (k<1000) && !(k == 5)) (by intro k hk;simp at hk;omega) Tryz.func45 rfl (by kernel_rfl) (rc:=ZlS) (by kernel_rfl) (rs:=ZlT) (by kernel_rfl) (W0C rfl) λR _ hG hrd=>Qga ?_
 subst hG;unfold Sml at hl;have b1:l.length*56<=70368744177664:=(by omega);have h0:¬l.length=0:=λe=>hne (W0l.1 e)
 have k1:(l.map ptA).all (λr=>r.length == 7)=true:=(by simp[ptA]);have k2:(l.map ptA).all (λr=>r.all AV.one)=true:=(by simp[ptA,AV.one]);simp -implicitDefEqProofs[ZlS,ZlT,h0,hne,b1,k1,k2];simp -implicitDefEqProofs[FinO,Yi,ZlF,frzA,frz,AV.keys]
def Nsub.vptr {xs ys:List AV} {off:Nat} (h:NsubL xs ys):Nsub (.vptr xs off) (.vptr ys off):=λM W u hu=>by
 cases hu with
 | vptr _ _ b o f hb hM hc hr =>
   refine .vptr ys off b o f hb hM (λj hj=>hc j (by rw[h.len];exact hj)) λj y hy=>?_
   obtain ⟨x,h2,h3⟩:=h.at j y hy;exact h3 _ _ _ (hr j x h2)
def IterG.sub {P:Program} {G:Jg} {gf:Nat} {caps caps' els:List AV} (h:IterG P G gf caps els) (hs:NsubL caps' caps):IterG P G gf caps' els :=
 ⟨h.1,λn l lb J K M W h0 h1 h2 h3 h4 hc=>h.2 n l lb J K M W h0 h1 h2 h3 h4 ⟨hc.1.trans hs.len,λi y u hi hu=>by
  obtain ⟨x,g1,g2⟩:=hs.at i y hi;exact g2 _ _ _ (hc.2 i x u g1 hu)⟩⟩
structure VisD (n:Nat) where
 D:List Nat
 nd:D.Nodup
 bd:∀ i∈D,i<n
def VisD.has {n:Nat} (D:VisD n) (j:Nat):Bool:=D.D.contains j
def ZlV:PC prog G 45 [.nils] .nils:=by
 refine PC_of Tryz.func45 rfl (by kernel_rfl) (rc:=ZlS) (by kernel_rfl) (rs:=ZlT) (by kernel_rfl) (W0C rfl) λR _ hG hrd=>Qga ?_
 subst hG;simp -implicitDefEqProofs[ZlS,ZlT]
section
open Qq Go.Proofs.Tryz
def ZlW:RCode :=
 S [r 0 [n 2 .nils],S [r 1 [m 3 0,w 4 (.vop (.eqn false) [(.t 3),(.c .nils)])],K 4 2 [n 2 .nils]],r 3 [w 5 (.bsl true 10 0 [] []),m 6 0,w 7 (.app 10 72 (.t 5) (.t 6)),m 2 7],.ret]
def ZlX:List RRes:=[.t 2]
def ZlY:PCt prog 44 f44 ZlW ZlX:=pcT func44 rfl
end
def ZlZ (l:Jl):((l.map na).all λr=>r.all AV.pure)=true:=by simp[na,AV.pure]
def Zm0 (l:List (Int×Int)) (hl:Sml l):PC prog G 46 [.vsl (l.map ita)] (.vsl (l.map ita)):=by
 by_cases hne:l=[]
 . subst hne;exact ZbR
 unfold Sml at hl;have b1:l.length*16<=70368744177664:=(by omega);have h0:¬l.length=0:=λe=>hne (W0l.1 e)
 have k1:(l.map ita).all (λr=>r.length == 2)=true:=(by simp[ita]);have k2:(l.map ita).all (λr=>r.all AV.one)=true:=(by simp[ita,AV.one]);have k5:(l.map ita).all (λr=>r.all AV.pure)=true:=by simp[ita,AV.pure]
 (refine Z8D rfl λR hG hrd=>Qga ?_;subst hG)
 simp -implicitDefEqProofs[Z8B,Z8C,h0,hne,b1,k1,k2,k5]
def Zm1 (l:List Dm) (hl:Sml l):PC prog G 47 [.vsl (l.map dma)] (.vsl (l.map dma)):=by
 by_cases hne:l=[]
 . subst hne;exact ZbS
 unfold Sml at hl;have b1:l.length*24<=70368744177664:=(by omega);have h0:¬l.length=0:=λe=>hne (W0l.1 e)
 have k1:(l.map dma).all (λr=>r.length == 3)=true:=(by simp[dma]);have k2:(l.map dma).all (λr=>r.all AV.one)=true:=(by simp[dma,AV.one]);have k5:(l.map dma).all (λr=>r.all AV.pure)=true:=by simp[dma,AV.pure]
 (refine Z8G rfl λR hG hrd=>Qga ?_;subst hG)
 simp -implicitDefEqProofs[Z8E,Z8F,h0,hne,b1,k1,k2,k5]
def rwI (r:Jr) (i:Nat):List (List AV):=(r.take i).map isa
def Zm2 {r:Jr} {i:Nat} (h:i<r.length):rwI r (i+1)=rwI r i++[isa r[i]]:=by
 unfold rwI;rw[W08 h,W0r];rfl
def Zm3 {r:Jr} {i:Nat} (h:i<=r.length):(rwI r i).length=i:=by simp[rwI];omega
def Zm4 (o:List (Nat×AObj)) (r:Jr) (i:Nat):Yc o (.row 5 (rwI r i))=true:=by
 simp only[Yc,W03,rwI,W0i];rintro x ⟨y,-,rfl⟩ v hv;simp only[isa,W0g,W0Q,or_false]at hv;rcases hv with rfl|rfl|rfl|rfl|rfl <;> simp[Ya,AV.keys]
def coK:Nat->Bool:=λk=>decide (k<1000) && !(k == 621)
def coV (i:Nat):AV:=if i=0 then .nils else .osl 49 i
def coO (r:Jr) (i:Nat):List (Nat×AObj):=if i=0 then [] else [(49,.row 5 (rwI r i))]
def coS (O:AV) (B:List (List AV)) (ps:Jp) (r:Jr) (i:Nat):St :=
 ⟨[(31,.int .i64 i),(30,.int .i64 r.length),(29,.vsl (r.map isa)),(3,.ptr 3 0),(2,.ptr 2 0),(0,O)],coO r i++[(3,.box [coV i,.vsl B,.nils,.osl 621 ps.length]),(621,.row 7 (ps.map ptA)),(2,.box [.nils,.nils,.nils,.nils])]⟩
def coT (O:AV) (B:List (List AV)) (ps:Jp) (r:Jr) (hs H:Jh) (i:Nat):St :=
 ⟨[(60,.int .i64 i),(59,.int .i64 hs.length),(58,.vsl (hs.map hoa)),(3,.ptr 3 0),(2,.ptr 2 0),(0,O)],[(3,.box [.vsl (r.map isa),.vsl B,hlV 72 H,.osl 621 ps.length]),(621,.row 7 (ps.map ptA)),(2,.box [.nils,.nils,.nils,.nils])]++hlO 72 H⟩
def Zm5:PC prog G 44 [.vsl []] (.vsl []):=by
 refine ZbK Tryz.func44 rfl (by kernel_rfl) (rc:=ZlW) (by kernel_rfl) (rs:=ZlX) (by kernel_rfl) (W0C rfl) λR _ hG hrd=>Qga ?_
 simp -implicitDefEqProofs[ZlW,ZlX,FinZ,nz]
def Zm6 (l:Jl) (hl:Sml l):PC prog G 44 [.vsl (l.map na)] (.vsl (l.map na)):=by
 by_cases hne:l=[]
 . subst hne;exact Zm5
 unfold Sml at hl;have b1:l.length*72<=70368744177664:=(by omega);have h0:¬l.length=0:=λe=>hne (W0l.1 e)
 have k1:(l.map na).all (λr=>r.length == 10)=true:=(by simp[na]);have k2:(l.map na).all (λr=>r.all AV.one)=true:=(by simp[na,AV.one]);have k5:=ZlZ l
 (refine ZlY rfl λR hG hrd=>Qga ?_;subst hG)
 simp -implicitDefEqProofs[ZlW,ZlX,h0,hne,b1,k1,k2,k5]
def Zm7:PC prog G 48 [.vsl []] (.vsl []):=by
 refine ZbK Tryz.func48 rfl (by kernel_rfl) (rc:=Z5x) (by kernel_rfl) (rs:=Z5y) (by kernel_rfl) (W0C rfl) λR _ hG hrd=>Qga ?_
 simp -implicitDefEqProofs[Z5x,Z5y,FinZ,nz]
def Zm8 (l:List Int) (hl:Sml l):PC prog G 48 [.vsl (l.map ia)] (.vsl (l.map ia)):=by
 by_cases hne:l=[]
 . subst hne;exact Zm7
 unfold Sml at hl;have b1:l.length*8<=70368744177664:=(by omega);have h0:¬l.length=0:=λe=>hne (W0l.1 e)
 have k1:(l.map ia).all (λr=>r.length == 1)=true:=(by simp[ia]);have k2:(l.map ia).all (λr=>r.all AV.one)=true:=(by simp[ia,AV.one]);have k5:(l.map ia).all (λr=>r.all AV.pure)=true:=by simp[ia,AV.pure]
 (refine Z5z rfl λR hG hrd=>Qga ?_;subst hG)
 simp -implicitDefEqProofs[Z5x,Z5y,h0,hne,b1,k1,k2,k5]
def ofE (r:Jr) (l:Jl) (hs:Jh) (E:AV):AV:=.vptr [.vsl (r.map isa),.vsl (l.map na),.vsl (hs.map hoa),E,.vsl ((nums r).map ia)] 0
def Zm9 (r:Jr) (l:Jl) (hs:Jh) (E:AV) (hE:E.pure=true):(ofE r l hs E).pure=true:=by simp[ofE,AV.pure]
def Zma (r:Jr) (l:Jl) (hs:Jh) (ps:Jp) (E:AV) (pE:E.pure=true) (cP:PB prog G 45 [] [E] (.osl 5 ps.length) [(5,.row 7 (ps.map ptA))]) (hr:Wf r) (hl:Sml l) (hw:WfP hs ps) (hne:r≠[]) (h80:r.length<=80) :
  PB prog G 19 [] [ofE r l hs E] (.agg [.vsl (r.map isa),.vsl (l.map na),Yg (hs.map hoa),.osl 621 ps.length]) [(621,.row 7 (ps.map ptA))]:=by
 have kE:=AV.pure_keys _ pE;have hhl:=hw.hl;have hpl:=hw.pl;have hdl:=hw.dl;have cN:=Zm6 (G:=G) l hl;have hI:=λx (hx:x∈r)=>hr.1.2 x hx
 obtain ⟨B,hB⟩:=Qex (l.map na);obtain ⟨N,hN⟩:=Qex (AV.vsl B);have pN:N.pure=true:=(by rw[hN,hB];simp[AV.pure,na]);have kN:=AV.pure_keys _ pN;obtain ⟨cs,hO,hc0,hc1,hc2,hc3⟩ : ∃ cs,ofE r l hs E = .vptr cs 0/\cs[0]? = some (.vsl (r.map isa))/\cs[1]? = some (.vsl B)/\cs[2]? = some (.vsl (hs.map hoa))/\cs[3]? = some E:=⟨_,rfl,rfl,by rw[hB];rfl,rfl,rfl⟩;have pO:=Zm9 r l hs E pE;rw[hO]at pO ⊢;have kO:=AV.pure_keys _ pO;have rN:=λρ=>AV.ren_pure (ρ:=ρ) N pN
 rw[<- hB]at cN ⊢;rw[hN]at pN kN rN;refine Z5j coK (by intro k hk;simp[coK]at hk;omega) Tryz.func19 rfl (by kernel_rfl) (rc:=Z5A) (by kernel_rfl) (rs:=Z5B) (by kernel_rfl) (W0C rfl) λR _ hG' hrd=>Yb mixed 4 ?_
 subst hG';simp -implicitDefEqProofs[Z5A,Z5B];refine GO0 (ZjE mixed ?_)
 iterate 6 (rw[RE_op (by simp[wants]) (by simp[Z1y])];simp -implicitDefEqProofs[execE,hc0,hc1,hc2,hc3])
 rw[ZjG (by simp[wants])];simp -implicitDefEqProofs;refine CallE.of cN (by simp[pN]) ?_
 iterate 6 (rw[RE_op (by simp[wants]) (by simp[Z1y])];simp -implicitDefEqProofs[execE,hc0,hc1,hc2,hc3])
 rw[ZjG (by simp[wants])];simp -implicitDefEqProofs;refine CallE.new (NewS.of cP (λk=>k+616) (by simp) (by simp[St.get,lk]) (by simp[pE]) rfl) ?_;simp -implicitDefEqProofs[Yl,ZlD,AV.ren]
 iterate 3 (rw[RE_op (by simp[wants]) (by simp[Z1y])];simp -implicitDefEqProofs[execE])
 refine ⟨(by simp only[kE,List.flatMap_nil,W1G,W18];rfl),?_⟩;refine Qgr ?_;simp -implicitDefEqProofs[hc0];refine Z9H (coS (.vptr cs 0) B ps r) (λ_=>True) r.length ?_ trivial ?_ ?_
 . simp only[coS,coV,coO,if_true,W18]
   ((try simp only[Zl1]);refine Ym.sub (by simp[lk,Ya,AV.keys,Zl1]) ?_;simp only[Zl1,Wkl,and_true];(try simp[lk,Yc,Ya,AV.keys,Zl1]))
 . intro i hi _;have wi:i64.wrap ((i:Int)+1)=(i:Int)+1:=Yf;have sc:=Zm2 hi;have hx2:=hI _ (W0e hi);obtain ⟨x,hx⟩:=Qex (r[i]);have hax:isa r[i]=[.int .i64 x.d,.int .i64 x.l,.int .u8 x.k,.vsl (x.its.map ita),.vsl (x.dms.map dma)]:=(by rw[<- hx];rfl);rw[<- hx]at hx2;rw[hax]at sc;have c1:=Zm0 (G:=R.G) x.its hx2.1;have c2:=Zm1 (G:=R.G) x.dms hx2.2;refine Qga ?_;unfold coS;by_cases h0i:i=0
   . subst h0i;have e0:rwI r 0=[]:=rfl;have w1:i64.wrap 1=1:=rfl;rw[e0,W18]at sc;replace sc:rwI r 1=[[.int .i64 x.d,.int .i64 x.l,.int .u8 x.k,.vsl (x.its.map ita),.vsl (x.dms.map dma)]]:=sc;simp only[coV,coO,if_true,W18];simp -implicitDefEqProofs[hi,hax,w1];refine Qco (c1) ?_;simp -implicitDefEqProofs;refine Qco (c2) ?_;simp -implicitDefEqProofs[w1];refine ⟨rfl,?_⟩;rw[sc]
     (refine Wkc ?_;simp only[Zl1,Wkl,and_true];(try simp[lk,Yc,Ya,AV.keys]))
   . have b1:(i+1)*72<=70368744177664:=(by omega);have hln:=Zm3 (r:=r) (i:=i) (by omega);simp only[coV,coO,h0i,if_false,W1e,W18];simp -implicitDefEqProofs[hi,hax];refine Qco (c1) ?_;simp -implicitDefEqProofs;refine Qco (c2) ?_;simp -implicitDefEqProofs[b1,wi,hln];refine ⟨rfl,?_⟩;rw[<- sc]
     (refine Wkc ?_;simp only[Zm4,Zl1,Wkl,and_true];(try simp[lk,Yc,Ya,AV.keys]))
 . intro _;have hr0:r.length≠0:=λe=>hne (W0l.1 e)
   have hrw:rwI r r.length=r.map isa:=(by unfold rwI;rw[W0v]);have pr:((r.map isa).all λr=>r.all AV.pure)=true:=(by simp[isa,AV.pure]);have pP:((ps.map ptA).all λr=>r.all AV.pure)=true:=by simp[ptA,AV.pure]
   have fP:∀ ok st,frzO ok st (.row 7 (ps.map ptA)) = .row 7 (ps.map ptA):=λok st=>by
    simp only[frzO,W10]
    congr 2
    funext p;simp[ptA,frzA,frz,AV.keys]
   refine Qga ?_;unfold coS;rw[show coO r r.length=[(49,.row 5 (r.map isa))] by unfold coO;rw[if_neg hr0,hrw],show coV r.length = .osl 49 r.length by unfold coV;rw[if_neg hr0]];simp -implicitDefEqProofs;refine Qgr ?_;simp -implicitDefEqProofs[hc2];refine Z9H (λi=>coT (.vptr cs 0) B ps r hs (hs.take i) i) (λ_=>True) hs.length ?_ trivial ?_ ?_
   . refine Ym.trans (Ym.frz (λk=>k == 49) _) ?_;simp only[coT,hlV,hlO,W1g,if_true,W1G]
     ((try simp only[Yi,frzA,fP,frzO,frz,Yh,Yj,St.get,AV.pure,pr]);refine Ym.sub (by simp[lk,Ya,AV.keys,Yi,frzA,fP,frzO,frz,Yh,Yj,St.get,AV.pure,pr]) ?_;simp only[Yi,frzA,fP,frzO,frz,Yh,Yj,St.get,AV.pure,pr,Wkl,Zl1,and_true];(try simp[lk,Yc,Ya,AV.keys,Yi,frzA,fP,frzO,frz,Yh,Yj,St.get,AV.pure,pr]))
     intro a _;simp[ptA,frzA,frz,AV.keys]
   . intro i hi _;have hdi:=hdl _ (W0e hi);obtain ⟨h,hhe⟩:=Qex (hs[i]);rw[<- hhe]at hdi;have hlx:hs[i]=h:=hhe.symm;have hho:hoa h=[.int .i64 h.id,.int .i64 h.fr,.int .i64 h.to,.vsl (h.ds.map ia)]:=rfl;have c3:=Zm8 (G:=R.G) h.ds (by unfold Sml;omega);have wi:i64.wrap ((i:Int)+1)=(i:Int)+1:=Yf;have tk:hs.take (i+1)=hs.take i++[h]:=(by rw[W08 hi,hlx]);have tl:(hs.take i).length=i:=(by simp;omega);have bb:(i+1)*48<=70368744177664:=(by omega);obtain ⟨H,hH⟩:=Qex (hs.take i);rw[<- hH]at tk tl;have em:(H++[h]).map hoa=H.map hoa++[hoa h]:=(by simp);have hne:¬H++[h]=[]:=(by simp);have hV2:hlV 72 (H++[h]) = .osl 72 (i+1):=(by unfold hlV;rw[if_neg hne];simp[tl]);have hO2:hlO 72 (H++[h])=[(72,.row 4 (H.map hoa++[hoa h]))]:=(by unfold hlO;rw[if_neg hne,em]);refine Qga ?_;by_cases cH:H=[]
     case' pos =>
      have hV:hlV 72 H = .nils:=(by simp[hlV,cH]);have hQ:hlO 72 H=[]:=by simp[hlO,cH]
     case' neg =>
      have hV:hlV 72 H = .osl 72 i:=(by simp[hlV,cH,tl]);have hQ:hlO 72 H=[(72,.row 4 (H.map hoa))]:=by simp[hlO,cH]
     all_goals
      simp -implicitDefEqProofs[coT,<- hH,hV,hQ,hi,hlx,hho,wi,bb,tl];refine Qco (c3) ?_;simp -implicitDefEqProofs[coT,<- hH,hV,hQ,hi,hlx,hho,wi,bb,tl];simp only[tk,hV2,hO2,hho];rw[<- hho,<- em]
      ((try simp only[hho]);refine Ym.sub (by simp[lk,Ya,AV.keys,hho]) ?_;simp only[hho,Wkl,Zl1,Zl0,and_true];(try simp[lk,Yc,Ya,AV.keys,hho]))
      all_goals exact ⟨by rw[<- tl,cH];rfl,cH⟩
   . intro _;have tl:hs.take hs.length=hs:=W0v;refine Qga ?_;by_cases cH:hs=[]
     . have hV:hlV 72 hs = .nils:=(by simp[hlV,cH]);have hQ:hlO 72 hs=[]:=(by simp[hlO,cH]);simp -implicitDefEqProofs[coT,tl,hV,hQ];refine Qgr ?_;simp -implicitDefEqProofs;simp -implicitDefEqProofs[FinO,Yi,coK,fP,frzA,frz,AV.keys,pr,kN,Yg,cH]
     . have hV:hlV 72 hs = .osl 72 hs.length:=(by simp[hlV,cH]);have hQ:hlO 72 hs=[(72,.row 4 (hs.map hoa))]:=(by simp[hlO,cH]);simp -implicitDefEqProofs[coT,tl,hV,hQ];refine Qgr ?_;simp -implicitDefEqProofs;simp -implicitDefEqProofs[FinO,Yi,coK,fP,frzA,frz,AV.keys,pr,kN,Yg,cH,hoa,AV.pure]
def Zmb (r:Jr) (l:Jl) (hs:Jh) (ps:Jp) (hr:Wf r) (hl:Sml l) (hw:WfP hs ps) (hne:r≠[]) (h80:r.length<=80) (hp:ps≠[]) :
  PB prog G 19 [] [ofA r l hs ps] (.agg [.vsl (r.map isa),.vsl (l.map na),Yg (hs.map hoa),.osl 621 ps.length]) [(621,.row 7 (ps.map ptA))] :=
 Zma r l hs ps (.vsl (ps.map ptA)) (by simp[AV.pure,ptA]) (ZlU ps hp (by have:=hw.pl;unfold Sml;omega)) hr hl hw hne h80
def cpS (O F:AV) (B:List (List AV)) (r:Jr) (i:Nat):St :=
 ⟨[(31,.int .i64 i),(30,.int .i64 r.length),(29,.vsl (r.map isa)),(3,.ptr 3 0),(2,.ptr 2 0),(0,O)],coO r i++[(3,.box [coV i,.vsl B,.nils,F]),(2,.box [.nils,.nils,.nils,.nils])]⟩
def cpT (O F:AV) (B:List (List AV)) (r:Jr) (hs H:Jh) (i:Nat):St :=
 ⟨[(60,.int .i64 i),(59,.int .i64 hs.length),(58,.vsl (hs.map hoa)),(3,.ptr 3 0),(2,.ptr 2 0),(0,O)],[(3,.box [.vsl (r.map isa),.vsl B,hlV 72 H,F]),(2,.box [.nils,.nils,.nils,.nils])]++hlO 72 H⟩
def Zmc:PC prog G 45 [.vsl []] (.vsl []):=by
 refine ZbK Tryz.func45 rfl (by kernel_rfl) (rc:=ZlS) (by kernel_rfl) (rs:=ZlT) (by kernel_rfl) (W0C rfl) λR _ hG hrd=>Qga ?_
 simp -implicitDefEqProofs[ZlS,ZlT,FinZ,nz]
def Zmd (r:Jr) (l:Jl) (hs:Jh) (F:AV) (hF:F = .nils∨F = .vsl []) (cP:PC prog G 45 [F] F) (hr:Wf r) (hl:Sml l) (hw:WfP hs []) (hne:r≠[]) (h80:r.length<=80) :
  PC prog G 19 [ofE r l hs F] (.agg [.vsl (r.map isa),.vsl (l.map na),Yg (hs.map hoa),F]):=by
 have pF:F.pure=true:=by rcases hF with e|e <;> rw[e] <;> simp[AV.pure]
 have kF:F.keys=[]:=AV.pure_keys _ pF;have hhl:=hw.hl;have hdl:=hw.dl;have cN:=Zm6 (G:=G) l hl;have hI:=λx (hx:x∈r)=>hr.1.2 x hx
 obtain ⟨B,hB⟩:=Qex (l.map na);obtain ⟨N,hN⟩:=Qex (AV.vsl B);have pN:N.pure=true:=(by rw[hN,hB];simp[AV.pure,na]);have kN:=AV.pure_keys _ pN;obtain ⟨cs,hO,hc0,hc1,hc2,hc3⟩ : ∃ cs,ofE r l hs F = .vptr cs 0/\cs[0]? = some (.vsl (r.map isa))/\cs[1]? = some (.vsl B)/\cs[2]? = some (.vsl (hs.map hoa))/\cs[3]? = some F:=⟨_,rfl,rfl,by rw[hB];rfl,rfl,rfl⟩;have pO:=Zm9 r l hs F pF;rw[hO]at pO ⊢;have kO:=AV.pure_keys _ pO;have rN:=λρ=>AV.ren_pure (ρ:=ρ) N pN
 rw[<- hB]at cN ⊢;rw[hN]at pN kN rN
 (refine Z5C rfl λR hG hrd=>Qga ?_;subst hG)
 simp -implicitDefEqProofs[Z5A,Z5B,hc0,hc1,hc2,hc3];refine Qco (cN) ?_;simp -implicitDefEqProofs[hc0,hc1,hc2,hc3];rcases hF with eF|eF
 all_goals
  refine Ye.of cP (by simp[pF]) ?_;simp -implicitDefEqProofs[eF,hc0,hc1,hc2,hc3];refine ⟨rfl,?_⟩;refine Z9H (cpS (.vptr cs 0) F B r) (λ_=>True) r.length ?_ trivial ?_ ?_
  . simp only[eF,cpS,coV,coO,if_true,W18]
    ((try simp only[kF,eF]);refine Ym.sub (by simp[lk,Ya,AV.keys,kF,eF]) ?_;simp only[kF,eF,Wkl,and_true];(try simp[lk,Yc,Ya,AV.keys,kF,eF]))
  . intro i hi _;have wi:i64.wrap ((i:Int)+1)=(i:Int)+1:=Yf;have sc:=Zm2 hi;have hx2:=hI _ (W0e hi);obtain ⟨x,hx⟩:=Qex (r[i]);have hax:isa r[i]=[.int .i64 x.d,.int .i64 x.l,.int .u8 x.k,.vsl (x.its.map ita),.vsl (x.dms.map dma)]:=(by rw[<- hx];rfl);rw[<- hx]at hx2;rw[hax]at sc;have c1:=Zm0 (G:=R.G) x.its hx2.1;have c2:=Zm1 (G:=R.G) x.dms hx2.2;refine Qga ?_;unfold cpS;simp only[eF];by_cases h0i:i=0
    . subst h0i;have e0:rwI r 0=[]:=rfl;have w1:i64.wrap 1=1:=rfl;rw[e0,W18]at sc;replace sc:rwI r 1=[[.int .i64 x.d,.int .i64 x.l,.int .u8 x.k,.vsl (x.its.map ita),.vsl (x.dms.map dma)]]:=sc;simp only[coV,coO,if_true,W18];simp -implicitDefEqProofs[eF,hi,hax,w1];refine Qco (c1) ?_;simp -implicitDefEqProofs[eF];refine Qco (c2) ?_;simp -implicitDefEqProofs[eF,w1];refine ⟨rfl,?_⟩;rw[sc]
      ((try simp only[kF,eF]);refine Ym.sub (by simp[lk,Ya,AV.keys,kF,eF]) ?_;simp only[kF,eF,Wkl,and_true];(try simp[lk,Yc,Ya,AV.keys,kF,eF]))
    . have b1:(i+1)*72<=70368744177664:=(by omega);have hln:=Zm3 (r:=r) (i:=i) (by omega);simp only[coV,coO,h0i,if_false,W1e,W18];simp -implicitDefEqProofs[eF,hi,hax];refine Qco (c1) ?_;simp -implicitDefEqProofs[eF];refine Qco (c2) ?_;simp -implicitDefEqProofs[eF,b1,wi,hln];refine ⟨rfl,?_⟩;rw[<- sc]
      ((try simp only[kF,eF]);refine Ym.sub (by simp[lk,Ya,AV.keys,kF,eF]) ?_;simp only[kF,eF,Wkl,Zm4,and_true,and_true];(try simp[lk,Yc,Ya,AV.keys,kF,eF]))
  . intro _;have hr0:r.length≠0:=λe=>hne (W0l.1 e)
    have hrw:rwI r r.length=r.map isa:=(by unfold rwI;rw[W0v]);have pr:((r.map isa).all λr=>r.all AV.pure)=true:=(by simp[isa,AV.pure]);refine Qga ?_;unfold cpS;simp only[eF];rw[show coO r r.length=[(49,.row 5 (r.map isa))] by unfold coO;rw[if_neg hr0,hrw],show coV r.length = .osl 49 r.length by unfold coV;rw[if_neg hr0]];simp -implicitDefEqProofs[eF];refine Qgr ?_;simp -implicitDefEqProofs[eF,hc2];refine Z9H (λi=>cpT (.vptr cs 0) F B r hs (hs.take i) i) (λ_=>True) hs.length ?_ trivial ?_ ?_
    . refine Ym.trans (Ym.frz (λk=>k == 49) _) ?_;simp only[eF,cpT,hlV,hlO,W1g,if_true,W1G]
      ((try simp only[Yi,frzA,frzO,frz,Yh,Yj,St.get,AV.pure,pr,kF,eF]);refine Ym.sub (by simp[lk,Ya,AV.keys,Yi,frzA,frzO,frz,Yh,Yj,St.get,AV.pure,pr,kF,eF]) ?_;simp only[Yi,frzA,frzO,frz,Yh,Yj,St.get,AV.pure,pr,kF,eF,Wkl,and_true];(try simp[lk,Yc,Ya,AV.keys,Yi,frzA,frzO,frz,Yh,Yj,St.get,AV.pure,pr,kF,eF]))
    . intro i hi _;have hdi:=hdl _ (W0e hi);obtain ⟨h,hhe⟩:=Qex (hs[i]);rw[<- hhe]at hdi;have hlx:hs[i]=h:=hhe.symm;have hho:hoa h=[.int .i64 h.id,.int .i64 h.fr,.int .i64 h.to,.vsl (h.ds.map ia)]:=rfl;have c3:=Zm8 (G:=R.G) h.ds (by unfold Sml;omega);have wi:i64.wrap ((i:Int)+1)=(i:Int)+1:=Yf;have tk:hs.take (i+1)=hs.take i++[h]:=(by rw[W08 hi,hlx]);have tl:(hs.take i).length=i:=(by simp;omega);have bb:(i+1)*48<=70368744177664:=(by omega);obtain ⟨H,hH⟩:=Qex (hs.take i);rw[<- hH]at tk tl;have em:(H++[h]).map hoa=H.map hoa++[hoa h]:=(by simp);have hne:¬H++[h]=[]:=(by simp);have hV2:hlV 72 (H++[h]) = .osl 72 (i+1):=(by unfold hlV;rw[if_neg hne];simp[tl]);have hO2:hlO 72 (H++[h])=[(72,.row 4 (H.map hoa++[hoa h]))]:=(by unfold hlO;rw[if_neg hne,em]);refine Qga ?_;by_cases cH:H=[]
      case' pos =>
       have hV:hlV 72 H = .nils:=(by simp[hlV,cH]);have hQ:hlO 72 H=[]:=by simp[hlO,cH]
      case' neg =>
       have hV:hlV 72 H = .osl 72 i:=(by simp[hlV,cH,tl]);have hQ:hlO 72 H=[(72,.row 4 (H.map hoa))]:=by simp[hlO,cH]
      all_goals
       simp -implicitDefEqProofs[eF,cpT,<- hH,hV,hQ,hi,hlx,hho,wi,bb,tl];refine Qco (c3) ?_;simp -implicitDefEqProofs[eF,cpT,<- hH,hV,hQ,hi,hlx,hho,wi,bb,tl];simp only[tk,hV2,hO2,hho];rw[<- hho,<- em]
       ((try simp only[hho,kF,eF]);refine Ym.sub (by simp[lk,Ya,AV.keys,hho,kF,eF]) ?_;simp only[hho,kF,eF,Wkl,Zl0,and_true];(try simp[lk,Yc,Ya,AV.keys,hho,kF,eF]))
       all_goals exact ⟨by rw[<- tl,cH];rfl,cH⟩
    . intro _;have tl:hs.take hs.length=hs:=W0v;refine Qga ?_;by_cases cH:hs=[]
      . have hV:hlV 72 hs = .nils:=(by simp[hlV,cH]);have hQ:hlO 72 hs=[]:=(by simp[hlO,cH]);simp -implicitDefEqProofs[eF,cpT,tl,hV,hQ];refine Qgr ?_;simp -implicitDefEqProofs[eF];simp -implicitDefEqProofs[eF,Yg,cH,hoa,AV.pure,pr,Yh,Yj,pF]
      . have hV:hlV 72 hs = .osl 72 hs.length:=(by simp[hlV,cH]);have hQ:hlO 72 hs=[(72,.row 4 (hs.map hoa))]:=(by simp[hlO,cH]);simp -implicitDefEqProofs[eF,cpT,tl,hV,hQ];refine Qgr ?_;simp -implicitDefEqProofs[eF];simp -implicitDefEqProofs[eF,Yg,cH,hoa,AV.pure,pr,Yh,Yj,pF]
def Zme (r:Jr) (l:Jl) (hs:Jh) (hr:Wf r) (hl:Sml l) (hw:WfP hs []) (hne:r≠[]) (h80:r.length<=80) :
  PC prog G 19 [ofA r l hs []] (.agg [.vsl (r.map isa),.vsl (l.map na),Yg (hs.map hoa),.vsl []]) :=
 Zmd r l hs (.vsl []) (.inr rfl) Zmc hr hl hw hne h80
def toN (hs:Jh) (A:List Int):Nat:=A.foldl (λt id=>t ||| 2 ^ (hoI hs id).toNat) 0
def Zmf (hs:Jh) (A:List Int) (id:Int):toN hs (A++[id])=toN hs A ||| 2 ^ (hoI hs id).toNat:=by simp[toN]
def Zmg (hs:Jh) (k:Nat):∀ (A:List Int) (t:Nat),(A.foldl (λt id=>t ||| 2 ^ (hoI hs id).toNat) t).testBit k=(t.testBit k||A.any λid=>decide ((hoI hs id).toNat=k))
 |[],t=>by simp
 |id::A,t=>by rw[W2d,Zmg hs k A,Nat.testBit_or,Nat.testBit_two_pow,List.any_cons,Bool.or_assoc]
def Zmh (hs:Jh) (k:Nat) (A:List Int):(toN hs A).testBit k=A.any λid=>decide ((hoI hs id).toNat=k):=by
 unfold toN;rw[Zmg];simp
def Zmi (hs:Jh):∀ (A:List Int) (t:Nat),t<256->(∀ id∈A,(hoI hs id).toNat<8)->A.foldl (λt id=>t ||| 2 ^ (hoI hs id).toNat) t<256
 |[],_,h,_=>h
 | id::A,t,h,hA=>by
   refine Zmi hs A _ ?_ λx hx=>hA x (W0z _ hx)
   have h2:2 ^ (hoI hs id).toNat<2 ^ 8:=Nat.pow_lt_pow_right (by omega) (hA id (W0H ..));exact Nat.or_lt_two_pow (n:=8) h h2
def Zmj (hs:Jh) (A:List Int) (h:∀ id∈A,(hoI hs id).toNat<8):toN hs A<256:=Zmi hs A 0 (by omega) h
def Zmk {hs:Jh} {id:Int} (h:0<=hoI hs id):∃ (k:Nat) (hk:k<hs.length),hoI hs id=k/\hs[k].id=id:=by
 obtain ⟨k,hk,e,f⟩:=Zl7 h;exact ⟨k,hk,e,(Zig f).2⟩
def Zml {hs:Jh} {A:List Int} {y:Int} (hA:∀ id∈A,0<=hoI hs id) (hy:0<=hoI hs y):(toN hs A).testBit (hoI hs y).toNat=A.contains y:=by
 rw[Zmh,W2g,W14,W0w]
 constructor
 . rintro ⟨id,h1,h2⟩;have h2:=W0X h2;obtain ⟨k,hk,e,f⟩:=Zmk (hA id h1);obtain ⟨j,hj,e2,f2⟩:=Zmk hy;have:k=j:=(by omega);subst this;rw[<- f2,f];exact h1
 . intro h;exact ⟨y,h,by simp⟩
def Zmm {hs:Jh} {A:List Int} (hA:∀ id∈A,0<=hoI hs id):toN hs A=0↔A=[]:=by
 constructor
 . intro h
   cases A with
   |nil=>rfl
   | cons id t =>
     have h2:=Zml (y:=id) hA (hA id (W0H ..));rw[h]at h2;simp at h2
 . rintro rfl;rfl
def Zmn:∀ T:Nat,T<256->∀ k:Nat,k<8->IntKind.u64.wrap ((T % 2 ^ IntKind.u64.bits ||| ((IntKind.u64.wrap ((2:Int) ^ min k IntKind.u64.bits)) % 2 ^ IntKind.u64.bits).toNat:Nat):Int)=((T ||| 2 ^ k:Nat):Int):=by decide +kernel
def Zmo:∀ T:Nat,T<256->∀ k:Nat,k<8->IntKind.u64.wrap (((((T:Int).fdiv (2 ^ min k IntKind.u64.bits)) % 2 ^ IntKind.u64.bits).toNat &&& 1 % 2 ^ IntKind.u64.bits:Nat):Int)=if T.testBit k=true then 1 else 0:=by decide +kernel
def rowC (ps S:Jp) (A B:List Int) (day:Int):List Prt:=ps.map λx=>if (decide (x∈S)&&rchB A B x)=true then { x with bk:=day,lo:=0 } else x
section
variable {ps S:Jp} {A B:List Int} {day:Int} {y:Prt}
def Zmp:rowC ps [] A B day=ps:=by simp[rowC]
def Zmq:(rowC ps S A B day).length=ps.length:=by simp[rowC]
def Zmr {j:Nat} (h:j<(rowC ps S A B day).length):(rowC ps S A B day)[j]=if (decide (ps[j]'(by rw[Zmq]at h;exact h)∈S)&&rchB A B (ps[j]'(by rw[Zmq]at h;exact h)))=true then { ps[j]'(by rw[Zmq]at h;exact h) with bk:=day,lo:=0 } else ps[j]'(by rw[Zmq]at h;exact h):=by simp[rowC]
def Zms (h:rchB A B y=false):rowC ps (S++[y]) A B day=rowC ps S A B day:=by
 unfold rowC;refine W0K λx _=>?_
 by_cases e:x=y
 . subst e;rw[h];simp
 . have:(x∈S++[y])↔x∈S:=(by simp[e]);rw[decide_eq_decide.2 this]
def Zmt (hp:riP ps) (h:rchB A B y=true) (hy:y ∉ S) {k:Nat} (hk:k<ps.length) (e:ps[k]=y) :
  (rowC ps S A B day)[k]'(by rw[Zmq];exact hk)=y/\(rowC ps S A B day).set k { y with bk:=day,lo:=0 }=rowC ps (S++[y]) A B day:=by
 constructor
 . rw[Zmr,e,W0S hy];rfl
 . refine W1I (by simp[Zmq]) λj h1 h2=>?_
   have hj:j<ps.length:=(by simpa [Zmq] using h1);rw[List.getElem_set,Zmr,Zmr]
   split
   . rename_i q;subst q;rw[e,h,if_pos (by simp)]
   . rename_i q
     have:ps[j]≠y:=λq2=>by
      rcases W0R j k with c|c|c
      . have:=W0Y.1 hp j k hj hk c;rw[q2,e]at this;omega
      . exact q c.symm
      . have:=W0Y.1 hp k j hk hj c;rw[q2,e]at this;omega
     have:(ps[j]∈S++[y])↔ps[j]∈S:=(by simp[this]);rw[decide_eq_decide.2 this]
def Zmu {l:Jl} {hs:Jh}:rowC ps (staL l hs ps day) A B day=ps.map (calP l hs day A B):=by
 unfold rowC calP;refine W0K λx hx=>?_
 have:(x∈staL l hs ps day)↔stB l hs day x=true:=(by unfold staL;rw[W0G];exact ⟨λh=>h.2,λh=>⟨hx,h⟩⟩);have hd:decide (x∈staL l hs ps day)=stB l hs day x:=(by rw[W2g,decide_eq_true_iff];exact this);rw[hd]
def Zmv (h:riP ps):ps.Nodup:=h.imp λ{a b} q e=>by rw[e]at q;omega
end
def Nsub.tup {xs ys:List AV} (h:NsubL xs ys):Nsub (.tup xs) (.tup ys):=λM W u hu=>by
 cases hu with
 | tup _ us h1 hx =>
   refine .tup ys us (by rw[h1,h.len]) λi y u hy hu=>?_
   obtain ⟨x,h2,h3⟩:=h.at i y hy;exact h3 _ _ _ (hx i x u h2 hu)
structure Cl7 (r:Jr) (hs:Jh) (ps:Jp):Prop where
 h6:hs.length<=6
 n60:r.length<=60
 ne:r≠[]
 no:(ps.map (·.no)).Nodup
 dl:(nums r).Pairwise (· < ·)
def Zmw {r:Jr} {l:Jl} {hs:Jh} {ps:Jp} (h:ck7 r l hs ps=0):Cl7 r hs ps:=by
 obtain ⟨h1,h2⟩:=Zj1.1 h;obtain ⟨⟨q1,-⟩,-,q3,-⟩:=Zif.1 h2;have hL:=Zi3 (Zj2 h1);refine ⟨q1,(ZbZ hL).2,Zkl (Zj2 h1),?_,Zaf (Zad hL)⟩;rw[List.Nodup,W2n];exact q3.imp λh=>by omega
def clE (r:Jr) (l:Jl) (hs:Jh) (ps:Jp) (day:Int) (A B:List Int):Int :=
 if as7 r l hs ps day 1=0 then (if (A.all λid=>decide (0<=hoI hs id))&&B.all λd=>decide (d∈nums r) then 0 else 6) else as7 r l hs ps day 1
def clA (r:Jr) (l:Jl) (hs:Jh) (ps:Jp) (day:Int) (A B:List Int):AV :=
 .tup [if clE r l hs ps day A B=0 then prA r l hs (ps.map (calP l hs day A B)) else .agg [.nils,.nils,.nils,.nils],.int .i64 (clE r l hs ps day A B)]
def cl1 (O:AV) (hs:Jh) (day:Int) (A B:List Int) (i:Nat):St :=
 ⟨[(32,.int .i64 i),(31,.int .i64 A.length),(30,.vsl (A.map ia)),(12,.int .u64 (toN hs (A.take i):Nat)),(10,.ptr 10 0),(8,.ptr 8 0),(3,.vsl (B.map ia)),(1,.int .i64 day)],[(10,.box [O]),(8,.box [.nils,.nils,.nils,.nils])]⟩
def cl2 (O:AV) (IR NL HL:List (List AV)) (T:Nat) (ps S:Jp) (A B:List Int) (day:Int) (i:Nat):St :=
 ⟨[(64,.int .i64 i),(63,.int .i64 S.length),(62,.vsl (S.map ptA)),(16,.ptr 16 0),(12,.int .u64 (T:Nat)),(10,.ptr 10 0),(8,.ptr 8 0),(3,.vsl (B.map ia)),(1,.int .i64 day)],[(16,.box [.vsl IR,.vsl NL,.vsl HL,.osl 921 ps.length]),(921,.row 7 ((rowC ps (S.take i) A B day).map ptA)),(10,.box [O]),(8,.box [.nils,.nils,.nils,.nils])]⟩
def Zmx (hG:GC G) (hN:GN G) (hP:GP G) (r:Jr) (l:Jl) (hs:Jh) (ps:Jp) (day:Int) (A B:List Int) (hl:WfN l) (hr:Wf r) (hne:r≠[]) (h80:r.length<=80) (hd:Sml (nums r)) (hw:WfP hs ps) (hA:Sml A) (hB:Sml B) :
  PC prog G 6 [prA r l hs ps,.int .i64 day,.vsl (A.map ia),.vsl (B.map ia)] (clA r l hs ps day A B):=by
 have ha:=Zj5 hG hN hP r l hs ps day 1 hl hr hd hw;have pO:=Zih r l hs ps;have kO:=Zii r l hs ps;unfold asP at ha;unfold clA clE;by_cases h0:as7 r l hs ps day 1=0
 case neg =>
  rw[if_neg h0]at ha;simp only[if_neg h0];unfold prA at *
  (refine Z5F rfl λR hG hrd=>Qga ?_;subst hG)
  simp -implicitDefEqProofs[Z5D,Z5E];refine Qco (ha) ?_;simp -implicitDefEqProofs[h0]
 have k0:=(Zkv h0).1;have cS:=ZlG hG hN r l hs ps day hl hr hd hw k0;have cS:=PC.out cS (Nsub.orNil _);have hhl:=hw.hl;have cH:=λid=>Ziy (G:=G) r l hs ps id (by unfold Sml;omega)
 rw[if_pos h0,h0]at ha;simp only[if_pos h0];have d1:ck7 r l hs ps=0:=k0;have c1:=ZlK (G:=G) r l hs ps;obtain ⟨cs,hO,hc3⟩ : ∃ cs,ofA r l hs ps = .vptr cs 0/\cs[3]? = some (.vsl (ps.map ptA)):=⟨_,rfl,rfl⟩;rw[hO]at ha pO kO cS;simp only[hO]at cH c1;unfold Sml at hA hB;obtain ⟨V,hV⟩:=Qex (AV.tup [if (if ((A.all λid=>decide (0<=hoI hs id))&&B.all λd=>decide (d∈nums r))=true then (0:Int) else 6)=0 then prA r l hs (ps.map (calP l hs day A B)) else .agg [.nils,.nils,.nils,.nils],.int .i64 (if ((A.all λid=>decide (0<=hoI hs id))&&B.all λd=>decide (d∈nums r))=true then 0 else 6)]);rw[<- hV];have eP:prA r l hs ps = .agg [.vsl (r.map isa),.vsl (l.map na),.vsl (hs.map hoa),.vsl (ps.map ptA)]:=rfl;rw[eP]at ha ⊢
 (refine Z5F rfl λR hG hrd=>Qga ?_;subst hG)
 simp -implicitDefEqProofs[Z5D,Z5E];refine Qco (ha) ?_;simp -implicitDefEqProofs;refine Z9H (cl1 (.vptr cs 0) hs day A B) (λi=>∀ id∈A.take i,0<=hoI hs id) A.length ?_ (by simp) ?_ ?_
 . unfold cl1
   ((try simp only[kO,toN]);refine Ym.sub (by simp[lk,Ya,AV.keys,kO,toN]) ?_;simp only[kO,toN,Wkl,and_true];(try simp[lk,Yc,Ya,AV.keys,kO,toN]))
 . intro i hi he;obtain ⟨id,hid⟩:=Qex (A[i]);have hlx:A[i]=id:=hid.symm;have cI:=cH id;have tk:A.take (i+1)=A.take i++[id]:=(by rw[W08 hi,hlx]);have wi:i64.wrap ((i:Int)+1)=(i:Int)+1:=Yf;refine Qga ?_;by_cases hc:0<=hoI hs id
   . obtain ⟨k,hk,e,f⟩:=Zmk hc;rw[e]at cI
     have hT:toN hs (A.take i)<256:=Zmj hs _ λx hx=>by
      obtain ⟨k,hk,e,f⟩:=Zmk (he x hx);omega
     have sh:=Zmn _ hT k (by omega);have tn:toN hs (A.take (i+1))=toN hs (A.take i) ||| 2 ^ k:=by rw[tk,Zmf,e];rfl
     obtain ⟨T,hTe⟩:=Qex (toN hs (A.take i));rw[<- hTe]at sh tn hT;have hw1:cl1 (.vptr cs 0) hs day A B i=⟨[(32,.int .i64 i),(31,.int .i64 A.length),(30,.vsl (A.map ia)),(12,.int .u64 (T:Nat)),(10,.ptr 10 0),(8,.ptr 8 0),(3,.vsl (B.map ia)),(1,.int .i64 day)],[(10,.box [.vptr cs 0]),(8,.box [.nils,.nils,.nils,.nils])]⟩:=(by unfold cl1;rw[hTe]);have hw2:cl1 (.vptr cs 0) hs day A B (i+1)=⟨[(32,.int .i64 (i+1:Nat)),(31,.int .i64 A.length),(30,.vsl (A.map ia)),(12,.int .u64 ((T ||| 2 ^ k:Nat):Int)),(10,.ptr 10 0),(8,.ptr 8 0),(3,.vsl (B.map ia)),(1,.int .i64 day)],[(10,.box [.vptr cs 0]),(8,.box [.nils,.nils,.nils,.nils])]⟩:=(by unfold cl1;rw[tn]);rw[hw1];simp -implicitDefEqProofs[hi,hlx,ia];refine Yd.of cI (by simp[pO,AV.pure]) ?_;have hk0:¬((k:Int)<0):=(by omega);simp -implicitDefEqProofs[wi,sh,hk0];refine ⟨?_,λx hx=>?_⟩
     . rw[hw2]
       ((try simp only[kO]);refine Ym.sub (by simp[lk,Ya,AV.keys,kO]) ?_;simp only[kO,Wkl,and_true];(try simp[lk,Yc,Ya,AV.keys,kO]))
     . rw[tk]at hx;rcases W0h.1 hx with q|q
       . exact he x q
       . rw[W0B.1 q];exact hc
   . have hV2:V = .tup [.agg [.nils,.nils,.nils,.nils],.int .i64 6]:=by
      have:(A.all λid=>decide (0<=hoI hs id))=false:=by
       rw[List.all_eq_false];exact ⟨id,by rw[hid];exact W0e hi,by simpa using hc⟩
      rw[hV,this];rfl
     have hc2:hoI hs id<0:=(by omega);unfold cl1;simp -implicitDefEqProofs[hi,hlx,ia];refine Yd.of cI (by simp[pO,AV.pure]) ?_;simp -implicitDefEqProofs[hc2];refine Qgr ?_;simp -implicitDefEqProofs[hV2]
 . intro he;rw[W0v]at he
   have hT:toN hs A<256:=Zmj hs _ λx hx=>by
    obtain ⟨k,hk,e,f⟩:=Zmk (he x hx);omega
   refine Qga ?_;unfold cl1;rw[W0v];have tz:=Zmm he;have th:=λy hy=>Zml (y:=y) he hy
   generalize toN hs A=T at *;simp -implicitDefEqProofs;refine Qgr ?_;simp -implicitDefEqProofs;have cB:=ZaC (G:=R.G) 17 [.vptr [.vptr cs 0] 0] (λd=>!decide (d∈nums r)) B (by simp[AV.pure]) hB (λd _=>c1 d hd)
   (first|refine Yd.flat (cB) (by simp[AV.flat]) (by simp) ?_|refine Ye.flat (cB) (by simp[AV.flat]) (by simp) ?_)
   have hA':(A.all λid=>decide (0<=hoI hs id))=true:=W03.2 λx hx=>by simpa using he x hx
   rw[hA',W1k]at hV
   cases hBB:B.any λd=>!decide (d∈nums r) with
   | true =>
     have hB':(B.all λd=>decide (d∈nums r))=false:=by
      rw[W14]at hBB;obtain ⟨d,h1,h2⟩:=hBB;rw[List.all_eq_false];exact ⟨d,h1,by simpa using h2⟩
     rw[hB']at hV;simp -implicitDefEqProofs[hV]
   |false =>
   have hB':(B.all λd=>decide (d∈nums r))=true:=by
    rw[W25]at hBB;exact W03.2 λd h1=>by simpa using hBB d h1
   rw[hB']at hV;simp only[if_true]at hV;have co:=ZlR (G:=R.G) T hT;have oz:=ZlP T hT;have oB:=ZlQ T hT;have ws:i64.wrap (ocF T+(B.length:Int))=ocF T+(B.length:Int):=Yf;obtain ⟨IR,hIR⟩:=Qex (r.map isa);obtain ⟨NL,hNL⟩:=Qex (l.map na);obtain ⟨HL,hHL⟩:=Qex (hs.map hoa);have pIR:(IR.all λr=>r.all AV.pure)=true:=(by rw[hIR];simp[isa,AV.pure]);have pNL:(NL.all λr=>r.all AV.pure)=true:=(by rw[hNL];simp[na,AV.pure]);have pHL:(HL.all λr=>r.all AV.pure)=true:=(by rw[hHL];simp[hoa,ia,AV.pure]);by_cases hps:ps=[]
   . subst hps;have cc:=Zme (G:=R.G) r l hs hr hl.1 hw hne h80;have cc:=PC.out (w:=.agg [.vsl (r.map isa),.vsl (l.map na),.vsl (hs.map hoa),.vsl []]) cc (Nsub.agg ⟨.rfl',.rfl',.orNil _,.rfl',trivial⟩);rw[hO,<- hIR,<- hNL,<- hHL]at cc;have hV:V = .tup [.agg [.vsl IR,.vsl NL,.vsl HL,.vsl []],.int .i64 0]:=(by rw[hV,hIR,hNL,hHL];rfl);have cS:PC prog R.G 21 [.vptr cs 0,.int .i64 day] (.vsl []):=cS;simp -implicitDefEqProofs;refine Yd.of cc (by simp[pO,AV.pure]) ?_;simp -implicitDefEqProofs;refine Yd.of co (by simp[AV.pure]) ?_;simp -implicitDefEqProofs[ws];by_cases z:ocF T+(B.length:Int)=0
     . rw[W0M z];simp -implicitDefEqProofs[hV,pIR,pNL,pHL]
     . rw[W0S z];simp -implicitDefEqProofs;refine Yd.of cS (by simp[pO,AV.pure]) ?_;simp -implicitDefEqProofs;refine Z9H (λi=>⟨[(64,.int .i64 i),(63,.int .i64 0),(16,.ptr 16 0),(8,.ptr 8 0)],[(16,.box [.vsl IR,.vsl NL,.vsl HL,.vsl []]),(8,.box [.nils,.nils,.nils,.nils])]⟩) (λ_=>True) 0 ?_ trivial (λi hi=>absurd hi (by omega)) ?_
       . (refine Wkc ?_;simp only[Wkl,and_true];(try simp[lk,Yc,Ya,AV.keys]))
       . intro _;refine Qga ?_;simp -implicitDefEqProofs;refine Qgr ?_;simp -implicitDefEqProofs[hV,pIR,pNL,pHL]
   . have hhs:hs≠[]:=λe=>by
      cases ps with
      |nil=>exact hps rfl
      | cons x t =>
        have:=(Zlr k0 (W0H ..)).1;rw[e]at this;exact absurd this (by simp[hoI,fstOf])
     have cc:=Zmb (G:=R.G) r l hs ps hr hl.1 hw hne h80 hps;have eh:Yg (hs.map hoa) = .vsl (hs.map hoa):=(by unfold Yg;rw[if_neg (by simpa using hhs)]);rw[eh,hO,<- hIR,<- hNL,<- hHL]at cc;have hV:V = .tup [.agg [.vsl IR,.vsl NL,.vsl HL,.vsl ((ps.map (calP l hs day A B)).map ptA)],.int .i64 0]:=(by rw[hV,hIR,hNL,hHL];rfl);have rIR:=λρ=>AV.ren_pure (ρ:=ρ) (.vsl IR) (by simpa [AV.pure] using pIR)
     have rNL:=λρ=>AV.ren_pure (ρ:=ρ) (.vsl NL) (by simpa [AV.pure] using pNL)
     have rHL:=λρ=>AV.ren_pure (ρ:=ρ) (.vsl HL) (by simpa [AV.pure] using pHL)
     have kIR:=AV.pure_keys (.vsl IR) (by simpa [AV.pure] using pIR);have kNL:=AV.pure_keys (.vsl NL) (by simpa [AV.pure] using pNL);have kHL:=AV.pure_keys (.vsl HL) (by simpa [AV.pure] using pHL);simp -implicitDefEqProofs;refine Yd.sem (Z1B.objs cc (λk=>k+300) (by simp) (by simp[St.get,lk]) (by simp[AV.pure,pO]) rfl rfl) ?_;simp -implicitDefEqProofs[Yl,ZlD,AV.ren,rIR,rNL,rHL];refine Yd.of co (by simp[AV.pure]) ?_;simp -implicitDefEqProofs[ws];by_cases z:ocF T+(B.length:Int)=0
     . have hA0:A=[]:=tz.1 (oz.1 (by omega));have hB0:B=[]:=W0l.1 (by omega)
       have hm:ps.map (calP l hs day A B)=ps:=by
        refine (W0K λx _=>?_).trans (W22 _);unfold calP rchB;rw[hA0,hB0];simp
       rw[W0M z];rw[hm]at hV;have pP:((ps.map ptA).all λr=>r.all AV.pure)=true:=(by simp[ptA,AV.pure]);simp -implicitDefEqProofs[hV,pIR,pNL,pHL,pP]
     . rw [W0S z];simp -implicitDefEqProofs;refine Yd.of cS (by simp[pO,AV.pure]) ?_;simp -implicitDefEqProofs;refine Z9H (cl2 (.vptr cs 0) IR NL HL T ps (staL l hs ps day) A B day) (λ_=>True) (staL l hs ps day).length ?_ trivial ?_ ?_
       . unfold cl2;rw[W1g,Zmp]
         ((try simp only[kO,kIR,kNL,kHL]);refine Ym.sub (by simp[lk,Ya,AV.keys,kO,kIR,kNL,kHL]) ?_;simp only[kO,kIR,kNL,kHL,Wkl,Zl1,and_true];(try simp[lk,Yc,Ya,AV.keys,kO,kIR,kNL,kHL]))
       . intro i hi _;have hsub:∀ y∈staL l hs ps day,y∈ps:=λy hy=>(W0G.1 hy).1
         have hrp:riP ps:=(Zif.1 (Zj1.1 k0).2).2.2.1;have hSn:(staL l hs ps day).Nodup:=(Zmv hrp).filter _;have hSl:(staL l hs ps day).length<=ps.length:=W0D ..;generalize staL l hs ps day=S at *;obtain ⟨y,hy⟩:=Qex (S[i]);have hly:S[i]=y:=hy.symm;have hyp:y∈ps:=hsub y (by rw[hy];exact W0e hi);have tk:S.take (i+1)=S.take i++[y]:=by rw[W08 hi,hly]
         have hyn:y ∉ S.take i:=λh=>by
          obtain ⟨j,hj,e⟩:=W0k h;rw[W1V]at e;have hji:j<i:=(by simp at hj;omega);have:=(List.getElem_inj hSn).1 (e.trans hy);omega
         have wi:i64.wrap ((i:Int)+1)=((i+1:Nat):Int):=Yf (by omega) (by have:=hw.pl;omega);have hpy:ptA y=[.int .i64 y.no,.int .i64 y.dy,.int .i64 y.ho,.int .i64 y.dw,.int .i64 y.lt,.int .i64 y.bk,.int .u8 y.lo]:=rfl;have cI:=cH y.ho;obtain ⟨k,hk,e,f⟩:=Zmk (Zlr k0 hyp).1;have thy:=th y.ho (Zlr k0 hyp).1;rw[e]at cI thy;have thy:T.testBit k=A.contains y.ho:=thy;have sr:=Zmo T hT k (by omega);rw[thy]at sr;have cD:=Zfo (G:=R.G) B y.dw hB;have hw1:∀ X,(rowC ps (S.take i) A B day).map ptA=X->cl2 (.vptr cs 0) IR NL HL T ps S A B day i=⟨[(64,.int .i64 i),(63,.int .i64 S.length),(62,.vsl (S.map ptA)),(16,.ptr 16 0),(12,.int .u64 (T:Nat)),(10,.ptr 10 0),(8,.ptr 8 0),(3,.vsl (B.map ia)),(1,.int .i64 day)],[(16,.box [.vsl IR,.vsl NL,.vsl HL,.osl 921 ps.length]),(921,.row 7 X),(10,.box [.vptr cs 0]),(8,.box [.nils,.nils,.nils,.nils])]⟩:=λX hX=>by unfold cl2;rw[hX]
         have hw2:∀ X,(rowC ps (S.take (i+1)) A B day).map ptA=X->cl2 (.vptr cs 0) IR NL HL T ps S A B day (i+1)=⟨[(64,.int .i64 (i+1:Nat)),(63,.int .i64 S.length),(62,.vsl (S.map ptA)),(16,.ptr 16 0),(12,.int .u64 (T:Nat)),(10,.ptr 10 0),(8,.ptr 8 0),(3,.vsl (B.map ia)),(1,.int .i64 day)],[(16,.box [.vsl IR,.vsl NL,.vsl HL,.osl 921 ps.length]),(921,.row 7 X),(10,.box [.vptr cs 0]),(8,.box [.nils,.nils,.nils,.nils])]⟩:=λX hX=>by unfold cl2;rw[hX]
         obtain ⟨j,hj,ej⟩:=W0k hyp;have cX:=ZlI (G:=R.G) y ps (by have:=hw.pl;unfold Sml;omega)
         rw[Zay hj (by simp[ej]) (λm hm hmj=>W0S λq=>by
          have:=ZlL hrp hmj hj;rw[ej,<- q]at this;omega),hpy]at cX
         have hset:=λh=>Zmt (S:=S.take i) (A:=A) (B:=B) (day:=day) hrp (y:=y) h hyn hj ej
         have hXl:((rowC ps (S.take i) A B day).map ptA).length=ps.length:=(by rw[W0N,Zmq]);have hXj:∀ h:rchB A B y=true,((rowC ps (S.take i) A B day).map ptA)[j]'(by rw[hXl];exact hj)=[.int .i64 y.no,.int .i64 y.dy,.int .i64 y.ho,.int .i64 y.dw,.int .i64 y.lt,.int .i64 y.bk,.int .u8 y.lo]:=λh=>by rw[W1w,(hset h).1,hpy]
         have hXs:∀ h:rchB A B y=true,((rowC ps (S.take i) A B day).map ptA).set j [.int .i64 y.no,.int .i64 y.dy,.int .i64 y.ho,.int .i64 y.dw,.int .i64 y.lt,.int .i64 day,.int .u8 0]=(rowC ps (S.take (i+1)) A B day).map ptA:=λh=>by
          rw[tk,<- (hset h).2,W2q];rfl
         obtain ⟨X,hX⟩:=Qex ((rowC ps (S.take i) A B day).map ptA);simp only[<- hX]at hXl hXj hXs;refine Qga ?_;by_cases c1:A.contains y.ho=true
         . have hR:rchB A B y=true:=(by unfold rchB;rw[c1];rfl);rw[hw1 X hX.symm];rw[c1]at sr;simp -implicitDefEqProofs[hi,hly,hpy];refine Yd.of cI (by simp[pO,AV.pure]) ?_;rw[if_pos rfl]at sr;have hXj:=hXj hR;have hXs:=hXs hR;simp -implicitDefEqProofs[sr,hc3];refine Qco (cX) ?_;simp -implicitDefEqProofs[hXl,hj,hXj,wi];refine ⟨rfl,rfl,?_⟩;rw[hXs,hw2 _ rfl]
           ((try simp only[kO,kIR,kNL,kHL]);refine Ym.sub (by simp[lk,Ya,AV.keys,kO,kIR,kNL,kHL]) ?_;simp only[kO,kIR,kNL,kHL,Wkl,Zl1,and_true];(try simp[lk,Yc,Ya,AV.keys,kO,kIR,kNL,kHL]))
         . have c1:A.contains y.ho=false:=(by simpa using c1);rw[hw1 X hX.symm];rw[c1]at sr;simp -implicitDefEqProofs[hi,hly,hpy];refine Yd.of cI (by simp[pO,AV.pure]) ?_;rw[if_neg (by simp)]at sr;simp -implicitDefEqProofs[sr];refine Yd.of cD (by simp[AV.pure,ia]) ?_;by_cases c2:y.dw∈B
           . have hR:rchB A B y=true:=(by unfold rchB;rw[c1,W1O,W0w];exact c2);have hXj:=hXj hR;have hXs:=hXs hR;simp -implicitDefEqProofs[c2,hc3];refine Qco (cX) ?_;simp -implicitDefEqProofs[hXl,hj,hXj,wi];refine ⟨rfl,rfl,?_⟩;rw[hXs,hw2 _ rfl]
             ((try simp only[kO,kIR,kNL,kHL]);refine Ym.sub (by simp[lk,Ya,AV.keys,kO,kIR,kNL,kHL]) ?_;simp only[kO,kIR,kNL,kHL,Wkl,Zl1,and_true];(try simp[lk,Yc,Ya,AV.keys,kO,kIR,kNL,kHL]))
           . have hR:rchB A B y=false:=(by unfold rchB;rw[c1,W1O,Bool.eq_false_iff,ne_eq,W0w];exact c2);simp -implicitDefEqProofs[c2,wi];rw[hw2 _ rfl,tk,Zms hR,hX]
             ((try simp only[kO,kIR,kNL,kHL]);refine Ym.sub (by simp[lk,Ya,AV.keys,kO,kIR,kNL,kHL]) ?_;simp only[kO,kIR,kNL,kHL,Wkl,Zl1,and_true];(try simp[lk,Yc,Ya,AV.keys,kO,kIR,kNL,kHL]))
       . intro _;refine Qga ?_;unfold cl2;rw[W0v,Zmu];have hQl:(ps.map (calP l hs day A B)).length=ps.length:=(by simp);generalize ps.map (calP l hs day A B)=Q at *;simp -implicitDefEqProofs;refine Qgr ?_;have pP:((Q.map ptA).all λr=>r.all AV.pure)=true:=(by simp[ptA,AV.pure]);simp -implicitDefEqProofs[hV,pIR,pNL,pHL,pP,hQl]
def Zmy {α:Type} {l':List (Nat×α)} {k:Nat}:∀ {l:List (Nat×α)},lk l k=none->lk (l++l') k=lk l' k
 |[],_=>rfl
 | (n,x)::l,h=>by
   simp only[lk]at h
   split at h
   . cases h
   . rename_i e;simp only[W1e,lk,if_neg e];exact Zmy h
def Zmz {α:Type} {l':List (Nat×α)} {k:Nat} {x:α}:∀ {l:List (Nat×α)},lk l k=some x->lk (l++l') k=some x
 |[],h=>by simp[lk]at h
 | (n,y)::l,h=>by
   simp only[lk]at h;simp only[W1e,lk]
   split at h
   . rename_i e;rw[if_pos e];exact h
   . rename_i e;rw[if_neg e];exact Zmz h
def ZmA {α:Type} {k:Nat} {y:α} {l':List (Nat×α)}:∀ {l:List (Nat×α)},lk l k=none->putO (l++l') k y=l++putO l' k y
 |[],_=>rfl
 | (n,x)::l,h=>by
   simp only[lk]at h
   split at h
   . cases h
   . rename_i e;simp only[putO,e,if_false,W1e];rw[ZmA h]
def ZmB {α:Type} {k:Nat} {x y:α} {l':List (Nat×α)}:∀ {l:List (Nat×α)},lk l k=some x->putO (l++l') k y=putO l k y++l'
 |[],h=>by simp[lk]at h
 | (n,z)::l,h=>by
   simp only[lk]at h
   split at h
   . rename_i e;simp only[putO,e,if_true,W1e]
   . rename_i e;simp only[putO,e,if_false,W1e];rw[ZmB h]
def ZmC {α:Type} {b k:Nat}:∀ {l:List (Nat×α)},(∀ p∈l,b<=p.1)->k<b->lk l k=none
 |[],_,_=>rfl
 | (n,x)::l,h,hk=>by
   have:=h (n,x) (W0H ..);simp only at this;simp only[lk,if_neg (show ¬n=k by omega)];exact ZmC (λp hp=>h p (W0z _ hp)) hk
structure Tl (T:List (Nat×AObj)):Prop where
 big:∀ p∈T,700<=p.1/\p.1<1000
 nd:(T.map (·.1)).Nodup
 pure:∀ p∈T,∃ sz rows,p.2 = .row sz rows/\rows.all (λr=>r.all AV.pure)=true
 frz:∀ p∈T,∀ ok st,frzO ok st p.2=p.2
section
variable {T:List (Nat×AObj)}
def Tl.nil:Tl []:=⟨by simp,by simp,by simp,by simp⟩
def Tl.low (h:Tl T) {k:Nat} (hk:k<700):lk T k=none:=ZmC (λp hp=>(h.big p hp).1) hk
def Tl.lk (h:Tl T) (C:List (Nat×AObj)) {k:Nat} (hk:k<700):lk (T++C) k=lk C k:=Zmy (h.low hk)
def Tl.put (h:Tl T) (C:List (Nat×AObj)) (y:AObj) {k:Nat} (hk:k<700):putO (T++C) k y=T++putO C k y:=ZmA (h.low hk)
def lk_nd {α:Type}:∀ {l:List (Nat×α)},(l.map (·.1)).Nodup->∀ p∈l,lk l p.1=some p.2
 |[],_,_,h=>by cases h
 | (n,x)::l,hn,p,h=>by
   simp only[W0F,W1z]at hn;rcases W0g.1 h with rfl|h
   . simp[Go.Proofs.YtldibfhbaaadcaaGreatDoor.lk]
   . have:¬n=p.1:=λe=>hn.1 (e ▸ W0i.2 ⟨p,h,rfl⟩)
     simp only[Go.Proofs.YtldibfhbaaadcaaGreatDoor.lk,if_neg this];exact lk_nd hn.2 p h
def Tl.mem (h:Tl T) (C:List (Nat×AObj)) {p:Nat×AObj} (hp:p∈T):Go.Proofs.YtldibfhbaaadcaaGreatDoor.lk (T++C) p.1=some p.2:=Zmz (lk_nd h.nd p hp)
def ZmD {o:List (Nat×AObj)} {sz:Nat} {rows:List (List AV)} (h:rows.all (λr=>r.all AV.pure)=true):Yc o (.row sz rows)=true:=by
 simp only[Yc,W03];intro r hr x hx;have:=W03.1 (W03.1 h r hr) x hx;simp[Ya,AV.pure_keys x this]
def Tl.keep (h:Tl T) (o:List (Nat×AObj)) {p:Nat×AObj} (hp:p∈T):Yc o p.2=true:=by
 obtain ⟨sz,rows,e,hq⟩:=h.pure p hp;rw[e];exact ZmD hq
def Tl.ren (h:Tl T) (ρ:Nat->Nat) {p:Nat×AObj} (hp:p∈T):p.2.ren ρ=p.2:=by
 obtain ⟨sz,rows,e,hq⟩:=h.pure p hp;rw[e];exact AObj.ren_pure hq
def Tl.fin (h:Tl T) {ok:Nat->Bool} (hok:∀ k,700<=k->ok k=false) (t:List (Nat×AV)) (C:List (Nat×AObj)):(Yi ok ⟨t,T++C⟩).o=T++(C.filter λp=>!ok p.1).map λp=>(p.1,frzO ok ⟨t,T++C⟩ p.2):=by
 simp only[Yi,W1a,W0r]
 congr 1
 generalize (⟨t,T++C⟩ : St)=st;obtain ⟨hb,-,-,hf⟩:=h;clear C
 induction T with
 |nil=>rfl
 | cons p T ih =>
   have h1:=hok p.1 (hb p (W0H ..)).1;have h2:=hf p (W0H ..) ok st;have h3:=ih (λq hq=>hb q (W0z _ hq)) (λq hq=>hf q (W0z _ hq));simp only[List.filter_cons,h1,W1E,if_true,W0F,h2];rw[h3]
def St.env_congr {st st':St} {M:Nat->Prop} {κ:Nat->Option (Nat×Nat)} (hg:∀ k,st'.get k=st.get k):st'.env M κ=st.env M κ:=by unfold St.env;simp only[hg]
def SK.congr {R:Run} {st st':St} {a:Act} {W:World} {κ:Nat->Option (Nat×Nat)} (h:SK R st a W κ) (ht:∀ n,st'.tmp n=st.tmp n) (hg:∀ k,st'.get k=st.get k):SK R st' a W κ:=by
 have he:st'.env R.M κ=st.env R.M κ:=St.env_congr hg;exact ⟨h.defers,h.size,λn x hx=>by rw[he];exact h.tm n x (by rw[<- ht];exact hx),λk o ho=>by rw[he];exact h.obj k o (by rw[<- hg];exact ho),λk p hk=>by rw[hg];exact h.dom k p hk,h.inj,h.low,h.apart,h.kp,by rw[he];exact h.gr,by rw[he];exact h.mono,h.ent⟩
def Ym.congr {st st':St} (ht:∀ n,st'.tmp n=st.tmp n) (hg:∀ k,st'.get k=st.get k):Ym st st':=λ_ _ _ h=>SR.congr (λn=>(ht n).symm) (λk=>(hg k).symm) h
def Ym.fam {st:St} {t':List (Nat×AV)} {C':List (Nat×AObj)} (hT:Tl T) (ho:∀ p∈T,Go.Proofs.YtldibfhbaaadcaaGreatDoor.lk st.o p.1=some p.2) (ht:∀ p∈t',Go.Proofs.YtldibfhbaaadcaaGreatDoor.lk st.t p.1=some p.2/\Ya (T++C') p.2=true)
  (hC:∀ p∈C',Go.Proofs.YtldibfhbaaadcaaGreatDoor.lk st.o p.1=some p.2/\Yc (T++C') p.2=true) (hbig:∀ p∈st.o,p.1<1000):Ym st ⟨t',T++C'⟩ :=
 Ym.sub ht (λp hp=>(W0h.1 hp).elim (λh=>⟨ho p h,hT.keep _ h⟩) (hC p)) λp hp h=>absurd (hbig p hp) (by omega)
end
def Ym.fam1 {T C C':List (Nat×AObj)} {t t':List (Nat×AV)} (hT:Tl T) (ht:∀ p∈t',lk t p.1=some p.2/\Ya (T++C') p.2=true)
  (hC:∀ p∈C',lk (T++C) p.1=some p.2/\Yc (T++C') p.2=true) (hbig:∀ p∈C,p.1<1000:=by simp):Ym ⟨t,T++C⟩ ⟨t',T++C'⟩ :=
 Ym.fam hT (λ_ hp=>hT.mem _ hp) ht hC λp hp=>(W0h.1 hp).elim (λh=>(hT.big p h).2) (hbig p)
section
variable {P:Program} {G:Jg}
def Z1B.fam {T O C:List (Nat×AObj)} {t:List (Nat×AV)} {f:FuncId} {args:List AV} {r:AV} (h:PB P G f [] args r (T++O)) (hT:Tl T) (hr:r.ren id=r) (hOr:∀ p∈O,p.2.ren id=p.2) (hO:∀ p∈O,p.1<700/\lk C p.1=none) (hOn:(O.map (·.1)).Nodup) (hC:∀ p∈C,p.1<700)
  (hargs:args.all AV.pure=true):Z1B P G ⟨t,C⟩ f args r ⟨t,T++(C++O)⟩:=by
 have nd:((T++O).map (·.1)).Nodup:=by
  rw[W0r];refine List.nodup_append.2 ⟨hT.nd,hOn,λa ha b hb e=>?_⟩;obtain ⟨p,hp,rfl⟩:=W0i.1 ha;obtain ⟨q,hq,rfl⟩:=W0i.1 hb;have:=(hT.big p hp).1;have:=(hO q hq).1;omega
 have nd':((T++O).map λp=>id p.1).Nodup:=nd
 have hCT:∀ p∈T,lk C p.1=none:=λp hp=>by
  cases e:lk C p.1 with
  |none=>rfl
  | some o =>
    have:=hC _ (Z4K e);have:=(hT.big p hp).1;simp only at *;omega
 have hs:=Z1B.objs (st:=⟨t,C⟩) h id nd' (λp hp=>(W0h.1 hp).elim (hCT p) λq=>(hO p q).2) hargs hr.symm rfl;have ren:∀ p∈T++O,p.2.ren id=p.2:=λp hp=>(W0h.1 hp).elim (hT.ren id) (hOr p)
 have get:∀ k,(Yl id (T++O) ⟨t,C⟩).get k=(⟨t,T++(C++O)⟩ : St).get k:=λk=>by
  show _=lk (T++(C++O)) k
  cases e:lk (T++O) k with
  | some o =>
    have h1:=Z55 id (T++O) ⟨t,C⟩ k o nd' e;rw[ren (k,o) (Z4K e)]at h1;refine h1.trans ?_;rcases W0h.1 (Z4K e) with q|q
    . exact (hT.mem (C++O) q).symm
    . have h2:=(hO _ q);rw[hT.lk _ h2.1,Zmy h2.2];exact (lk_nd hOn _ q).symm
  | none =>
    have n1:∀ p∈T++O,id p.1≠k:=λp hp e2=>by
     have:=lk_nd nd p hp;rw[show p.1=k from e2,e]at this;cases this
    rw[Z54 id k _ _ n1];show lk C k=_
    have nT:lk T k=none:=by
     cases e2:lk T k with
     |none=>rfl
     |some o=>exact absurd rfl (n1 (k,o) (List.mem_append_left _ (Z4K e2)))
    have nO:lk O k=none:=by
     cases e2:lk O k with
     |none=>rfl
     |some o=>exact absurd rfl (n1 (k,o) (List.mem_append_right _ (Z4K e2)))
    rw[Zmy nT]
    cases e2:lk C k with
    |none=>rw[Zmy e2,nO]
    |some o=>rw[Zmz e2]
 intro R a W κ vs hG hk ha;obtain ⟨h1,h2⟩:=hs R a W κ vs hG hk ha;refine ⟨h1,h2.mono ?_⟩;rintro e W' ⟨u,κ1,h3,h4,h5⟩;have hg:∀ k,(⟨t,T++(C++O)⟩ : St).get k=(Yl id (T++O) ⟨t,C⟩).get k:=λk=>(get k).symm
 exact ⟨u,κ1,h3,h4.congr (λn=>by simp only[St.tmp,Z53]) hg,by rw[St.env_congr hg];exact h5⟩
end
def drW (k:Nat) (ds:List Int):AV:=if ds=[] then .vsl [] else .osl k ds.length
def drO (k:Nat) (ds:List Int):List (Nat×AObj):=if ds=[] then [] else [(k,.row 1 (ds.map ia))]
def hoJ (k:Nat) (h:Hld):List AV:=[.int .i64 h.id,.int .i64 h.fr,.int .i64 h.to,drW k h.ds]
def hoW:Nat->List Hld->List (List AV)
 |_,[]=>[]
 |k,h::t=>hoJ k h::hoW (k+1) t
def drF:Nat->List Hld->List (Nat×AObj)
 |_,[]=>[]
 |k,h::t=>drO k h.ds++drF (k+1) t
def hrO (n k:Nat) (H:Jh):List (Nat×AObj):=if H=[] then [] else [(n,.row 4 (hoW k H))]
def ZmE (b:Jh):∀ (a:Jh) (k:Nat),hoW k (a++b)=hoW k a++hoW (k+a.length) b
 |[],k=>by simp[hoW]
 | h::a,k=>by
   simp only[W1e,hoW,ZmE b a,W1p];rw[show k+1+a.length=k+(a.length+1) by omega]
def ZmF (b:Jh):∀ (a:Jh) (k:Nat),drF k (a++b)=drF k a++drF (k+a.length) b
 |[],k=>by simp[drF]
 | h::a,k=>by
   simp only[W1e,drF,ZmF b a,W1p,W0U];rw[show k+1+a.length=k+(a.length+1) by omega]
def ZmG:∀ (l:Jh) (k:Nat),(hoW k l).length=l.length
 |[],_=>rfl
 |h::l,k=>by simp[hoW,ZmG l]
def ZmH:∀ (l:Jh) (k i:Nat) (h:i<l.length),(hoW k l)[i]? = some (hoJ (k+i) l[i])
 |[],_,_,h=>by simp at h
 |x::l,k,0,_=>rfl
 | x::l,k,i+1,h=>by
   have:=ZmH l (k+1) i (by simpa using h);rw[hoW,List.getElem?_cons_succ,this,show k+1+i=k+(i+1) by omega];rfl
def ZmI:∀ (l:Jh) (k:Nat),∀ p∈drF k l,k<=p.1/\p.1<k+l.length/\∃ ds:List Int,p.2 = .row 1 (ds.map ia)
 |[],_,p,h=>by cases h
 | x :: l,k,p,h=>by
   rw[drF]at h;rcases W0h.1 h with h|h
   . unfold drO at h
     split at h
     . cases h
     . rw[W0B]at h;subst h;exact ⟨W0f _,by simp,x.ds,rfl⟩
   . obtain ⟨h1,h2,h3⟩:=ZmI l (k+1) p h;exact ⟨by omega,by simp;omega,h3⟩
def ZmJ:∀ (l:Jh) (k:Nat),((drF k l).map (·.1)).Nodup
 |[],_=>by simp[drF]
 | x :: l,k=>by
   rw[drF,W0r];refine List.nodup_append.2 ⟨by unfold drO;split <;> simp,ZmJ l (k+1),λa ha b hb e=>?_⟩;obtain ⟨p,hp,rfl⟩:=W0i.1 ha;obtain ⟨q,hq,rfl⟩:=W0i.1 hb;have:=(ZmI l (k+1) q hq).1;unfold drO at hp
   split at hp
   . cases hp
   . rw[W0B]at hp;subst hp;simp only at e;omega
def ZmK (ds:List Int):(ds.map ia).all (λr=>r.all AV.pure)=true:=by simp[ia,AV.pure]
def ZmL (ok:Nat->Bool) (st:St) (ds:List Int):frzO ok st (.row 1 (ds.map ia)) = .row 1 (ds.map ia):=by
 simp only[frzO,W10]
 congr 2
 funext x;simp[ia,frzA,frz,AV.keys]
def ZmM {l:Jh} (h:l.length<=100) (b:Nat) (hb:700<=b) (hb2:b<=800):Tl (drF b l):=by
 refine ⟨λp hp=>?_,ZmJ l _,λp hp=>?_,λp hp ok st=>?_⟩
 . have:=ZmI l _ p hp;omega
 . obtain ⟨-,-,ds,e⟩:=ZmI l _ p hp;exact ⟨1,_,e,ZmK ds⟩
 . obtain ⟨-,-,ds,e⟩:=ZmI l _ p hp;rw[e];exact ZmL ok st ds
def ZmN:∀ (l:Jh) (k i:Nat) (h:i<l.length),l[i].ds≠[]->lk (drF k l) (k+i)=some (.row 1 (l[i].ds.map ia))
 |[],_,_,h,_=>by simp at h
 | x::l,k,0,_,hd=>by
   have hd:¬x.ds=[]:=hd;simp[drF,drO,hd,lk]
 | x :: l,k,i+1,h,hd=>by
   have:=ZmN l (k+1) i (by simpa using h) hd;rw[drF,Zmy,show k+(i+1)=k+1+i by omega,this]
   . rfl
   . unfold drO
     split
     . rfl
     . simp only[lk];rw[if_neg (by omega)]
def ZmO (l:Jh) (k j:Nat) (h:l.length<=j):lk (drF k l) (k+j)=none:=by
 cases e:lk (drF k l) (k+j) with
 |none=>rfl
 | some o =>
   have:=(ZmI l k _ (Z4K e)).2.1;simp only at this;omega
def ZmP (C:List (Nat×AObj)) (l:Jh) (b:Nat):Yc (drF b l++C) (.row 4 (hoW b l))=true:=by
 simp only[Yc,W03];intro r hr x hx;obtain ⟨i,hi⟩:=W1J hr;have hl:i<l.length:=(by have:=(W02.1 hi).1;rwa [ZmG]at this);rw[ZmH l b i hl]at hi
 cases hi
 unfold hoJ at hx;simp only[W0g,W0Q,or_false]at hx;rcases hx with rfl|rfl|rfl|rfl
 . simp[Ya,AV.keys]
 . simp[Ya,AV.keys]
 . simp[Ya,AV.keys]
 . unfold drW
   split
   . simp[Ya,AV.keys]
   . rename_i hd;simp[Ya,AV.keys,Zmz (ZmN l b i hl hd)]
def ZmQ (ok:Nat->Bool) (st:St) (b:Nat) (hok:∀ k,b<=k->ok k=false):∀ l:List Hld,∀ c,b<=c->frzO ok st (.row 4 (hoW c l)) = .row 4 (hoW c l):=by
 intro l c hc;simp only[frzO,AObj.row.injEq,true_and]
 induction l generalizing c with
 |nil=>rfl
 | cons x l ih =>
   simp only[hoW,W0F,ih (c+1) (by omega),W2e,and_true];have:=hok c hc;unfold hoJ drW
   split <;> simp[frzA,frz,AV.keys,this]
def ZmR (l:Jh) (b:Nat):AObj.ren id (.row 4 (hoW b l)) = .row 4 (hoW b l):=by
 simp only[AObj.ren,AObj.row.injEq,true_and]
 induction l generalizing b with
 |nil=>rfl
 | cons x l ih =>
   simp only[hoW,W0F,ih (b+1),W2e,and_true];unfold hoJ drW
   split <;> simp[AV.ren]
def ZmS {st:St} {n:Nat}:∀ (l:Jh) (b:Nat),(∀ i (h:i<l.length),l[i].ds≠[]->st.get (b+i)=some (.row 1 (l[i].ds.map ia)))->Yj (Yj (Yh okAll st (n+1))) (hoW b l)=some (l.map hoa)
 |[],_,_=>rfl
 | x::l,b,h=>by
   have h1:=ZmS (st:=st) (n:=n) l (b+1) λi hi hd=>by
    have:=h (i+1) (by simpa using hi) hd;rw[show b+1+i=b+(i+1) by omega];exact this
   have h2:Yj (Yh okAll st (n+1)) (hoJ b x)=some (hoa x):=by
    unfold hoJ drW;by_cases c:x.ds=[]
    . simp[c,Yj,Yh,hoa,AV.pure]
    . have h3:=h 0 (by simp) c;simp only[W1X,List.getElem_cons_zero,St.get]at h3;simp[c,Yj,Yh,hoa,h3,okAll,ia,AV.pure]
   simp only[hoW,Yj,h2,h1,W0F]
section
open Qq Go.Proofs.Tryz
def ZmT:RCode :=
 S [r 0 [w 2 (.alloc [.nils,.nils,.nils,.nils])],R 1 [m 8 0,a [0] (w 9 (.nilck (.t 8))),a [1] (f 10 0 9),a [2] (f 11 0 10),a [3] (f 12 1 11),a [4] (l 13 12),a [5] (c 14 44 [13]),a [6] (w 15 (.build [.nils,.nils] [(1,1,.t 14)])),m 16 0,a [8] (w 17 (.nilck (.t 16))),a [9] (f 18 0 17),a [10] (f 19 3 18),a [11] (l 20 19),a [12,6] (c 21 45 [20]),a [7,13] (w 22 (.build [.nils,.nils,.nils,.nils] [(0,2,.t 15),(3,1,.t 21)])),w 3 (.alloc [.nils,.nils,.nils,.nils]),a [15,14,13,0,1,2,3,4,5,6,7,8,9,10,11,12,13,14,15] (s 4 3 22)],S [r 2 [m 23 0,w 24 (.nilck (.t 23)),f 25 0 24,f 26 0 25,f 27 0 26,f 28 0 27,l 29 28,e 30 29,n 31 O],.block 0 (.loop (S [r 3 [o 32 .lss 31 30],.cond (.t 32) .skip (.exit 0),.block 1 (S [r 4 [i 33 5 29 31,L 34 5 33,w 5 (.alloc [O,O,.int .u8 0,.nils,.nils]),s 5 5 34],R 5 [f 35 3 5,a [0] (l 36 35),a [1] (c 37 46 [36]),f 38 4 5,a [3] (l 39 38),a [4,2] (c 40 47 [39]),a [0,1,2,3,4] (f 41 3 5),a [6,2,5,0,1,2,3,4] (s 1 41 37),a [0,1,2,3,4,5,6,7] (f 42 4 5),a [8,5,7,0,1,2,3,4,5,6,7] (s 1 42 40)],r 6 [f 43 0 3,f 44 0 43,f 45 0 44,l 46 45,L 47 5 5,w 48 (.bsl false 5 1 [O,O,.int .u8 0,.nils,.nils] [(0,.t 47)]),w 49 (.app 5 72 (.t 46) (.t 48)),f 50 0 3,f 51 0 50,f 52 0 51,s 1 52 49]]),r 7 [k 53 .add 31 I,m 31 53]]))],S [r 8 [m 54 0,w 55 (.nilck (.t 54)),f 56 0 55,f 57 2 56,l 58 57,e 59 58,n 60 O],.block 2 (.loop (S [r 9 [o 61 .lss 60 59],.cond (.t 61) .skip (.exit 2),.block 3 (S [r 10 [i 62 4 58 60,L 63 4 62,w 7 (.alloc [O,O,O,.nils]),s 4 7 63],r 11 [f 64 3 7,l 65 64,c 66 48 [65],f 67 3 7,s 1 67 66],r 12 [f 68 2 3,l 69 68,L 70 4 7,w 71 (.bsl true 4 1 [O,O,O,.nils] [(0,.t 70)]),w 72 (.app 4 48 (.t 69) (.t 71)),f 73 2 3,s 1 73 72]]),r 13 [k 74 .add 60 I,m 60 74]]))],r 14 [L 75 4 3,s 4 2 75],.ret]
def ZmU:List RRes:=[.c 2 true 4]
def ZmV:RCode :=
 S [r 0 [b 5 0,b 9 4,n 10 (.bool false)],S [r 1 [L 28 4 5,c 29 4 [28],m 30 29,g 30 false (m 31 2),g 30 false (e 32 31),g 30 false (k 33 .gtr 32 (.int .i64 20)),u 34 30 33,m 35 34,g 35 false (m 36 3),g 35 false (e 37 36),g 35 false (k 38 .gtr 37 (.int .i64 20)),u 39 35 38],K 39 2 [n 10 (.bool true)]],r 3 [L 40 4 5,c 41 5 [40],w 42 (.bsl true 1 0 [] []),m 43 2,w 44 (.app 1 8 (.t 42) (.t 43)),w 45 (.bsl true 1 0 [] []),m 46 3,w 47 (.app 1 8 (.t 45) (.t 46)),w 11 (.alloc [.nils,.nils,.nils,.nils]),s 4 11 41,m 12 44,m 13 47],r 4 [L 49 4 11,m 50 1,m 51 12,m 52 13,c 53 6 [49,50,51,52],m 48 53,x 54 0 48,x 55 1 48,w 14 (.alloc [.nils,.nils,.nils,.nils]),s 4 14 54,m 15 55],r 5 [L 57 4 5,m 58 1,m 59 2,m 60 3,c 61 7 [57,58,59,60],m 56 61,x 62 0 56,x 63 1 56,w 16 (.alloc [.nils,.nils,.nils,.nils]),s 4 16 62,m 17 63],r 6 [L 65 4 11,L 66 7 9,c 67 8 [65,66],m 64 67,x 68 0 64,x 69 1 64,w 18 (.alloc [.nils,.nils,.nils,.nils]),s 4 18 68,m 19 69],r 7 [L 71 4 5,L 72 7 9,c 73 9 [71,72],m 70 73,x 74 0 70,x 75 1 70,w 20 (.alloc [.nils,.nils,.nils,.nils]),s 4 20 74,m 21 75],r 8 [L 76 4 14,L 77 4 16,c 78 10 [76,77],m 79 78,g 79 true (m 80 15),g 79 true (m 81 17),g 79 true (o 82 .eql 80 81),v 83 79 82,m 84 83,g 84 true (L 85 4 18),g 84 true (L 86 4 20),g 84 true (c 87 10 [85,86]),v 88 84 87,m 89 88,g 89 true (m 90 19),g 89 true (m 91 21),g 89 true (o 92 .eql 90 91),v 93 89 92,m 22 93],S [r 9 [L 94 4 14,L 95 4 18,w 96 (.bsl true 4 2 [.nils,.nils,.nils,.nils,.nils,.nils,.nils,.nils] [(0,.t 94),(1,.t 95)]),e 97 96,n 98 O],.block 0 (.loop (S [r 10 [o 99 .lss 98 97],.cond (.t 99) .skip (.exit 0),.block 1 (S [r 11 [i 100 4 96 98,L 101 4 100,w 24 (.alloc [.nils,.nils,.nils,.nils]),s 4 24 101],S [r 12 [f 102 3 24,l 103 102,e 104 103,n 105 O],.block 2 (.loop (S [r 13 [o 106 .lss 105 104],.cond (.t 106) .skip (.exit 2),.block 3 (S [r 14 [m 107 105,m 25 107],r 15 [f 108 3 24,l 109 108,m 110 25,i 111 7 109 110,f 112 0 111,l 113 112,k 114 .add 113 (.int .i64 5),i 115 7 109 110,f 116 0 115,s 1 116 114]]),r 16 [k 117 .add 105 I,m 105 117]]))],r 17 [f 118 2 24,l 119 118,e 120 119,n 121 O],.block 4 (.loop (S [r 18 [o 122 .lss 121 120],.cond (.t 122) .skip (.exit 4),.block 5 (S [r 19 [m 123 121,m 26 123],r 20 [f 124 2 24,l 125 124,m 126 26,i 127 4 125 126,f 128 3 127,l 129 128,e 130 129,n 131 O],.block 6 (.loop (S [r 21 [o 132 .lss 131 130],.cond (.t 132) .skip (.exit 6),.block 7 (S [r 22 [m 133 131,m 27 133],r 23 [f 134 2 24,l 135 134,m 136 26,i 137 4 135 136,f 138 3 137,l 139 138,m 140 27,i 141 1 139 140,l 142 141,k 143 .add 142 (.int .i64 5),i 144 1 139 140,s 1 144 143]]),r 24 [k 145 .add 131 I,m 131 145]]))]),r 25 [k 146 .add 121 I,m 121 146]]))]),r 26 [k 147 .add 98 I,m 98 147]]))],r 27 [m 148 22,m 149 148,g 149 true (L 150 4 11),g 149 true (L 151 4 5),g 149 true (c 152 10 [150,151]),v 153 149 152,m 154 153,g 154 true (m 155 12),g 154 true (m 156 2),g 154 true (c 157 11 [155,156]),v 158 154 157,m 159 158,g 159 true (m 160 13),g 159 true (m 161 3),g 159 true (c 162 11 [160,161]),v 163 159 162,m 10 163],.ret]
def ZmW:List RRes:=[.t 10]
def ZmX:PCt prog 3 f3 ZmV ZmW:=pcT func3 rfl
def ZmY:RCode :=
 S [r 0 [b 4 0,w 8 (.alloc [.nils,.nils,.nils,.nils]),n 9 O],S [r 1 [L 17 4 4,m 18 1,w 19 (.call 23 [.t 17,.t 18,.c I]),m 10 19],r 2 [m 20 10,k 21 .neq 20 O],K 21 3 [w 22 (.build [.nils,.nils,.nils,.nils] []),m 23 10,s 4 8 22,m 9 23]],S [r 4 [n 11 O],.block 0 (.loop (S [S [r 5 [m 24 11,m 25 2,e 26 25,o 27 .lss 24 26],.cond (.t 27) .skip (.exit 0)],.block 1 (S [R 7 [L 30 4 4,m 31 2,m 32 11,a [1,2] (i 33 1 31 32),a [3] (l 34 33),a [0,4] (c 35 24 [30,34]),a [5] (k 36 .lss 35 O)],K 36 8 [w 37 (.build [.nils,.nils,.nils,.nils] []),s 4 8 37,n 9 (.int .i64 6)]]),r 6 [m 28 11,k 29 .add 28 I,m 11 29]]))],S [r 9 [n 12 O],.block 2 (.loop (S [S [r 10 [m 38 12,m 39 3,e 40 39,o 41 .lss 38 40],.cond (.t 41) .skip (.exit 2)],.block 3 (S [R 12 [f 44 0 4,a [0] (f 45 0 44),a [1] (L 46 1 45),a [2] (c 47 26 [46]),m 48 3,m 49 12,a [4,5] (i 50 1 48 49),a [6] (l 51 50),a [3,7,3] (c 52 25 [47,51]),a [8] (t 53 52)],K 53 13 [w 54 (.build [.nils,.nils,.nils,.nils] []),s 4 8 54,n 9 (.int .i64 6)]]),r 11 [m 42 12,k 43 .add 42 I,m 12 43]]))],r 14 [L 55 4 4,c 56 5 [55],w 13 (.alloc [.nils,.nils,.nils,.nils]),s 4 13 56],r 15 [L 57 4 4,m 58 1,c 59 27 [57,58],m 14 59],S [r 16 [n 15 O],.block 4 (.loop (S [S [r 17 [m 60 15,m 61 14,e 62 61,o 63 .lss 60 62],.cond (.t 63) .skip (.exit 4)],.block 5 (S [R 19 [f 66 3 4,a [0] (l 67 66),m 68 14,m 69 15,a [2,3] (i 70 1 68 69),a [4] (l 71 70),a [1,5] (i 72 7 67 71),a [6] (L 73 7 72),w 16 (.alloc [O,O,O,O,O,O,.int .u8 0]),a [8,7,0,1,2,3,4,5,6,7,8] (s 7 16 73)],r 20 [m 74 2,f 75 2 16,l 76 75,c 77 25 [74,76],m 78 77,g 78 false (m 79 3),g 78 false (f 80 3 16),g 78 false (f 81 0 80),g 78 false (l 82 81),g 78 false (c 83 25 [79,82]),u 84 78 83],.cond (.t 84) (R 21 [f 85 3 13,a [0] (l 86 85),m 87 14,m 88 15,a [2,3] (i 89 1 87 88),a [4] (l 90 89),f 91 3 13,a [6] (l 92 91),m 93 14,m 94 15,a [8,9] (i 95 1 93 94),a [10] (l 96 95),m 97 1,a [1,5,0,1,2,3,4,5,11,12] (i 98 7 86 90),a [13,0,1,2,3,4,5,11,12] (f 99 5 98),a [14,12,0,1,2,3,4,5,11,12] (s 1 99 97),a [7,11,0,1,2,3,4,5,6,7,8,9,10,11,12,13,14,15] (i 100 7 92 96),a [16,0,1,2,3,4,5,6,7,8,9,10,11,12,13,14,15] (f 101 6 100),a [17,15,0,1,2,3,4,5,6,7,8,9,10,11,12,13,14,15] (z (.store 1 (.t 101) (.c (.int .u8 0))))]) .skip]),r 18 [m 64 15,k 65 .add 64 I,m 15 65]]))],r 22 [L 102 4 13,s 4 8 102,n 9 O],.ret]
def ZmZ:List RRes:=[.c 8 true 4,.t 9]
def Zn0:PCt prog 7 f7 ZmY ZmZ:=pcT func7 rfl
def Zn1:RCode :=
 S [r 0 [b 2 0,b 3 1,w 4 (.alloc [.nils,.nils,.nils,.nils]),n 5 O],S [r 1 [L 10 4 2,c 11 34 [10],m 6 11],r 2 [m 12 6,k 13 .neq 12 O],K 13 3 [w 14 (.build [.nils,.nils,.nils,.nils] []),m 15 6,s 4 4 14,m 5 15]],S [r 4 [f 16 3 2,l 17 16,e 18 17,k 19 .eql 18 (.int .i64 30)],K 19 5 [w 20 (.build [.nils,.nils,.nils,.nils] []),s 4 4 20,n 5 (.int .i64 9)]],r 6 [L 21 4 2,c 22 5 [21],w 7 (.alloc [.nils,.nils,.nils,.nils]),s 4 7 22],r 7 [f 23 3 7,l 24 23,L 25 7 3,w 26 (.bsl false 7 1 [O,O,O,O,O,O,.int .u8 0] [(0,.t 25)]),w 27 (.app 7 56 (.t 24) (.t 26)),f 28 3 7,s 1 28 27],S [r 8 [f 29 3 7,l 30 29,e 31 30,k 32 .sub 31 I,m 8 32],.block 0 (.loop (S [S [R 9 [m 33 8,a [0] (k 34 .gtr 33 O),a [1] (m 35 34),a [2] (g 35 true (f 36 3 7)),a [3,2] (g 35 true (l 37 36)),a [2] (g 35 true (m 38 8)),a [5,2] (g 35 true (k 39 .sub 38 I)),a [4,6,2] (g 35 true (i 40 7 37 39)),a [7,2] (g 35 true (f 41 0 40)),a [8,2] (g 35 true (l 42 41)),a [2] (g 35 true (f 43 3 7)),a [10,2] (g 35 true (l 44 43)),a [2] (g 35 true (m 45 8)),a [11,12,2] (g 35 true (i 46 7 44 45)),a [13,2] (g 35 true (f 47 0 46)),a [14,2] (g 35 true (l 48 47)),a [9,15,2] (g 35 true (o 49 .gtr 42 48)),a [2,16] (v 50 35 49)],.cond (.t 50) .skip (.exit 0)],.block 1 (S [r 11 [f 53 3 7,l 54 53,m 55 8,i 56 7 54 55,L 57 7 56,w 9 (.alloc [O,O,O,O,O,O,.int .u8 0]),s 7 9 57],R 12 [f 58 3 7,a [0] (l 59 58),m 60 8,f 61 3 7,a [3] (l 62 61),m 63 8,a [5] (k 64 .sub 63 I),a [4,6] (i 65 7 62 64),a [7] (L 66 7 65),a [1,2,0,1,2,3,4,5,6,7,8] (i 67 7 59 60),a [9,8,0,1,2,3,4,5,6,7,8] (s 7 67 66)],r 13 [f 68 3 7,l 69 68,m 70 8,k 71 .sub 70 I,L 72 7 9,i 73 7 69 71,s 7 73 72]]),r 10 [m 51 8,k 52 .sub 51 I,m 8 52]]))],S [r 14 [L 74 4 7,c 75 35 [74],t 76 75],K 76 15 [w 77 (.build [.nils,.nils,.nils,.nils] []),s 4 4 77,n 5 (.int .i64 70)]],r 16 [L 78 4 7,s 4 4 78,n 5 O],.ret]
def Zn2:List RRes:=[.c 4 true 4,.t 5]
def Zn3:PCt prog 9 f9 Zn1 Zn2:=pcT func9 rfl
end
def coL:Nat->Bool:=λk=>decide (k<700) && !(k == 621) && !(k == 72)
def coL2:coL 2=true:=rfl
def coL3:coL 3=true:=rfl
def coL72:coL 72=false:=rfl
def Zn4:coL 621=false:=rfl
def coU (O:AV) (B:List (List AV)) (ps:Jp) (r:Jr) (hs H:Jh) (i:Nat):St :=
 ⟨[(60,.int .i64 i),(59,.int .i64 hs.length),(58,.vsl (hs.map hoa)),(3,.ptr 3 0),(2,.ptr 2 0),(0,O)],drF 700 H++([(3,.box [.vsl (r.map isa),.vsl B,hlV 72 H,.osl 621 ps.length]),(621,.row 7 (ps.map ptA)),(2,.box [.nils,.nils,.nils,.nils])]++hrO 72 700 H)⟩
def coV0 (O F:AV) (B:List (List AV)) (r:Jr) (hs H:Jh) (i:Nat):St :=
 ⟨[(60,.int .i64 i),(59,.int .i64 hs.length),(58,.vsl (hs.map hoa)),(3,.ptr 3 0),(2,.ptr 2 0),(0,O)],drF 700 H++([(3,.box [.vsl (r.map isa),.vsl B,hlV 72 H,F]),(2,.box [.nils,.nils,.nils,.nils])]++hrO 72 700 H)⟩
def Zn5 (l:List Int) (hne:l≠[]) (hl:Sml l):PB prog G 48 [] [.vsl (l.map ia)] (.osl 5 l.length) [(5,.row 1 (l.map ia))]:=by
 refine Z5j (λk=>decide (k<1000) && !(k == 5)) (by intro k hk;simp at hk;omega) Tryz.func48 rfl (by kernel_rfl) (rc:=Z5x) (by kernel_rfl) (rs:=Z5y) (by kernel_rfl) (W0C rfl) λR _ hG hrd=>Qga ?_
 subst hG;unfold Sml at hl;have b1:l.length*8<=70368744177664:=(by omega);have h0:¬l.length=0:=λe=>hne (W0l.1 e)
 have k1:(l.map ia).all (λr=>r.length == 1)=true:=(by simp[ia]);have k2:(l.map ia).all (λr=>r.all AV.one)=true:=by simp[ia,AV.one]
 have f1:∀ ok st,(l.map ia).map (λr=>r.map (frzA ok st))=l.map ia:=λok st=>by
  rw[W10];refine W0K λp _=>?_
  simp[ia,frzA,frz,AV.keys]
 simp -implicitDefEqProofs[Z5x,Z5y,h0,hne,b1,k1,k2];simp -implicitDefEqProofs[FinO,Yi,frzO,f1,frzA,frz,AV.keys]
def Zn6 (r:Jr) (l:Jl) (hs:Jh) (ps:Jp) (E:AV) (pE:E.pure=true) (cP:PB prog G 45 [] [E] (.osl 5 ps.length) [(5,.row 7 (ps.map ptA))]) (hr:Wf r) (hl:Sml l) (hw:WfP hs ps) (hne:r≠[]) (h80:r.length<=80) :
  PB prog G 19 [] [ofE r l hs E] (.agg [.vsl (r.map isa),.vsl (l.map na),hlV 72 hs,.osl 621 ps.length]) (drF 700 hs++((621,.row 7 (ps.map ptA))::hrO 72 700 hs)):=by
 have kE:=AV.pure_keys _ pE;have hhl:=hw.hl;have hpl:=hw.pl;have hdl:=hw.dl;have cN:=Zm6 (G:=G) l hl;have hI:=λx (hx:x∈r)=>hr.1.2 x hx
 obtain ⟨B,hB⟩:=Qex (l.map na);obtain ⟨N,hN⟩:=Qex (AV.vsl B);have pN:N.pure=true:=(by rw[hN,hB];simp[AV.pure,na]);have kN:=AV.pure_keys _ pN;obtain ⟨cs,hO,hc0,hc1,hc2,hc3⟩ : ∃ cs,ofE r l hs E = .vptr cs 0/\cs[0]? = some (.vsl (r.map isa))/\cs[1]? = some (.vsl B)/\cs[2]? = some (.vsl (hs.map hoa))/\cs[3]? = some E:=⟨_,rfl,rfl,by rw[hB];rfl,rfl,rfl⟩;have pO:=Zm9 r l hs E pE;rw[hO]at pO ⊢;have kO:=AV.pure_keys _ pO;have rN:=λρ=>AV.ren_pure (ρ:=ρ) N pN
 rw[<- hB]at cN ⊢;rw[hN]at pN kN rN;refine Z5j coL (by intro k hk;simp[coL]at hk;omega) Tryz.func19 rfl (by kernel_rfl) (rc:=ZmT) (by kernel_rfl) (rs:=ZmU) (by kernel_rfl) (W0C rfl) λR _ hG' hrd=>Yb mixed 4 ?_
 subst hG';simp -implicitDefEqProofs[ZmT,ZmU];refine GO0 (ZjE mixed ?_)
 iterate 6 (rw[RE_op (by simp[wants]) (by simp[Z1y])];simp -implicitDefEqProofs[execE,hc0,hc1,hc2,hc3])
 rw[ZjG (by simp[wants])];simp -implicitDefEqProofs;refine CallE.of cN (by simp[pN]) ?_
 iterate 6 (rw[RE_op (by simp[wants]) (by simp[Z1y])];simp -implicitDefEqProofs[execE,hc0,hc1,hc2,hc3])
 rw[ZjG (by simp[wants])];simp -implicitDefEqProofs;refine CallE.new (NewS.of cP (λk=>k+616) (by simp) (by simp[St.get,lk]) (by simp[pE]) rfl) ?_;simp -implicitDefEqProofs[Yl,ZlD,AV.ren]
 iterate 3 (rw[RE_op (by simp[wants]) (by simp[Z1y])];simp -implicitDefEqProofs[execE])
 refine ⟨(by simp only[kE,List.flatMap_nil,W1G,W18];rfl),?_⟩;refine Qgr ?_;simp -implicitDefEqProofs[hc0];refine Z9H (coS (.vptr cs 0) B ps r) (λ_=>True) r.length ?_ trivial ?_ ?_
 . simp only[coS,coV,coO,if_true,W18]
   ((try simp only[Zl1]);refine Ym.sub (by simp[lk,Ya,AV.keys,Zl1]) ?_;simp only[Zl1,Wkl,and_true];(try simp[lk,Yc,Ya,AV.keys,Zl1]))
 . intro i hi _;have wi:i64.wrap ((i:Int)+1)=(i:Int)+1:=Yf;have sc:=Zm2 hi;have hx2:=hI _ (W0e hi);obtain ⟨x,hx⟩:=Qex (r[i]);have hax:isa r[i]=[.int .i64 x.d,.int .i64 x.l,.int .u8 x.k,.vsl (x.its.map ita),.vsl (x.dms.map dma)]:=(by rw[<- hx];rfl);rw[<- hx]at hx2;rw[hax]at sc;have c1:=Zm0 (G:=R.G) x.its hx2.1;have c2:=Zm1 (G:=R.G) x.dms hx2.2;refine Qga ?_;unfold coS;by_cases h0i:i=0
   . subst h0i;have e0:rwI r 0=[]:=rfl;have w1:i64.wrap 1=1:=rfl;rw[e0,W18]at sc;replace sc:rwI r 1=[[.int .i64 x.d,.int .i64 x.l,.int .u8 x.k,.vsl (x.its.map ita),.vsl (x.dms.map dma)]]:=sc;simp only[coV,coO,if_true,W18];simp -implicitDefEqProofs[hi,hax,w1];refine Qco (c1) ?_;simp -implicitDefEqProofs;refine Qco (c2) ?_;simp -implicitDefEqProofs[w1];refine ⟨rfl,?_⟩;rw[sc]
     (refine Wkc ?_;simp only[Zl1,Wkl,and_true];(try simp[lk,Yc,Ya,AV.keys]))
   . have b1:(i+1)*72<=70368744177664:=(by omega);have hln:=Zm3 (r:=r) (i:=i) (by omega);simp only[coV,coO,h0i,if_false,W1e,W18];simp -implicitDefEqProofs[hi,hax];refine Qco (c1) ?_;simp -implicitDefEqProofs;refine Qco (c2) ?_;simp -implicitDefEqProofs[b1,wi,hln];refine ⟨rfl,?_⟩;rw[<- sc]
     (refine Wkc ?_;simp only[Zm4,Zl1,Wkl,and_true];(try simp[lk,Yc,Ya,AV.keys]))
 . intro _;have hr0:r.length≠0:=λe=>hne (W0l.1 e)
   have hrw:rwI r r.length=r.map isa:=(by unfold rwI;rw[W0v]);have pr:((r.map isa).all λr=>r.all AV.pure)=true:=(by simp[isa,AV.pure]);have pP:((ps.map ptA).all λr=>r.all AV.pure)=true:=by simp[ptA,AV.pure]
   have fP:∀ ok st,frzO ok st (.row 7 (ps.map ptA)) = .row 7 (ps.map ptA):=λok st=>by
    simp only[frzO,W10]
    congr 2
    funext p;simp[ptA,frzA,frz,AV.keys]
   refine Qga ?_;unfold coS;rw[show coO r r.length=[(49,.row 5 (r.map isa))] by unfold coO;rw[if_neg hr0,hrw],show coV r.length = .osl 49 r.length by unfold coV;rw[if_neg hr0]];simp -implicitDefEqProofs;refine Qgr ?_;simp -implicitDefEqProofs[hc2];refine Z9H (λi=>coU (.vptr cs 0) B ps r hs (hs.take i) i) (λ_=>True) hs.length ?_ trivial ?_ ?_
   . refine Ym.trans (Ym.frz (λk=>k == 49) _) ?_;simp only[coU,hlV,hrO,drF,W1g,if_true,W1G,W18]
     ((try simp only[Yi,frzA,fP,frzO,frz,Yh,Yj,St.get,AV.pure,pr]);refine Ym.sub (by simp[lk,Ya,AV.keys,Yi,frzA,fP,frzO,frz,Yh,Yj,St.get,AV.pure,pr]) ?_;simp only[Yi,frzA,fP,frzO,frz,Yh,Yj,St.get,AV.pure,pr,Wkl,Zl1,and_true];(try simp[lk,Yc,Ya,AV.keys,Yi,frzA,fP,frzO,frz,Yh,Yj,St.get,AV.pure,pr]))
     intro a _;simp[ptA,frzA,frz,AV.keys]
   . intro i hi _;have hdi:=hdl _ (W0e hi);obtain ⟨h,hhe⟩:=Qex (hs[i]);rw[<- hhe]at hdi;have hlx:hs[i]=h:=hhe.symm;have hho:hoa h=[.int .i64 h.id,.int .i64 h.fr,.int .i64 h.to,.vsl (h.ds.map ia)]:=rfl;have c3:=λhd=>Zn5 (G:=R.G) h.ds hd (by unfold Sml;omega)
     have wi:i64.wrap ((i:Int)+1)=(i:Int)+1:=Yf;have tk:hs.take (i+1)=hs.take i++[h]:=(by rw[W08 hi,hlx]);have tl:(hs.take i).length=i:=(by simp;omega);have bb:(i+1)*48<=70368744177664:=(by omega);obtain ⟨H,hH⟩:=Qex (hs.take i);rw[<- hH]at tk tl;have hne:¬H++[h]=[]:=(by simp);have hV2:hlV 72 (H++[h]) = .osl 72 (i+1):=(by unfold hlV;rw[if_neg hne];simp[tl]);have hO2:hrO 72 700 (H++[h])=[(72,.row 4 (hoW 700 H++[hoJ (700+i) h]))]:=(by unfold hrO;rw[if_neg hne,ZmE,tl];rfl);have hT2:drF 700 (H++[h])=drF 700 H++drO (700+i) h.ds:=(by rw[ZmF,tl];simp[drF]);have kp2:=λC=>ZmP C (H++[h]) 700
     rw[hT2,ZmE,tl,show hoW (700+i) [h]=[hoJ (700+i) h] from rfl]at kp2;have tT:=ZmM (l:=H) (by omega) 700 (by omega) (by omega);have tT2:=ZmM (l:=H++[h]) (by simp;omega) 700 (by omega) (by omega);rw[hT2]at tT2;have n1:lk (drF 700 H) (700+i)=none:=(by rw[<- tl];exact ZmO H 700 _ (W0f _));have hln:=ZmG H 700;rw[tl]at hln;obtain ⟨T,hTe⟩:=Qex (drF 700 H);obtain ⟨Y,hYe⟩:=Qex (hoW 700 H);have hu0:coU (.vptr cs 0) B ps r hs H i=⟨[(60,.int .i64 i),(59,.int .i64 hs.length),(58,.vsl (hs.map hoa)),(3,.ptr 3 0),(2,.ptr 2 0),(0,.vptr cs 0)],T++([(3,.box [.vsl (r.map isa),.vsl B,hlV 72 H,.osl 621 ps.length]),(621,.row 7 (ps.map ptA)),(2,.box [.nils,.nils,.nils,.nils])]++hrO 72 700 H)⟩:=(by rw[hTe];rfl);have hu1:coU (.vptr cs 0) B ps r hs (H++[h]) (i+1)=⟨[(60,.int .i64 (i+1:Nat)),(59,.int .i64 hs.length),(58,.vsl (hs.map hoa)),(3,.ptr 3 0),(2,.ptr 2 0),(0,.vptr cs 0)],(T++drO (700+i) h.ds)++[(3,.box [.vsl (r.map isa),.vsl B,.osl 72 (i+1),.osl 621 ps.length]),(621,.row 7 (ps.map ptA)),(2,.box [.nils,.nils,.nils,.nils]),(72,.row 4 (Y++[hoJ (700+i) h]))]⟩:=(by unfold coU;rw[hT2,hV2,hO2,hTe,hYe];rfl);rw[<- hTe]at tT tT2 n1 kp2;rw[<- hYe]at hln kp2;have l1:=λC k (hk:k<700)=>tT.lk C hk
     have p1:=λC k y (hk:k<700)=>tT.put C y hk
     have l2:=λC=>Zmy (l':=C) n1
     have p2:=λC y=>ZmA (l':=C) (y:=y) n1
     have e2:¬2=700+i:=(by omega);have e3:¬3=700+i:=(by omega);have e7:¬7=700+i:=(by omega);have e72:¬72=700+i:=(by omega);have e71:¬71=700+i:=(by omega);have f71:¬700+i=71:=(by omega);have e621:¬621=700+i:=(by omega);have f2:¬700+i=2:=(by omega);have f3:¬700+i=3:=(by omega);have f7:¬700+i=7:=(by omega);have f72:¬700+i=72:=(by omega);have f621:¬700+i=621:=(by omega);rw[<- hH,hu0];refine Qga ?_;by_cases cH:H=[]
     case' pos =>
      have hV:hlV 72 H = .nils:=(by simp[hlV,cH]);have hQ:hrO 72 700 H=[]:=(by simp[hrO,cH]);have hY:Y=[]:=(by rw[hYe,cH];rfl);have i0:i=0:=by rw[<- tl,cH];rfl
     case' neg =>
      have hV:hlV 72 H = .osl 72 i:=(by simp[hlV,cH,tl]);have hQ:hrO 72 700 H=[(72,.row 4 Y)]:=by rw[hYe];simp[hrO,cH]
     all_goals
      by_cases d0:h.ds=[]
      case' pos =>
       have hA:drO (700+i) h.ds=[]:=(by simp[drO,d0]);have hJ:hoJ (700+i) h=[.int .i64 h.id,.int .i64 h.fr,.int .i64 h.to,.vsl []]:=(by simp[hoJ,drW,d0]);simp -implicitDefEqProofs[hV,hQ,hi,hlx,hho,wi,bb,tl,l1,p1,d0];refine Yd.of Zm7 (by simp[AV.pure]) ?_
      case' neg =>
       have hA:drO (700+i) h.ds=[(700+i,.row 1 (h.ds.map ia))]:=(by simp[drO,d0]);have hJ:hoJ (700+i) h=[.int .i64 h.id,.int .i64 h.fr,.int .i64 h.to,.osl (700+i) h.ds.length]:=(by simp[hoJ,drW,d0]);have c3:=c3 d0;have rI:=λρ=>AObj.ren_pure (ρ:=ρ) (sz:=1) (ZmK h.ds)
       simp -implicitDefEqProofs[hV,hQ,hi,hlx,hho,wi,bb,tl,l1,p1];refine Yd.sem (Z1B.objs c3 (λk=>if k=5 then 700+i else k) (by simp) (by simp[St.get,lk,l2,e2,e3,e7,e71,e72,e621,hV,hQ]) (by simp[AV.pure]) rfl rfl) ?_;simp -implicitDefEqProofs[Yl,rI,AV.ren,p2,e2,e3,e7,e71,e72,e621,f2,f3,f7,f71,f72,f621,l1,p1,l2,hV,hQ]
      all_goals
       simp -implicitDefEqProofs[hV,hQ,wi,bb,tl,l1,p1,l2,p2,hln,e2,e3,e7,e71,e72,e621,f2,f3,f7,f71,f72,f621,AV.one]
      all_goals
       rw[hA]at tT2 kp2;rw[hJ]at kp2;rw[tk,hu1,hA,hJ];refine Ym.fam tT2 (λp hp=>?_) ?_ ?_ (λp hp=>?_)
       . rcases W0h.1 hp with hp|hp
         . exact tT.mem _ hp
         . first
           |(rw[W0B]at hp;subst hp;simp[lk,l2,e2,e3,e7,e71,e72,e621])
           |cases hp
       . simp only[W0g,W0Q,or_false,W1M,forall_eq];simp[lk,Ya,AV.keys,l1,kO,f2,f3,f7,f71,f72,f621]
       . simp only[W0g,W0Q,or_false,W1M,forall_eq];refine ⟨⟨by simp[lk,l1] <;> exact i0,by simp[Yc,Ya,AV.keys,l1,lk,f2,f3,f7,f71,f72,f621]⟩,⟨by simp[lk,l1],Zl1 _ _⟩,⟨by simp[lk,l1],by simp[Yc,Ya,AV.keys]⟩,⟨?_,kp2 _⟩⟩;simp[lk,l1,f2,f3,f7,f71,f72,f621]
         try (first|done|exact hY)
       . rcases W0h.1 hp with hp|hp
         . exact (tT.big p hp).2
         . revert p
           simp <;> omega
   . intro _;have tl:hs.take hs.length=hs:=W0v;refine Qga ?_;have eT:=ZmM (l:=hs) (by omega) 700 (by omega) (by omega);have l1:=λC k (hk:k<700)=>eT.lk C hk
     have p1:=λC k y (hk:k<700)=>eT.put C y hk
     have fin:=λt C=>eT.fin (ok:=coL) (λk hk=>by simp[coL];omega) t C
     have fY:=λst=>ZmQ coL st 700 (λk hk=>by simp[coL];omega) hs 700 (W0f _)
     by_cases cH:hs=[]
     case' pos =>
      have hV:hlV 72 hs = .nils:=(by simp[hlV,cH]);have hQ:hrO 72 700 hs=[]:=by simp[hrO,cH]
     case' neg =>
      have hV:hlV 72 hs = .osl 72 hs.length:=(by simp[hlV,cH]);have hQ:hrO 72 700 hs=[(72,.row 4 (hoW 700 hs))]:=by simp[hrO,cH]
     all_goals
      simp -implicitDefEqProofs[coU,tl,hV,hQ,l1,p1];refine Qgr ?_;simp -implicitDefEqProofs[l1,p1];simp -implicitDefEqProofs[FinO,l1,fin,coL2,coL3,coL72,Zn4,fP,fY,frzA,frz,AV.keys,kN]
def Zn7 (r:Jr) (l:Jl) (hs:Jh) (F:AV) (hF:F = .nils∨F = .vsl []) (cP:PC prog G 45 [F] F) (hr:Wf r) (hl:Sml l) (hw:WfP hs []) (hne:r≠[]) (h80:r.length<=80) :
  PB prog G 19 [] [ofE r l hs F] (.agg [.vsl (r.map isa),.vsl (l.map na),hlV 72 hs,F]) (drF 700 hs++hrO 72 700 hs):=by
 have pF:F.pure=true:=by rcases hF with e|e <;> rw[e] <;> simp[AV.pure]
 have kF:F.keys=[]:=AV.pure_keys _ pF;have hhl:=hw.hl;have hdl:=hw.dl;have cN:=Zm6 (G:=G) l hl;have hI:=λx (hx:x∈r)=>hr.1.2 x hx
 obtain ⟨B,hB⟩:=Qex (l.map na);obtain ⟨N,hN⟩:=Qex (AV.vsl B);have pN:N.pure=true:=(by rw[hN,hB];simp[AV.pure,na]);have kN:=AV.pure_keys _ pN;obtain ⟨cs,hO,hc0,hc1,hc2,hc3⟩ : ∃ cs,ofE r l hs F = .vptr cs 0/\cs[0]? = some (.vsl (r.map isa))/\cs[1]? = some (.vsl B)/\cs[2]? = some (.vsl (hs.map hoa))/\cs[3]? = some F:=⟨_,rfl,rfl,by rw[hB];rfl,rfl,rfl⟩;have pO:=Zm9 r l hs F pF;rw[hO]at pO ⊢;have kO:=AV.pure_keys _ pO;have rN:=λρ=>AV.ren_pure (ρ:=ρ) N pN
 rw[<- hB]at cN ⊢;rw[hN]at pN kN rN;refine Z5j coL (by intro k hk;simp[coL]at hk;omega) Tryz.func19 rfl (by kernel_rfl) (rc:=ZmT) (by kernel_rfl) (rs:=ZmU) (by kernel_rfl) (W0C rfl) λR _ hG' hrd=>Qga ?_
 subst hG';simp -implicitDefEqProofs[ZmT,ZmU,hc0,hc1,hc2,hc3];refine Qco (cN) ?_;simp -implicitDefEqProofs[hc0,hc1,hc2,hc3];rcases hF with eF|eF
 all_goals
  refine Ye.of cP (by simp[pF]) ?_;simp -implicitDefEqProofs[eF,hc0,hc1,hc2,hc3];refine ⟨rfl,?_⟩;refine Z9H (cpS (.vptr cs 0) F B r) (λ_=>True) r.length ?_ trivial ?_ ?_
  . simp only[eF,cpS,coV,coO,if_true,W18]
    ((try simp only[kF,eF]);refine Ym.sub (by simp[lk,Ya,AV.keys,kF,eF]) ?_;simp only[kF,eF,Wkl,and_true];(try simp[lk,Yc,Ya,AV.keys,kF,eF]))
  . intro i hi _;have wi:i64.wrap ((i:Int)+1)=(i:Int)+1:=Yf;have sc:=Zm2 hi;have hx2:=hI _ (W0e hi);obtain ⟨x,hx⟩:=Qex (r[i]);have hax:isa r[i]=[.int .i64 x.d,.int .i64 x.l,.int .u8 x.k,.vsl (x.its.map ita),.vsl (x.dms.map dma)]:=(by rw[<- hx];rfl);rw[<- hx]at hx2;rw[hax]at sc;have c1:=Zm0 (G:=R.G) x.its hx2.1;have c2:=Zm1 (G:=R.G) x.dms hx2.2;refine Qga ?_;unfold cpS;simp only[eF];by_cases h0i:i=0
    . subst h0i;have e0:rwI r 0=[]:=rfl;have w1:i64.wrap 1=1:=rfl;rw[e0,W18]at sc;replace sc:rwI r 1=[[.int .i64 x.d,.int .i64 x.l,.int .u8 x.k,.vsl (x.its.map ita),.vsl (x.dms.map dma)]]:=sc;simp only[coV,coO,if_true,W18];simp -implicitDefEqProofs[eF,hi,hax,w1];refine Qco (c1) ?_;simp -implicitDefEqProofs[eF];refine Qco (c2) ?_;simp -implicitDefEqProofs[eF,w1];refine ⟨rfl,?_⟩;rw[sc]
      ((try simp only[kF,eF]);refine Ym.sub (by simp[lk,Ya,AV.keys,kF,eF]) ?_;simp only[kF,eF,Wkl,and_true];(try simp[lk,Yc,Ya,AV.keys,kF,eF]))
    . have b1:(i+1)*72<=70368744177664:=(by omega);have hln:=Zm3 (r:=r) (i:=i) (by omega);simp only[coV,coO,h0i,if_false,W1e,W18];simp -implicitDefEqProofs[eF,hi,hax];refine Qco (c1) ?_;simp -implicitDefEqProofs[eF];refine Qco (c2) ?_;simp -implicitDefEqProofs[eF,b1,wi,hln];refine ⟨rfl,?_⟩;rw[<- sc]
      ((try simp only[kF,eF]);refine Ym.sub (by simp[lk,Ya,AV.keys,kF,eF]) ?_;simp only[kF,eF,Wkl,Zm4,and_true,and_true];(try simp[lk,Yc,Ya,AV.keys,kF,eF]))
  . intro _;have hr0:r.length≠0:=λe=>hne (W0l.1 e)
    have hrw:rwI r r.length=r.map isa:=(by unfold rwI;rw[W0v]);have pr:((r.map isa).all λr=>r.all AV.pure)=true:=(by simp[isa,AV.pure]);refine Qga ?_;unfold cpS;simp only[eF];rw[show coO r r.length=[(49,.row 5 (r.map isa))] by unfold coO;rw[if_neg hr0,hrw],show coV r.length = .osl 49 r.length by unfold coV;rw[if_neg hr0]];simp -implicitDefEqProofs[eF];refine Qgr ?_;simp -implicitDefEqProofs[eF,hc2];refine Z9H (λi=>coV0 (.vptr cs 0) F B r hs (hs.take i) i) (λ_=>True) hs.length ?_ trivial ?_ ?_
    . refine Ym.trans (Ym.frz (λk=>k == 49) _) ?_;simp only[eF,coV0,hlV,hrO,drF,W1g,if_true,W1G,W18]
      ((try simp only[Yi,frzA,frzO,frz,Yh,Yj,St.get,AV.pure,pr,kF,eF]);refine Ym.sub (by simp[lk,Ya,AV.keys,Yi,frzA,frzO,frz,Yh,Yj,St.get,AV.pure,pr,kF,eF]) ?_;simp only[Yi,frzA,frzO,frz,Yh,Yj,St.get,AV.pure,pr,kF,eF,Wkl,and_true];(try simp[lk,Yc,Ya,AV.keys,Yi,frzA,frzO,frz,Yh,Yj,St.get,AV.pure,pr,kF,eF]))
    . intro i hi _;have hdi:=hdl _ (W0e hi);obtain ⟨h,hhe⟩:=Qex (hs[i]);rw[<- hhe]at hdi;have hlx:hs[i]=h:=hhe.symm;have hho:hoa h=[.int .i64 h.id,.int .i64 h.fr,.int .i64 h.to,.vsl (h.ds.map ia)]:=rfl;have c3:=λhd=>Zn5 (G:=R.G) h.ds hd (by unfold Sml;omega)
      have wi:i64.wrap ((i:Int)+1)=(i:Int)+1:=Yf;have tk:hs.take (i+1)=hs.take i++[h]:=(by rw[W08 hi,hlx]);have tl:(hs.take i).length=i:=(by simp;omega);have bb:(i+1)*48<=70368744177664:=(by omega);obtain ⟨H,hH⟩:=Qex (hs.take i);rw[<- hH]at tk tl;have hne:¬H++[h]=[]:=(by simp);have hV2:hlV 72 (H++[h]) = .osl 72 (i+1):=(by unfold hlV;rw[if_neg hne];simp[tl]);have hO2:hrO 72 700 (H++[h])=[(72,.row 4 (hoW 700 H++[hoJ (700+i) h]))]:=(by unfold hrO;rw[if_neg hne,ZmE,tl];rfl);have hT2:drF 700 (H++[h])=drF 700 H++drO (700+i) h.ds:=(by rw[ZmF,tl];simp[drF]);have kp2:=λC=>ZmP C (H++[h]) 700
      rw[hT2,ZmE,tl,show hoW (700+i) [h]=[hoJ (700+i) h] from rfl]at kp2;have tT:=ZmM (l:=H) (by omega) 700 (by omega) (by omega);have tT2:=ZmM (l:=H++[h]) (by simp;omega) 700 (by omega) (by omega);rw[hT2]at tT2;have n1:lk (drF 700 H) (700+i)=none:=(by rw[<- tl];exact ZmO H 700 _ (W0f _));have hln:=ZmG H 700;rw[tl]at hln;obtain ⟨T,hTe⟩:=Qex (drF 700 H);obtain ⟨Y,hYe⟩:=Qex (hoW 700 H);have hu0:coV0 (.vptr cs 0) F B r hs H i=⟨[(60,.int .i64 i),(59,.int .i64 hs.length),(58,.vsl (hs.map hoa)),(3,.ptr 3 0),(2,.ptr 2 0),(0,.vptr cs 0)],T++([(3,.box [.vsl (r.map isa),.vsl B,hlV 72 H,F]),(2,.box [.nils,.nils,.nils,.nils])]++hrO 72 700 H)⟩:=(by rw[hTe];rfl);have hu1:coV0 (.vptr cs 0) F B r hs (H++[h]) (i+1)=⟨[(60,.int .i64 (i+1:Nat)),(59,.int .i64 hs.length),(58,.vsl (hs.map hoa)),(3,.ptr 3 0),(2,.ptr 2 0),(0,.vptr cs 0)],(T++drO (700+i) h.ds)++[(3,.box [.vsl (r.map isa),.vsl B,.osl 72 (i+1),F]),(2,.box [.nils,.nils,.nils,.nils]),(72,.row 4 (Y++[hoJ (700+i) h]))]⟩:=(by unfold coV0;rw[hT2,hV2,hO2,hTe,hYe];rfl);rw[<- hTe]at tT tT2 n1 kp2;rw[<- hYe]at hln kp2;have l1:=λC k (hk:k<700)=>tT.lk C hk
      have p1:=λC k y (hk:k<700)=>tT.put C y hk
      have l2:=λC=>Zmy (l':=C) n1
      have p2:=λC y=>ZmA (l':=C) (y:=y) n1
      have e2:¬2=700+i:=(by omega);have e3:¬3=700+i:=(by omega);have e7:¬7=700+i:=(by omega);have e72:¬72=700+i:=(by omega);have e71:¬71=700+i:=(by omega);have f71:¬700+i=71:=(by omega);have e621:¬621=700+i:=(by omega);have f2:¬700+i=2:=(by omega);have f3:¬700+i=3:=(by omega);have f7:¬700+i=7:=(by omega);have f72:¬700+i=72:=(by omega);have f621:¬700+i=621:=(by omega);rw[<- hH,hu0];refine Qga ?_;by_cases cH:H=[]
      case' pos =>
       have hV:hlV 72 H = .nils:=(by simp[hlV,cH]);have hQ:hrO 72 700 H=[]:=(by simp[hrO,cH]);have hY:Y=[]:=(by rw[hYe,cH];rfl);have i0:i=0:=by rw[<- tl,cH];rfl
      case' neg =>
       have hV:hlV 72 H = .osl 72 i:=(by simp[hlV,cH,tl]);have hQ:hrO 72 700 H=[(72,.row 4 Y)]:=by rw[hYe];simp[hrO,cH]
      all_goals
       by_cases d0:h.ds=[]
       case' pos =>
        have hA:drO (700+i) h.ds=[]:=(by simp[drO,d0]);have hJ:hoJ (700+i) h=[.int .i64 h.id,.int .i64 h.fr,.int .i64 h.to,.vsl []]:=(by simp[hoJ,drW,d0]);simp -implicitDefEqProofs[eF,hV,hQ,hi,hlx,hho,wi,bb,tl,l1,p1,d0];refine Yd.of Zm7 (by simp[AV.pure]) ?_
       case' neg =>
        have hA:drO (700+i) h.ds=[(700+i,.row 1 (h.ds.map ia))]:=(by simp[drO,d0]);have hJ:hoJ (700+i) h=[.int .i64 h.id,.int .i64 h.fr,.int .i64 h.to,.osl (700+i) h.ds.length]:=(by simp[hoJ,drW,d0]);have c3:=c3 d0;have rI:=λρ=>AObj.ren_pure (ρ:=ρ) (sz:=1) (ZmK h.ds)
        simp -implicitDefEqProofs[eF,hV,hQ,hi,hlx,hho,wi,bb,tl,l1,p1];refine Yd.sem (Z1B.objs c3 (λk=>if k=5 then 700+i else k) (by simp) (by simp[St.get,lk,l2,e2,e3,e7,e71,e72,e621,hV,hQ]) (by simp[AV.pure]) rfl rfl) ?_;simp -implicitDefEqProofs[eF,Yl,rI,AV.ren,p2,e2,e3,e7,e71,e72,e621,f2,f3,f7,f71,f72,f621,l1,p1,l2,hV,hQ]
       all_goals
        simp -implicitDefEqProofs[eF,hV,hQ,wi,bb,tl,l1,p1,l2,p2,hln,e2,e3,e7,e71,e72,e621,f2,f3,f7,f71,f72,f621,AV.one]
       all_goals
        rw[hA]at tT2 kp2;rw[hJ]at kp2;rw[eF]at hu1;rw[tk,hu1,hA,hJ];refine Ym.fam tT2 (λp hp=>?_) ?_ ?_ (λp hp=>?_)
        . rcases W0h.1 hp with hp|hp
          . exact tT.mem _ hp
          . first
            |(rw[W0B]at hp;subst hp;simp[lk,l2,e2,e3,e7,e71,e72,e621])
            |cases hp
        . simp only[W0g,W0Q,or_false,W1M,forall_eq];simp[lk,Ya,AV.keys,l1,kO,f2,f3,f7,f71,f72,f621]
        . simp only[W0g,W0Q,or_false,W1M,forall_eq];refine ⟨⟨by simp[eF,lk,l1] <;> exact i0,by simp[eF,kF,Yc,Ya,AV.keys,l1,lk,f2,f3,f7,f71,f72,f621]⟩,⟨by simp[lk,l1],by simp[Yc,Ya,AV.keys]⟩,⟨?_,kp2 _⟩⟩;simp[lk,l1,f2,f3,f7,f71,f72,f621]
          try (first|done|exact hY)
        . rcases W0h.1 hp with hp|hp
          . exact (tT.big p hp).2
          . revert p
            simp <;> omega
    . intro _;have tl:hs.take hs.length=hs:=W0v;refine Qga ?_;have eT:=ZmM (l:=hs) (by omega) 700 (by omega) (by omega);have l1:=λC k (hk:k<700)=>eT.lk C hk
      have p1:=λC k y (hk:k<700)=>eT.put C y hk
      have fin:=λt C=>eT.fin (ok:=coL) (λk hk=>by simp[coL];omega) t C
      have fY:=λst=>ZmQ coL st 700 (λk hk=>by simp[coL];omega) hs 700 (W0f _)
      by_cases cH:hs=[]
      case' pos =>
       have hV:hlV 72 hs = .nils:=(by simp[hlV,cH]);have hQ:hrO 72 700 hs=[]:=by simp[hrO,cH]
      case' neg =>
       have hV:hlV 72 hs = .osl 72 hs.length:=(by simp[hlV,cH]);have hQ:hrO 72 700 hs=[(72,.row 4 (hoW 700 hs))]:=by simp[hrO,cH]
      all_goals
       simp -implicitDefEqProofs[eF,coV0,tl,hV,hQ,l1,p1];refine Qgr ?_;simp -implicitDefEqProofs[eF,l1,p1];simp -implicitDefEqProofs[eF,FinO,kF,l1,fin,coL2,coL3,coL72,fY,frzA,frz,AV.keys,kN]
end Go.Proofs.YtldibfhbaaadcaaGreatDoor
