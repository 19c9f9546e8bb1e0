/-
  The abstract machine's code of functions of the program, as a program of ours printed it; that it is theirs is proved beside each.
-/
import Derived.Test.YtcdlimgkliklhaaGreatDoorNP3ToPu
set_option linter.all false
set_option maxHeartbeats 8000000
namespace Go.Proofs.YtcdlimgkliklhaaGreatDoor
open Go.Proofs.Tryz (prog)
open IntKind (i64)
open Go.RowKit
variable {G:Jg}
section
open Qq Go.Proofs.Tryz
def ZpF:RCode :=
 S [r 0 [b 3 0,b 4 1,n 6 (.bool false)],r 1 [c 21 44 [],m 7 21],S [r 2 [L 22 4 3,c 23 49 [22],t 24 23,m 25 24,g 25 false (m 26 7),g 25 false (t 27 26),u 28 25 27],K 28 3 [m 29 7,m 6 29]],r 4 [L 31 4 3,L 32 7 4,c 33 42 [31,32],m 30 33,x 34 0 30,x 35 1 30,w 8 (.alloc [.nils,.nils,.nils,.nils]),s 4 8 34,m 9 35],S [r 5 [m 36 9,k 37 .neq 36 O],K 37 6 [m 38 7,m 39 38,g 39 true (m 40 9),g 39 true (k 41 .eql 40 (.int .i64 9)),g 39 true (f 42 3 3),g 39 true (l 43 42),g 39 true (e 44 43),g 39 true (k 45 .eql 44 (.int .i64 30)),g 39 true (w 46 (.vop (.beq false) [(.t 41),(.t 45)])),v 47 39 46,m 48 47,g 48 true (m 49 9),g 48 true (k 50 .eql 49 (.int .i64 9)),g 48 true (m 51 50),g 51 false (m 52 9),g 51 false (k 53 .eql 52 (.int .i64 70)),g 48 true (u 54 51 53),v 55 48 54,m 56 55,g 56 true (f 57 3 8),g 56 true (l 58 57),g 56 true (e 59 58),g 56 true (k 60 .eql 59 O),v 61 56 60,m 6 61]],S [r 7 [L 62 4 8,c 63 49 [62],t 64 63,m 65 64,g 65 false (f 66 3 8),g 65 false (l 67 66),g 65 false (e 68 67),g 65 false (f 69 3 3),g 65 false (l 70 69),g 65 false (e 71 70),g 65 false (k 72 .add 71 I),g 65 false (o 73 .neq 68 72),u 74 65 73],K 74 8 [n 6 (.bool false)]],r 9 [m 75 2,c 76 50 [75],m 10 76],r 10 [L 78 4 3,m 79 10,c 80 34 [78,79],m 77 80,x 81 0 77,x 82 1 77,m 11 81,m 12 82],r 11 [L 84 4 8,m 85 10,c 86 34 [84,85],m 83 86,x 87 0 83,x 88 1 83,m 13 87,m 14 88],r 12 [L 90 4 8,f 91 0 4,l 92 91,c 93 53 [90,92],m 89 93,x 94 0 89,x 95 1 89,w 15 (.alloc [O,O,O,O,O,O,.int .u8 0]),s 7 15 94,m 16 95],S [r 13 [m 96 12,k 97 .neq 96 O,m 98 97,g 98 false (m 99 14),g 98 false (k 100 .neq 99 O),u 101 98 100,m 102 101,g 102 false (m 103 16),g 102 false (t 104 103),u 105 102 104,m 106 105,g 106 false (L 107 7 15),g 106 false (L 108 7 4),g 106 false (w 109 (.eqs true [.i,.i,.i,.i,.i,.i,.i] (.t 107) (.t 108))),u 110 106 109],K 110 14 [n 6 (.bool false)]],S [r 15 [f 111 3 3,l 112 111,e 113 112,n 114 O],.block 0 (.loop (S [r 16 [o 115 .lss 114 113],.cond (.t 115) .skip (.exit 0),.block 1 (S [r 17 [i 116 7 112 114,L 117 7 116,w 18 (.alloc [O,O,O,O,O,O,.int .u8 0]),s 7 18 117],r 18 [L 119 4 8,f 120 0 18,l 121 120,c 122 53 [119,121],m 118 122,x 123 0 118,x 124 1 118,w 19 (.alloc [O,O,O,O,O,O,.int .u8 0]),s 7 19 123,m 20 124],R 19 [m 125 20,a [0] (t 126 125),a [1] (m 127 126),a [2] (g 127 false (L 128 7 19)),a [2] (g 127 false (L 129 7 18)),a [3,4,2] (g 127 false (w 130 (.eqs true [.i,.i,.i,.i,.i,.i,.i] (.t 128) (.t 129)))),a [2,5] (u 131 127 130),a [6,2] (m 132 131),a [7] (g 132 false (m 133 11)),a [7] (g 132 false (f 134 0 18)),a [9,7] (g 132 false (l 135 134)),a [8,10,7,7] (g 132 false (c 136 52 [133,135])),a [7] (g 132 false (m 137 13)),a [7] (g 132 false (f 138 0 18)),a [13,7] (g 132 false (l 139 138)),a [12,14,11,7] (g 132 false (c 140 52 [137,139])),a [11,15,7] (g 132 false (w 141 (.vop (.beq true) [(.t 136),(.t 140)]))),a [7,16] (u 142 132 141)],K 142 20 [n 6 (.bool false)]]),r 21 [k 143 .add 114 I,m 114 143]]))],r 22 [m 144 7,m 145 144,g 145 true (m 146 10),g 145 true (f 147 1 4),g 145 true (l 148 147),g 145 true (o 149 .geq 146 148),g 145 true (m 150 149),g 150 false (m 151 13),g 150 false (f 152 0 4),g 150 false (l 153 152),g 150 false (c 154 52 [151,153]),g 150 false (t 155 154),g 145 true (u 156 150 155),v 157 145 156,m 6 157],.ret]
def ZpG:List RRes:=[.t 6]
def ZpH:PCt prog 13 f13 ZpF ZpG:=pcT func13 rfl
end
section
open Qq Go.Proofs.Tryz
def ZpI:RCode :=
 S [r 0 [b 2 0,w 4 (.alloc [O,O,O,O,O,O,.int .u8 0]),n 5 (.bool false)],S [r 1 [f 8 3 2,l 9 8,e 10 9,n 11 O],.block 0 (.loop (S [r 2 [o 12 .lss 11 10],.cond (.t 12) .skip (.exit 0),.block 1 (S [r 3 [i 13 7 9 11,L 14 7 13,w 7 (.alloc [O,O,O,O,O,O,.int .u8 0]),s 7 7 14],r 4 [f 15 0 7,l 16 15,m 17 1,o 18 .eql 16 17],K 18 5 [L 19 7 7,s 7 4 19,n 5 (.bool true)]]),r 6 [k 20 .add 11 I,m 11 20]]))],r 7 [w 21 (.build [O,O,O,O,O,O,.int .u8 0] []),s 7 4 21,n 5 (.bool false)],.ret]
def ZpJ:List RRes:=[.c 4 true 7,.t 5]
def ZpK:PCt prog 53 f53 ZpI ZpJ:=pcT func53 rfl
end
def ZpL (r:Jr) (l:Jl) (hs:Jh) (ps:Jp) (k:Nat) (hk:k<ps.length) (hrp:riP ps) (hpl:ps.length<=41) :
  PC prog G 53 [prA r l hs ps,.int .i64 ps[k].no] (.tup [.agg (ptA ps[k]),.bool true]):=by
 obtain ⟨y,hy⟩:=Qex (ps[k]);rw[<- hy];have hpy:ptA y=[.int .i64 y.no,.int .i64 y.dy,.int .i64 y.ho,.int .i64 y.dw,.int .i64 y.lt,.int .i64 y.bk,.int .u8 y.lo]:=rfl;rw[hpy];unfold prA
 (refine ZpK rfl λR hG hrd=>Qga ?_;subst hG)
 simp -implicitDefEqProofs[ZpI,ZpJ];refine Z8a (λi=>⟨[(11,.int .i64 i),(10,.int .i64 ps.length),(9,.vsl (ps.map ptA)),(4,.ptr 4 0),(1,.int .i64 y.no)],[(4,.box [.int .i64 0,.int .i64 0,.int .i64 0,.int .i64 0,.int .i64 0,.int .i64 0,.int .u8 0])]⟩) (λi=>i<=k) ps.length ?_ (W1f _) ?_ ?_
 . (refine Wkc ?_;simp only[Wkl,and_true];(try simp[lk,Yc,Ya,AV.keys]))
 . intro i hi hik;have w1:i64.wrap ((i:Int)+1)=(i:Int)+1:=Yf;refine Qga ?_;by_cases e:i=k
   . subst e;have hly:ps[i]=y:=hy.symm;simp -implicitDefEqProofs[hi,hly,hpy];refine Qgr ?_;simp -implicitDefEqProofs[AV.pure]
   . obtain ⟨x,hx⟩:=Qex (ps[i]);have hlx:ps[i]=x:=hx.symm;have hpx:ptA x=[.int .i64 x.no,.int .i64 x.dy,.int .i64 x.ho,.int .i64 x.dw,.int .i64 x.lt,.int .i64 x.bk,.int .u8 x.lo]:=rfl
     have hlt:¬x.no=y.no:=by
      have:=Zns hrp (i:=i) (j:=k) (by omega) hk;rw[hlx,<- hy]at this;omega
     simp -implicitDefEqProofs[hi,hlx,hpx,hlt,w1];refine ⟨?_,by omega⟩
     (refine Wkc ?_;simp only[Wkl,and_true];(try simp[lk,Yc,Ya,AV.keys]))
 . intro h;omega
def snS (A B:List Int) (ps:Jp) (Q X:List AV) (day:Int) (i:Nat):St :=
 ⟨[(114,.int .i64 i),(113,.int .i64 ps.length),(112,.vsl (ps.map ptA)),(13,.vsl (B.map ia)),(11,.vsl (A.map ia)),(10,.int .i64 day),(8,.ptr 8 0),(7,.bool true),(4,.ptr 4 0)],[(8,.box Q),(4,.box X)]⟩
def ZpM (hG:GC G) (hN:GN G) (hP:GP G) (r:Jr) (l:Jl) (hs:Jh) (ps:Jp) (x:Prt) (dd:Int) (hr:∀ x∈r,KOk x) (hl:∀ x∈l,NOk7 x) (hp:∀ x∈ps,POk x) (hx:POk x) (hdd:0<=dd/\dd<=65535) :
  PC prog G 13 [prA r l hs ps,.agg (ptA x),.int .u16 dd] (.bool true):=by
 have hA:=Zow hG hN hP;have hR:=ZoI (G:=G) r l hs ps hl hr hp;have hD:=ZoH (G:=G) dd hdd.1 hdd.2;have hpx:ptA x=[.int .i64 x.no,.int .i64 x.dy,.int .i64 x.ho,.int .i64 x.dw,.int .i64 x.lt,.int .i64 x.bk,.int .u8 x.lo]:=rfl
 cases hb:!gr7 r l hs ps&&decide (ck7 r l hs ps=0) with
 | false =>
   rw[hb]at hR;unfold prA at *
   (refine ZpH rfl λR hG hrd=>Qga ?_;subst hG)
   simp -implicitDefEqProofs[ZpF,ZpG,hpx];refine Qco (hA) ?_;simp -implicitDefEqProofs;refine Qco (hR) ?_;simp -implicitDefEqProofs
 |true =>
 rw[hb]at hR;rw[W01,W1C,W0b]at hb;obtain ⟨hg,h0⟩:=hb;obtain ⟨wl,wr,wd,wp⟩:=ZkV hg hr hl hp;have hdy:=ZoG hdd.1;obtain ⟨day,hday⟩:=Qex (dy7 dd);rw[<- hday]at hD hdy;obtain ⟨h6,n60,hne,-,-⟩:=Zmz h0;have hpl:=wp.pl;have hB0:=Zi5.1 (ZiZ.1 h0).2;have h30:=hB0.2.1;have hrp:riP ps:=hB0.2.2.1;have hS:=ZoS hG hN hP r l hs ps x wl wr hne (by omega) wd wp hx;rw[snA,snE,if_pos h0]at hS;by_cases c30:ps.length=30
 . rw[if_pos c30,if_neg (by decide)]at hS;have c30i:(ps.length:Int)=30:=(by omega);rw[hpx]at hS;unfold prA at *
   (refine ZpH rfl λR hG hrd=>Qga ?_;subst hG)
   simp -implicitDefEqProofs[ZpF,ZpG,hpx];refine Qco (hA) ?_;simp -implicitDefEqProofs;refine Qco (hR) ?_;simp -implicitDefEqProofs;refine Qco (hS) ?_;simp -implicitDefEqProofs[c30,c30i]
 rw[if_neg c30]at hS;have c30i:¬(ps.length:Int)=30:=(by omega);obtain ⟨Q,hQ⟩:=Qex (putP ps x (plP ps x));rw[<- hQ]at hS;by_cases h02:ck7 r l hs Q=0
 case neg =>
  rw[if_neg h02,if_neg (by decide),hpx]at hS;unfold prA at *
  (refine ZpH rfl λR hG hrd=>Qga ?_;subst hG)
  simp -implicitDefEqProofs[ZpF,ZpG,hpx];refine Qco (hA) ?_;simp -implicitDefEqProofs;refine Qco (hR) ?_;simp -implicitDefEqProofs;refine Qco (hS) ?_;simp -implicitDefEqProofs[c30,c30i]
 rw[if_pos h02,if_pos rfl,hpx]at hS;have hQl:Q.length=ps.length+1:=(by rw[hQ];exact Zfh);have hvQ:=(ZiZ.1 h02).2;have hrQ:riP Q:=(Zi5.1 hvQ).2.2.1
 have hpQ:∀ y∈Q,POk y:=λy hy=>by
  rw[hQ]at hy;rcases Zfg.1 hy with rfl|hy
  . exact hx
  . exact hp y hy
 have hgQ:gr7 r l hs Q=false:=by
  unfold gr7 at *;rw[hQl];simp only[W1T,W1b]at hg ⊢;refine ⟨⟨hg.1.1,?_⟩,hg.2⟩;omega
 obtain ⟨-,-,-,wpQ⟩:=ZkV hgQ hr hl hpQ;have hR2:=ZoI (G:=G) r l hs Q hl hr hpQ;rw[hgQ,h02]at hR2;have wQ:i64.wrap ((ps.length:Int)+1)=(ps.length:Int)+1:=Yf;have hQi:(Q.length:Int)=(ps.length:Int)+1:=(by omega);have hrng:inR day 0 14610=true:=(by simp[inR];omega);have a1:as7 r l hs ps day 1=0:=(by rw[as7,if_pos h0,if_pos ⟨hrng,rfl⟩]);have a2:as7 r l hs Q day 1=0:=(by rw[as7,if_pos h02,if_pos ⟨hrng,rfl⟩]);have c1:=ZlL hG hN hP r l hs ps day wl wr wd wp;have c2:=ZlL hG hN hP r l hs Q day wl wr wd wpQ;rw[stA7,sta7E,if_pos a1,a1]at c1;rw[stA7,sta7E,if_pos a2,a2]at c2;obtain ⟨A,hAA⟩:=Qex ((staL l hs ps day).map (·.no));obtain ⟨B,hBB⟩:=Qex ((staL l hs Q day).map (·.no));rw[<- hAA]at c1;rw[<- hBB]at c2;have c1:=PC.out (w:=.tup [.vsl (A.map ia),.int .i64 0]) c1 (Nsub.tup ⟨.orNil _,.rfl',trivial⟩);have c2:=PC.out (w:=.tup [.vsl (B.map ia),.int .i64 0]) c2 (Nsub.tup ⟨.orNil _,.rfl',trivial⟩);have sA:Sml A:=(by rw[hAA];have:=ZlK (l:=l) (hs:=hs) (ps:=ps) (day:=day);unfold Sml;rw[W0N];omega);have sB:Sml B:=(by rw[hBB];have:=ZlK (l:=l) (hs:=hs) (ps:=Q) (day:=day);unfold Sml;rw[W0N];omega);have hxQ:x∈Q:=(by rw[hQ];exact Zfg.2 (.inl rfl));obtain ⟨k,hk,hkx⟩:=W0k hxQ;have cP:=ZpL (G:=G) r l hs Q k hk hrQ (by omega);rw[hkx,hpx]at cP
 have hlaw:∀ z∈ps,(z.no∈A↔z.no∈B):=λz hz=>by
  have:=(ZoV (day:=day) (l:=l) (hQ ▸ hvQ) hrp hz).1;rw[<- hQ,<- hAA,<- hBB]at this;exact this
 have hfin:day<x.dy->x.no ∉ B:=λh=>by
  have:=ZoW (l:=l) (hQ ▸ hvQ) h;rw[<- hQ,<- hBB]at this;exact this
 have hfh:=ZoJ (G:=G) B x.no sB;obtain ⟨BQ,hBQ⟩ : ∃ B:List AV,B=[.vsl (r.map isa),.vsl (l.map na),.vsl (hs.map hoa),.vsl (Q.map ptA)]:=⟨_,rfl⟩;obtain ⟨X,hX⟩ : ∃ X:List AV,X=[.int .i64 x.no,.int .i64 x.dy,.int .i64 x.ho,.int .i64 x.dw,.int .i64 x.lt,.int .i64 x.bk,.int .u8 x.lo]:=⟨_,rfl⟩;have kX:∀ o,Yc o (.box X)=true:=λo=>by rw[hX];simp[Yc,Ya,AV.keys]
 have kQ:∀ o,Yc o (.box BQ)=true:=λo=>by rw[hBQ];simp[Yc,Ya,AV.keys,isa,na,hoa,ptA]
 have lQ:BQ.length=4:=(by rw[hBQ];rfl);have tQ:BQ.take 4=BQ:=(by rw[hBQ];rfl);have pQ:∀ x∈BQ,x.pure=true:=(by rw[hBQ];simp[AV.pure,isa,na,hoa,ptA,ia]);have X0:X[0]? = some (.int .i64 x.no):=(by rw[hX];rfl);have X1:X[1]? = some (.int .i64 x.dy):=(by rw[hX];rfl);unfold prA at *
 (refine ZpH rfl λR hG hrd=>Qga ?_;subst hG)
 simp -implicitDefEqProofs[ZpF,ZpG,hpx];refine Qco (hA) ?_;simp -implicitDefEqProofs;refine Qco (hR) ?_;simp -implicitDefEqProofs;refine Qco (hS) ?_;simp -implicitDefEqProofs;refine Qco (hR2) ?_;simp -implicitDefEqProofs[wQ,hQi,hQl];refine Qco (hD) ?_;simp -implicitDefEqProofs;refine Qco (c1) ?_;simp -implicitDefEqProofs;refine Qco (c2) ?_;simp -implicitDefEqProofs;refine Qco (cP) ?_;simp -implicitDefEqProofs[eqL,eq1];rw[<- hBQ,<- hX];refine Z8a (snS A B ps BQ X day) (λ_=>True) ps.length ?_ trivial ?_ ?_
 . unfold snS
   (refine Wkc ?_;simp only[kX,kQ,Wkl,and_true];(try simp[lk,Yc,Ya,AV.keys]))
 . intro i hi _;have wi:i64.wrap ((i:Int)+1)=(i:Int)+1:=Yf;obtain ⟨z,hz⟩:=Qex (ps[i]);have hlz:ps[i]=z:=hz.symm;have hzm:z∈ps:=(by rw[hz];exact W0e hi);have hpz:ptA z=[.int .i64 z.no,.int .i64 z.dy,.int .i64 z.ho,.int .i64 z.dw,.int .i64 z.lt,.int .i64 z.bk,.int .u8 z.lo]:=rfl;obtain ⟨k2,hk2,hkz⟩:=W0k (show z∈Q by rw[hQ];exact Zfg.2 (.inr hzm));have cZ:=ZpL (G:=R.G) r l hs Q k2 hk2 hrQ (by omega);rw[hkz,hpz]at cZ;unfold prA at cZ;rw[<- hBQ]at cZ;have gA:=ZoJ (G:=R.G) A z.no sA;have gB:=ZoJ (G:=R.G) B z.no sB;have e:decide (z.no∈A)=decide (z.no∈B):=(by rw[W2h,decide_eq_true_iff,decide_eq_true_iff];exact hlaw z hzm);rw[e]at gA;refine Qga ?_;unfold snS;simp -implicitDefEqProofs[hi,hlz,hpz,lQ,tQ];refine Yd.of cZ (by simpa [AV.pure] using pQ) ?_;simp -implicitDefEqProofs[eqL,eq1];refine Qco (gA) ?_;simp -implicitDefEqProofs;refine Qco (gB) ?_;generalize decide (z.no∈B)=bb
   cases bb <;>
   . simp -implicitDefEqProofs[wi];refine ⟨rfl,?_⟩
     (refine Wkc ?_;simp only[kX,kQ,Wkl,and_true];(try simp[lk,Yc,Ya,AV.keys]))
 . intro _;refine Qga ?_;unfold snS;simp -implicitDefEqProofs;refine Qgr ?_;by_cases c:x.dy<=day
   . simp -implicitDefEqProofs[X0,X1,c]
   . rw[W0S (hfin (by omega))]at hfh;simp -implicitDefEqProofs[X0,X1,c];refine Qco (hfh) ?_;simp -implicitDefEqProofs
end Go.Proofs.YtcdlimgkliklhaaGreatDoor
