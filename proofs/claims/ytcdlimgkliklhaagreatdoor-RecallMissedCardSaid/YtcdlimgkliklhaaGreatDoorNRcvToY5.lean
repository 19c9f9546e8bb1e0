/-
  The abstract machine's code of functions of the program, as a program of ours printed it; that it is theirs is proved beside each.
-/
import Derived.Test.YtcdlimgkliklhaaGreatDoorNP3ToPu
set_option linter.all false
set_option maxHeartbeats 8000000
namespace Go.Proofs.YtcdlimgkliklhaaGreatDoor
open Go.Proofs.Tryz (prog)
open IntKind (i64)
open Go.RowKit
section
open Qq Go.Proofs.Tryz
def Zpr:RCode :=
 S [r 0 [b 3 0,n 6 (.bool false)],r 1 [c 26 44 [],m 7 26],S [r 2 [L 27 4 3,c 28 49 [27],t 29 28,m 30 29,g 30 false (f 31 2 3),g 30 false (l 32 31),g 30 false (e 33 32),g 30 false (k 34 .eql 33 O),u 35 30 34,m 36 35,g 36 false (m 37 7),g 36 false (t 38 37),u 39 36 38],K 39 3 [m 40 7,m 6 40]],R 4 [m 41 1,a [0] (c 42 50 [41]),f 43 2 3,a [2] (l 44 43),m 45 2,a [4] (w 46 (.conv .i64 (.t 45))),f 47 2 3,a [6] (l 48 47),a [7] (e 49 48),a [5,8] (o 50 .rem 46 49),a [3,9] (i 51 4 44 50),a [10] (L 52 4 51),w 9 (.alloc [O,O,O,.nils]),a [1,1,0,1,12] (m 8 42),a [12,11,13,0,1,2,3,4,5,6,7,8,9,10,11,12,13] (s 4 9 52)],r 5 [L 54 4 3,m 55 8,f 56 0 9,l 57 56,c 58 29 [54,55,57],m 53 58,x 59 0 53,x 60 1 53,m 10 59,m 11 60],S [r 6 [m 61 11,k 62 .neq 61 O],K 62 7 [n 6 (.bool false)]],S [r 8 [m 63 10,e 64 63,n 65 O],.block 0 (.loop (S [r 9 [o 66 .lss 65 64],.cond (.t 66) .skip (.exit 0),.block 1 (S [r 10 [m 67 65,i 68 2 63 65,L 69 2 68,w 13 (.alloc [O,O]),m 12 67,s 2 13 69],r 11 [L 71 4 3,f 72 0 9,l 73 72,f 74 0 13,l 75 74,c 76 27 [71,73,75],m 70 76,x 77 0 70,x 78 1 70,m 14 77,m 15 78],S [R 12 [m 79 15,a [0] (k 80 .neq 79 O),a [1] (m 81 80),a [2] (g 81 false (m 82 14)),a [2] (g 81 false (f 83 1 13)),a [4,2] (g 81 false (l 84 83)),a [3,5,2,2] (g 81 false (c 85 52 [82,84])),a [6,2] (g 81 false (t 86 85)),a [2,7] (u 87 81 86),a [8,6] (m 88 87),a [9] (g 88 false (f 89 3 9)),a [10,9] (g 88 false (l 90 89)),a [9] (g 88 false (f 91 0 13)),a [12,9] (g 88 false (l 92 91)),a [11,13,9,9] (g 88 false (c 93 52 [90,92])),a [14,9] (g 88 false (t 94 93)),a [9,15] (u 95 88 94),a [16,14] (m 96 95),a [17] (g 96 false (m 97 12)),a [18,17] (g 96 false (k 98 .gtr 97 O)),a [19,17,17] (g 96 false (m 99 98)),a [20] (g 99 true (m 100 10)),a [20] (g 99 true (m 101 12)),a [22,20] (g 99 true (k 102 .sub 101 I)),a [21,23,20] (g 99 true (i 103 2 100 102)),a [24,20] (g 99 true (L 104 2 103)),a [20] (g 99 true (L 105 2 13)),a [25,26,20,20] (g 99 true (c 106 59 [104,105])),a [27,20] (g 99 true (t 107 106)),a [20,28,17] (g 96 false (v 108 99 107)),a [17,29] (u 109 96 108)],K 109 13 [n 6 (.bool false)]],r 14 [f 110 3 3,l 111 110,e 112 111,n 113 O],.block 2 (.loop (S [r 15 [o 114 .lss 113 112],.cond (.t 114) .skip (.exit 2),.block 3 (S [r 16 [i 115 7 111 113,L 116 7 115,w 17 (.alloc [O,O,O,O,O,O,.int .u8 0]),s 7 17 116],r 17 [f 117 2 17,l 118 117,f 119 0 9,l 120 119,o 121 .eql 118 120,m 122 121,g 122 true (f 123 3 17),g 122 true (L 124 2 123),g 122 true (L 125 2 13),g 122 true (w 126 (.eqs false [.i,.i] (.t 124) (.t 125))),v 127 122 126,m 128 127,g 128 true (f 129 6 17),g 128 true (l 130 129),g 128 true (k 131 .eql 130 (.int .u8 0)),v 132 128 131,m 133 132,g 133 true (L 134 7 17),g 133 true (m 135 8),g 133 true (c 136 57 [134,135]),v 137 133 136],K 137 18 [n 6 (.bool false)]]),r 19 [k 138 .add 113 I,m 113 138]]))]),r 20 [k 139 .add 65 I,m 65 139]]))],r 21 [n 18 O],S [r 22 [f 140 3 3,l 141 140,e 142 141,m 19 142],r 23 [m 143 19,k 144 .gtr 143 O],.cond (.t 144) (r 24 [f 145 3 3,l 146 145,m 147 19,k 148 .sub 147 I,i 149 7 146 148,f 150 0 149,l 151 150,m 18 151]) .skip],S [r 25 [f 152 3 3,l 153 152,e 154 153,m 155 10,e 156 155,o 157 .add 154 156,k 158 .gtr 157 (.int .i64 30),m 159 158,g 159 false (m 160 18),g 159 false (m 161 10),g 159 false (e 162 161),g 159 false (o 163 .add 160 162),g 159 false (k 164 .gtr 163 (.int .i64 9999)),u 165 159 164],K 165 26 [m 166 7,m 6 166]],r 27 [L 167 4 3,w 20 (.alloc [.nils,.nils,.nils,.nils]),s 4 20 167],S [r 28 [m 168 10,e 169 168,n 170 O],.block 4 (.loop (S [r 29 [o 171 .lss 170 169],.cond (.t 171) .skip (.exit 4),.block 5 (S [r 30 [m 172 170,i 173 2 168 170,L 174 2 173,w 22 (.alloc [O,O]),m 21 172,s 2 22 174],r 31 [n 23 O],R 32 [L 176 4 20,m 177 18,a [1] (k 178 .add 177 I),m 179 21,a [2,3] (o 180 .add 178 179),m 181 8,f 182 0 9,a [6] (l 183 182),L 184 2 22,a [4,5,7,8] (c 185 48 [180,181,183,184]),a [0,9,9] (c 186 42 [176,185]),a [10] (m 175 186),a [11] (x 187 0 175),a [11] (x 188 1 175),a [12,10,0,1,2,3,4,5,6,7,8,9,10,11,12] (s 4 20 187),a [13,14,0,1,2,3,4,5,6,7,8,9,10,11,12,13,14] (m 23 188)],r 33 [m 189 23,k 190 .neq 189 O,m 191 190,g 191 false (L 192 4 20),g 191 false (c 193 49 [192]),g 191 false (t 194 193),u 195 191 194],K 195 34 [n 6 (.bool false)]]),r 35 [k 196 .add 170 I,m 170 196]]))],r 36 [L 198 4 20,m 199 8,f 200 0 9,l 201 200,c 202 29 [198,199,201],m 197 202,x 203 0 197,x 204 1 197,m 24 203,m 25 204],r 37 [m 205 7,m 206 205,g 206 true (m 207 25),g 206 true (k 208 .eql 207 O),v 209 206 208,m 210 209,g 210 true (m 211 24),g 210 true (e 212 211),g 210 true (k 213 .eql 212 O),v 214 210 213,m 215 214,g 215 true (f 216 3 20),g 215 true (l 217 216),g 215 true (e 218 217),g 215 true (f 219 3 3),g 215 true (l 220 219),g 215 true (e 221 220),g 215 true (m 222 10),g 215 true (e 223 222),g 215 true (o 224 .add 221 223),g 215 true (o 225 .eql 218 224),v 226 215 225,m 6 226],.ret]
def Zps:List RRes:=[.t 6]
def Zpt:PCt prog 12 f12 Zpr Zps:=pcT func12 rfl
def Zpu:RCode :=
 S [r 0 [b 2 0,b 3 1,n 4 (.bool false)],r 1 [f 5 0 2,l 6 5,f 7 0 3,l 8 7,o 9 .lss 6 8,m 10 9,g 10 false (f 11 0 2),g 10 false (l 12 11),g 10 false (f 13 0 3),g 10 false (l 14 13),g 10 false (o 15 .eql 12 14),g 10 false (m 16 15),g 16 true (f 17 1 2),g 16 true (l 18 17),g 16 true (f 19 1 3),g 16 true (l 20 19),g 16 true (o 21 .lss 18 20),g 10 false (v 22 16 21),u 23 10 22,m 4 23],.ret]
def Zpv:List RRes:=[.t 4]
def Zpw:PCt prog 59 f59 Zpu Zpv:=pcT func59 rfl
end
def rf7B (a b:Int×Int):Bool:=decide (a.1<b.1)||(decide (a.1=b.1)&&decide (a.2<b.2))
def Zpx (l:Jl) (h:Hld) (d:Int):(ndsL l h d).length<=8:=by
 unfold ndsL
 split
 . exact W0D ..
 . simp
section
variable {l:Jl} {h:Hld} {ps:Jp} {day:Int}
def mi1L (l:Jl) (h:Hld) (ps:Jp) (day d:Int):List (Int×Int):=((ndsL l h d).filter λn=>!Zfd ps day h.id d n).map λn=>(d,n)
def Zpy {d:Int} {x:Int×Int} (hx:x∈mi1L l h ps day d):x.1=d:=by
 obtain ⟨n,-,rfl⟩:=W0i.1 hx;rfl
def Zpz (d:Int):(mi1L l h ps day d).Pairwise λa b=>rf7B a b=true:=by
 unfold mi1L;rw[W2o];refine ((Zf4 l h d).filter _).imp λq=>?_
 simp[rf7B,q]
def ZpA:∀ ds:List Int,(ds.flatMap λd=>mi1L l h ps day d).length<=8*ds.length
 |[]=>by simp
 | d::r=>by
   have:=ZpA r
   have h1:(mi1L l h ps day d).length<=8:=by
    unfold mi1L;rw[W0N];exact W0O (W0D ..) (Zpx l h d)
   rw[List.flatMap_cons,W0s,W1p];omega
def ZpB:∀ ds:List Int,ds.Pairwise (· < ·)->(ds.flatMap λd=>mi1L l h ps day d).Pairwise λa b=>rf7B a b=true
 |[],_=>by simp
 | d::r,hd=>by
   rw[W1l]at hd;rw[List.flatMap_cons,W28];refine ⟨Zpz d,ZpB r hd.2,λa ha b hb=>?_⟩;obtain ⟨e,he,hb⟩:=W0u.1 hb;have h1:=Zpy ha;have h2:=Zpy hb;have:=hd.1 e he;simp[rf7B,h1,h2,this]
def lasP (ps:Jp):Int:=if ps.length=0 then 0 else (pAt ps (ps.length-1)).no
def ZpC (hr:riP ps):∀ y∈ps,y.no<=lasP ps:=λy hy=>by
 obtain ⟨k,hk,rfl⟩:=W0k hy;unfold lasP;rw[if_neg (by omega),Zi1 (by omega)];by_cases c:k=ps.length-1
 . subst c;exact W1Y _
 . have:=W0Y.1 hr k (ps.length-1) hk (by omega) (by omega);omega
end
def msT (day:Int) (L:List Rf):List (Nat×AV):=[(10,.vsl (L.map ita)),(9,.ptr 9 0),(8,.int .i64 day),(7,.bool true),(3,.ptr 3 0)]
def ms1S (day:Int) (L:List Rf) (H B:List AV) (i:Nat):St :=
 ⟨(65,.int .i64 i)::(64,.int .i64 L.length)::(63,.vsl (L.map ita))::msT day L,[(9,.box H),(3,.box B)]⟩
def ms2S (day:Int) (L:List Rf) (H B X:List AV) (ps:Jp) (i j:Nat):St :=
 ⟨(113,.int .i64 j)::(112,.int .i64 ps.length)::(111,.vsl (ps.map ptA))::(13,.ptr 13 0)::(65,.int .i64 i)::(64,.int .i64 L.length)::(63,.vsl (L.map ita))::msT day L,[(13,.box X),(9,.box H),(3,.box B)]⟩
def ms3S (day last:Int) (L:List Rf) (H B:List AV) (Q:Nat->List AV) (i:Nat):St :=
 ⟨(170,.int .i64 i)::(169,.int .i64 L.length)::(168,.vsl (L.map ita))::(20,.ptr 20 0)::(18,.int .i64 last)::msT day L,[(20,.box (Q i)),(9,.box H),(3,.box B)]⟩
section
variable {G:Jg}
def ZpD (a b c d:Int):PC prog G 59 [.agg [.int .i64 a,.int .i64 b],.agg [.int .i64 c,.int .i64 d]] (.bool (rf7B (a,b) (c,d))):=by
 unfold rf7B
 (refine Zpw rfl λR hG hrd=>Qga ?_;subst hG)
 by_cases h1:a<c
 . simp -implicitDefEqProofs[Zpu,Zpv,h1]
 . by_cases h2:a=c
   . simp -implicitDefEqProofs[Zpu,Zpv,h2]
   . simp -implicitDefEqProofs[Zpu,Zpv,h1,h2]
def ZpE (hG:GC G) (hN:GN G) (hP:GP G) (r:Jr) (l:Jl) (hs:Jh) (ps:Jp) (dd wh:Int) (hr:∀ x∈r,KOk x) (hl:∀ x∈l,NOk7 x) (hp:∀ x∈ps,POk x) (hdd:0<=dd/\dd<=65535) (hwh:0<=wh/\wh<=255) :
  PC prog G 12 [prA r l hs ps,.int .u16 dd,.int .u8 wh] (.bool true):=by
 have hA:=Zow hG hN hP;have hR:=ZoI (G:=G) r l hs ps hl hr hp;have hD:=ZoH (G:=G) dd hdd.1 hdd.2
 cases hb:!gr7 r l hs ps&&decide (ck7 r l hs ps=0) with
 | false =>
   rw[hb]at hR;unfold prA at *
   (refine Zpt rfl λR hG hrd=>Qga ?_;subst hG)
   simp -implicitDefEqProofs[Zpr,Zps];refine Qco (hA) ?_;simp -implicitDefEqProofs;refine Qco (hR) ?_;simp -implicitDefEqProofs
 |true =>
 rw[hb]at hR;rw[W01,W1C,W0b]at hb;obtain ⟨hg,h0⟩:=hb;by_cases hhs:hs=[]
 . have e0:hs.length=0:=(by rw[hhs];rfl);unfold prA at *
   (refine Zpt rfl λR hG hrd=>Qga ?_;subst hG)
   simp -implicitDefEqProofs[Zpr,Zps];refine Qco (hA) ?_;simp -implicitDefEqProofs;refine Qco (hR) ?_;simp -implicitDefEqProofs[e0,hhs]
 obtain ⟨wl,wr,wd,wp⟩:=ZkV hg hr hl hp;have hdy:=ZoG hdd.1;obtain ⟨day,hday⟩:=Qex (dy7 dd);rw[<- hday]at hD hdy;obtain ⟨h6,n60,hne,-,-⟩:=Zmz h0;have hpl:=wp.pl;have hc0:=(ZiZ.1 h0).1;have hvP:=(ZiZ.1 h0).2;have hop0:=Zj0 hc0;have hB0:=ZeF hc0;have h30:=(Zi5.1 hvP).2.1;have hrp:riP ps:=(Zi5.1 hvP).2.2.1;have hOH:=Zi4 (Zi5.1 hvP).1.1 (Zi5.1 hvP).1.2;have hlp:0<hs.length:=List.length_pos_iff.2 hhs;have q1:=Int.tmod_nonneg hs.length hwh.1;have q2:=Int.tmod_lt_of_pos wh (b:=hs.length) (by omega);have hi:(wh.tmod hs.length).toNat<hs.length:=(by omega);have k0:¬(hs.length:Int)=0:=(by omega);have k0':¬hs.length=0:=(by omega);have w1:i64.wrap wh=wh:=Yf;obtain ⟨h,hh⟩:=Qex (hs[(wh.tmod hs.length).toNat]);have hlx:hs[(wh.tmod hs.length).toNat]=h:=hh.symm;have hhm:h∈hs:=(by rw[hh];exact W0e hi);have hho:hoa h=[.int .i64 h.id,.int .i64 h.fr,.int .i64 h.to,.vsl (h.ds.map ia)]:=rfl;obtain ⟨d8,dmem,dlt⟩:=hOH.ds h hhm;have hoF':=Zi7 hOH.lt hhm;have hoi:0<=hoI hs h.id:=W0X (by rw[hoF_I,hoF'];rfl);have hrng:inR day 0 14610=true:=(by simp[inR];omega);have a1:as7 r l hs ps day 1=0:=(by rw[as7,if_pos h0,if_pos ⟨hrng,rfl⟩]);have a0:as7 r l hs ps 0 1=0:=(by rw[as7,if_pos h0,if_pos ⟨rfl,rfl⟩]);have b1:ab7 r l hs ps day 1 h.id []=0:=(by rw[ab7,if_pos a1,if_pos ⟨hoi,rfl⟩]);have c1:=ZmH hG hN hP r l hs ps day h.id wl wr wd wp;rw[msA,msE,if_pos b1,b1,misI,hoF']at c1;obtain ⟨L,hL⟩:=Qex (misL l h ps day);have c1:=PC.out (w:=.tup [.vsl (L.map ita),.int .i64 0]) (show PC prog G 29 [prA r l hs ps,.int .i64 day,.int .i64 h.id] (.tup [Yg (L.map ita),.int .i64 0]) by rw[hL];exact c1) (Nsub.tup ⟨.orNil _,.rfl',trivial⟩)
 have hLl:L.length<=64:=by
  have:=ZpA (l:=l) (h:=h) (ps:=ps) (day:=day) h.ds;rw[hL];show (h.ds.flatMap λd=>mi1L l h ps day d).length<=64;omega
 have hLlt:L.Pairwise λa b=>rf7B a b=true:=by rw[hL];exact ZpB h.ds dlt
 have hLm:∀ x∈L,x.1∈h.ds/\x.2∈ndsL l h x.1/\Zfd ps day h.id x.1 x.2=false:=λx hx=>Zfe.1 (hL ▸ hx)
 have NB:=λd=>Zla hG hN hP r l hs ps h.id d wl wr wd wp
 have gD:=λd=>ZoJ (G:=G) h.ds d (by unfold Sml;omega)
 obtain ⟨last,hlast⟩ : ∃ n,n=lasP ps:=⟨_,rfl⟩;have hlge:∀ y∈ps,y.no<=last:=by rw[hlast];exact ZpC hrp
 have hl0:0<=last/\last<=9999:=by
  rw[hlast];unfold lasP
  split
  . omega
  . rename_i c;have hm:pAt ps (ps.length-1)∈ps:=(by rw[Zi1 (by omega)];exact W0e _);have:=(Zi5.1 hvP).2.2.2 _ hm;simp only[prB,W01]at this;have:=Zf1.1 this.1.1.1.1.1;omega
 obtain ⟨B,hB⟩ : ∃ B:List AV,B=[.vsl (r.map isa),.vsl (l.map na),.vsl (hs.map hoa),.vsl (ps.map ptA)]:=⟨_,rfl⟩;obtain ⟨H,hH⟩ : ∃ H:List AV,H=[.int .i64 h.id,.int .i64 h.fr,.int .i64 h.to,.vsl (h.ds.map ia)]:=⟨_,rfl⟩;have kB:∀ o,Yc o (.box B)=true:=λo=>by rw[hB];simp[Yc,Ya,AV.keys,isa,na,hoa,ptA]
 have kH:∀ o,Yc o (.box H)=true:=λo=>by rw[hH];simp[Yc,Ya,AV.keys,ia]
 have lB:B.length=4:=(by rw[hB];rfl);have tB:B.take 4=B:=(by rw[hB];rfl);have B3:B[3]? = some (.vsl (ps.map ptA)):=by rw[hB];rfl
 have B3':B[3]'(by rw[lB];omega) = .vsl (ps.map ptA):=by
  have:=B3;rw[W07 (by omega)]at this;exact W1L this
 have pB:∀ x∈B,x.pure=true:=(by rw[hB];simp[AV.pure,isa,na,hoa,ptA,ia]);have H0:H[0]? = some (.int .i64 h.id):=(by rw[hH];rfl);have H3:H[3]? = some (.vsl (h.ds.map ia)):=(by rw[hH];rfl);unfold prA at *;rw[<- hB]at c1 NB
 (refine Zpt rfl λR hG hrd=>Qga ?_;subst hG)
 simp -implicitDefEqProofs[Zpr,Zps];refine Qco (hA) ?_;simp -implicitDefEqProofs;refine Qco (hR) ?_;simp -implicitDefEqProofs[k0,k0',w1,q1,hi,hlx,hho,hhs];refine Qco (hD) ?_;simp -implicitDefEqProofs[k0,k0',w1,q1,hi,hlx,hho,hhs];refine ⟨rfl,?_⟩;rw[<- hB,<- hH];refine Yd.of c1 (by simpa [AV.pure] using pB) ?_;simp -implicitDefEqProofs;refine Z8a (ms1S day L H B) (λ_=>True) L.length ?_ trivial ?_ ?_
 . unfold ms1S msT
   (refine Wkc ?_;simp only[kB,kH,Wkl,and_true];(try simp[lk,Yc,Ya,AV.keys]))
 . intro i hi2 _;have wi:i64.wrap ((i:Int)+1)=(i:Int)+1:=Yf;obtain ⟨x,hx⟩:=Qex (L[i]);have hlx2:L[i]=x:=hx.symm;have hix:ita x=[.int .i64 x.1,.int .i64 x.2]:=rfl;obtain ⟨m1,m2,m3⟩:=hLm x (by rw[hx];exact W0e hi2);have hdn:=dmem x.1 m1;have b2:ab7 r l hs ps 0 1 h.id [x.1]=0:=(by rw[ab7,if_pos a0,if_pos ⟨hoi,by simp[hdn]⟩]);have cN:=NB x.1;have eK:ndI l hs h.id x.1=ndsL l h x.1:=(by unfold ndI;rw[hoF']);rw[neA,neE,if_pos b2,b2,eK]at cN;have hK8:=Zpx l h x.1;obtain ⟨K,hK⟩:=Qex (ndsL l h x.1);rw[<- hK]at cN hK8 m2;have cN:=PC.out (w:=.tup [.vsl (K.map ia),.int .i64 0]) cN (Nsub.tup ⟨.orNil _,.rfl',trivial⟩);have gK:=ZoJ (G:=R.G) K x.2 (by unfold Sml;omega);rw[W0M m2]at gK;have g:=gD x.1;rw[W0M m1]at g;obtain ⟨X,hX⟩ : ∃ X:List AV,X=[.int .i64 x.1,.int .i64 x.2]:=⟨_,rfl⟩;have kX:∀ o,Yc o (.box X)=true:=λo=>by rw[hX];simp[Yc,Ya,AV.keys]
   refine Qga ?_;unfold ms1S msT;simp -implicitDefEqProofs[hi2,hlx2,hix,lB,tB,H0];refine Yd.of cN (by simpa [AV.pure] using pB) ?_;simp -implicitDefEqProofs;refine Qco (gK) ?_;simp -implicitDefEqProofs[H3];refine Qco (g) ?_;by_cases i0:0<i
   case' pos =>
    have i0i:(0:Int)<i:=(by omega);have hi3:i-1<L.length:=(by omega);obtain ⟨y,hy⟩:=Qex (L[i-1]);have hly:L[i-1]=y:=hy.symm;have hiy:ita y=[.int .i64 y.1,.int .i64 y.2]:=rfl;have ws1:i64.wrap ((i:Int)-1)=((i-1:Nat):Int):=(by rw[Yf (by omega) (by omega)];omega);have gl:=ZpD (G:=R.G) y.1 y.2 x.1 x.2
    have hlt2:rf7B (y.1,y.2) (x.1,x.2)=true:=by
     have:=W0Y.1 hLlt (i-1) i hi3 hi2 (by omega);rw[hly,hlx2]at this;exact this
    rw[hlt2]at gl;simp -implicitDefEqProofs[i0,i0i,ws1,hi3,hly,hiy];refine Qco (gl) ?_;simp -implicitDefEqProofs[B3,B3']
   case' neg =>
    have i0i:¬(0:Int)<i:=(by omega);have i0z:i=0:=(by omega);have i0y:(i:Int)<=0:=(by omega);simp -implicitDefEqProofs[i0,i0i,B3,B3']
   all_goals
    refine ⟨rfl,?_⟩;rw[<- hX];refine Z8a (ms2S day L H B X ps i) (λ_=>True) ps.length ?_ trivial ?_ ?_
    . unfold ms2S msT
      ((try simp only[B3]);refine Ym.sub (by simp[lk,Ya,AV.keys,B3]) ?_;simp only[B3,Wkl,kB,kH,kX,and_true];(try simp[lk,Yc,Ya,AV.keys,B3]))
    . intro j hj _;have wj:i64.wrap ((j:Int)+1)=(j:Int)+1:=Yf;obtain ⟨z,hz⟩:=Qex (ps[j]);have hlz:ps[j]=z:=hz.symm;have hzm:z∈ps:=(by rw[hz];exact W0e hj);have hpz:ptA z=[.int .i64 z.no,.int .i64 z.dy,.int .i64 z.ho,.int .i64 z.dw,.int .i64 z.lt,.int .i64 z.bk,.int .u8 z.lo]:=rfl;have hno:=W26.1 m3 z hzm;have X0:X[0]? = some (.int .i64 x.1):=(by rw[hX];rfl);have tX:X.take 2=[.int .i64 x.1,.int .i64 x.2]:=(by rw[hX];rfl);have lX:X.length=2:=(by rw[hX];rfl);have cO:=Zkm (G:=R.G) z day;rw[hpz]at cO;refine Qga ?_;unfold ms2S msT;by_cases c1:z.ho=h.id
      case neg =>
       simp -implicitDefEqProofs[hj,hlz,hpz,H0,c1,wj]
       (refine Wkc ?_;simp only[kB,kH,kX,Wkl,and_true];(try simp[lk,Yc,Ya,AV.keys]))
      by_cases c2:z.dw=x.1
      case neg =>
       simp -implicitDefEqProofs[hj,hlz,hpz,H0,c1,c2,tX,lX,eqL,eq1,wj]
       (refine Wkc ?_;simp only[kB,kH,kX,Wkl,and_true];(try simp[lk,Yc,Ya,AV.keys]))
      by_cases c3:z.lt=x.2
      case neg =>
       simp -implicitDefEqProofs[hj,hlz,hpz,H0,c1,c2,c3,tX,lX,eqL,eq1,wj]
       (refine Wkc ?_;simp only[kB,kH,kX,Wkl,and_true];(try simp[lk,Yc,Ya,AV.keys]))
      by_cases c4:z.lo=0
      case neg =>
       simp -implicitDefEqProofs[hj,hlz,hpz,H0,c1,c2,c3,c4,tX,lX,eqL,eq1,wj]
       (refine Wkc ?_;simp only[kB,kH,kX,Wkl,and_true];(try simp[lk,Yc,Ya,AV.keys]))
      have c5:outB z day=false:=by
       cases q:outB z day with
       |false=>rfl
       |true=>exact absurd (by simp[herB,c1,c2,c3,c4,q]) hno
      rw[c5,c1,c2,c3,c4]at cO;simp -implicitDefEqProofs[hj,hlz,hpz,H0,c1,c2,c3,c4,tX,lX,eqL,eq1];refine Qco (cO) ?_;simp -implicitDefEqProofs[wj]
      (refine Wkc ?_;simp only[kB,kH,kX,Wkl,and_true];(try simp[lk,Yc,Ya,AV.keys]))
    . intro _;refine Qga ?_;unfold ms2S msT;simp -implicitDefEqProofs;refine Qgr ?_;simp -implicitDefEqProofs[wi]
      (refine Wkc ?_;simp only[kB,kH,Wkl,and_true];(try simp[lk,Yc,Ya,AV.keys]))
 . intro _;refine Qga ?_;unfold ms1S msT;simp -implicitDefEqProofs;refine Z2R mixed 5 ?_;simp -implicitDefEqProofs;refine GO0 (ZbU (S:=⟨(18,.int .i64 last)::msT day L,[(9,.box H),(3,.box B)]⟩) (Qga ?_) ?_)
   . by_cases c:ps.length=0
     . have e0:last=0:=(by rw[hlast,lasP,if_pos c]);have ci:¬(0:Int)<ps.length:=(by omega);simp -implicitDefEqProofs[B3,B3',c,ci]
       ((try simp only[msT,e0]);refine Ym.sub (by simp[lk,Ya,AV.keys,msT,e0]) ?_;simp only[msT,e0,Wkl,kB,kH,and_true];(try simp[lk,Yc,Ya,AV.keys,msT,e0]))
     . have hlp2:ps.length-1<ps.length:=(by omega);have e0:ps[ps.length-1].no=last:=(by rw[hlast,lasP,if_neg c,Zi1 hlp2]);have ci:(0:Int)<ps.length:=(by omega);have cn:0<ps.length:=(by omega);have ws:i64.wrap ((ps.length:Int)-1)=((ps.length-1:Nat):Int):=(by rw[Yf (by omega) (by omega)];omega);obtain ⟨z,hz⟩:=Qex (ps[ps.length-1]);have hlz:ps[ps.length-1]=z:=hz.symm;rw[hlz]at e0;have hpz:ptA z=[.int .i64 z.no,.int .i64 z.dy,.int .i64 z.ho,.int .i64 z.dw,.int .i64 z.lt,.int .i64 z.bk,.int .u8 z.lo]:=rfl;simp -implicitDefEqProofs[B3,B3',ci,cn,ws,hlp2,hlz,hpz]
       ((try simp only[msT,e0]);refine Ym.sub (by simp[lk,Ya,AV.keys,msT,e0]) ?_;simp only[msT,e0,Wkl,kB,kH,and_true];(try simp[lk,Yc,Ya,AV.keys,msT,e0]))
   have wn:i64.wrap ((ps.length:Int)+(L.length:Int))=(ps.length:Int)+(L.length:Int):=Yf;have wl2:i64.wrap (last+(L.length:Int))=last+(L.length:Int):=Yf;unfold msT;rw[hB];refine Qga ?_;by_cases d1:(30:Int)<(ps.length:Int)+(L.length:Int)
   case pos =>
    simp -implicitDefEqProofs[wn,d1];refine Qgr ?_;simp -implicitDefEqProofs
   by_cases d2:9999<last+(L.length:Int)
   case pos =>
    simp -implicitDefEqProofs[wn,wl2,d1,d2];refine Qgr ?_;simp -implicitDefEqProofs
   have hv:∀ k,k<=L.length->ptsB r hs (ps++newL h day last L k)=true:=by
    rw[hL];exact Zp0 hop0 hB0 hOH hhm hdy hvP hlge hl0.1 (by rw[<- hL];omega) (by rw[<- hL];omega)
   have hck:∀ k,k<=L.length->ck7 r l hs (ps++newL h day last L k)=0:=λk hk=>ZiZ.2 ⟨hc0,hv k hk⟩
   have hnl:∀ k,k<=L.length->(newL h day last L k).length=k:=λk hk=>by unfold newL;simp;omega
   have hpo:∀ k,∀ y∈ps++newL h day last L k,POk y:=λk y hy=>by
    rcases W0h.1 hy with hy|hy
    . exact hp y hy
    . obtain ⟨i,hi,-,rfl⟩:=ZoY hy;unfold POk newP;simp
   have hgr:∀ k,k<=L.length->gr7 r l hs (ps++newL h day last L k)=false:=λk hk=>by
    have:=hnl k hk;unfold gr7 at *;simp only[W1T,W1b,W0s]at hg ⊢;refine ⟨⟨hg.1.1,?_⟩,hg.2⟩;omega
   have hpl2:∀ k (hk:k<L.length),putP (ps++newL h day last L k) (newP h day last k L[k]) (plP (ps++newL h day last L k) (newP h day last k L[k]))=ps++newL h day last L (k+1):=λk hk=>ZoZ hk hlge
   have hend:misL l h (ps++newL h day last L L.length) day=[]:=(by rw[hL];exact Zp1);have hlen:∀ k,k<=L.length->(ps++newL h day last L k).length=ps.length+k:=λk hk=>by rw[W0s,hnl k hk]
   have hz0:ps++newL h day last L 0=ps:=(by simp[newL]);obtain ⟨Pf,hPf⟩ : ∃ Pf:Nat->List Prt,Pf=λi=>ps++newL h day last L i:=⟨_,rfl⟩
   have hPe:∀ i,ps++newL h day last L i=Pf i:=λi=>by rw[hPf]
   simp only[hPe]at hv hck hpo hgr hpl2 hend hlen hz0;clear hPe hPf;obtain ⟨Qf,hQf⟩ : ∃ Qf:Nat->List AV,Qf=λi=>[.vsl (r.map isa),.vsl (l.map na),.vsl (hs.map hoa),.vsl ((Pf i).map ptA)]:=⟨_,rfl⟩
   have hQe:∀ i,Qf i=[.vsl (r.map isa),.vsl (l.map na),.vsl (hs.map hoa),.vsl ((Pf i).map ptA)]:=λi=>by rw[hQf]
   have kQ:∀ i o,Yc o (.box (Qf i))=true:=λi o=>by rw[hQe];simp[Yc,Ya,AV.keys,isa,na,hoa,ptA]
   have hQ0:Qf 0=B:=(by rw[hQe,hB,hz0]);simp -implicitDefEqProofs[wn,wl2,d1,d2];rw[<- hB];refine Z8a (ms3S day last L H B Qf) (λ_=>True) L.length ?_ trivial ?_ ?_
   . unfold ms3S msT;rw[hQ0]
     (refine Wkc ?_;simp only[kB,kH,Wkl,and_true];(try simp[lk,Yc,Ya,AV.keys]))
   . intro k hk _;have wk:i64.wrap ((k:Int)+1)=(k:Int)+1:=Yf;have wa:i64.wrap (last+1)=last+1:=Yf;have wb:i64.wrap (last+1+(k:Int))=last+1+(k:Int):=Yf;obtain ⟨x,hx⟩:=Qex (L[k]);have hlx2:L[k]=x:=hx.symm;have hix:ita x=[.int .i64 x.1,.int .i64 x.2]:=rfl;have hpl3:=hpl2 k hk;rw[hlx2]at hpl3;obtain ⟨-,-,-,wp1⟩:=ZkV (hgr k (by omega)) hr hl (hpo k);have hS:=ZoS (G:=R.G) hG hN hP r l hs (Pf k) (newP h day last k x) wl wr hne (by omega) wd wp1 (by unfold POk newP;simp);have hlen2:¬(Pf k).length=30:=(by rw[hlen k (by omega)];omega);rw[snA,snE,if_pos (hck k (by omega)),if_neg hlen2,hpl3,if_pos (hck (k+1) (by omega)),if_pos rfl]at hS;have hpn:ptA (newP h day last k x)=[.int .i64 (last+1+(k:Int)),.int .i64 day,.int .i64 h.id,.int .i64 x.1,.int .i64 x.2,.int .i64 (-1),.int .u8 0]:=rfl;have hR3:=ZoI (G:=R.G) r l hs (Pf (k+1)) hl hr (hpo (k+1));rw[hgr (k+1) (by omega),hck (k+1) (by omega)]at hR3;rw[hpn]at hS;unfold prA at hS hR3;have cs:=Zor (G:=R.G) (last+1+(k:Int)) day h.id x.1 x.2;refine Qga ?_;unfold ms3S msT;rw[hQe];simp -implicitDefEqProofs[hk,hlx2,hix,wa,wb,H0];refine Qco (cs) ?_;simp -implicitDefEqProofs;refine Qco (hS) ?_;simp -implicitDefEqProofs;refine ⟨rfl,?_⟩;refine Qco (hR3) ?_;simp -implicitDefEqProofs[wk]
     trace_state
     simp only[ms3S,msT,hQe]
     ((try simp only[isa,na,hoa,ptA]);refine Ym.sub (by simp[lk,Ya,AV.keys,isa,na,hoa,ptA]) ?_;simp only[isa,na,hoa,ptA,Wkl,kB,kH,and_true];(try simp[lk,Yc,Ya,AV.keys,isa,na,hoa,ptA]))
   . intro _;obtain ⟨-,-,-,wp1⟩:=ZkV (hgr L.length (W0f _)) hr hl (hpo L.length);have a9:as7 r l hs (Pf L.length) day 1=0:=(by rw[as7,if_pos (hck _ (W0f _)),if_pos ⟨hrng,rfl⟩]);have b9:ab7 r l hs (Pf L.length) day 1 h.id []=0:=(by rw[ab7,if_pos a9,if_pos ⟨hoi,rfl⟩]);have c9:=ZmH (G:=R.G) hG hN hP r l hs (Pf L.length) day h.id wl wr wd wp1;rw[msA,msE,if_pos b9,b9,misI,hoF']at c9;have c9:=PC.out (w:=.tup [.vsl [],.int .i64 0]) (show PC prog R.G 29 [prA r l hs (Pf L.length),.int .i64 day,.int .i64 h.id] (.tup [Yg ((misL l h (Pf L.length) day).map ita),.int .i64 0]) from c9) (by rw[hend];exact Nsub.tup ⟨.orNil _,.rfl',trivial⟩);have hlQ:=hlen L.length (W0f _);unfold prA at c9;refine Qga ?_;unfold ms3S msT;rw[hQe,hB];simp -implicitDefEqProofs;refine Qgr ?_;simp -implicitDefEqProofs[H0];refine Qco (c9) ?_;simp -implicitDefEqProofs[hlQ,wn]
     trace_state
     refine Qgr ?_;simp -implicitDefEqProofs
end
end Go.Proofs.YtcdlimgkliklhaaGreatDoor
