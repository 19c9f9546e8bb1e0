/-
  The abstract machine's code of functions of the program, as a program of ours printed it; that it is theirs is proved beside each.
-/
import Derived.Test.YtcdlimgkliklhaaGreatDoorJP4ToQ0
set_option linter.all false
set_option maxHeartbeats 8000000
namespace Go.Proofs.YtcdlimgkliklhaaGreatDoor
open Go.Proofs.Tryz (prog)
open IntKind (i64)
open Go.RowKit
variable {G:Jg}
section
open Qq Go.Proofs.Tryz
def ZpQ:RCode :=
 S [r 0 [b 4 0,n 8 (.bool false)],r 1 [c 38 44 [],m 9 38],S [r 2 [L 39 4 4,c 40 49 [39],t 41 40,m 42 41,g 42 false (m 43 9),g 42 false (t 44 43),u 45 42 44],K 45 3 [m 46 9,m 8 46]],r 4 [m 47 1,c 48 50 [47],m 10 48],r 5 [L 50 4 4,m 51 10,c 52 34 [50,51],m 49 52,x 53 0 49,x 54 1 49,m 11 53,m 12 54],r 6 [L 56 4 4,m 57 10,c 58 36 [56,57],m 55 58,x 59 0 55,x 60 1 55,x 61 2 55,m 13 59,m 14 60,m 15 61],r 7 [L 63 4 4,m 64 10,c 65 38 [63,64],m 62 65,x 66 0 62,x 67 1 62,m 16 66,m 17 67],S [r 8 [m 68 12,k 69 .neq 68 O,m 70 69,g 70 false (m 71 15),g 70 false (k 72 .neq 71 O),u 73 70 72,m 74 73,g 74 false (m 75 17),g 74 false (k 76 .neq 75 O),u 77 74 76,m 78 77,g 78 false (m 79 16),g 78 false (c 80 51 [79]),g 78 false (t 81 80),u 82 78 81,m 83 82,g 83 false (m 84 16),g 83 false (e 85 84),g 83 false (m 86 13),g 83 false (e 87 86),g 83 false (m 88 14),g 83 false (e 89 88),g 83 false (o 90 .add 87 89),g 83 false (o 91 .neq 85 90),u 92 83 91],K 92 9 [n 8 (.bool false)]],S [r 10 [m 93 16,e 94 93,n 95 O],.block 0 (.loop (S [r 11 [o 96 .lss 95 94],.cond (.t 96) .skip (.exit 0),.block 1 (S [r 12 [m 97 95,i 98 1 93 95,l 99 98,m 18 97,m 19 99],r 13 [L 101 4 4,m 102 19,c 103 53 [101,102],m 100 103,x 104 0 100,x 105 1 100,w 20 (.alloc [O,O,O,O,O,O,.int .u8 0]),s 7 20 104,m 21 105],S [r 14 [m 106 21,t 107 106,m 108 107,g 108 false (m 109 11),g 108 false (m 110 19),g 108 false (c 111 52 [109,110]),g 108 false (t 112 111),u 113 108 112],K 113 15 [n 8 (.bool false)]],r 16 [m 114 16,m 115 18,w 116 (.slc 1 (.t 114) none (some (.t 115))),e 117 116,n 118 O],.block 2 (.loop (S [r 17 [o 119 .lss 118 117],.cond (.t 119) .skip (.exit 2),.block 3 (S [r 18 [i 120 1 116 118,l 121 120,m 23 121],r 19 [L 123 4 4,m 124 23,c 125 53 [123,124],m 122 125,x 126 0 122,x 127 1 122,w 24 (.alloc [O,O,O,O,O,O,.int .u8 0]),s 7 24 126,m 25 127],r 20 [f 128 2 20,l 129 128,f 130 2 24,l 131 130,o 132 .eql 129 131,m 133 132,g 133 false (f 134 3 20),g 133 false (f 135 0 134),g 133 false (l 136 135),g 133 false (f 137 3 24),g 133 false (f 138 0 137),g 133 false (l 139 138),g 133 false (o 140 .eql 136 139),u 141 133 140],K 141 21 [n 8 (.bool false)]]),r 22 [k 142 .add 118 I,m 118 142]]))]),r 23 [k 143 .add 95 I,m 95 143]]))],r 24 [n 26 .nils,n 27 .nils],S [r 25 [f 144 2 4,l 145 144,e 146 145,n 147 O],.block 4 (.loop (S [r 26 [o 148 .lss 147 146],.cond (.t 148) .skip (.exit 4),.block 5 (S [r 27 [m 149 147,i 150 4 145 147,L 151 4 150,w 29 (.alloc [O,O,O,.nils]),m 28 149,s 4 29 151],r 28 [m 152 2,m 153 28,w 154 (.vop (.sh false) [(.t 152),(.t 153)]),w 155 (.vop (.bits .and) [(.t 154),(.c (.int .u8 1))]),k 156 .eql 155 (.int .u8 1)],.cond (.t 156) (r 29 [m 157 26,f 158 0 29,l 159 158,w 160 (.bsl false 1 1 [O] [(0,.t 159)]),w 161 (.app 1 8 (.t 157) (.t 160)),m 26 161]) .skip]),r 30 [k 162 .add 147 I,m 147 162]]))],S [r 31 [f 163 0 4,f 164 0 163,L 165 1 164,c 166 54 [165],e 167 166,n 168 O],.block 6 (.loop (S [r 32 [o 169 .lss 168 167],.cond (.t 169) .skip (.exit 6),.block 7 (S [r 33 [m 170 168,i 171 1 166 168,l 172 171,m 30 170,m 31 172],r 34 [m 173 3,m 174 30,w 175 (.vop (.sh false) [(.t 173),(.t 174)]),w 176 (.vop (.bits .and) [(.t 175),(.c (.int .u32 1))]),k 177 .eql 176 (.int .u32 1)],.cond (.t 177) (r 35 [m 178 27,m 179 31,w 180 (.bsl false 1 1 [O] [(0,.t 179)]),w 181 (.app 1 8 (.t 178) (.t 180)),m 27 181]) .skip]),r 36 [k 182 .add 168 I,m 168 182]]))],r 37 [L 184 4 4,m 185 10,m 186 26,m 187 27,c 188 40 [184,185,186,187],m 183 188,x 189 0 183,x 190 1 183,w 32 (.alloc [.nils,.nils,.nils,.nils]),s 4 32 189,m 33 190],S [r 38 [m 191 33,k 192 .neq 191 O],K 192 39 [n 8 (.bool false)]],r 40 [L 194 4 32,m 195 10,c 196 34 [194,195],m 193 196,x 197 0 193,x 198 1 193,m 34 197,m 35 198],r 41 [m 199 26,e 200 199,m 201 27,e 202 201,o 203 .add 200 202,m 204 13,e 205 204,m 206 14,e 207 206,o 208 .add 205 207,o 209 .lss 203 208,m 36 209],r 42 [m 210 26,e 211 210,m 212 27,e 213 212,o 214 .add 211 213,m 215 13,e 216 215,m 217 14,e 218 217,o 219 .add 216 218,o 220 .eql 214 219,m 37 220],r 43 [m 221 9,m 222 221,g 222 true (m 223 35),g 222 true (k 224 .eql 223 O),v 225 222 224,m 226 225,g 226 true (m 227 34),g 226 true (e 228 227),g 226 true (k 229 .gtr 228 O),g 226 true (m 230 229),g 230 false (m 231 36),g 230 false (t 232 231),g 230 false (m 233 232),g 233 true (m 234 37),g 233 true (t 235 234),g 233 true (m 236 235),g 236 false (m 237 26),g 236 false (m 238 13),g 236 false (c 239 55 [237,238]),g 236 false (t 240 239),g 233 true (u 241 236 240),g 230 false (v 242 233 241),g 226 true (u 243 230 242),v 244 226 243,m 8 244],.ret]
def ZpR:List RRes:=[.t 8]
def ZpS:PCt prog 9 f9 ZpQ ZpR:=pcT func9 rfl
end
section
open Qq Go.Proofs.Tryz
def ZpT:RCode :=
 S [r 0 [b 2 0,w 4 (.alloc [O,O,O,O,O,O,.int .u8 0]),n 5 (.bool false)],S [r 1 [f 8 3 2,l 9 8,e 10 9,n 11 O],.block 0 (.loop (S [r 2 [o 12 .lss 11 10],.cond (.t 12) .skip (.exit 0),.block 1 (S [r 3 [i 13 7 9 11,L 14 7 13,w 7 (.alloc [O,O,O,O,O,O,.int .u8 0]),s 7 7 14],r 4 [f 15 0 7,l 16 15,m 17 1,o 18 .eql 16 17],K 18 5 [L 19 7 7,s 7 4 19,n 5 (.bool true)]]),r 6 [k 20 .add 11 I,m 11 20]]))],r 7 [w 21 (.build [O,O,O,O,O,O,.int .u8 0] []),s 7 4 21,n 5 (.bool false)],.ret]
def ZpU:List RRes:=[.c 4 true 7,.t 5]
def ZpV:PCt prog 53 f53 ZpT ZpU:=pcT func53 rfl
end
def ZpW (r:Jr) (l:Jl) (hs:Jh) (ps:Jp) (k:Nat) (hk:k<ps.length) (hrp:riP ps) (hpl:ps.length<=41) :
  PC prog G 53 [prA r l hs ps,.int .i64 ps[k].no] (.tup [.agg (ptA ps[k]),.bool true]):=by
 obtain ⟨y,hy⟩:=Qex (ps[k]);rw[<- hy];have hpy:ptA y=[.int .i64 y.no,.int .i64 y.dy,.int .i64 y.ho,.int .i64 y.dw,.int .i64 y.lt,.int .i64 y.bk,.int .u8 y.lo]:=rfl;rw[hpy];unfold prA
 (refine ZpV rfl λR hG hrd=>Qga ?_;subst hG)
 simp -implicitDefEqProofs[ZpT,ZpU];refine Z8g (λi=>⟨[(11,.int .i64 i),(10,.int .i64 ps.length),(9,.vsl (ps.map ptA)),(4,.ptr 4 0),(1,.int .i64 y.no)],[(4,.box [.int .i64 0,.int .i64 0,.int .i64 0,.int .i64 0,.int .i64 0,.int .i64 0,.int .u8 0])]⟩) (λi=>i<=k) ps.length ?_ (W1f _) ?_ ?_
 . (refine Wkc ?_;simp only[Wkl,and_true];(try simp[lk,Yc,Ya,AV.keys]))
 . intro i hi hik;have w1:i64.wrap ((i:Int)+1)=(i:Int)+1:=Yf;refine Qga ?_;by_cases e:i=k
   . subst e;have hly:ps[i]=y:=hy.symm;simp -implicitDefEqProofs[hi,hly,hpy];refine Qgr ?_;simp -implicitDefEqProofs[AV.pure]
   . obtain ⟨x,hx⟩:=Qex (ps[i]);have hlx:ps[i]=x:=hx.symm;have hpx:ptA x=[.int .i64 x.no,.int .i64 x.dy,.int .i64 x.ho,.int .i64 x.dw,.int .i64 x.lt,.int .i64 x.bk,.int .u8 x.lo]:=rfl
     have hlt:¬x.no=y.no:=by
      have:=Zon hrp (i:=i) (j:=k) (by omega) hk;rw[hlx,<- hy]at this;omega
     simp -implicitDefEqProofs[hi,hlx,hpx,hlt,w1];refine ⟨?_,by omega⟩
     (refine Wkc ?_;simp only[Wkl,and_true];(try simp[lk,Yc,Ya,AV.keys]))
 . intro h;omega
section
open Qq Go.Proofs.Tryz
end
def ZpX {ps:Jp} (h:ps.Pairwise λx y=>x.no<y.no) (p:Prt->Bool) {x:Prt} (hx:x∈ps):x.no∈(ps.filter p).map (·.no)↔p x=true:=by
 rw[W0i]
 constructor
 . rintro ⟨y,hy,e⟩;obtain ⟨h1,h2⟩:=W0G.1 hy
   have:y=x:=by
    obtain ⟨i,hi,rfl⟩:=W0k h1;obtain ⟨j,hj,rfl⟩:=W0k hx;rcases W0R i j with c|c|c
    . have:=W0Y.1 h i j hi hj c;omega
    . subst c;rfl
    . have:=W0Y.1 h j i hj hi c;omega
   rw[<- this];exact h2
 . intro q;exact ⟨x,W0G.2 ⟨hx,q⟩,rfl⟩
def no_lt {ps:Jp} (h:ps.Pairwise λx y=>x.no<y.no) (p:Prt->Bool):((ps.filter p).map (·.no)).Pairwise (· < ·):=W2o.2 (h.filter p)
section
variable {r:Jr} {l:Jl} {hs:Jh} {ps:Jp} {day:Int}
def ZpY {ids:List Int} {s:Nat} {x:Int} (h:x∈bitL ids s):x∈ids:=by
 unfold bitL at h;obtain ⟨i,hi,rfl⟩:=W0i.1 h;have hlt:=W1u.1 (W0G.1 hi).1;rw[W0j,W07 hlt];exact W0e hlt
def ho_in {id:Int} (h:id∈hs.map (·.id)):0<=hoI hs id:=by
 have:=hoF_I hs id
 have h2:(hoF hs id).isSome=true:=by
  obtain ⟨x,hx,e⟩:=W0i.1 h;unfold hoF;rw[List.find?_isSome];exact ⟨x,hx,by simp[e]⟩
 rw[h2]at this;exact W0X this
def ZpZ (h0:ck7 r l hs ps=0) (hd:0<=day/\day<=14610) (a b:List Int):ck7 r l hs (ps.map (calP l hs day a b))=0:=ZjP.2 ⟨(ZjP.1 h0).1,ZiY hd (ZjP.1 h0).2⟩
def Zq0 (hg:gr7 r l hs ps=false) (a b:List Int):gr7 r l hs (ps.map (calP l hs day a b))=false:=by
 unfold gr7 at *;rw[W0N];exact hg
def Zq1 (hp:∀ x∈ps,POk x) (a b:List Int):∀ x∈ps.map (calP l hs day a b),POk x:=λx hx=>by
 obtain ⟨y,hy,rfl⟩:=W0i.1 hx;unfold calP;split
 . exact ⟨by simp,by simp⟩
 . exact hp y hy
end
def obK (ids:List Int) (s:Nat) (i:Nat):List Int:=((List.range i).filter λj=>s.testBit j).map λj=>ids.getD j 0
def Zq2 (ids:List Int) (s i:Nat):obK ids s (i+1)=if s.testBit i=true then obK ids s i++[ids.getD i 0] else obK ids s i:=by
 unfold obK;rw[W1y,W1a,W0r]
 cases h:s.testBit i <;> simp[h]
section
variable {r:Jr} {l:Jl} {hs:Jh} {ps:Jp} {day:Int}
def Zq3 (h0:ck7 r l hs ps=0) (hOH:(hs.map (·.id)).Pairwise (· < ·)) (hnl:(nums r).Pairwise (· < ·)) :
  ∃ o:List Prt,apR (staL l hs ps day) (szP (caE (hs.map (·.id)) (nums r) (staL l hs ps day))) []=o/\o.Sublist (staL l hs ps day)/\o.length=szP (caE (hs.map (·.id)) (nums r) (staL l hs ps day))/\o.Pairwise λx y=>x.ho≠y.ho/\x.dw≠y.dw:=by
 have hi:∀ x∈staL l hs ps day,x.ho∈hs.map (·.id):=λx hx=>by
  obtain ⟨k,hk,-,e⟩:=ZoP (Zm3 h0 (W0G.1 hx).1).1;rw[<- e];exact W0i.2 ⟨_,W0e hk,rfl⟩
 obtain ⟨o,h1,h2,h3,h4,h5⟩:=Zc8 (dl:=nums r) (hOH.imp λh=>Int.ne_of_lt h) (hnl.imp λh=>Int.ne_of_lt h) hi;refine ⟨o,by rw[apR,h1];rfl,h2,h3,h4.imp λh=>?_⟩;unfold frP clP at h;simp only[W1T,W1b]at h;exact ⟨λe=>by simp[e]at h,λe=>by simp[e]at h⟩
end
def fwT (day hb0 db0:Int) (a b N Q:List Int):List (Nat×AV) :=
 [(94,.int .i64 Q.length),(93,.vsl (Q.map ia)),(16,.vsl (Q.map ia)),(14,.vsl (b.map ia)),(13,.vsl (a.map ia)),(11,.vsl (N.map ia)),(10,.int .i64 day),(9,.bool true),(4,.ptr 4 0),(3,.int .u32 db0),(2,.int .u8 hb0)]
def fwI (day hb0 db0:Int) (a b N Q R0:List Int) (B X:List AV) (i j:Nat):St :=
 ⟨(118,.int .i64 j)::(117,.int .i64 R0.length)::(116,.vsl (R0.map ia))::(20,.ptr 20 0)::(95,.int .i64 i)::fwT day hb0 db0 a b N Q,[(20,.box X),(4,.box B)]⟩
def fwS (day hb0 db0:Int) (a b N Q:List Int) (B:List AV) (i:Nat):St:=⟨(95,.int .i64 i)::fwT day hb0 db0 a b N Q,[(4,.box B)]⟩
def Zq4:∀ T:Nat,T<256->∀ k:Nat,k<8->IntKind.u8.wrap (((((T:Int).fdiv (2 ^ min k IntKind.u8.bits)) % 2 ^ IntKind.u8.bits).toNat &&& 1 % 2 ^ IntKind.u8.bits:Nat):Int)=if T.testBit k=true then 1 else 0:=by decide +kernel
def fwO (day db0:Int) (a b N:List Int) (hs:Jh) (s:Nat) (B:List AV) (i:Nat):St :=
 ⟨[(147,.int .i64 i),(146,.int .i64 hs.length),(145,.vsl (hs.map hoa)),(27,.nils),(26,nlV 161 (obK (hs.map (·.id)) s i)),(14,.vsl (b.map ia)),(13,.vsl (a.map ia)),(10,.int .i64 day),(9,.bool true),(4,.ptr 4 0),(3,.int .u32 db0),(2,.int .u8 s)],nlO 161 (obK (hs.map (·.id)) s i)++[(4,.box B)]⟩
def obP (P:Nat->Bool) (ids:List Int) (i:Nat):List Int:=((List.range i).filter P).map λj=>ids.getD j 0
def Zq5 (P:Nat->Bool) (ids:List Int) (i:Nat):obP P ids (i+1)=if P i=true then obP P ids i++[ids.getD i 0] else obP P ids i:=by
 unfold obP;rw[W1y,W1a,W0r]
 cases h:P i <;> simp[h]
def b32 (n:Int) (k:Nat):Bool:=decide (IntKind.u32.wrap ((((n.fdiv (2 ^ min k IntKind.u32.bits)) % 2 ^ IntKind.u32.bits).toNat &&& 1 % 2 ^ IntKind.u32.bits:Nat):Int)=1)
def fwD (day db0:Int) (a b:List Int) (O:AV) (ns:List Int) (B:List AV) (i:Nat):St :=
 ⟨[(168,.int .i64 i),(167,.int .i64 ns.length),(166,.vsl (ns.map ia)),(27,nlV 181 (obP (b32 db0) ns i)),(26,O),(14,.vsl (b.map ia)),(13,.vsl (a.map ia)),(10,.int .i64 day),(9,.bool true),(4,.ptr 4 0),(3,.int .u32 db0)],nlO 181 (obP (b32 db0) ns i)++[(4,.box B)]⟩
def Ym.orv {st:St} (n:Nat) (S:List Int) (h:st.tmp n=some (Yg (S.map ia))):Ym st (st.put n (.vsl (S.map ia))):=by
 rintro R a W ⟨κ,hk⟩;refine ⟨κ,{ hk with tm:=λm x hx=>?_ }⟩;rw[St.tmp_put]at hx
 split at hx
 . rename_i e;subst e
   cases hx
   have hv:=hk.tm n _ h;generalize a.tmps.getD n Go.undef=u at *;rcases ZmP S with e|e
   . rw[e]at hv
     cases hv with
     |pv hv=>exact .pv (Nsub.orNil (S.map ia) _ _ _ (by rw[e];exact hv))
   . rw[e]at hv;exact hv
 . exact hk.tm m x hx
def Zq6 (hG:GC G) (hN:GN G) (hP:GP G) (r:Jr) (l:Jl) (hs:Jh) (ps:Jp) (d hb0 db0:Int) (hr:∀ x∈r,KOk x) (hl:∀ x∈l,NOk7 x) (hp:∀ x∈ps,POk x) (hdd:0<=d/\d<=65535) (hhb:0<=hb0/\hb0<=255) :
  PC prog G 9 [prA r l hs ps,.int .u16 d,.int .u8 hb0,.int .u32 db0] (.bool true):=by
 have hA:=Zpo hG hN hP;have hR:=ZpD (G:=G) r l hs ps hl hr hp;obtain ⟨hd0,hd1⟩:=hdd;have hD:=ZpC (G:=G) d hd0 hd1
 cases hb:!gr7 r l hs ps&&decide (ck7 r l hs ps=0) with
 | false =>
   rw[hb]at hR;unfold prA at *
   (refine ZpS rfl λR hG hrd=>Qga ?_;subst hG)
   simp -implicitDefEqProofs[ZpQ,ZpR];refine Qco (hA) ?_;simp -implicitDefEqProofs[];refine Qco (hR) ?_;simp -implicitDefEqProofs[]
 |true =>
 rw[hb]at hR;rw[W01,W1C,W0b]at hb;obtain ⟨hg,h0⟩:=hb;obtain ⟨wl,wr,wd,wp⟩:=ZlN hg hr hl hp;have hdy:=ZpB hd0;obtain ⟨day,hday⟩:=Qex (dy7 d);rw[<- hday]at hD hdy;have hrng:inR day 0 14610=true:=(by simp[inR];omega);have a1:as7 r l hs ps day 1=0:=(by rw[as7,if_pos h0,if_pos ⟨hrng,rfl⟩]);obtain ⟨c,hc⟩:=Qex (caE (hs.map (·.id)) (nums r) (staL l hs ps day));obtain ⟨h6,n60,hne,-,hnl⟩:=Znu h0;have hOH:=ZiV (ZiW.1 (ZjP.1 h0).2).1.1 (ZiW.1 (ZjP.1 h0).2).1.2;have hrp:riP ps:=(ZiW.1 (ZjP.1 h0).2).2.2.1;have hpl:=wp.pl;obtain ⟨o,ho1,ho2,ho3,ho4⟩:=Zq3 (l:=l) (day:=day) h0 hOH.lt hnl;rw[<- hc]at ho1 ho3;have hcs:=Znt (r:=r) (hs:=hs) (L:=staL l hs ps day) h6 n60;rw[<- hc]at hcs;have s3:Sml c.1:=(by unfold Sml;omega);have s4:Sml c.2:=(by unfold Sml;omega);have c3:=ZmD hG hN hP r l hs ps day wl wr wd wp;have c5:=Znw hG hN hP r l hs ps day wl wr wd wp;have c7:=Znx hG hN hP r l hs ps day wl wr wd wp;rw[stA7,sta7E,if_pos a1,a1]at c3;rw[ca7A,ca7E,if_pos a1,<- hc,a1]at c5;rw[pr7A,pr7E,if_pos a1,<- hc,ho1,a1]at c7;obtain ⟨N,hNN⟩:=Qex ((staL l hs ps day).map (·.no));obtain ⟨Q,hQ⟩:=Qex (o.map (·.no));rw[<- hNN]at c3;rw[<- hQ]at c7;have c3:=PC.out (w:=.tup [.vsl (N.map ia),.int .i64 0]) c3 (Nsub.tup ⟨.orNil _,.rfl',trivial⟩);have c5:=PC.out (w:=.tup [.vsl (c.1.map ia),.vsl (c.2.map ia),.int .i64 0]) c5 (Nsub.tup ⟨.orNil _,.orNil _,.rfl',trivial⟩);have c7:=PC.out (w:=.tup [.vsl (Q.map ia),.int .i64 0]) c7 (Nsub.tup ⟨.orNil _,.rfl',trivial⟩);have hSl:=ZmC (l:=l) (hs:=hs) (ps:=ps) (day:=day);have hNs:Sml N:=(by rw[hNN];unfold Sml;rw[W0N];omega);have hol:=ho2.length_le;have hQl:Q.length=o.length:=(by rw[hQ];simp);have hQs:Sml Q:=(by unfold Sml;omega);have hQlt:Q.Pairwise (· < ·):=(by rw[hQ,W2o];exact (hrp.filter _).sublist ho2);have g1:=ZpF (G:=G) Q hQs hQlt;have hsz:Q.length=c.1.length+c.2.length:=(by rw[hQl,ho3];rfl);have wz:i64.wrap ((c.1.length:Int)+(c.2.length:Int))=(Q.length:Int):=(by rw[Yf (by omega) (by omega)];omega);unfold prA at *
 (refine ZpS rfl λR hG hrd=>Qga ?_;subst hG)
 simp -implicitDefEqProofs[ZpQ,ZpR];refine Qco (hA) ?_;simp -implicitDefEqProofs[];refine Qco (hR) ?_;simp -implicitDefEqProofs[];refine Qco (hD) ?_;simp -implicitDefEqProofs[];refine Qco (c3) ?_;simp -implicitDefEqProofs[];refine Qco (c5) ?_;simp -implicitDefEqProofs[];refine Qco (c7) ?_;simp -implicitDefEqProofs[];refine Qco (g1) ?_;simp -implicitDefEqProofs[wz];obtain ⟨B,hB⟩ : ∃ B:List AV,B=[.vsl (r.map isa),.vsl (l.map na),.vsl (hs.map hoa),.vsl (ps.map ptA)]:=⟨_,rfl⟩;have kB:∀ o,Yc o (.box B)=true:=λo=>by rw[hB];simp[Yc,Ya,AV.keys,isa,na,hoa,ptA]
 have lB:B.length=4:=(by rw[hB];rfl);have tB:B.take 4=B:=(by rw[hB];rfl);have fB:∀ ok st,B.map (frzA ok st)=B:=λok st=>by rw[hB];simp[frzA,frz,AV.keys,isa,na,hoa,ptA]
 have pB:∀ x∈B,x.pure=true:=by rw[hB];simp[AV.pure,isa,na,hoa,ptA,ia]
 have oB:∀ (k:Nat),k<o.length->∃ j,∃ hj:j<ps.length,ps[j]=o[k]!:=λk hk=>by
  have:o[k]! ∈ ps:=(by rw[getElem!_pos o k hk];exact (W0G.1 (ho2.subset (W0e hk))).1);obtain ⟨j,hj,e⟩:=W0k this;exact ⟨j,hj,e⟩
 rw[<- hB];refine Z8g (fwS day hb0 db0 c.1 c.2 N Q B) (λ_=>True) Q.length ?_ trivial ?_ ?_
 . unfold fwS fwT
   (refine Wkc ?_;simp only[kB,Wkl,and_true];(try simp[lk,Yc,Ya,AV.keys]))
 . intro i hi _;have hio:i<o.length:=(by omega);obtain ⟨k,hk,hke⟩:=oB i hio;obtain ⟨x,hx⟩:=Qex (o[i]);have hke:ps[k]=x:=(by rw[hke,getElem!_pos o i hio,hx]);have hQi:Q[i]=x.no:=(by rw[hx];simp only[hQ,W1w]);have hpx:ptA x=[.int .i64 x.no,.int .i64 x.dy,.int .i64 x.ho,.int .i64 x.dw,.int .i64 x.lt,.int .i64 x.bk,.int .u8 x.lo]:=rfl;have cP:=ZpW (G:=R.G) r l hs ps k hk hrp hpl;rw[hke,hpx]at cP;unfold prA at cP;rw[<- hB]at cP;have hxN:x.no∈N:=(by rw[hNN,hx];exact W0i.2 ⟨_,ho2.subset (W0e hio),rfl⟩);have cH:=ZpE (G:=R.G) N x.no hNs;rw[W0M hxN]at cH;have wi:i64.wrap ((i:Int)+1)=(i:Int)+1:=Yf;have hmin:min i Q.length=i:=(by omega);refine Qga ?_;unfold fwS fwT;simp -implicitDefEqProofs[hi,hQi,ia,lB,tB];refine Yd.of cP (by simpa [AV.pure] using pB) ?_;simp -implicitDefEqProofs[];refine Qco (cH) ?_;have hle:i<=Q.length:=(by omega);have iaL:∀ x,(ia x).length=1:=λ_=>rfl
   obtain ⟨R0,hR0⟩:=Qex (Q.take i);have hR:(Q.map ia).take i=R0.map ia:=(by rw[hR0,List.map_take]);have hRl:R0.length=i:=(by rw[hR0,W15];omega);simp -implicitDefEqProofs[hmin,hle,iaL,hR];obtain ⟨X,hX⟩ : ∃ X:List AV,X=[.int .i64 x.no,.int .i64 x.dy,.int .i64 x.ho,.int .i64 x.dw,.int .i64 x.lt,.int .i64 x.bk,.int .u8 x.lo]:=⟨_,rfl⟩;refine Z8g (fwI day hb0 db0 c.1 c.2 N Q R0 B X i) (λ_=>True) R0.length ?_ trivial ?_ ?_
   . unfold fwI fwT;rw[hX]
     (refine Wkc ?_;simp only[kB,Wkl,and_true];(try simp[lk,Yc,Ya,AV.keys]))
   . intro j hj _;have hjo:j<o.length:=(by omega);obtain ⟨k2,hk2,hke2⟩:=oB j hjo;obtain ⟨y,hy⟩:=Qex (o[j]);have hke2:ps[k2]=y:=(by rw[hke2,getElem!_pos o j hjo,hy]);have hRj:R0[j]=y.no:=(by rw[hy];simp only[hR0,hQ,W1V,W1w]);have hpy:ptA y=[.int .i64 y.no,.int .i64 y.dy,.int .i64 y.ho,.int .i64 y.dw,.int .i64 y.lt,.int .i64 y.bk,.int .u8 y.lo]:=rfl;have cP2:=ZpW (G:=R.G) r l hs ps k2 hk2 hrp hpl;rw[hke2,hpy]at cP2;unfold prA at cP2;rw[<- hB]at cP2;have hap:=W0Y.1 ho4 j i hjo hio (by omega);rw[<- hy,<- hx]at hap;have n1:¬x.ho=y.ho:=λe=>hap.1 e.symm
     have n2:¬x.dw=y.dw:=λe=>hap.2 e.symm
     have wj:i64.wrap ((j:Int)+1)=(j:Int)+1:=Yf;refine Qga ?_;unfold fwI fwT;simp -implicitDefEqProofs[hj,hRj,ia,lB,tB,hX];refine Yd.of cP2 (by simpa [AV.pure] using pB) ?_;simp -implicitDefEqProofs[n1,n2,wj]
     (refine Wkc ?_;simp only[kB,Wkl,and_true];(try simp[lk,Yc,Ya,AV.keys]))
   . intro _;refine Qga ?_;unfold fwI fwT;simp -implicitDefEqProofs[];refine Qgr ?_;simp -implicitDefEqProofs[wi]
     (refine Wkc ?_;simp only[kB,Wkl,and_true];(try simp[lk,Yc,Ya,AV.keys]))
 . intro _;obtain ⟨s,hs0⟩ : ∃ s:Nat,hb0=s:=⟨hb0.toNat,by omega⟩;have hs8:s<256:=(by omega);subst hs0;refine Qga ?_;unfold fwS fwT;simp -implicitDefEqProofs[];refine Qgr ?_;simp -implicitDefEqProofs[hB];rw[<- hB];refine Z8g (fwO day db0 c.1 c.2 N hs s B) (λ_=>True) hs.length ?_ trivial ?_ ?_
   . have e0:obK (hs.map (·.id)) s 0=[]:=rfl;simp only[fwO,nlV,nlO,e0,if_true,W18]
     (refine Wkc ?_;simp only[kB,Wkl,and_true];(try simp[lk,Yc,Ya,AV.keys]))
   . intro i hi _;have sc:=Zq2 (hs.map (·.id)) s i;obtain ⟨h,hhe⟩:=Qex (hs[i]);have hlx:hs[i]=h:=hhe.symm;have hid:(hs.map (·.id)).getD i 0=h.id:=(by rw[W0j,W09,W07 hi,hlx];rfl);rw[hid]at sc;have hho:hoa h=[.int .i64 h.id,.int .i64 h.fr,.int .i64 h.to,.vsl (h.ds.map ia)]:=rfl;have wi:i64.wrap ((i:Int)+1)=(i:Int)+1:=Yf;have sr:=Zq4 s hs8 i (by omega)
     have hle:(obK (hs.map (·.id)) s i).length<=8:=by
      unfold obK;rw[W0N];exact W0O (W0D ..) (by rw[List.length_range];omega)
     obtain ⟨S,hS⟩:=Qex (obK (hs.map (·.id)) s i);rw[<- hS]at sc hle;obtain ⟨T,hT⟩:=Qex (obK (hs.map (·.id)) s (i+1));rw[<- hT]at sc;have bb:(S.length+1)*8<=70368744177664:=(by omega);by_cases cS:S=[]
     case' pos =>
      have hV:nlV 161 S = .nils:=(by simp[nlV,cS]);have hQ:nlO 161 S=[]:=by simp[nlO,cS]
     case' neg =>
      have hV:nlV 161 S = .osl 161 S.length:=(by simp[nlV,cS]);have hQ:nlO 161 S=[(161,.row 1 (S.map ia))]:=by simp[nlO,cS]
     all_goals
      refine Qga ?_
      cases q1:s.testBit i with
      | false =>
        rw[q1]at sc sr;simp only[W05,if_false]at sc sr;subst sc;simp -implicitDefEqProofs[fwO,<- hS,hV,hQ,hi,hlx,hho,sr,wi];simp only[fwO,<- hT,hV,hQ]
        ((try simp only[hho]);refine Ym.sub (by simp[lk,Ya,AV.keys,hho]) ?_;simp only[hho,Wkl,Zem,kB,and_true];(try simp[lk,Yc,Ya,AV.keys,hho]))
      | true =>
        rw[q1]at sc sr;simp only[if_true]at sc sr;have hne:¬T=[]:=(by rw[sc];simp);have em:T.map ia=S.map ia++[[.int .i64 h.id]]:=(by rw[sc,W0r];rfl);have hTl:T.length=S.length+1:=(by rw[sc];simp);have hV2:nlV 161 T = .osl 161 (S.length+1):=(by simp[nlV,hne,hTl]);have hQ2:nlO 161 T=[(161,.row 1 (T.map ia))]:=(by simp[nlO,hne]);simp -implicitDefEqProofs[fwO,<- hS,hV,hQ,hi,hlx,hho,sr,wi,bb];simp only[fwO,<- hT,hV2,hQ2]
        first
         |(rw[em,cS];((try simp only[hho]);refine Ym.sub (by simp[lk,Ya,AV.keys,hho]) ?_;simp only[hho,Wkl,kB,and_true];(try simp[lk,Yc,Ya,AV.keys,hho]));done)
         |(rw[<- em];((try simp only[hho,hTl]);refine Ym.sub (by simp[lk,Ya,AV.keys,hho,hTl]) ?_;simp only[hho,hTl,Wkl,Zem,kB,and_true];(try simp[lk,Yc,Ya,AV.keys,hho,hTl]));done)
   . intro _;obtain ⟨L1,hL1⟩:=Qex (obK (hs.map (·.id)) s hs.length);have cNm:=Z8z (G:=R.G) r wr.1.1 hne;rw[rega]at cNm;have pO:=Zkq L1;refine Qga ?_;by_cases cL:L1=[]
     case' pos =>
      have hV:nlV 161 L1 = .nils:=(by simp[nlV,cL]);have hQ:nlO 161 L1=[]:=(by simp[nlO,cL]);have hO:Yg (L1.map ia) = .nils:=by simp[Yg,cL]
     case' neg =>
      have hV:nlV 161 L1 = .osl 161 L1.length:=(by simp[nlV,cL]);have hQ:nlO 161 L1=[(161,.row 1 (L1.map ia))]:=(by simp[nlO,cL]);have hO:Yg (L1.map ia) = .vsl (L1.map ia):=by simp[Yg,cL]
     all_goals
      unfold fwO;rw[<- hL1,hV,hQ];simp -implicitDefEqProofs[];refine Qgr ?_;simp -implicitDefEqProofs[hB];refine Qco (cNm) ?_;simp -implicitDefEqProofs[];rw[<- hB];refine Z8g (fwD day db0 c.1 c.2 (Yg (L1.map ia)) (nums r) B) (λ_=>True) (nums r).length ?_ trivial ?_ ?_
      . have e0:obP (b32 db0) (nums r) 0=[]:=rfl;refine Ym.trans (Ym.frz (λk=>k == 161) _) ?_;simp only[fwD,nlV,nlO,e0,if_true,W18,hO]
        ((try simp only[Yi,frzA,frzO,frz,Yh,Yj,St.get,AV.pure,ia,fB,cL]);refine Ym.sub (by simp[lk,Ya,AV.keys,Yi,frzA,frzO,frz,Yh,Yj,St.get,AV.pure,ia,fB,cL]) ?_;simp only[Yi,frzA,frzO,frz,Yh,Yj,St.get,AV.pure,ia,fB,cL,Wkl,kB,and_true];(try simp[lk,Yc,Ya,AV.keys,Yi,frzA,frzO,frz,Yh,Yj,St.get,AV.pure,ia,fB,cL]))
      . intro i hi _;have sc:=Zq5 (b32 db0) (nums r) i;obtain ⟨w,hwe⟩:=Qex ((nums r)[i]);have hlx:(nums r)[i]=w:=hwe.symm;have hid:(nums r).getD i 0=w:=(by rw[W0j,W07 hi,hlx];rfl);rw[hid]at sc;have hd20:=wd;unfold Sml at hd20;have wi:i64.wrap ((i:Int)+1)=(i:Int)+1:=Yf
        have hle:(obP (b32 db0) (nums r) i).length<=i:=by
         unfold obP;rw[W0N];exact W0O (W0D ..) (by rw[List.length_range];omega)
        obtain ⟨S,hS⟩:=Qex (obP (b32 db0) (nums r) i);rw[<- hS]at sc hle;obtain ⟨T,hT⟩:=Qex (obP (b32 db0) (nums r) (i+1));rw[<- hT]at sc;have bb:(S.length+1)*8<=70368744177664:=(by omega);have hbz:b32 db0 i=decide (IntKind.u32.wrap ((((db0.fdiv (2 ^ min i IntKind.u32.bits)) % 2 ^ IntKind.u32.bits).toNat &&& 1 % 2 ^ IntKind.u32.bits:Nat):Int)=1):=rfl;obtain ⟨O,hOO⟩:=Qex (Yg (L1.map ia));have kO:O.keys=[]:=(by rw[hOO];exact AV.pure_keys _ pO);simp only[<- hOO];by_cases cS:S=[]
        case' pos =>
         have hV3:nlV 181 S = .nils:=(by simp[nlV,cS]);have hQ3:nlO 181 S=[]:=by simp[nlO,cS]
        case' neg =>
         have hV3:nlV 181 S = .osl 181 S.length:=(by simp[nlV,cS]);have hQ3:nlO 181 S=[(181,.row 1 (S.map ia))]:=by simp[nlO,cS]
        all_goals
         refine Qga ?_
         cases q1:b32 db0 i with
         | false =>
           rw[q1]at sc hbz;have hbz:=of_decide_eq_false hbz.symm;simp only[W05,if_false]at sc;subst sc;simp -implicitDefEqProofs[fwD,<- hS,hV3,hQ3,hi,hlx,ia,hbz,wi];simp only[fwD,<- hT,hV3,hQ3]
           ((try simp only[kO]);refine Ym.sub (by simp[lk,Ya,AV.keys,kO]) ?_;simp only[kO,Wkl,Zem,kB,and_true];(try simp[lk,Yc,Ya,AV.keys,kO]))
         | true =>
           rw[q1]at sc hbz;have hbz:=W0X hbz.symm;simp only[if_true]at sc;have hne:¬T=[]:=(by rw[sc];simp);have em:T.map ia=S.map ia++[[.int .i64 w]]:=(by rw[sc,W0r];rfl);have hTl:T.length=S.length+1:=(by rw[sc];simp);have hV2:nlV 181 T = .osl 181 (S.length+1):=(by simp[nlV,hne,hTl]);have hQ2:nlO 181 T=[(181,.row 1 (T.map ia))]:=(by simp[nlO,hne]);simp -implicitDefEqProofs[fwD,<- hS,hV3,hQ3,hi,hlx,ia,hbz,wi,bb];simp only[fwD,<- hT,hV2,hQ2]
           first
            |(rw[em,cS];((try simp only[kO]);refine Ym.sub (by simp[lk,Ya,AV.keys,kO]) ?_;simp only[kO,Wkl,kB,and_true];(try simp[lk,Yc,Ya,AV.keys,kO]));done)
            |(rw[<- em];((try simp only[kO,hTl]);refine Ym.sub (by simp[lk,Ya,AV.keys,kO,hTl]) ?_;simp only[kO,hTl,Wkl,Zem,kB,and_true];(try simp[lk,Yc,Ya,AV.keys,kO,hTl]));done)
      . intro _;obtain ⟨L2,hL2⟩:=Qex (obP (b32 db0) (nums r) (nums r).length);have pO2:=Zkq L2;have iO:=ZmP L1
        have hin1:∀ id∈L1,0<=hoI hs id:=λid h=>by
         have e:L1=bitL (hs.map (·.id)) s:=(by rw[hL1];unfold obK bitL;rw[W0N]);rw[e]at h;exact ho_in (ZpY h)
        have hin2:∀ d∈L2,d∈nums r:=λd h=>by
         rw[hL2]at h;unfold obP at h;obtain ⟨j,hj,rfl⟩:=W0i.1 h;have hlt:=W1u.1 (W0G.1 hj).1;rw[W0j,W07 hlt];exact W0e hlt
        refine Z2Q (st':=⟨[(168,.int .i64 (nums r).length),(167,.int .i64 (nums r).length),(166,.vsl ((nums r).map ia)),(27,Yg (L2.map ia)),(26,Yg (L1.map ia)),(14,.vsl (c.2.map ia)),(13,.vsl (c.1.map ia)),(10,.int .i64 day),(9,.bool true),(4,.ptr 4 0)],[(4,.box B)]⟩) (Ym.trans (Ym.frz (λk=>k == 181) _) ?_) ?_
        . unfold fwD;rw[<- hL2];obtain ⟨O,hOO⟩:=Qex (Yg (L1.map ia));have kO:O.keys=[]:=(by rw[hOO];exact AV.pure_keys _ pO);have fO:∀ ok st,frz ok st 6 O=some O:=λok st=>by rw[hOO];rcases iO with e|e <;> rw[e] <;> simp[frz,AV.keys,Yh,AV.pure,ia]
          simp only[<- hOO];by_cases cL2:L2=[]
          . have hV2:nlV 181 L2 = .nils:=(by simp[nlV,cL2]);have hQ2:nlO 181 L2=[]:=(by simp[nlO,cL2]);have hO2:Yg (L2.map ia) = .nils:=(by simp[Yg,cL2]);rw[hV2,hQ2,hO2]
            ((try simp only[Yi,frzA,frzO,frz,Yh,Yj,St.get,AV.pure,ia,fB,cL2,kO,fO]);refine Ym.sub (by simp[lk,Ya,AV.keys,Yi,frzA,frzO,frz,Yh,Yj,St.get,AV.pure,ia,fB,cL2,kO,fO]) ?_;simp only[Yi,frzA,frzO,frz,Yh,Yj,St.get,AV.pure,ia,fB,cL2,kO,fO,Wkl,kB,and_true];(try simp[lk,Yc,Ya,AV.keys,Yi,frzA,frzO,frz,Yh,Yj,St.get,AV.pure,ia,fB,cL2,kO,fO]))
          . have hV2:nlV 181 L2 = .osl 181 L2.length:=(by simp[nlV,cL2]);have hQ2:nlO 181 L2=[(181,.row 1 (L2.map ia))]:=(by simp[nlO,cL2]);have hO2:Yg (L2.map ia) = .vsl (L2.map ia):=(by simp[Yg,cL2]);rw[hV2,hQ2,hO2]
            ((try simp only[Yi,frzA,frzO,frz,Yh,Yj,St.get,AV.pure,ia,fB,cL2,kO,fO]);refine Ym.sub (by simp[lk,Ya,AV.keys,Yi,frzA,frzO,frz,Yh,Yj,St.get,AV.pure,ia,fB,cL2,kO,fO]) ?_;simp only[Yi,frzA,frzO,frz,Yh,Yj,St.get,AV.pure,ia,fB,cL2,kO,fO,Wkl,kB,and_true];(try simp[lk,Yc,Ya,AV.keys,Yi,frzA,frzO,frz,Yh,Yj,St.get,AV.pure,ia,fB,cL2,kO,fO]))
        . have eL1:L1=bitL (hs.map (·.id)) s:=by rw[hL1];unfold obK bitL;rw[W0N]
          have sL1:L1.length<=6:=by
           rw[hL1];unfold obK;rw[W0N];exact W0O (W0D ..) (by rw[List.length_range];omega)
          have sL2:L2.length<=(nums r).length:=by
           rw[hL2];unfold obP;rw[W0N];exact W0O (W0D ..) (by rw[List.length_range];omega)
          have wd2:=wd;unfold Sml at wd2;have hnr:(nums r).length<=80:=W0O (Z8H r) (by omega);have s5:Sml L1:=(by unfold Sml;omega);have s6:Sml L2:=(by unfold Sml;omega);obtain ⟨P2,hP2⟩:=Qex (ps.map (calP l hs day L1 L2));have c9:=Zp1 (G:=R.G) hG hN hP r l hs ps day L1 L2 wl wr hne (by omega) wd wp s5 s6
          have e9:clE r l hs ps day L1 L2=0:=by
           have h:((L1.all λid=>decide (0<=hoI hs id))&&L2.all λd=>decide (d∈nums r))=true:=by
            rw[W01,W03,W03];exact ⟨λx hx=>W0M (hin1 x hx),λx hx=>W0M (hin2 x hx)⟩
           rw[clE,if_pos a1,if_pos h]
          rw[clA,e9,if_pos rfl,<- hP2]at c9;unfold prA at c9;rw[<- hB]at c9;have h02:ck7 r l hs P2=0:=(by rw[hP2];exact ZpZ h0 hdy _ _);have hg2:gr7 r l hs P2=false:=(by rw[hP2];exact Zq0 hg _ _);have hp2:∀ x∈P2,POk x:=(by rw[hP2];exact Zq1 hp _ _);have a2:as7 r l hs P2 day 1=0:=(by rw[as7,if_pos h02,if_pos ⟨hrng,rfl⟩]);obtain ⟨-,-,-,wp2⟩:=ZlN hg2 hr hl hp2;have c10:=ZmD (G:=R.G) hG hN hP r l hs P2 day wl wr wd wp2;rw[stA7,sta7E,if_pos a2,a2]at c10;unfold prA at c10;have hst:staL l hs P2 day=(staL l hs ps day).filter λx=>!rchB L1 L2 x:=by rw[hP2];exact ZfP hdy.1
          obtain ⟨Z,hZ⟩:=Qex ((staL l hs P2 day).map (·.no));rw[<- hZ]at c10;have c10:=PC.out (w:=.tup [.vsl (Z.map ia),.int .i64 0]) c10 (Nsub.tup ⟨.orNil _,.rfl',trivial⟩)
          have key:Z=[]->c.1.length+c.2.length<=L1.length+L2.length/\(L1.length+L2.length=c.1.length+c.2.length->bfr L1 c.1=false):=λe=>by
           have hr':∀ x∈staL l hs ps day,rchB L1 L2 x=true:=λx hx=>by
            rw[hZ,List.map_eq_nil_iff,hst,W2n]at e;have:=e x hx;simpa using this
           have h1:=ZfQ (ids:=hs.map (·.id)) (dl:=nums r) (L:=staL l hs ps day) (hnl.imp λh=>Int.ne_of_lt h) (s:=s % 2 ^ (hs.map (·.id)).length) (Nat.mod_lt _ (Nat.pos_of_ne_zero (by simp))) (about:=L2) (by rw[<- ZiM,<- eL1];exact hr');rw[<- ZiM,<- eL1,<- hc]at h1;exact h1
          have c11:=ZmG (G:=R.G) L1 c.1 s5;have wA:i64.wrap ((L1.length:Int)+(L2.length:Int))=(L1.length:Int)+(L2.length:Int):=Yf;have wB:i64.wrap ((c.1.length:Int)+(c.2.length:Int))=(c.1.length:Int)+(c.2.length:Int):=Yf;refine Z2Q (st':=⟨[(168,.int .i64 (nums r).length),(167,.int .i64 (nums r).length),(166,.vsl ((nums r).map ia)),(27,.vsl (L2.map ia)),(26,.vsl (L1.map ia)),(14,.vsl (c.2.map ia)),(13,.vsl (c.1.map ia)),(10,.int .i64 day),(9,.bool true),(4,.ptr 4 0)],[(4,.box B)]⟩) (Ym.trans (Ym.orv 27 L2 (by simp[St.tmp,lk])) (Ym.trans (Ym.orv 26 L1 (by simp[St.tmp,lk,St.put])) ?_)) ?_
          . ((try simp only[St.put]);refine Ym.sub (by simp[lk,Ya,AV.keys,St.put]) ?_;simp only[St.put,Wkl,kB,and_true];(try simp[lk,Yc,Ya,AV.keys,St.put]))
          refine Qga ?_;simp -implicitDefEqProofs[];refine Qgr ?_;simp -implicitDefEqProofs[lB,tB];refine Yd.of c9 (by simpa [AV.pure,ia] using pB) ?_;simp -implicitDefEqProofs[];refine Qco (c10) ?_;by_cases z0:Z=[]
          . obtain ⟨k1,k2⟩:=key z0;have z1:Z.length=0:=(by rw[z0];rfl);have n1:¬(L1.length:Int)+(L2.length:Int)<(c.1.length:Int)+(c.2.length:Int):=(by omega);by_cases q:(L1.length:Int)+(L2.length:Int)=(c.1.length:Int)+(c.2.length:Int)
            . rw[k2 (by omega)]at c11;simp -implicitDefEqProofs[wA,wB,n1,q,z1,z0];refine Qco (c11) ?_;simp -implicitDefEqProofs[]
            . simp -implicitDefEqProofs[wA,wB,n1,q,z1,z0]
          . have z1:0<Z.length:=List.length_pos_iff.2 z0;have z2:(0:Int)<Z.length:=(by omega);by_cases q:(L1.length:Int)+(L2.length:Int)=(c.1.length:Int)+(c.2.length:Int) <;> by_cases q2:(L1.length:Int)+(L2.length:Int)<(c.1.length:Int)+(c.2.length:Int)
            all_goals
             simp -implicitDefEqProofs[wA,wB,q,q2,z1,z2,z0]
def Zq7 {xs:List AV} (h:TVs [.int .i64] xs):∃ n:Int,xs=ia n:=by
 obtain ⟨x0,_,rfl,h0,h⟩:=h.cons_inv;obtain rfl:=h.nil_inv;obtain ⟨n,rfl,-⟩:=h0.int_inv;exact ⟨n,rfl⟩
open Go.ChangeShapes Go.WideShapes Go.ChangeAt Go.WideMaps Go.WideElems Go.RowKit Go.Deep
def laid7:List (String×DataW Unit):=[("blueline/sheet.checks",Rows.laid_blueline_sheet_checks),("blueline/note.checks",Rows.laid_blueline_note_checks),("blueline/recall.checks",Rows.laid_blueline_recall_checks)]
def Zq8 (os:Os) (args:Array Value):laidMetH prog laid7 ((World.doorLaid prog 41 os).forCall (λ_ _=>0) ⟨#[],args,[]⟩).memory :=
 laidMetH_of_parts3 (fuel:=8) (laidMet_of_run' 8 (by kernel_rfl) (by kernel_rfl)) (by kernel_rfl) (by kernel_rfl)
def cellF {W:World} {fuel:Nat} {c:Value} {y:DataW (List UInt8)×List MemPlace} {tE:Nat} {fld:Field} {ps rs:Array TypeId} {vd:Bool} {b:UInt8} {s:List UInt8} {f0:FuncId}
  (uE:prog.underlying tE=some (.struct #[fld])) (hfo:fld.offset=0) (uF:prog.underlying fld.type=some (.func ps rs vd)) (cF:prog.cellsOf fld.type=1)
  (hone:((List.range prog.funcs.size).filter λf=>(prog.funcs[f]?).any (·.name.toUTF8.data.toList == b::s))=[f0])
  (h:DataW.trod (funcToken prog) prog W 0 (λ_=>true) true fuel tE [c]=some y) (hy:y.1 = .agg [.held (b::s)]):c = .func (.func f0) #[] #[]:=by
 obtain ⟨y0,n,rfl,-,h0⟩:=trod_struct1 uE h;rw[hfo,W1P,cF]at h0;simp only[DataW.agg.injEq,W2f,and_true]at hy;exact func_of_trod (q:=y0.2) uF hone (by rw[<- hy];simpa using h0)
def Zq9 {W:World} {laid:List (String×DataW Unit)} {nm:String} {d:DataW Unit} {g tA tE:Nat} {fld:Field} {ps rs:Array TypeId} {vd:Bool} {n:Nat} (toks:List (List UInt8)) (fs:List FuncId)
  (h:laidMetH prog laid W) (hm:(nm,DataW.iface "func table" d)∈laid) (hg:prog.globalNamed nm=some g) (ht:(prog.globals[g]?).map (·.type)=some tA)
  (uA:prog.underlying tA=some (.array n tE)) (uE:prog.underlying tE=some (.struct #[fld])) (hfo:fld.offset=0) (uF:prog.underlying fld.type=some (.func ps rs vd))
  (cA:prog.cellsOf tA=n) (cE:prog.cellsOf tE=1) (cF:prog.cellsOf fld.type=1) (hl1:toks.length=n) (hl2:fs.length=n)
  (hd0:(d.funcsOut:DataW (List UInt8)) = .agg (toks.map λs=>.agg [.held s]))
  (hone:∀ (i:Nat) (s:List UInt8) (f:FuncId),toks[i]? = some s->fs[i]? = some f->∃ b r,s=b::r/\((List.range prog.funcs.size).filter λf=>(prog.funcs[f]?).any (·.name.toUTF8.data.toList == b::r))=[f]) :
  ∃ t fr,W.heap[g]? = some (.cells ((fs.map λf=>Value.func (.func f) #[] #[]).toArray) t fr):=by
 obtain ⟨g',t,cs,fuel,p,hg',ht',hv,hd⟩:=h.funcs hm;obtain rfl:=W1L (hg.symm.trans hg');obtain rfl:=W1L (ht.symm.trans ht');obtain ⟨xs,m,rfl,hx,hlen,hn,hel⟩:=DataW.trod_array uA hd;rw[cA]at hlen;rw[cE]at hel;rw[hd0,W06,DataW.agg.injEq]at hx;have hx:=hx.1
 have hcs:cs.toList=fs.map λf=>Value.func (.func f) #[] #[]:=by
  refine List.ext_getElem? λi=>?_
  by_cases hi:i<n
  . have e:=hel i hi;have h1:i<xs.length:=(by omega);have h2:i<toks.length:=(by omega);have h3:i<fs.length:=(by omega);have h4:i<cs.toList.length:=(by omega);obtain ⟨b,r,hb,ho⟩:=hone i _ _ (W07 h2) (W07 h3);rw[Nat.mul_one,W0x h4,W1Z,W1g,W07 h1]at e;have ey:=congrArg (λl=>l[i]?) hx;simp only[W09,W07 h2,W07 h1,W0m,W00]at ey;rw[hb]at ey;have:=cellF uE hfo uF cF ho e ey.symm;rw[W07 h4,W09,W07 h3,this];rfl
  . rw[W25 (by omega),W25 (by simp;omega)]
 simp only[World.var?,hg,W1o]at hv
 split at hv
 . rename_i cs' t fr heq;injection hv with hv
   have e:cs=(fs.map λf=>Value.func (.func f) #[] #[]).toArray:=(by rw[<- hcs]);exact ⟨t,fr,by rw[heq,hv,e]⟩
 . cases hv
def TabB (W:World) (g:Nat) (fs:List FuncId):Prop:=∃ t fr,W.heap[g]? = some (.cells ((fs.map λf=>Value.func (.func f) #[] #[]).toArray) t fr)
def tabA (fs:List FuncId):List AV:=fs.map λf=>.func (.func f) [] []
def Zqa {W:World} {g:Nat} {fs:List FuncId} (h:TabB W g fs):PV noM W (.vptr (tabA fs) 0) (.pointer (some ⟨g,0,none⟩)):=by
 obtain ⟨t,fr,hb⟩:=h;refine .vptr _ 0 g 0 (λj=>(((fs.map λf=>Value.func (.func f) #[] #[]).toArray)[j]?).getD undef) (W0c.1 hb).1 id ?_ ?_
 . intro j hj;have hj':j<fs.length:=(by simpa [tabA] using hj);simp[World.cell?,hb,hj']
 . intro j x hx;unfold tabA at hx;rw[W09,W04]at hx;obtain ⟨f,hf,rfl⟩:=hx;have hj':=(W02.1 hf).1;have e:((fs.map λf=>Value.func (.func f) #[] #[]).toArray)[j]? = some (.func (.func f) #[] #[]):=(by simp[hf]);rw[e];exact .func _ [] [] #[] #[] rfl rfl (by simp) (by simp)
def fsC:List FuncId:=[260,261,262,263]
def fsN:List FuncId:=[237,238,239,240,242,243,246,248]
def fsR:List FuncId:=[252,253,254,257,258]
set_option maxRecDepth 100000 in
def Zqb {W:World} (h:laidMetH prog laid7 W):TabB W 0 fsN :=
 Zq9 [[98,108,117,101,108,105,110,101,47,110,111,116,101,46,99,104,101,99,107,115,36,49],[98,108,117,101,108,105,110,101,47,110,111,116,101,46,99,104,101,99,107,115,36,50],[98,108,117,101,108,105,110,101,47,110,111,116,101,46,99,104,101,99,107,115,36,51],[98,108,117,101,108,105,110,101,47,110,111,116,101,46,99,104,101,99,107,115,36,52],[98,108,117,101,108,105,110,101,47,110,111,116,101,46,99,104,101,99,107,115,36,53],[98,108,117,101,108,105,110,101,47,110,111,116,101,46,99,104,101,99,107,115,36,54],[98,108,117,101,108,105,110,101,47,110,111,116,101,46,99,104,101,99,107,115,36,55],[98,108,117,101,108,105,110,101,47,110,111,116,101,46,99,104,101,99,107,115,36,56]] fsN h (W0z _ (W0H ..)) (by kernel_rfl) (by kernel_rfl) Tryz.underlying235 (fld:=_) Tryz.underlying234 rfl Tryz.underlying208 (by kernel_rfl) (by kernel_rfl) (by kernel_rfl) rfl rfl rfl
 (λi s f hs hf=>by
  match i,hs,hf with
  |0,hs,hf=>cases hs;cases hf;exact ⟨_,_,rfl,by kernel_rfl⟩
  |1,hs,hf=>cases hs;cases hf;exact ⟨_,_,rfl,by kernel_rfl⟩
  |2,hs,hf=>cases hs;cases hf;exact ⟨_,_,rfl,by kernel_rfl⟩
  |3,hs,hf=>cases hs;cases hf;exact ⟨_,_,rfl,by kernel_rfl⟩
  |4,hs,hf=>cases hs;cases hf;exact ⟨_,_,rfl,by kernel_rfl⟩
  |5,hs,hf=>cases hs;cases hf;exact ⟨_,_,rfl,by kernel_rfl⟩
  |6,hs,hf=>cases hs;cases hf;exact ⟨_,_,rfl,by kernel_rfl⟩
  |7,hs,hf=>cases hs;cases hf;exact ⟨_,_,rfl,by kernel_rfl⟩
  |i+8,hs,_=>simp at hs)
set_option maxRecDepth 100000 in
def Zqc {W:World} (h:laidMetH prog laid7 W):TabB W 2 fsC :=
 Zq9 [[98,108,117,101,108,105,110,101,47,115,104,101,101,116,46,99,104,101,99,107,115,36,49],[98,108,117,101,108,105,110,101,47,115,104,101,101,116,46,99,104,101,99,107,115,36,50],[98,108,117,101,108,105,110,101,47,115,104,101,101,116,46,99,104,101,99,107,115,36,51],[98,108,117,101,108,105,110,101,47,115,104,101,101,116,46,99,104,101,99,107,115,36,52]] fsC h (W0H ..) (by kernel_rfl) (by kernel_rfl) Tryz.underlying264 (fld:=_) Tryz.underlying263 rfl Tryz.underlying262 (by kernel_rfl) (by kernel_rfl) (by kernel_rfl) rfl rfl rfl
 (λi s f hs hf=>by
  match i,hs,hf with
  |0,hs,hf=>cases hs;cases hf;exact ⟨_,_,rfl,by kernel_rfl⟩
  |1,hs,hf=>cases hs;cases hf;exact ⟨_,_,rfl,by kernel_rfl⟩
  |2,hs,hf=>cases hs;cases hf;exact ⟨_,_,rfl,by kernel_rfl⟩
  |3,hs,hf=>cases hs;cases hf;exact ⟨_,_,rfl,by kernel_rfl⟩
  |i+4,hs,_=>simp at hs)
set_option maxRecDepth 100000 in
def Zqd {W:World} (h:laidMetH prog laid7 W):TabB W 1 fsR :=
 Zq9 [[98,108,117,101,108,105,110,101,47,114,101,99,97,108,108,46,99,104,101,99,107,115,36,49],[98,108,117,101,108,105,110,101,47,114,101,99,97,108,108,46,99,104,101,99,107,115,36,50],[98,108,117,101,108,105,110,101,47,114,101,99,97,108,108,46,99,104,101,99,107,115,36,51],[98,108,117,101,108,105,110,101,47,114,101,99,97,108,108,46,99,104,101,99,107,115,36,52],[98,108,117,101,108,105,110,101,47,114,101,99,97,108,108,46,99,104,101,99,107,115,36,53]] fsR h (W0z _ (W0z _ (W0H ..))) (by kernel_rfl) (by kernel_rfl) Tryz.underlying245 (fld:=_) Tryz.underlying244 rfl Tryz.underlying242 (by kernel_rfl) (by kernel_rfl) (by kernel_rfl) rfl rfl rfl
 (λi s f hs hf=>by
  match i,hs,hf with
  |0,hs,hf=>cases hs;cases hf;exact ⟨_,_,rfl,by kernel_rfl⟩
  |1,hs,hf=>cases hs;cases hf;exact ⟨_,_,rfl,by kernel_rfl⟩
  |2,hs,hf=>cases hs;cases hf;exact ⟨_,_,rfl,by kernel_rfl⟩
  |3,hs,hf=>cases hs;cases hf;exact ⟨_,_,rfl,by kernel_rfl⟩
  |4,hs,hf=>cases hs;cases hf;exact ⟨_,_,rfl,by kernel_rfl⟩
  |i+5,hs,_=>simp at hs)
def G7:Nat->Option (List AV):=λg=>if g=2 then some (tabA fsC) else if g=0 then some (tabA fsN) else if g=1 then some (tabA fsR) else none
def Zqe:GC G7:=rfl
def Zqf:GN G7:=rfl
def Zqg:GP G7:=rfl
def Zqh {W:World} (h:laidMetH prog laid7 W):GR G7 noM W:=by
 intro g cs hg;simp only[G7]at hg
 split at hg
 . rename_i e;subst e;cases hg;exact Zqa (Zqc h)
 . split at hg
   . rename_i e;subst e;cases hg;exact Zqa (Zqb h)
   . split at hg
     . rename_i e;subst e;cases hg;exact Zqa (Zqd h)
     . cases hg
def nteK:List TY:=[.int .i64,.int .i64,.int .u8,.int .i64,.int .i64,.int .i64,.int .i64,.int .i64,.bool,.int .u8]
def hldK:List TY:=[.int .i64,.int .i64,.int .i64,.sl [.int .i64]]
def prtK:List TY:=[.int .i64,.int .i64,.int .i64,.int .i64,.int .i64,.int .i64,.int .u8]
def prsK:List TY:=[.sl isK2,.sl nteK,.sl hldK,.sl prtK]
def Zqi {xs:List AV} (h:TVs nteK xs):∃ x:Nte,xs=na x/\NOk7 x:=by
 obtain ⟨x0,_,rfl,h0,h⟩:=h.cons_inv;obtain ⟨x1,_,rfl,h1,h⟩:=h.cons_inv;obtain ⟨x2,_,rfl,h2,h⟩:=h.cons_inv;obtain ⟨x3,_,rfl,h3,h⟩:=h.cons_inv;obtain ⟨x4,_,rfl,h4,h⟩:=h.cons_inv;obtain ⟨x5,_,rfl,h5,h⟩:=h.cons_inv;obtain ⟨x6,_,rfl,h6,h⟩:=h.cons_inv;obtain ⟨x7,_,rfl,h7,h⟩:=h.cons_inv;obtain ⟨x8,_,rfl,h8,h⟩:=h.cons_inv;obtain ⟨x9,_,rfl,h9,h⟩:=h.cons_inv;obtain rfl:=h.nil_inv;obtain ⟨v0,rfl,-⟩:=h0.int_inv;obtain ⟨v1,rfl,-⟩:=h1.int_inv;obtain ⟨v2,rfl,k2⟩:=h2.int_inv;obtain ⟨v3,rfl,-⟩:=h3.int_inv;obtain ⟨v4,rfl,-⟩:=h4.int_inv;obtain ⟨v5,rfl,-⟩:=h5.int_inv;obtain ⟨v6,rfl,-⟩:=h6.int_inv;obtain ⟨v7,rfl,-⟩:=h7.int_inv;obtain ⟨v8,rfl⟩:=h8.bool_inv;obtain ⟨v9,rfl,k9⟩:=h9.int_inv;obtain ⟨a2,b2⟩:=bounds_u8 k2;obtain ⟨a9,b9⟩:=bounds_u8 k9;exact ⟨⟨v0,v1,v2,v3,v4,v5,v6,v7,v8,v9⟩,rfl,a2,b2,a9,b9⟩
def Zqj {xs:List AV} (h:TVs hldK xs):∃ x:Hld,xs=hoa x:=by
 obtain ⟨x0,_,rfl,h0,h⟩:=h.cons_inv;obtain ⟨x1,_,rfl,h1,h⟩:=h.cons_inv;obtain ⟨x2,_,rfl,h2,h⟩:=h.cons_inv;obtain ⟨x3,_,rfl,h3,h⟩:=h.cons_inv;obtain rfl:=h.nil_inv;obtain ⟨v0,rfl,-⟩:=h0.int_inv;obtain ⟨v1,rfl,-⟩:=h1.int_inv;obtain ⟨v2,rfl,-⟩:=h2.int_inv;obtain ⟨rows,rfl,-,g⟩:=h3.sl_inv;obtain ⟨ds,rfl⟩:=Zlw (f:=ia) λr hr=>Zq7 (g r hr)
 exact ⟨⟨v0,v1,v2,ds⟩,rfl⟩
def Zqk {xs:List AV} (h:TVs prtK xs):∃ x:Prt,xs=ptA x/\POk x:=by
 obtain ⟨x0,_,rfl,h0,h⟩:=h.cons_inv;obtain ⟨x1,_,rfl,h1,h⟩:=h.cons_inv;obtain ⟨x2,_,rfl,h2,h⟩:=h.cons_inv;obtain ⟨x3,_,rfl,h3,h⟩:=h.cons_inv;obtain ⟨x4,_,rfl,h4,h⟩:=h.cons_inv;obtain ⟨x5,_,rfl,h5,h⟩:=h.cons_inv;obtain ⟨x6,_,rfl,h6,h⟩:=h.cons_inv;obtain rfl:=h.nil_inv;obtain ⟨v0,rfl,-⟩:=h0.int_inv;obtain ⟨v1,rfl,-⟩:=h1.int_inv;obtain ⟨v2,rfl,-⟩:=h2.int_inv;obtain ⟨v3,rfl,-⟩:=h3.int_inv;obtain ⟨v4,rfl,-⟩:=h4.int_inv;obtain ⟨v5,rfl,-⟩:=h5.int_inv;obtain ⟨v6,rfl,k6⟩:=h6.int_inv;exact ⟨⟨v0,v1,v2,v3,v4,v5,v6⟩,rfl,bounds_u8 k6⟩
def Zql {xs:List AV} (h:TVs prsK xs):∃ (r:Jr) (l:Jl) (hs:Jh) (ps:Jp),AV.agg xs=prA r l hs ps/\(∀ x∈r,KOk x)/\(∀ x∈l,NOk7 x)/\∀ x∈ps,POk x:=by
 obtain ⟨x0,_,rfl,h0,h⟩:=h.cons_inv;obtain ⟨x1,_,rfl,h1,h⟩:=h.cons_inv;obtain ⟨x2,_,rfl,h2,h⟩:=h.cons_inv;obtain ⟨x3,_,rfl,h3,h⟩:=h.cons_inv;obtain rfl:=h.nil_inv;obtain ⟨rows,rfl,-,g⟩:=h0.sl_inv;obtain ⟨r,rfl,hr⟩:=ZlE (f:=isa) (p:=KOk) λr hr=>ZlD (g r hr)
 obtain ⟨rows,rfl,-,g⟩:=h1.sl_inv;obtain ⟨l,rfl,hl⟩:=ZlE (f:=na) (p:=NOk7) λr hr=>Zqi (g r hr)
 obtain ⟨rows,rfl,-,g⟩:=h2.sl_inv;obtain ⟨hs,rfl⟩:=Zlw (f:=hoa) λr hr=>Zqj (g r hr)
 obtain ⟨rows,rfl,-,g⟩:=h3.sl_inv;obtain ⟨ps,rfl,hp⟩:=ZlE (f:=ptA) (p:=POk) λr hr=>Zqk (g r hr)
 exact ⟨r,l,hs,ps,rfl,hr,hl,hp⟩
end Go.Proofs.YtcdlimgkliklhaaGreatDoor
