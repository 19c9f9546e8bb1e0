/-
  The law SwapPlaces.
-/
import Derived.Test.YtjogcghofinemaaGreatDoorJTpToYg
import Derived.Test.YtjogcghofinemaaGreatDoorJTdToSu
import Derived.Test.YtjogcghofinemaaGreatDoorJAmLToAmW
set_option linter.all false
set_option linter.unusedSimpArgs false
set_option linter.unusedVariables false
set_option linter.unusedSectionVars false
namespace Go.Proofs.YtjogcghofinemaaGreatDoor
open Go.RowKit
def akC (s:List Int) (m d:Int) (a b:Rf):List AV:=[.vsl (s.map ia),.int .i64 m,.int .i64 d,.int .i64 a.1,.int .i64 a.2,.int .i64 b.1,.int .i64 b.2]
def swC (r:List Iss) (l:List Nte) (q:List Rul):List AV:=[.vsl (r.map isa),.vsl (l.map na),.vsl (q.map ra)]
section
variable {G:Nat->Option (List AV)}
end
theorem Zo0 (F:List Int) (x:Nte):(bnN F x).length<=2:=by unfold bnN;split <;> (try split) <;> (try split) <;> simp
theorem Zo1 (R:List Int) (x:Rul):(bnR R x).length<=2:=by unfold bnR;split <;> (try split) <;> simp
def bnA (F:List Int) (D:List Nte) (i:Nat):List Stq:=(D.take i).flatMap (bnN F)
def bnB (R:List Int) (N:List Stq) (q:List Rul) (i:Nat):List Stq:=N++(q.take i).flatMap (bnR R)
theorem Zo2 {F:List Int} {D:List Nte} {i:Nat} (h:i<D.length):bnA F D (i+1)=bnA F D i++bnN F D[i]:=by
 unfold bnA;rw[List.take_succ_eq_append_getElem h,List.flatMap_append];simp
theorem Zo3 {R:List Int} {N:List Stq} {q:List Rul} {i:Nat} (h:i<q.length):bnB R N q (i+1)=bnB R N q i++bnR R q[i]:=by
 unfold bnB;rw[List.take_succ_eq_append_getElem h,List.flatMap_append,<- List.append_assoc];simp
theorem Zo4 (F:List Int) (D:List Nte):∀ i,i<=D.length->(bnA F D i).length<=2*i
 |0,_=>by simp[bnA]
 |i+1,h=>by rw[Zo2 h,List.length_append];have:=Zo4 F D i (by omega);have:=Zo0 F D[i];omega
theorem Zo5 (R:List Int) (N:List Stq) (q:List Rul):∀ i,i<=q.length->(bnB R N q i).length<=N.length+2*i
 |0,_=>by simp[bnB]
 |i+1,h=>by rw[Zo3 h,List.length_append];have:=Zo5 R N q i (by omega);have:=Zo1 R q[i];omega
def wnA (L:List Stq):AV:=if L=[] then .nils else .osl 900 L.length
def wnO (L:List Stq):List (Nat×AObj):=if L=[] then [] else [(900,.row 6 (L.map sa))]
theorem Zo6:wnA [] = .nils/\wnO []=[]:=⟨rfl,rfl⟩
theorem wn_ne {L:List Stq} (h:L≠[]):wnA L = .osl 900 L.length/\wnO L=[(900,.row 6 (L.map sa))]:=⟨if_neg h,if_neg h⟩
theorem Zo7 (L:List Stq):((L.map sa).all λr=>r.all AV.pure)=true:=by simp[sa,AV.pure]
theorem Zo8 {M:List Stq} {κ n:Nat} {rows:List (List AV)} {T:List (Nat×AV)} {W:List AV} (hM:M≠[]) (hn:n=M.length) (hr:rows=M.map sa) (h1:κ<900) (h4:κ≠4)
  (hT:∀ p∈T,p.1≠19/\lk T p.1=some p.2/\(p.2.pure=true∨p.2 = .ptr 4 0)) (hW:W.all AV.pure=true) :
  Yn ⟨(19,.osl κ n)::T,(κ,.row 6 rows)::[(4,.box W)]⟩ ⟨(19,wnA M)::T,wnO M++[(4,.box W)]⟩:=by
 obtain ⟨e1,e2⟩:=wn_ne hM;rw[e1,e2,hn,hr];refine Yn.key (by omega) (by omega) (Zo7 M) (λp hp=>?_) λp hp=>?_
 . obtain ⟨a,b,c⟩:=hT p hp;refine ⟨a,b,c.imp id λe=>⟨4,0,e,by omega,by omega,rfl⟩⟩
 . rw[List.mem_singleton]at hp;subst hp;exact ⟨by show 4≠κ;omega,by show 4≠900;omega,rfl,W,rfl,hW⟩
def bn1T (R F:List Int) (X:List Stq) (D:List Nte) (i:Nat):List (Nat×AV):=[(89,.int .i64 i),(88,.int .i64 D.length),(87,.vsl (D.map na)),(17,.vsl (R.map ia)),(15,.vsl (F.map ia)),(11,.vsl (X.map sa)),(9,.bool true),(4,.ptr 4 0)]
def bn1 (W:List AV) (R F:List Int) (X:List Stq) (D:List Nte) (L:List Stq) (i:Nat):St:=⟨(19,wnA L)::bn1T R F X D i,wnO L++[(4,.box W)]⟩
def bn2T (R:List Int) (X:List Stq) (q:List Rul) (i:Nat):List (Nat×AV):=[(150,.int .i64 i),(149,.int .i64 q.length),(148,.vsl (q.map ra)),(17,.vsl (R.map ia)),(11,.vsl (X.map sa)),(9,.bool true),(4,.ptr 4 0)]
def bn2 (W:List AV) (R:List Int) (X:List Stq) (q:List Rul) (L:List Stq) (i:Nat):St:=⟨(19,wnA L)::bn2T R X q i,wnO L++[(4,.box W)]⟩
section
variable {G:Nat->Option (List AV)}
set_option maxRecDepth 100000 in
set_option maxHeartbeats 4000000 in
theorem Zo9 (hG:GC G) (hN:GN G) (hQ:GQ G) (r:List Iss) (l:List Nte) (q:List Rul) (t m d:Int) (hr:∀ x∈r,KOk x) (hl:∀ x∈l,NOk x) (ht:0<=t/\t<=255) (hm:0<=m/\m<=65535) (hd:0<=d/\d<=65535) :
  PC Tryz.prog G 5 [swa r l q,.int .u8 t,.int .u16 m,.int .u16 d] (.bool true):=by
 have hA:=Znc hG hN hQ;have hrd:=ZmU (G:=G) r l q hr hl
 cases hy:rdB r l q
 . rw[hy]at hrd;unfold swa at *
   (refine Z67 rfl λR hG hrd=>Qga ?_;subst hG)
   simp -implicitDefEqProofs[Z65,Z66];refine Qco (hA) (by simp) ?_;simp -implicitDefEqProofs[];refine Qco (hrd) (by simp) ?_;simp -implicitDefEqProofs[]
 rw[hy]at hrd;have hq:=Znk (t:=t) hy hr hl hm.1 hd.1;have hk:=ZmY (G:=G) r l q t m d 0 0 hq.nB hq.wr.1.1 hq.ne ht hm hd (by omega) (by omega);generalize isV r 0=A at *;generalize ttV l t=s at *;generalize mcV m=mm at *;generalize dyV d=dd at *;have c1:=hq.steps_pc hG hN hQ;have c2:=hq.upto_pc (G:=G);have c3:=hq.force_pc hG hN;have c4:=hq.rules_pc hG hN;have hX:=ZnO (s:=s) (m:=mm) (day:=dd) (λy hy=>(hq.wl.2 y hy).2.2.1) hq.h0;have hql:=ZhQ hq.rB;have hDl:(dyN dd l).length<=12:=(by have:=ZhS dd l;have:=ZhH hq.nB;omega);have hRl:=Zeg dd q q.length;have hFl:=hq.fLen;have hpl:=hq.len
 have hlt:∀ x∈dyN dd l,¬x.lt<2->IntKind.i64.wrap (x.lt-1)=x.lt-1:=λx hx h=>by
  have hm:=ZnK hq.nB (List.mem_filter.1 hx).1 h;have:=Zjm hq.li hm;exact Yg (by omega) (by omega)
 generalize st5 r l q s mm dd=X at *;generalize stF r l s mm dd=F at *;generalize dyN dd l=D at *;generalize ruN dd q q.length=RS at *;have cF:=λn=>ZmV (G:=G) F n hFl
 have cR:=λn=>ZmV (G:=G) RS n (by unfold Sml;omega)
 have cS:=ZhL (G:=G) X X (by unfold Sml;omega);rw[decide_eq_true rfl]at cS;have hend:bnB RS (bnA F D D.length) q q.length=X:=(by unfold bnB bnA;rw[List.take_length,List.take_length,hX]);have hnl:(bnA F D D.length).length<=24:=(by have:=Zo4 F D D.length (Nat.le_refl _);omega);unfold swa akA at *
 (refine Z67 rfl λR hG hrd=>Qga ?_;subst hG)
 simp -implicitDefEqProofs[Z65,Z66];refine Qco (hA) (by simp) ?_;simp -implicitDefEqProofs[];refine Qco (hrd) (by simp) ?_;simp -implicitDefEqProofs[];refine Qco (hk) (by simp) ?_;simp -implicitDefEqProofs[];refine Qco (c1) (by simp) ?_;simp -implicitDefEqProofs[];refine Qco (c2) (by simp) ?_;simp -implicitDefEqProofs[];refine Qco (c3) (by simp) ?_;simp -implicitDefEqProofs[];refine Qco (c4) (by simp) ?_;simp -implicitDefEqProofs[];refine Zb9 (λi=>bn1 (swC r l q) RS F X D (bnA F D i) i) (λ_=>True) D.length ?_ trivial ?_ ?_
 . have e0:bnA F D 0=[]:=rfl;simp only[bn1,bn1T,e0,Zo6,swC,List.nil_append]
   (refine Yn.sub (by simp[lk,Ya,AV.keys]) ?_;simp only[Wkl,and_true];(try simp[lk,Yd,Ya,AV.keys]))
 . intro i hi _;have wi:IntKind.i64.wrap ((i:Int)+1)=(i:Int)+1:=Yg (by omega) (by omega);have sc:=Zo2 (F:=F) hi;have hle:=Zo4 F D i (by omega);have hx2:=hlt _ (List.getElem_mem hi);obtain ⟨x,hx⟩ : ∃ x,x=D[i]:=⟨_,rfl⟩;have hax:na D[i]=[.int .i64 x.nu,.int .i64 x.dy,.int .u8 x.sg,.int .i64 x.dr,.int .i64 x.lt,.int .i64 x.fr,.int .i64 x.tu,.int .i64 x.ca,.bool x.up,.int .u8 x.wy]:=(by rw[<- hx];rfl);rw[<- hx]at sc hx2;have ch:=cF x.nu;have b1:=sixB (bnA F D i).length (by omega);have b2:=sixC (bnA F D i).length (by omega);generalize hL:bnA F D i=L at *;generalize hM:bnA F D (i+1)=M at *;refine Qga ?_;unfold bn1;by_cases z1:x.nu∈F
   case neg =>
    have hb:bnN F x=[]:=(by simp[bnN,z1]);rw[hb,List.append_nil]at sc;rw[decide_eq_false z1]at ch;by_cases hL0:L=[]
    . subst hL0;obtain ⟨v1,v2⟩:=Zo6;rw[v1,v2];simp -implicitDefEqProofs[bn1T,swC,hi,hax];refine Qco (ch) (by simp) ?_;simp -implicitDefEqProofs[wi];rw[hM,sc,v1,v2]
      (refine Yn.sub (by simp[lk,Ya,AV.keys]) ?_;simp only[Wkl,and_true];(try simp[lk,Yd,Ya,AV.keys]))
    . obtain ⟨v1,v2⟩:=wn_ne hL0;rw[v1,v2];simp -implicitDefEqProofs[bn1T,swC,hi,hax];refine Qco (ch) (by simp) ?_;simp -implicitDefEqProofs[wi];rw[hM,sc,v1,v2]
      (refine Yn.sub (by simp[lk,Ya,AV.keys]) ?_;simp only[Wkl,Zi7,and_true];(try simp[lk,Yd,Ya,AV.keys]))
   rw[decide_eq_true z1]at ch;by_cases z2:x.lt<2
   case pos =>
    have hb:bnN F x=[]:=(by simp[bnN,z2]);rw[hb,List.append_nil]at sc;by_cases hL0:L=[]
    . subst hL0;obtain ⟨v1,v2⟩:=Zo6;rw[v1,v2];simp -implicitDefEqProofs[bn1T,swC,hi,hax];refine Qco (ch) (by simp) ?_;simp -implicitDefEqProofs[wi,z2];rw[hM,sc,v1,v2]
      (refine Yn.sub (by simp[lk,Ya,AV.keys]) ?_;simp only[Wkl,and_true];(try simp[lk,Yd,Ya,AV.keys]))
    . obtain ⟨v1,v2⟩:=wn_ne hL0;rw[v1,v2];simp -implicitDefEqProofs[bn1T,swC,hi,hax];refine Qco (ch) (by simp) ?_;simp -implicitDefEqProofs[wi,z2];rw[hM,sc,v1,v2]
      (refine Yn.sub (by simp[lk,Ya,AV.keys]) ?_;simp only[Wkl,Zi7,and_true];(try simp[lk,Yd,Ya,AV.keys]))
   have hx2:=hx2 z2;have r1:=ZmL (G:=R.G) x.dr (x.lt-1);have r2:=ZmL (G:=R.G) x.dr x.lt;by_cases w1:x.wy=1
   case pos =>
    have hb:bnN F x=[⟨x.dr,x.lt-1,x.dr,x.lt,x.nu,true⟩]:=(by simp[bnN,z1,z2,w1]);rw[hb]at sc;have hne:M≠[]:=(by rw[sc];simp);have e1:M.map sa=L.map sa++[[.int .i64 x.dr,.int .i64 (x.lt-1),.int .i64 x.dr,.int .i64 x.lt,.int .i64 x.nu,.bool true]]:=(by rw[sc,List.map_append];rfl);have e2:M.length=L.length+1:=(by rw[sc];simp);by_cases hL0:L=[]
    . subst hL0;obtain ⟨v1,v2⟩:=Zo6;rw[v1,v2];simp -implicitDefEqProofs[bn1T,swC,hi,hax];refine Qco (ch) (by simp) ?_;simp -implicitDefEqProofs[z2,hx2,hax];refine Qco (r1) (by simp) ?_;simp -implicitDefEqProofs[hx2];refine Qco (r2) (by simp) ?_;simp -implicitDefEqProofs[];refine ⟨rfl,?_⟩;simp -implicitDefEqProofs[w1,wi];rw[hM];refine Yn.trans ?_ (Zo8 (κ:=129) (n:=M.length) (rows:=M.map sa) hne rfl rfl (by omega) (by omega) (by simp[lk,AV.pure]) (by simp[AV.pure]));rw[e1,e2];simp only[List.map_nil,List.nil_append,List.length_nil,Nat.zero_add]
      (refine Yn.sub (by simp[lk,Ya,AV.keys]) ?_;simp only[Wkl,and_true];(try simp[lk,Yd,Ya,AV.keys]))
    . obtain ⟨v1,v2⟩:=wn_ne hL0;obtain ⟨m1,m2⟩:=wn_ne hne;rw[v1,v2];simp -implicitDefEqProofs[bn1T,swC,hi,hax];refine Qco (ch) (by simp) ?_;simp -implicitDefEqProofs[z2,hx2,hax];refine Qco (r1) (by simp) ?_;simp -implicitDefEqProofs[hx2];refine Qco (r2) (by simp) ?_;simp -implicitDefEqProofs[];refine ⟨rfl,?_⟩;simp -implicitDefEqProofs[w1,wi,b1,b2];rw[hM,m1,m2,e2]
      try simp only[List.append_assoc,List.cons_append,List.nil_append]
      rw[<- e1]
      (refine Yn.sub (by simp[lk,Ya,AV.keys]) ?_;simp only[Wkl,Zi7,and_true];(try simp[lk,Yd,Ya,AV.keys]))
   by_cases w2:x.wy=2
   case pos =>
    have hb:bnN F x=[⟨x.dr,x.lt,x.dr,x.lt-1,x.nu,true⟩]:=(by simp[bnN,z1,z2,w2]);rw[hb]at sc;have hne:M≠[]:=(by rw[sc];simp);have e1:M.map sa=L.map sa++[[.int .i64 x.dr,.int .i64 x.lt,.int .i64 x.dr,.int .i64 (x.lt-1),.int .i64 x.nu,.bool true]]:=(by rw[sc,List.map_append];rfl);have e2:M.length=L.length+1:=(by rw[sc];simp);by_cases hL0:L=[]
    . subst hL0;obtain ⟨v1,v2⟩:=Zo6;rw[v1,v2];simp -implicitDefEqProofs[bn1T,swC,hi,hax];refine Qco (ch) (by simp) ?_;simp -implicitDefEqProofs[z2,hx2,hax];refine Qco (r1) (by simp) ?_;simp -implicitDefEqProofs[hx2];refine Qco (r2) (by simp) ?_;simp -implicitDefEqProofs[];refine ⟨rfl,?_⟩;simp -implicitDefEqProofs[w2,wi];rw[hM];refine Yn.trans ?_ (Zo8 (κ:=145) (n:=M.length) (rows:=M.map sa) hne rfl rfl (by omega) (by omega) (by simp[lk,AV.pure]) (by simp[AV.pure]));rw[e1,e2];simp only[List.map_nil,List.nil_append,List.length_nil,Nat.zero_add]
      (refine Yn.sub (by simp[lk,Ya,AV.keys]) ?_;simp only[Wkl,and_true];(try simp[lk,Yd,Ya,AV.keys]))
    . obtain ⟨v1,v2⟩:=wn_ne hL0;obtain ⟨m1,m2⟩:=wn_ne hne;rw[v1,v2];simp -implicitDefEqProofs[bn1T,swC,hi,hax];refine Qco (ch) (by simp) ?_;simp -implicitDefEqProofs[z2,hx2,hax];refine Qco (r1) (by simp) ?_;simp -implicitDefEqProofs[hx2];refine Qco (r2) (by simp) ?_;simp -implicitDefEqProofs[];refine ⟨rfl,?_⟩;simp -implicitDefEqProofs[w2,wi,b1,b2];rw[hM,m1,m2,e2]
      try simp only[List.append_assoc,List.cons_append,List.nil_append]
      rw[<- e1]
      (refine Yn.sub (by simp[lk,Ya,AV.keys]) ?_;simp only[Wkl,Zi7,and_true];(try simp[lk,Yd,Ya,AV.keys]))
   by_cases w3:x.wy=3
   case pos =>
    have hb:bnN F x=[⟨x.dr,x.lt-1,x.dr,x.lt,x.nu,true⟩,⟨x.dr,x.lt,x.dr,x.lt-1,x.nu,true⟩]:=(by simp[bnN,z1,z2,w3]);rw[hb]at sc;have hne:M≠[]:=(by rw[sc];simp);have e1:M.map sa=L.map sa++[[.int .i64 x.dr,.int .i64 (x.lt-1),.int .i64 x.dr,.int .i64 x.lt,.int .i64 x.nu,.bool true],[.int .i64 x.dr,.int .i64 x.lt,.int .i64 x.dr,.int .i64 (x.lt-1),.int .i64 x.nu,.bool true]]:=(by rw[sc,List.map_append];rfl);have e2:M.length=L.length+2:=(by rw[sc];simp);by_cases hL0:L=[]
    . subst hL0;obtain ⟨v1,v2⟩:=Zo6;rw[v1,v2];simp -implicitDefEqProofs[bn1T,swC,hi,hax];refine Qco (ch) (by simp) ?_;simp -implicitDefEqProofs[z2,hx2,hax];refine Qco (r1) (by simp) ?_;simp -implicitDefEqProofs[hx2];refine Qco (r2) (by simp) ?_;simp -implicitDefEqProofs[];refine ⟨rfl,?_⟩;simp -implicitDefEqProofs[w3,wi];rw[hM];refine Yn.trans ?_ (Zo8 (κ:=129) (n:=M.length) (rows:=M.map sa) hne rfl rfl (by omega) (by omega) (by simp[lk,AV.pure]) (by simp[AV.pure]));rw[e1,e2];simp only[List.map_nil,List.nil_append,List.length_nil,Nat.zero_add]
      (refine Yn.sub (by simp[lk,Ya,AV.keys]) ?_;simp only[Wkl,and_true];(try simp[lk,Yd,Ya,AV.keys]))
    . obtain ⟨v1,v2⟩:=wn_ne hL0;obtain ⟨m1,m2⟩:=wn_ne hne;rw[v1,v2];simp -implicitDefEqProofs[bn1T,swC,hi,hax];refine Qco (ch) (by simp) ?_;simp -implicitDefEqProofs[z2,hx2,hax];refine Qco (r1) (by simp) ?_;simp -implicitDefEqProofs[hx2];refine Qco (r2) (by simp) ?_;simp -implicitDefEqProofs[];refine ⟨rfl,?_⟩;simp -implicitDefEqProofs[w3,wi,b1,b2];rw[hM,m1,m2,e2]
      try simp only[List.append_assoc,List.cons_append,List.nil_append]
      rw[<- e1]
      (refine Yn.sub (by simp[lk,Ya,AV.keys]) ?_;simp only[Wkl,Zi7,and_true];(try simp[lk,Yd,Ya,AV.keys]))
   have hb:bnN F x=[]:=(by simp[bnN,w1,w2,w3]);rw[hb,List.append_nil]at sc;by_cases hL0:L=[]
   . subst hL0;obtain ⟨v1,v2⟩:=Zo6;rw[v1,v2];simp -implicitDefEqProofs[bn1T,swC,hi,hax];refine Qco (ch) (by simp) ?_;simp -implicitDefEqProofs[z2,hx2,hax];refine Qco (r1) (by simp) ?_;simp -implicitDefEqProofs[hx2];refine Qco (r2) (by simp) ?_;simp -implicitDefEqProofs[];refine ⟨rfl,?_⟩;simp -implicitDefEqProofs[w1,w2,w3,wi];rw[hM,sc,v1,v2]
     (refine Yn.sub (by simp[lk,Ya,AV.keys]) ?_;simp only[Wkl,and_true];(try simp[lk,Yd,Ya,AV.keys]))
   . obtain ⟨v1,v2⟩:=wn_ne hL0;rw[v1,v2];simp -implicitDefEqProofs[bn1T,swC,hi,hax];refine Qco (ch) (by simp) ?_;simp -implicitDefEqProofs[z2,hx2,hax];refine Qco (r1) (by simp) ?_;simp -implicitDefEqProofs[hx2];refine Qco (r2) (by simp) ?_;simp -implicitDefEqProofs[];refine ⟨rfl,?_⟩;simp -implicitDefEqProofs[w1,w2,w3,wi];rw[hM,sc,v1,v2]
     (refine Yn.sub (by simp[lk,Ya,AV.keys]) ?_;simp only[Wkl,Zi7,and_true];(try simp[lk,Yd,Ya,AV.keys]))
 . intro _;generalize bnA F D D.length=N at *;refine Qga ?_;unfold bn1;rcases Classical.em (N=[]) with hN0|hN0
   case' inl=>obtain ⟨v1,v2⟩ : wnA N = .nils/\wnO N=[]:=by rw[hN0];exact Zo6
   case' inr=>obtain ⟨v1,v2⟩:=wn_ne hN0
   all_goals
    rw[v1,v2];simp -implicitDefEqProofs[bn1T,swC];refine Qgr ?_;simp -implicitDefEqProofs[];refine Zb9 (λi=>bn2 (swC r l q) RS X q (bnB RS N q i) i) (λ_=>True) q.length ?_ trivial ?_ ?_
    . have e0:bnB RS N q 0=N:=(by simp[bnB]);simp only[bn2,bn2T,e0,v1,v2,swC]
      (refine Yn.sub (by simp[lk,Ya,AV.keys]) ?_;simp only[Wkl,Zi7,and_true];(try simp[lk,Yd,Ya,AV.keys]))
    . intro i hi _;clear v1 v2 hN0;have wi:IntKind.i64.wrap ((i:Int)+1)=(i:Int)+1:=Yg (by omega) (by omega);have sc:=Zo3 (R:=RS) (N:=N) hi;have hle:=Zo5 RS N q i (by omega);obtain ⟨x,hx⟩ : ∃ x,x=q[i]:=⟨_,rfl⟩;have hax:ra q[i]=[.int .i64 x.nu,.int .i64 x.dy,.int .i64 x.fd,.int .i64 x.fl,.int .i64 x.td,.int .i64 x.tl,.bool x.bo,.int .i64 x.br]:=(by rw[<- hx];rfl);rw[<- hx]at sc;have ch:=cR x.nu;have b1:=sixB (bnB RS N q i).length (by omega);have b2:=sixC (bnB RS N q i).length (by omega);generalize hL:bnB RS N q i=L at *;generalize hM:bnB RS N q (i+1)=M at *;refine Qga ?_;unfold bn2;by_cases z1:x.nu∈RS
      case neg =>
       have hb:bnR RS x=[]:=(by simp[bnR,z1]);rw[hb,List.append_nil]at sc;rw[decide_eq_false z1]at ch;by_cases hL0:L=[]
       . subst hL0;obtain ⟨v1,v2⟩:=Zo6;rw[v1,v2];simp -implicitDefEqProofs[bn2T,swC,hi,hax];refine Qco (ch) (by simp) ?_;simp -implicitDefEqProofs[wi];rw[hM,sc,v1,v2]
         (refine Yn.sub (by simp[lk,Ya,AV.keys]) ?_;simp only[Wkl,and_true];(try simp[lk,Yd,Ya,AV.keys]))
       . obtain ⟨v1,v2⟩:=wn_ne hL0;rw[v1,v2];simp -implicitDefEqProofs[bn2T,swC,hi,hax];refine Qco (ch) (by simp) ?_;simp -implicitDefEqProofs[wi];rw[hM,sc,v1,v2]
         (refine Yn.sub (by simp[lk,Ya,AV.keys]) ?_;simp only[Wkl,Zi7,and_true];(try simp[lk,Yd,Ya,AV.keys]))
      rw[decide_eq_true z1]at ch;by_cases z2:x.fd=0/\x.fl=0
      case pos =>
       have hb:bnR RS x=[]:=(by simp[bnR,z2]);rw[hb,List.append_nil]at sc;by_cases hL0:L=[]
       . subst hL0;obtain ⟨v1,v2⟩:=Zo6;rw[v1,v2];simp -implicitDefEqProofs[bn2T,swC,hi,hax];refine Qco (ch) (by simp) ?_;simp -implicitDefEqProofs[wi,z2.1,z2.2];rw[hM,sc,v1,v2]
         (refine Yn.sub (by simp[lk,Ya,AV.keys]) ?_;simp only[Wkl,and_true];(try simp[lk,Yd,Ya,AV.keys]))
       . obtain ⟨v1,v2⟩:=wn_ne hL0;rw[v1,v2];simp -implicitDefEqProofs[bn2T,swC,hi,hax];refine Qco (ch) (by simp) ?_;simp -implicitDefEqProofs[wi,z2.1,z2.2];rw[hM,sc,v1,v2]
         (refine Yn.sub (by simp[lk,Ya,AV.keys]) ?_;simp only[Wkl,Zi7,and_true];(try simp[lk,Yd,Ya,AV.keys]))
      have f2:(decide (x.fd=0)&&decide (x.fl=0))=false:=by
       cases h:(decide (x.fd=0)&&decide (x.fl=0))
       . rfl
       . simp only[Bool.and_eq_true,decide_eq_true_eq]at h;exact absurd h z2
      cases hbo:x.bo
      . have hb:bnR RS x=[⟨x.fd,x.fl,x.td,x.tl,x.nu,false⟩]:=(by simp[bnR,z1,z2,hbo]);rw[hb]at sc;rw[hbo]at hax;have hne:M≠[]:=(by rw[sc];simp);have e1:M.map sa=L.map sa++[[.int .i64 x.fd,.int .i64 x.fl,.int .i64 x.td,.int .i64 x.tl,.int .i64 x.nu,.bool false]]:=(by rw[sc,List.map_append];rfl);have e2:M.length=L.length+1:=(by rw[sc];simp);by_cases hL0:L=[]
        . subst hL0;obtain ⟨v1,v2⟩:=Zo6;rw[v1,v2];simp -implicitDefEqProofs[bn2T,swC,hi,hax];refine Qco (ch) (by simp) ?_;simp -implicitDefEqProofs[f2,wi];rw[hM];refine Yn.trans ?_ (Zo8 (κ:=174) (n:=M.length) (rows:=M.map sa) hne rfl rfl (by omega) (by omega) (by simp[lk,AV.pure]) (by simp[AV.pure]));rw[e1,e2];simp only[List.map_nil,List.nil_append,List.length_nil,Nat.zero_add]
          (refine Yn.sub (by simp[lk,Ya,AV.keys]) ?_;simp only[Wkl,and_true];(try simp[lk,Yd,Ya,AV.keys]))
        . obtain ⟨v1,v2⟩:=wn_ne hL0;obtain ⟨m1,m2⟩:=wn_ne hne;rw[v1,v2];simp -implicitDefEqProofs[bn2T,swC,hi,hax];refine Qco (ch) (by simp) ?_;simp -implicitDefEqProofs[f2,wi,b1,b2];rw[hM,m1,m2,e2]
          try simp only[List.append_assoc,List.cons_append,List.nil_append]
          rw[<- e1]
          (refine Yn.sub (by simp[lk,Ya,AV.keys]) ?_;simp only[Wkl,Zi7,and_true];(try simp[lk,Yd,Ya,AV.keys]))
      . have hb:bnR RS x=[⟨x.fd,x.fl,x.td,x.tl,x.nu,false⟩,⟨x.td,x.tl,x.fd,x.fl,x.nu,false⟩]:=(by simp[bnR,z1,z2,hbo]);rw[hb]at sc;rw[hbo]at hax;have hne:M≠[]:=(by rw[sc];simp);have e1:M.map sa=L.map sa++[[.int .i64 x.fd,.int .i64 x.fl,.int .i64 x.td,.int .i64 x.tl,.int .i64 x.nu,.bool false],[.int .i64 x.td,.int .i64 x.tl,.int .i64 x.fd,.int .i64 x.fl,.int .i64 x.nu,.bool false]]:=(by rw[sc,List.map_append];rfl);have e2:M.length=L.length+2:=(by rw[sc];simp);by_cases hL0:L=[]
        . subst hL0;obtain ⟨v1,v2⟩:=Zo6;rw[v1,v2];simp -implicitDefEqProofs[bn2T,swC,hi,hax];refine Qco (ch) (by simp) ?_;simp -implicitDefEqProofs[f2,wi];rw[hM];refine Yn.trans ?_ (Zo8 (κ:=174) (n:=M.length) (rows:=M.map sa) hne rfl rfl (by omega) (by omega) (by simp[lk,AV.pure]) (by simp[AV.pure]));rw[e1,e2];simp only[List.map_nil,List.nil_append,List.length_nil,Nat.zero_add]
          (refine Yn.sub (by simp[lk,Ya,AV.keys]) ?_;simp only[Wkl,and_true];(try simp[lk,Yd,Ya,AV.keys]))
        . obtain ⟨v1,v2⟩:=wn_ne hL0;obtain ⟨m1,m2⟩:=wn_ne hne;rw[v1,v2];simp -implicitDefEqProofs[bn2T,swC,hi,hax];refine Qco (ch) (by simp) ?_;simp -implicitDefEqProofs[f2,wi,b1,b2];rw[hM,m1,m2,e2]
          try simp only[List.append_assoc,List.cons_append,List.nil_append]
          rw[<- e1]
          (refine Yn.sub (by simp[lk,Ya,AV.keys]) ?_;simp only[Wkl,Zi7,and_true];(try simp[lk,Yd,Ya,AV.keys]))
    . intro _;refine Qga ?_;unfold bn2;rw[hend];by_cases hX0:X=[]
      . obtain ⟨v3,v4⟩ : wnA X = .nils/\wnO X=[]:=(by rw[hX0];exact Zo6);have cS0:=PC.sub cS (xs:=[.vsl (X.map sa),.nils]) ⟨.rfl',by rw[hX0];exact .nils,trivial⟩;rw[v3,v4];simp -implicitDefEqProofs[bn2T,swC];refine Qgr ?_;simp -implicitDefEqProofs[];refine Qco (cS0) (by simp) ?_;simp -implicitDefEqProofs[]
      . obtain ⟨v3,v4⟩:=wn_ne hX0;have pX:=Zo7 X;rw[v3,v4];simp -implicitDefEqProofs[bn2T,swC];refine Qgr ?_;simp -implicitDefEqProofs[];refine Ye.flat cS (by simp[AV.flat]) (by simp[Yk,snap,Yi,okAll,St.get,lk,pX]) ?_;simp -implicitDefEqProofs[]
end
end Go.Proofs.YtjogcghofinemaaGreatDoor
