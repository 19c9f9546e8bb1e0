/-
  What Needs computes, here and there; two lists, whether they are equal.
-/
import Derived.Test.YtcdlimgkliklhaaGreatDoorJRcbToEe
import Derived.Test.YtcdlimgkliklhaaGreatDoorJPcToQl
import Derived.Test.YtcdlimgkliklhaaGreatDoorJNjToPd
import Derived.Test.YtcdlimgkliklhaaGreatDoorJEfToGf
import Derived.Test.YtcdlimgkliklhaaGreatDoorTie
import Derived.Test.YtcdlimgkliklhaaGreatDoorCards
set_option linter.all false
set_option linter.unusedSimpArgs false
set_option linter.unusedVariables false
set_option linter.unusedSectionVars false
namespace Go.Proofs.YtcdlimgkliklhaaGreatDoor
open Go.RowKit
theorem ZlW {r:List Iss} {l:List Nte} {hs:List Hld} {ps:List Prt} (h:ck7 r l hs ps=0) {x:Hld} (hx:x∈hs):∀ d∈x.ds,d∈nums r:=by
 obtain ⟨i,hi,rfl⟩:=List.getElem_of_mem hx;have h1:=List.all_eq_true.1 (Zic.1 (Zj2.1 h).2).1.2 i (List.mem_range.2 hi);simp only[hoB,Bool.and_eq_true,Zi9 hi]at h1;intro d hd;obtain ⟨k,hk,rfl⟩:=List.getElem_of_mem hd;have h2:=List.all_eq_true.1 h1.2 k (List.mem_range.2 hk);simp only[Bool.and_eq_true,List.getD_eq_getElem?_getD,List.getElem?_eq_getElem hk,Option.getD_some]at h2;simpa using h2.1
def neE (r:List Iss) (l:List Nte) (hs:List Hld) (ps:List Prt) (id d:Int):List Int:=if ab7 r l hs ps 0 1 id [d]=0 then ndI l hs id d else []
def neA (r:List Iss) (l:List Nte) (hs:List Hld) (ps:List Prt) (id d:Int):AV:=.tup [Yg ((neE r l hs ps id d).map ia),.int .i64 (ab7 r l hs ps 0 1 id [d])]
theorem ZlX (S:List Int) (ok:Nat->Bool) (st:St):Yh ok st 6 (Yg (S.map ia))=some (Yg (S.map ia)):=by
 unfold Yg
 split
 . simp[Yh,AV.pure]
 . simp[Yh,AV.pure,ia]
section
variable {G:Nat->Option (List AV)}
theorem ZlY (hG:GC G) (hN:GN G) (hP:GP G) (r:List Iss) (l:List Nte) (hs:List Hld) (ps:List Prt) (id d:Int) (hl:WfN l) (hr:Wf r) (hd:Sml (nums r)) (hw:WfP hs ps) :
  PC Tryz.prog G 27 [prA r l hs ps,.int .i64 id,.int .i64 d] (neA r l hs ps id d):=by
 have ha:=Zj7 hG hN hP r l hs ps 0 1 id [d] hl hr hd hw (by simp[Sml]);have e1:[d].map ia=[[.int .i64 d]]:=rfl;rw[e1]at ha;have pO:=Zie r l hs ps;unfold abP at ha;unfold neA neE;by_cases h0:ab7 r l hs ps 0 1 id [d]=0
 . obtain ⟨q1,q2,q3⟩:=ZkU h0;have hn:=ZlV hG hN r l hs ps id d hl hr hd hw (ZkT q1).1 q2 (q3 d (by simp));have pV:=ZjJ (ndI l hs id d);rw[if_pos h0,h0]at ha;rw[if_pos h0,h0];have sV:=ZlX (ndI l hs id d);generalize Yg ((ndI l hs id d).map ia)=V at *;unfold prA at *
   (refine Z6c rfl λR hG hrd=>Qga ?_;subst hG)
   simp -implicitDefEqProofs[Z6a,Z6b];refine Qco (ha) (by simp) ?_;simp -implicitDefEqProofs[];refine Yd.of hn (by simp[pO,AV.pure]) ?_;simp -implicitDefEqProofs[sV]
 . rw[if_neg h0]at ha;rw[if_neg h0];unfold prA at *
   (refine Z6c rfl λR hG hrd=>Qga ?_;subst hG)
   simp -implicitDefEqProofs[Z6a,Z6b];refine Qco (ha) (by simp) ?_;simp -implicitDefEqProofs[h0,Yg]
theorem ZlZ (r:List Iss) (l:List Nte) (hs:List Hld) (ps:List Prt) (id d:Int) (hl:WfN l) (hr:Wf r) (hd:Sml (nums r)) (hw:WfP hs ps) :
  PC Tryz.prog G 28 [prA r l hs ps,.int .i64 id,.int .i64 d] (neA r l hs ps id d):=by
 have ha:=ZkV (G:=G) r l hs ps 0 1 id d hl hr hd hw;unfold neA neE;by_cases h0:ab7 r l hs ps 0 1 id [d]=0
 . obtain ⟨q1,q2,q3⟩:=ZkU h0;have hn:=ZlQ (G:=G) r l hs ps id d hl hr hd hw (ZkT q1).1 q2 (q3 d (by simp));have pV:=ZjJ (ndI l hs id d);rw[h0]at ha;rw[if_pos h0,h0];have sV:=ZlX (ndI l hs id d);generalize Yg ((ndI l hs id d).map ia)=V at *;unfold prA at *
   (refine Z66 rfl λR hG hrd=>Qga ?_;subst hG)
   simp -implicitDefEqProofs[Z64,Z65];refine Qco (ha) (by simp) ?_;simp -implicitDefEqProofs[];refine Qco (hn) (by simp) ?_;simp -implicitDefEqProofs[sV]
 . rw[if_neg h0];unfold prA at *
   (refine Z66 rfl λR hG hrd=>Qga ?_;subst hG)
   simp -implicitDefEqProofs[Z64,Z65];refine Qco (ha) (by simp) ?_;simp -implicitDefEqProofs[h0,Yg]
end
def wgE (r:List Iss) (l:List Nte) (hs:List Hld) (ps:List Prt) (day id d m:Int):Int:=if ab7 r l hs ps day m id [d]=0 then wrN (wkL ps day id d) (posL l d m) else 0
def wgA (r:List Iss) (l:List Nte) (hs:List Hld) (ps:List Prt) (day id d m:Int):AV:=.tup [.int .u8 (wgE r l hs ps day id d m),.int .i64 (ab7 r l hs ps day m id [d])]
theorem Zm0 {ps:List Prt} {day id d:Int}:(wkL ps day id d).length<=10:=by
 unfold wkL;have:=List.length_filter_le (λn=>decide (sureM ps day id d<n)&&(perhL ps day id d).contains n) r9;have h9:r9.length=9:=rfl;simp only[List.length_cons];omega
def eqB (a b:List Int) (i:Nat):Bool:=(a.take i).any λx=>b.any λy=>decide (x=y)
def neB (a b:List Int) (i:Nat):Bool:=(a.take i).any λx=>b.any λy=>!decide (x=y)
def w7S (A B:List (List AV)) (e n:Bool) (i:Nat):St:=⟨[(18,.int .i64 i),(16,.bool e),(17,.bool n),(13,.vsl A),(14,.vsl B)],[]⟩
def w7I (A B:List (List AV)) (e n:Bool) (i j:Nat):St:=⟨[(19,.int .i64 j),(18,.int .i64 i),(16,.bool e),(17,.bool n),(13,.vsl A),(14,.vsl B)],[]⟩
section
variable {G:Nat->Option (List AV)}
theorem Zm1 (a b:List Int) (ha:Sml a):PC Tryz.prog G 84 [.vsl (a.map ia),.vsl (b.map ia)] (.bool (decide (a=b))):=by
 unfold Sml at ha
 (refine Z5B rfl λR hG hrd=>Qga ?_;subst hG)
 by_cases hl:a.length=b.length
 case neg =>
  have hl':¬(a.length:Int)=(b.length:Int):=(by omega);have hne:¬a=b:=λh=>hl (by rw[h])
  simp -implicitDefEqProofs[Z5z,Z5A,hl,hl',hne]
 have hl':(a.length:Int)=(b.length:Int):=(by omega);simp -implicitDefEqProofs[Z5z,Z5A,hl'];refine Z9v (λi=>⟨[(13,.int .i64 i),(12,.int .i64 a.length),(0,.vsl (a.map ia)),(1,.vsl (b.map ia))],[]⟩) (λi=>a.take i=b.take i) a.length ?_ rfl ?_ ?_
 . ((try simp only[hl']);refine Ym.sub (by simp[lk,Ya,AV.keys,hl']) ?_;simp only[hl',Wkl,and_true];(try simp[lk,Yc,Ya,AV.keys,hl']))
 . intro i hi he;have hj:i<b.length:=(by omega);have wi:IntKind.i64.wrap ((i:Int)+1)=(i:Int)+1:=Yf (by omega) (by omega);have hi':(i:Int)<b.length:=(by omega);refine Qga ?_;by_cases q:a[i]=b[i]
   . simp -implicitDefEqProofs[hi,hj,hi',hl',ia,q];refine ⟨rfl,?_⟩;simp -implicitDefEqProofs[wi];refine ⟨?_,by rw[List.take_succ_eq_append_getElem hi,List.take_succ_eq_append_getElem hj,he,q]⟩
     ((try simp only[hl']);refine Ym.sub (by simp[lk,Ya,AV.keys,hl']) ?_;simp only[hl',Wkl,and_true];(try simp[lk,Yc,Ya,AV.keys,hl']))
   . have hne:¬a=b:=λh=>q (by subst h;rfl)
     simp -implicitDefEqProofs[hi,hj,hi',hl',ia,q];refine ⟨rfl,?_⟩;simp -implicitDefEqProofs[hne];refine Qgr ?_;simp -implicitDefEqProofs[]
 . intro he
   have e:a=b:=by
    have h2:b.take a.length=b:=(by rw[hl,List.take_length]);rw[List.take_length,h2]at he;exact he
   refine Qga ?_;simp -implicitDefEqProofs[];refine Qgr ?_;simp -implicitDefEqProofs[e]
theorem Zm2 (b:List Int) (x:Int) (hb:Sml b):PC Tryz.prog G 86 [.int .i64 x,.vptr [.vsl (b.map ia)] 0] (.bool (decide (x∈b))):=by
 have hc:=Zfc (G:=G) b x hb
 (refine Z5v rfl λR hG hrd=>Qga ?_;subst hG)
 simp -implicitDefEqProofs[Z5t,Z5u];refine Qco (hc) (by simp) ?_;simp -implicitDefEqProofs[]
theorem Zm3 (hG:GC G) (hN:GN G) (hP:GP G) (r:List Iss) (l:List Nte) (hs:List Hld) (ps:List Prt) (day id d m:Int) (hl:WfN l) (hr:Wf r) (hd:Sml (nums r)) (hw:WfP hs ps) :
  PC Tryz.prog G 31 [prA r l hs ps,.int .i64 day,.int .i64 id,.int .i64 d,.int .i64 m] (wgA r l hs ps day id d m):=by
 have ha:=Zj7 hG hN hP r l hs ps day m id [d] hl hr hd hw (by simp[Sml]);have e1:[d].map ia=[[.int .i64 d]]:=rfl;rw[e1]at ha;have pO:=Zie r l hs ps;unfold abP at ha;unfold wgA wgE;by_cases h0:ab7 r l hs ps day m id [d]=0
 case neg =>
  rw[if_neg h0]at ha;rw[if_neg h0];unfold prA at *
  (refine Z5s rfl λR hG hrd=>Qga ?_;subst hG)
  simp -implicitDefEqProofs[Z5q,Z5r];refine Qco (ha) (by simp) ?_;simp -implicitDefEqProofs[h0]
 obtain ⟨q1,q2,q3⟩:=ZkU h0;obtain ⟨k0,k1,k2⟩:=ZkT q1;obtain ⟨g1,g2⟩:=ZlE (r:=r) (l:=l) (hs:=hs) hw.po k0;have hdn:=q3 d (by simp);have hW:=ZjD (G:=G) r l hs ps day id d hw.pl g1 g2;have hop:=Zj3 (Zj2.1 k0).1;have hB:=Zg8 (Zj2.1 k0).1
 have as0:asN r l [] m=0:=by
  unfold asN;rw[if_pos (Zj2.1 k0).1,if_pos (by simp[truB]),if_pos k2]
 have hQ:=ZjZ hG hN r l d m hl hr hd;unfold poA at hQ;rw[if_pos ⟨as0,hdn⟩,if_pos as0,if_pos hdn]at hQ;have hz:=Zjt (Zjp ps day id d) (ZhX l d m) (by simp[wkL]) (Zi2 λv=>Zi7 hop hB hdn m v);have wl:=Zm0 (ps:=ps) (day:=day) (id:=id) (d:=d);have pl:=ZlT (l:=l) (d:=d) (m:=m);have aE:=Zm1 (G:=G) (wkL ps day id d) (posL l d m) (by unfold Sml;omega);have aC:=Zar (G:=G) 86 [.vptr [.vsl ((posL l d m).map ia)] 0] (λx=>decide (x∈posL l d m)) (wkL ps day id d) (by simp[AV.pure,ia]) (by unfold Sml;omega) (λx _=>Zm2 (posL l d m) x (by unfold Sml;omega));obtain ⟨w,hwv⟩ : ∃ w,w=wrN (wkL ps day id d) (posL l d m):=⟨_,rfl⟩;rw[if_pos h0,h0]at ha;rw[if_pos h0,h0,<- hwv];unfold wrN at hwv;generalize wkL ps day id d=A at *;generalize posL l d m=Q at *
 have hany:(A.any λx=>Q.any λy=>decide (x=y))=A.any λx=>decide (x∈Q):=by
  congr 1;funext x
  rw[Bool.eq_iff_iff,List.any_eq_true];simp
 rw[hany]at hwv;unfold prA at *
 (refine Z5s rfl λR hG hrd=>Qga ?_;subst hG)
 simp -implicitDefEqProofs[Z5q,Z5r];refine Qco (ha) (by simp) ?_;simp -implicitDefEqProofs[];refine Yd.of hW (by simp[pO,AV.pure]) ?_;simp -implicitDefEqProofs[];refine Yd.of hQ (by simp[AV.pure,isa,na]) ?_;simp -implicitDefEqProofs[];by_cases c1:A.length=1
 . have c1':(A.length:Int)=1:=(by omega);simp -implicitDefEqProofs[c1,c1'];refine Qco (aE) (by simp) ?_;by_cases c2:A=Q
   . have z:(A.any λx=>Q.any λy=>!decide (x=y))=false:=hz.2 ⟨c1,c2⟩;rw[if_pos z]at hwv;rw[hwv];simp -implicitDefEqProofs[c2]
   . have z:¬(A.any λx=>Q.any λy=>!decide (x=y))=false:=λh=>c2 (hz.1 h).2
     rw[if_neg z]at hwv;simp -implicitDefEqProofs[c2]
     (first|refine Yd.flat (aC) (by simp[AV.flat]) (by simp) ?_|refine Ye.flat (aC) (by simp[AV.flat]) (by simp) ?_)
     cases e:A.any λx=>decide (x∈Q)
     . rw[if_pos e]at hwv;simp -implicitDefEqProofs[hwv]
     . rw[if_neg (by rw[e];simp)]at hwv;simp -implicitDefEqProofs[hwv]
 . have c1':¬(A.length:Int)=1:=(by omega);have z:¬(A.any λx=>Q.any λy=>!decide (x=y))=false:=λh=>c1 (hz.1 h).1
   rw[if_neg z]at hwv;simp -implicitDefEqProofs[c1,c1']
   (first|refine Yd.flat (aC) (by simp[AV.flat]) (by simp) ?_|refine Ye.flat (aC) (by simp[AV.flat]) (by simp) ?_)
   cases e:A.any λx=>decide (x∈Q)
   . rw[if_pos e]at hwv;simp -implicitDefEqProofs[hwv]
   . rw[if_neg (by rw[e];simp)]at hwv;simp -implicitDefEqProofs[hwv]
set_option maxHeartbeats 1000000 in
theorem Zm4 (r:List Iss) (l:List Nte) (hs:List Hld) (ps:List Prt) (day id d m:Int) (hl:WfN l) (hr:Wf r) (hd:Sml (nums r)) (hw:WfP hs ps) :
  PC Tryz.prog G 32 [prA r l hs ps,.int .i64 day,.int .i64 id,.int .i64 d,.int .i64 m] (wgA r l hs ps day id d m):=by
 have ha:=ZkV (G:=G) r l hs ps day m id d hl hr hd hw;unfold wgA wgE;by_cases h0:ab7 r l hs ps day m id [d]=0
 case neg =>
  rw[if_neg h0];unfold prA at *
  (refine Z5y rfl λR hG hrd=>Qga ?_;subst hG)
  simp -implicitDefEqProofs[Z5w,Z5x];refine Qco (ha) (by simp) ?_;simp -implicitDefEqProofs[h0]
 obtain ⟨q1,q2,q3⟩:=ZkU h0;obtain ⟨k0,k1,k2⟩:=ZkT q1;obtain ⟨g1,g2⟩:=ZlE (r:=r) (l:=l) (hs:=hs) hw.po k0;have hdn:=q3 d (by simp);have hW:=Zla (G:=G) r l hs ps day id d hw.pl g1
 have as0:asN r l [] m=0:=by
  unfold asN;rw[if_pos (Zj2.1 k0).1,if_pos (by simp[truB]),if_pos k2]
 have hQ:=Zlh (G:=G) r l d m hl hr hd;unfold poA at hQ;rw[if_pos ⟨as0,hdn⟩,if_pos as0,if_pos hdn]at hQ;have wl:=Zm0 (ps:=ps) (day:=day) (id:=id) (d:=d);have pl:=ZlT (l:=l) (d:=d) (m:=m);obtain ⟨w,hwv⟩ : ∃ w,w=wrN (wkL ps day id d) (posL l d m):=⟨_,rfl⟩;rw[h0]at ha;rw[if_pos h0,h0,<- hwv];unfold wrN at hwv;generalize wkL ps day id d=A at *;generalize posL l d m=Q at *;unfold prA at *;refine Z5y rfl λR hG hrd=>?_
 subst hG;refine Qga ?_;simp -implicitDefEqProofs[Z5w,Z5x];refine Qco (ha) (by simp) ?_;simp -implicitDefEqProofs[];refine Qco (hW) (by simp) ?_;simp -implicitDefEqProofs[];refine Yd.of hQ (by simp[AV.pure,isa,na]) ?_;simp -implicitDefEqProofs[];refine Z9v (λi=>w7S (A.map ia) (Q.map ia) (eqB A Q i) (neB A Q i) i) (λ_=>True) A.length ?_ trivial ?_ ?_
 . have e0:eqB A Q 0=false:=rfl;have e1:neB A Q 0=false:=rfl;simp only[w7S,e0,e1]
   ((try simp only[ia]);refine Ym.sub (by simp[lk,Ya,AV.keys,ia]) ?_;simp only[ia,Wkl,and_true];(try simp[lk,Yc,Ya,AV.keys,ia]))
 . intro i hi _;have wi:IntKind.i64.wrap ((i:Int)+1)=(i:Int)+1:=Yf (by omega) (by omega);have s1:eqB A Q (i+1)=(eqB A Q i||Q.any λy=>decide (A[i]=y)):=(by unfold eqB;rw[List.take_succ_eq_append_getElem hi,List.any_append];simp);have s2:neB A Q (i+1)=(neB A Q i||Q.any λy=>!decide (A[i]=y)):=(by unfold neB;rw[List.take_succ_eq_append_getElem hi,List.any_append];simp);obtain ⟨x,hx⟩ : ∃ x,x=A[i]:=⟨_,rfl⟩;rw[<- hx]at s1 s2;have hlx:A[i]=x:=hx.symm;have hw2:w7S (A.map ia) (Q.map ia) (eqB A Q (i+1)) (neB A Q (i+1)) (i+1)=⟨[(18,.int .i64 (i+1:Nat)),(16,.bool (eqB A Q i||Q.any λy=>decide (x=y))),(17,.bool (neB A Q i||Q.any λy=>!decide (x=y))),(13,.vsl (A.map ia)),(14,.vsl (Q.map ia))],[]⟩:=(by rw[w7S,s1,s2]);obtain ⟨S2,hS2⟩ : ∃ S2,S2=w7S (A.map ia) (Q.map ia) (eqB A Q (i+1)) (neB A Q (i+1)) (i+1):=⟨_,rfl⟩;rw[<- hS2]at hw2;obtain ⟨E,hE⟩ : ∃ E,E=eqB A Q i:=⟨_,rfl⟩;obtain ⟨N,hN⟩ : ∃ N,N=neB A Q i:=⟨_,rfl⟩;rw[<- hE,<- hN]at hw2;have hw1:w7S (A.map ia) (Q.map ia) (eqB A Q i) (neB A Q i) i=⟨[(18,.int .i64 i),(16,.bool E),(17,.bool N),(13,.vsl (A.map ia)),(14,.vsl (Q.map ia))],[]⟩:=(by rw[w7S,<- hE,<- hN]);refine Qga ?_;simp -implicitDefEqProofs[hw1,hi]
   obtain ⟨eI,hE0,hE1,hE2⟩ : ∃ f:Nat->Bool,f 0=E/\(∀ j (hj:j<Q.length),f (j+1)=(f j||decide (x=Q[j])))/\f Q.length=(E||Q.any λy=>decide (x=y)) :=
    ⟨λj=>E||(Q.take j).any λy=>decide (x=y),by simp,λj hj=>by simp only[List.take_succ_eq_append_getElem hj,List.any_append];simp[Bool.or_assoc],by simp only[List.take_length]⟩
   obtain ⟨nI,hN0,hN1,hN2⟩ : ∃ f:Nat->Bool,f 0=N/\(∀ j (hj:j<Q.length),f (j+1)=(f j || !decide (x=Q[j])))/\f Q.length=(N||Q.any λy=>!decide (x=y)) :=
    ⟨λj=>N||(Q.take j).any λy=>!decide (x=y),by simp,λj hj=>by simp only[List.take_succ_eq_append_getElem hj,List.any_append];simp[Bool.or_assoc],by simp only[List.take_length]⟩
   refine Z9v (λj=>w7I (A.map ia) (Q.map ia) (eI j) (nI j) i j) (λ_=>True) Q.length ?_ trivial ?_ ?_
   . simp only[w7I,hE0,hN0]
     ((try simp only[ia]);refine Ym.sub (by simp[lk,Ya,AV.keys,ia]) ?_;simp only[ia,Wkl,and_true];(try simp[lk,Yc,Ya,AV.keys,ia]))
   . intro j hj _;have wj:IntKind.i64.wrap ((j:Int)+1)=(j:Int)+1:=Yf (by omega) (by omega);have t1:=hE1 j hj;have t2:=hN1 j hj;obtain ⟨y,hy⟩ : ∃ y,y=Q[j]:=⟨_,rfl⟩;rw[<- hy]at t1 t2;have hly:Q[j]=y:=hy.symm;clear hE1 hN1 hE2 hN2 hE0 hN0;refine Qga ?_
     cases e:eI j <;> cases n:nI j <;> by_cases q:x=y
     all_goals
      rw[e]at t1;rw[n]at t2;simp only[q,decide_true,decide_false,Bool.or_true,Bool.or_false,Bool.not_true,Bool.not_false]at t1 t2
      first
       |simp -implicitDefEqProofs[w7I,e,n,hi,hlx,hj,hly,q,ia,wj]
       |simp -implicitDefEqProofs[w7I,e,n,hi,hlx,hj,hly,Ne.symm q,ia,wj]
      refine ⟨rfl,?_⟩;simp only[w7I,t1,t2]
      ((try simp only[ia]);refine Ym.sub (by simp[lk,Ya,AV.keys,ia]) ?_;simp only[ia,Wkl,and_true];(try simp[lk,Yc,Ya,AV.keys,ia]))
   . intro _;refine Qga ?_;simp -implicitDefEqProofs[w7I,hE2,hN2];refine Qgr ?_;simp -implicitDefEqProofs[wi];rw[<- hS2,hw2]
     ((try simp only[ia]);refine Ym.sub (by simp[lk,Ya,AV.keys,ia]) ?_;simp only[ia,Wkl,and_true];(try simp[lk,Yc,Ya,AV.keys,ia]))
 . intro _;have z1:neB A Q A.length=A.any λx=>Q.any λy=>!decide (x=y):=by unfold neB;rw[List.take_length]
   have z2:eqB A Q A.length=A.any λx=>Q.any λy=>decide (x=y):=by unfold eqB;rw[List.take_length]
   rw[<- z1,<- z2]at hwv;generalize neB A Q A.length=n at *;generalize eqB A Q A.length=e at *;refine Qga ?_
   cases n
   . simp -implicitDefEqProofs[w7S];refine Qgr ?_;have hwv:w=0:=hwv;simp -implicitDefEqProofs[hwv]
   . cases e
     . simp -implicitDefEqProofs[w7S];refine Qgr ?_;have hwv:w=2:=hwv;simp -implicitDefEqProofs[hwv]
     . simp -implicitDefEqProofs[w7S];refine Qgr ?_;have hwv:w=1:=hwv;simp -implicitDefEqProofs[hwv]
end
def rfK (x:Rf):AV:=.agg [.int .i64 x.1,.int .i64 x.2]
def rfS (l:List Rf):List (AV×AV):=l.map λp=>(rfK p,.bool true)
theorem rf_eq (x p:Rf):(KK.ag [.i,.i]).eq (rfK x) (rfK p)=some (decide (x=p)):=by
 obtain ⟨a,b⟩:=x;obtain ⟨e,f⟩:=p;simp only[rfK,KK.eq,eqL,eq1,if_true,Prod.mk.injEq,Bool.and_true]
 congr 1
 by_cases h1:a=e <;> by_cases h2:b=f <;> simp[h1,h2]
theorem Zm5 (x:Rf):∀ l:List Rf,(KK.ag [.i,.i]).find (rfK x) (rfS l)=some (l.findIdx? λp=>decide (x=p))
 |[]=>rfl
 | p::r=>by
   have ih:=Zm5 x r;have e:rfS (p::r)=(rfK p,.bool true)::rfS r:=rfl;rw[e,KK.find,rf_eq,ih,List.findIdx?_cons];by_cases c:x=p
   . simp[c]
   . simp[c]
theorem rf_is (x:Rf):(KK.ag [.i,.i]).is (rfK x)=true:=rfl
theorem Zm6 (a b : Int) (l : List Rf):(KK.ag [.i,.i]).get (.agg [.int .i64 a,.int .i64 b]) (rfS l)=some (if (a,b)∈l then some (.bool true) else none):=by
 show (KK.ag [.i,.i]).get (rfK (a,b)) (rfS l)=_;unfold KK.get;rw[if_pos (rf_is (a,b)),Zm5]
 cases q:l.findIdx? λp=>decide ((a,b)=p) with
 | none =>
   rw[List.findIdx?_eq_none_iff]at q;have:(a,b) ∉ l:=λh=>by have:=q _ h;simp at this
   simp[this]
 | some j =>
   rw[List.findIdx?_eq_some_iff_getElem]at q;obtain ⟨h1,h2,-⟩:=q
   have h3 : (a, b) ∈ l := by have:(a,b)=l[j]:=by simpa using h2
                              rw[this];exact List.getElem_mem h1
   simp[rfS,h1,h3]
def addU (l:List Rf) (x:Rf):List Rf:=if x∈l then l else l++[x]
theorem Zm7 {l:List Rf} {x y:Rf}:y∈addU l x↔y∈l∨y=x:=by
 unfold addU
 split
 . rename_i h
   constructor
   . exact .inl
   . rintro (h1|rfl)
     . exact h1
     . exact h
 . simp
theorem Zm8 (a b:Int) (l:List Rf):(KK.ag [.i,.i]).put (.agg [.int .i64 a,.int .i64 b]) (.bool true) (rfS l)=some (rfS (addU l (a,b))):=by
 show (KK.ag [.i,.i]).put (rfK (a,b)) (.bool true) (rfS l)=_;unfold KK.put addU;rw[if_pos (rf_is (a,b)),Zm5]
 cases q:l.findIdx? λp=>decide ((a,b)=p) with
 | none =>
   rw[List.findIdx?_eq_none_iff]at q;have:(a,b) ∉ l:=λh=>by have:=q _ h;simp at this
   rw[if_neg this];simp[rfS]
 | some j =>
   rw[List.findIdx?_eq_some_iff_getElem]at q;obtain ⟨h1,h2,-⟩:=q;have h4:(a,b)=l[j]:=(by simpa using h2);have h3:(a,b)∈l:=(by rw[h4];exact List.getElem_mem h1);rw[if_pos h3];have:(rfS l)[j]? = some (rfK (a,b),.bool true):=(by simp[rfS,h1,<- h4]);obtain ⟨g1,g2⟩:=List.getElem?_eq_some_iff.1 this;simp only[Option.some.injEq];rw[<- g2,List.set_getElem_self]
theorem Zm9 (o:List (Nat×AObj)) (l:List Rf):Yc o (.mp (rfS l))=true:=by
 simp only[Yc,List.all_eq_true,rfS,List.mem_map];rintro x ⟨y,-,rfl⟩;simp[rfK,Ya,AV.keys]
theorem Zma (ρ:Nat->Nat) (l:List Rf):AObj.ren ρ (.mp (rfS l)) = .mp (rfS l):=by
 simp[AObj.ren,rfS,rfK,AV.ren,Function.comp_def]
theorem Zmb (ok:Nat->Bool) (st:St) (l:List Rf):frzO ok st (.mp (rfS l)) = .mp (rfS l):=by
 simp[frzO,rfS,rfK,frzA,frz,AV.keys,Function.comp_def]
def thP (id:Int) (x:Prt):Bool:=decide (x.ho=id)&&decide (x.lo=0)
def thK (id:Int) (L:List Prt) (k:Nat):List Rf:=(L.take k).foldl (λa x=>if thP id x=true then addU a (x.dw,x.lt) else a) []
theorem Zmc {id:Int} {L:List Prt} {k:Nat} (h:k<L.length):thK id L (k+1)=if thP id L[k]=true then addU (thK id L k) (L[k].dw,L[k].lt) else thK id L k:=by
 unfold thK;rw[List.take_succ_eq_append_getElem h,List.foldl_append];rfl
theorem Zmd {id:Int} {L:List Prt} {y:Rf}:∀ k,k<=L.length->(y∈thK id L k↔∃ x∈L.take k,thP id x=true/\(x.dw,x.lt)=y)
 |0,_=>by simp[thK]
 | k + 1,h=>by
   have ih:=Zmd (id:=id) (L:=L) (y:=y) k (by omega);rw[Zmc (by omega:k<L.length),List.take_succ_eq_append_getElem (by omega:k<L.length)]
   constructor
   . intro hy
     split at hy
     . rename_i c;rcases Zm7.1 hy with hy|rfl
       . obtain ⟨x,h1,h2⟩:=ih.1 hy;exact ⟨x,List.mem_append_left _ h1,h2⟩
       . exact ⟨_,List.mem_append_right _ (List.mem_singleton.2 rfl),c,rfl⟩
     . obtain ⟨x,h1,h2⟩:=ih.1 hy;exact ⟨x,List.mem_append_left _ h1,h2⟩
   . rintro ⟨x,h1,h2,h3⟩;rcases List.mem_append.1 h1 with h1|h1
     . have:=ih.2 ⟨x,h1,h2,h3⟩
       split
       . exact Zm7.2 (.inl this)
       . exact this
     . rw[List.mem_singleton]at h1;subst h1;rw[if_pos h2,h3];exact Zm7.2 (.inr rfl)
theorem Zme {ps:List Prt} {day id d n:Int}:decide ((d,n)∈thK id (outP ps day) (outP ps day).length)=Zju ps day id d n:=by
 rw[Bool.eq_iff_iff,decide_eq_true_eq,Zmd _ (Nat.le_refl _),List.take_length];unfold Zju outP;rw[List.any_eq_true]
 constructor
 . rintro ⟨x,h1,h2,h3⟩;obtain ⟨h4,h5⟩:=List.mem_filter.1 h1;simp only[thP,Bool.and_eq_true,decide_eq_true_eq]at h2;simp only[Prod.mk.injEq]at h3;exact ⟨x,h4,by simp[herB,h5,h2,h3]⟩
 . rintro ⟨x,h1,h2⟩;simp only[herB,Bool.and_eq_true,decide_eq_true_eq]at h2;obtain ⟨⟨⟨⟨h3,h4⟩,h5⟩,h6⟩,h7⟩:=h2;exact ⟨x,List.mem_filter.2 ⟨h1,h4⟩,by simp[thP,h3,h7],by rw[h5,h6]⟩
def misI (l:List Nte) (hs:List Hld) (ps:List Prt) (day id:Int):List Rf:=match hoF hs id with
 |some h=>misL l h ps day
 |none=>[]
def msE (r:List Iss) (l:List Nte) (hs:List Hld) (ps:List Prt) (day id:Int):List Rf:=if ab7 r l hs ps day 1 id []=0 then misI l hs ps day id else []
def msA (r:List Iss) (l:List Nte) (hs:List Hld) (ps:List Prt) (day id:Int):AV:=.tup [Yg ((msE r l hs ps day id).map ita),.int .i64 (ab7 r l hs ps day 1 id [])]
def rlV (k:Nat) (S:List Rf):AV:=if S=[] then .nils else .osl k S.length
def rlO (k:Nat) (S:List Rf):List (Nat×AObj):=if S=[] then [] else [(k,.row 2 (S.map ita))]
def msB (id:Int) (W:List Rf):List (Nat×AObj):=[(1005,.box [.int .i64 id]),(1010,.box [.mp 1029]),(1029,.mp (rfS W))]
def mi1 (W:List Rf) (d:Int) (P:List Int) (q:Nat):List Rf:=((P.take q).filter λn=>!decide ((d,n)∈W)).map λn=>(d,n)
def miK (W:List Rf) (f:Int->List Int) (D:List Int) (i:Nat):List Rf:=(D.take i).flatMap λd=>mi1 W d (f d) (f d).length
theorem Zmf {W:List Rf} {f:Int->List Int} {D:List Int} {i:Nat} (h:i<D.length):miK W f D (i+1)=miK W f D i++mi1 W D[i] (f D[i]) (f D[i]).length:=by
 unfold miK;rw[List.take_succ_eq_append_getElem h,List.flatMap_append];simp
theorem Zmg {W:List Rf} {d:Int} {P:List Int} {q:Nat}:(mi1 W d P q).length<=P.length:=by
 unfold mi1;rw[List.length_map];exact Nat.le_trans (List.length_filter_le ..) (by simp;omega)
theorem Zmh {W:List Rf} {d:Int} {P:List Int} {q:Nat} (h:q<P.length):mi1 W d P (q+1)=if (d,P[q])∈W then mi1 W d P q else mi1 W d P q++[(d,P[q])]:=by
 unfold mi1;rw[List.take_succ_eq_append_getElem h,List.filter_append,List.map_append];by_cases c:(d,P[q])∈W
 . simp[c]
 . simp[c]
theorem Zmi {W:List Rf} {f:Int->List Int} {D:List Int} (hf:∀ d,(f d).length<=8):∀ i,(miK W f D i).length<=8*i
 |0=>by simp[miK]
 | i + 1=>by
   have:=Zmi (W:=W) (D:=D) hf i;by_cases h:i<D.length
   . rw[Zmf h,List.length_append];have:=Zmg (W:=W) (d:=D[i]) (P:=f D[i]) (q:=(f D[i]).length);have:=hf D[i];omega
   . have e:miK W f D (i+1)=miK W f D i:=(by unfold miK;rw[List.take_of_length_le (by omega),List.take_of_length_le (by omega)]);rw[e];omega
def ms1 (O:AV) (id:Int) (W:List Rf) (D:List Int) (U:List Rf) (i:Nat):St :=
 ⟨[(59,.int .i64 i),(58,.int .i64 D.length),(57,.vsl (D.map ia)),(13,rlV 82 U),(8,O),(5,.ptr 5 0),(10,.ptr 10 0)],[(5,.box [.int .i64 id]),(10,.box [.mp 29]),(29,.mp (rfS W))]++rlO 82 U⟩
def ms2 (O:AV) (id:Int) (W:List Rf) (D:List Int) (d:Int) (P:List Int) (U:List Rf) (i q:Nat):St :=
 ⟨[(68,.int .i64 q),(67,.int .i64 P.length),(66,.vsl (P.map ia)),(15,.int .i64 d),(59,.int .i64 i),(58,.int .i64 D.length),(57,.vsl (D.map ia)),(13,rlV 82 U),(8,O),(5,.ptr 5 0),(10,.ptr 10 0)],[(5,.box [.int .i64 id]),(10,.box [.mp 29]),(29,.mp (rfS W))]++rlO 82 U⟩
section
variable {G:Nat->Option (List AV)}
set_option maxHeartbeats 4000000 in
theorem Zmj (hG:GC G) (hN:GN G) (hP:GP G) (r:List Iss) (l:List Nte) (hs:List Hld) (ps:List Prt) (day id:Int) (hl:WfN l) (hr:Wf r) (hd:Sml (nums r)) (hw:WfP hs ps) :
  PC Tryz.prog G 29 [prA r l hs ps,.int .i64 day,.int .i64 id] (msA r l hs ps day id):=by
 have ha0:=Zj7 hG hN hP r l hs ps day 1 id [] hl hr hd hw (by simp[Sml]);have ha:=PC.sub ha0 (xs:=[prA r l hs ps,.int .i64 day,.int .i64 1,.int .i64 id,.nils]) ⟨.rfl',.rfl',.rfl',.rfl',.nils,trivial⟩;have pO:=Zie r l hs ps;unfold abP at ha;unfold msA msE;by_cases h0:ab7 r l hs ps day 1 id []=0
 case neg =>
  rw[if_neg h0]at ha ⊢;unfold prA at *
  (refine Z5m rfl λR hG hrd=>Qga ?_;subst hG)
  simp -implicitDefEqProofs[Z5k,Z5l];refine Qco (ha) (by simp) ?_;simp -implicitDefEqProofs[h0,Yg]
 obtain ⟨q1,q2,-⟩:=ZkU h0;have k0:=(ZkT q1).1;rw[if_pos h0,h0]at ha;rw[if_pos h0,h0];have hhl:=hw.hl;have c1:=Ziz (G:=G) r l hs ps id (by unfold Sml;omega);obtain ⟨k,hk,e1,e2⟩:=ZlG q2;rw[e1]at c1;have hdl:=hw.dl _ (List.getElem_mem hk);have hds:=ZlW k0 (List.getElem_mem hk);obtain ⟨h,hh⟩ : ∃ h,h=hs[k]:=⟨_,rfl⟩;rw[<- hh]at hdl hds e2;have hlk:hs[k]=h:=hh.symm;have hid:h.id=id:=(Zid e2).2;have hop:=Zj3 (Zj2.1 k0).1;have hB:=Zg8 (Zj2.1 k0).1;have eN:∀ d,ndI l hs id d=ndsL l h d:=λd=>by unfold ndI;rw[e2]
 have c2:=λd (hm:d∈h.ds)=>ZlV hG hN r l hs ps id d hl hr hd hw k0 q2 (hds d hm)
 simp only[eN]at c2;have hnn:∀ d,d∈h.ds->ndsL l h d≠[]:=λd hm=>Zi8 hop hB (hds d hm) hm
 have hn8:∀ d,(ndsL l h d).length<=8:=λd=>by
  unfold ndsL
  split
  . exact Nat.le_trans (List.length_filter_le ..) (Nat.le_refl _)
  . simp
 have hmi:misI l hs ps day id=miK (thK id (outP ps day) (outP ps day).length) (ndsL l h) h.ds h.ds.length:=by
  unfold misI miK misL mi1;rw[e2];simp only[List.take_length,hid,Zme]
 rw[hmi];clear hmi;have hO:=ZjB (G:=G) r l hs ps day;have hit:=outIt (G:=G) r l hs ps day hw.pl;have eNl:=Zil ps day;have hat:=λk x h=>Zim (ps:=ps) (day:=day) (k:=k) (x:=x) h
 have hL:(outP ps day).length<=41:=Nat.le_trans (List.length_filter_le ..) hw.pl;have hho:hoa h=[.int .i64 h.id,.int .i64 h.fr,.int .i64 h.to,.vsl (h.ds.map ia)]:=rfl;have kO:=Zif r l hs ps;have fO:∀ ok st,frz ok st 6 (ofA r l hs ps)=some (ofA r l hs ps):=λok st=>by unfold ofA;simp[frz,AV.keys]
 have eO:ofA r l hs ps = .vptr [.vsl (r.map isa),.vsl (l.map na),.vsl (hs.map hoa),.vsl (ps.map ptA),.vsl ((nums r).map ia)] 0:=rfl;unfold prA at *;generalize outP ps day=L at *;generalize outE ps day=E at *;obtain ⟨O,hOe⟩ : ∃ O,O=ofA r l hs ps:=⟨_,rfl⟩;rw[<- hOe]at pO kO fO eO c1 ha hO hit;simp only[<- hOe]at c2;clear hOe;refine Z5m rfl λR hG' hrd=>?_
 subst hG';refine Qga ?_;simp -implicitDefEqProofs[Z5k,Z5l];refine Qco (ha) (by simp) ?_;simp -implicitDefEqProofs[];refine Yd.of hO (by simp[pO,AV.pure]) ?_;simp -implicitDefEqProofs[]
 refine ZiI hrd (by decide) hit (by simp[evA,St.tmp,lk]) (by simp[AV.pure,pO]) (λk=>k == 12) (by intro k hk;simp at hk;omega) r1K [(5,.ptr 1005 0),(10,.ptr 1010 0)]
  (λk=>msB id (thK id L k)) (λk=>msB id (thK id L (k+1))) (λk=>k<=L.length) (Nat.zero_le _) ?_ ?_ ?_ ?_ ?_ ?_ ?_ ?_ ?_ ?_ ?_
 . intro k q hq;simp[msB]at hq;rcases hq with rfl|rfl|rfl <;> simp
 . intro k;simp[msB,r1K]
 . intro k;simp[msB,r1K]
 . intro k q hq;simp[msB]at hq ⊢;rcases hq with rfl|rfl|rfl <;> simp[isK,lk]
 . intro k q hq;simp[msB]at hq ⊢;rcases hq with rfl|rfl|rfl <;> exact .inl (by simp[isK,lk])
 . intro k;rfl
 . have e0:thK id L 0=[]:=rfl;have e1:rfS []=[]:=rfl;simp[msB,e0,e1,Yl,r1K,St.set,putO,AObj.ren,AV.ren]
 . intro k q hq;simp[msB]at hq;rcases hq with rfl|rfl|rfl
   . simp[Yc,Ya,AV.keys]
   . simp[msB,Yc,Ya,AV.keys,lk]
   . exact Zm9 _ _
 . intro q hq;simp at hq;rcases hq with rfl|rfl
   all_goals
    refine ⟨by simp[lk,AV.ren,r1K],by simp,by simp,λj k hk=>?_⟩;simp[AV.keys]at hk;subst hk;simp[msB,isK,lk]
 . intro k x hx hk R' hG'' hN'';obtain ⟨i,hkl,rfl⟩:=hat k x hx;have sc:=Zmc (id:=id) hkl;obtain ⟨y,hy⟩ : ∃ y,y=L[k]:=⟨_,rfl⟩;rw[<- hy]at sc ⊢;have hpt:ptA y=[.int .i64 y.no,.int .i64 y.dy,.int .i64 y.ho,.int .i64 y.dw,.int .i64 y.lt,.int .i64 y.bk,.int .u8 y.lo]:=rfl;generalize thK id L k=W at *;generalize thK id L (k+1)=T at *;refine Qga ?_;simp -implicitDefEqProofs[msB,hpt];intro R'' hG3 hN3;refine Qga ?_;by_cases q1:y.ho=id
   case neg =>
    have sc:T=W:=(by rw[sc];simp[thP,q1]);simp -implicitDefEqProofs[hpt,q1];refine ⟨?_,by omega⟩;simp[sc,Yi,ZfE,Zmb,frzA,frz,AV.keys]
   by_cases q3:y.lo=0
   . have sc:T=addU W (y.dw,y.lt):=(by rw[sc];simp[thP,q1,q3]);simp -implicitDefEqProofs[hpt,q1,q3,Zm8];refine ⟨?_,by omega⟩;simp[sc,Yi,ZfE,Zmb,frzA,frz,AV.keys]
   . have sc:T=W:=(by rw[sc];simp[thP,q3]);simp -implicitDefEqProofs[hpt,q1,q3];refine ⟨?_,by omega⟩;simp[sc,Yi,ZfE,Zmb,frzA,frz,AV.keys]
 . intro _;rw[eNl];generalize thK id L L.length=W at *;simp -implicitDefEqProofs[msB,Yl,r1K,AV.ren,Zgq,Zma];refine Qgr ?_;simp -implicitDefEqProofs[eO];rw[<- eO];refine Ye.of c1 (by simp[pO,AV.pure]) ?_;simp -implicitDefEqProofs[hk,hlk,hho];refine ⟨rfl,?_⟩;generalize hDe:h.ds=D at *;obtain ⟨f,hf⟩ : ∃ f,f=ndsL l h:=⟨_,rfl⟩;rw[<- hf]at c2 hnn hn8 ⊢;clear hf;refine Z9v (λi=>ms1 O id W D (miK W f D i) i) (λ_=>True) D.length ?_ trivial ?_ ?_
   . have e0:miK W f D 0=[]:=rfl;simp only[ms1,e0,rlV,rlO,if_true,List.append_nil]
     ((try simp only[kO]);refine Ym.sub (by simp[lk,Ya,AV.keys,kO]) ?_;simp only[kO,Wkl,Zm9,and_true];(try simp[lk,Yc,Ya,AV.keys,kO]))
   . intro i hi _;have wi:IntKind.i64.wrap ((i:Int)+1)=(i:Int)+1:=Yf (by omega) (by omega);have sc:=Zmf (W:=W) (f:=f) hi;have hle:=Zmi (W:=W) (D:=D) hn8 i;obtain ⟨d,hde⟩ : ∃ d,d=D[i]:=⟨_,rfl⟩;have hm:d∈D:=(by rw[hde];exact List.getElem_mem hi);rw[<- hde]at sc;have hld:D[i]=d:=hde.symm;have c2:=c2 d hm;have hnn:=hnn d hm;have hn8:=hn8 d;obtain ⟨P,hPe⟩ : ∃ P,P=f d:=⟨_,rfl⟩;rw[<- hPe]at c2 hnn hn8 sc;have oP:Yg (P.map ia) = .vsl (P.map ia):=(by unfold Yg;rw[if_neg (by simpa using hnn)]);rw[oP]at c2;obtain ⟨U,hU⟩ : ∃ U,U=miK W f D i:=⟨_,rfl⟩;obtain ⟨U2,hU2⟩ : ∃ U2,U2=miK W f D (i+1):=⟨_,rfl⟩;rw[<- hU]at sc hle;rw[<- hU2]at sc;have hw2:ms1 O id W D (miK W f D (i+1)) (i+1)=⟨[(59,.int .i64 (i+1:Nat)),(58,.int .i64 D.length),(57,.vsl (D.map ia)),(13,rlV 82 U2),(8,O),(5,.ptr 5 0),(10,.ptr 10 0)],[(5,.box [.int .i64 id]),(10,.box [.mp 29]),(29,.mp (rfS W))]++rlO 82 U2⟩:=(by rw[ms1,<- hU2]);obtain ⟨S2,hS2⟩ : ∃ S2,S2=ms1 O id W D (miK W f D (i+1)) (i+1):=⟨_,rfl⟩;rw[<- hS2]at hw2;have hw1:ms1 O id W D (miK W f D i) i=⟨[(59,.int .i64 i),(58,.int .i64 D.length),(57,.vsl (D.map ia)),(13,rlV 82 U),(8,O),(5,.ptr 5 0),(10,.ptr 10 0)],[(5,.box [.int .i64 id]),(10,.box [.mp 29]),(29,.mp (rfS W))]++rlO 82 U⟩:=(by rw[ms1,<- hU]);by_cases cU:U=[]
     case' pos =>
      have hV:rlV 82 U = .nils:=(by simp[rlV,cU]);have hQ:rlO 82 U=[]:=by simp[rlO,cU]
     case' neg =>
      have hV:rlV 82 U = .osl 82 U.length:=(by simp[rlV,cU]);have hQ:rlO 82 U=[(82,.row 2 (U.map ita))]:=by simp[rlO,cU]
     all_goals
      refine Qga ?_;simp -implicitDefEqProofs[hw1,hV,hQ,hi,ia,hld];refine Yd.of c2 (by simp[pO,AV.pure]) ?_;simp -implicitDefEqProofs[];refine Z9v (λq=>ms2 O id W D d P (U++mi1 W d P q) i q) (λ_=>True) P.length ?_ trivial ?_ ?_
      . have e0:mi1 W d P 0=[]:=rfl;simp only[ms2,e0,List.append_nil,hV,hQ]
        ((try simp only[kO]);refine Ym.sub (by simp[lk,Ya,AV.keys,kO]) ?_;simp only[kO,Wkl,Zm9,Zgm,and_true];(try simp[lk,Yc,Ya,AV.keys,kO]))
      . intro q hq _;have wq:IntKind.i64.wrap ((q:Int)+1)=(q:Int)+1:=Yf (by omega) (by omega);have so:=Zmh (W:=W) (d:=d) hq;have hl2:=Zmg (W:=W) (d:=d) (P:=P) (q:=q);obtain ⟨n,hn⟩ : ∃ n,n=P[q]:=⟨_,rfl⟩;rw[<- hn]at so;have hln:P[q]=n:=hn.symm;obtain ⟨S,hS⟩ : ∃ S,S=U++mi1 W d P q:=⟨_,rfl⟩;obtain ⟨T,hT⟩ : ∃ T,T=U++mi1 W d P (q+1):=⟨_,rfl⟩;have hSl:S.length<=8*i+8:=(by rw[hS,List.length_append];omega);have bb:(S.length+1)*16<=70368744177664:=(by omega);have hv1:ms2 O id W D d P (U++mi1 W d P q) i q=⟨[(68,.int .i64 q),(67,.int .i64 P.length),(66,.vsl (P.map ia)),(15,.int .i64 d),(59,.int .i64 i),(58,.int .i64 D.length),(57,.vsl (D.map ia)),(13,rlV 82 S),(8,O),(5,.ptr 5 0),(10,.ptr 10 0)],[(5,.box [.int .i64 id]),(10,.box [.mp 29]),(29,.mp (rfS W))]++rlO 82 S⟩:=(by rw[ms2,<- hS]);have hv2:ms2 O id W D d P (U++mi1 W d P (q+1)) i (q+1)=⟨[(68,.int .i64 (q+1:Nat)),(67,.int .i64 P.length),(66,.vsl (P.map ia)),(15,.int .i64 d),(59,.int .i64 i),(58,.int .i64 D.length),(57,.vsl (D.map ia)),(13,rlV 82 T),(8,O),(5,.ptr 5 0),(10,.ptr 10 0)],[(5,.box [.int .i64 id]),(10,.box [.mp 29]),(29,.mp (rfS W))]++rlO 82 T⟩:=(by rw[ms2,<- hT]);by_cases cS:S=[]
        case' pos =>
         have hVS:rlV 82 S = .nils:=(by simp[rlV,cS]);have hQS:rlO 82 S=[]:=by simp[rlO,cS]
        case' neg =>
         have hVS:rlV 82 S = .osl 82 S.length:=(by simp[rlV,cS]);have hQS:rlO 82 S=[(82,.row 2 (S.map ita))]:=by simp[rlO,cS]
        all_goals
         refine Qga ?_;by_cases c:(d,n)∈W
         . rw[if_pos c]at so;have e:T=S:=(by rw[hT,hS,so]);simp -implicitDefEqProofs[hv1,hVS,hQS,hq,ia,hln,Zm6,c,wq];rw[hv2,e,hVS,hQS]
           ((try simp only[kO]);refine Ym.sub (by simp[lk,Ya,AV.keys,kO]) ?_;simp only[kO,Wkl,Zm9,Zgm,and_true];(try simp[lk,Yc,Ya,AV.keys,kO]))
         . rw[if_neg c]at so;have e:T=S++[(d,n)]:=(by rw[hT,hS,so,List.append_assoc]);have hne:¬T=[]:=(by rw[e];simp);have em:T.map ita=S.map ita++[[.int .i64 d,.int .i64 n]]:=(by rw[e,List.map_append];rfl);have eT:T.length=S.length+1:=(by rw[e];simp);have hVT:rlV 82 T = .osl 82 (S.length+1):=(by simp[rlV,hne,eT]);have hQT:rlO 82 T=[(82,.row 2 (T.map ita))]:=(by simp[rlO,hne]);simp -implicitDefEqProofs[hv1,hVS,hQS,hq,ia,hln,Zm6,c,wq,bb];rw[hv2,hVT,hQT]
           first
            |(rw[em,cS];((try simp only[kO]);refine Ym.sub (by simp[lk,Ya,AV.keys,kO]) ?_;simp only[kO,Wkl,Zm9,and_true];(try simp[lk,Yc,Ya,AV.keys,kO]));done)
            |(rw[<- em];((try simp only[kO,eT]);refine Ym.sub (by simp[lk,Ya,AV.keys,kO,eT]) ?_;simp only[kO,eT,Wkl,Zm9,Zgm,and_true];(try simp[lk,Yc,Ya,AV.keys,kO,eT]));done)
      . intro _;rw[<- sc];refine Qga ?_;simp -implicitDefEqProofs[ms2];refine Qgr ?_;simp -implicitDefEqProofs[wi];rw[<- hS2,hw2];unfold rlV rlO
        split
        . ((try simp only[kO]);refine Ym.sub (by simp[lk,Ya,AV.keys,kO]) ?_;simp only[kO,Wkl,Zm9,and_true];(try simp[lk,Yc,Ya,AV.keys,kO]))
        . ((try simp only[kO]);refine Ym.sub (by simp[lk,Ya,AV.keys,kO]) ?_;simp only[kO,Wkl,Zm9,Zgm,and_true];(try simp[lk,Yc,Ya,AV.keys,kO]))
   . intro _;obtain ⟨U,hU⟩ : ∃ U,U=miK W f D D.length:=⟨_,rfl⟩;rw[<- hU];refine Qga ?_;by_cases cU:U=[]
     . have hV:rlV 82 U = .nils:=(by simp[rlV,cU]);have hQ:rlO 82 U=[]:=(by simp[rlO,cU]);simp -implicitDefEqProofs[ms1,<- hU,hV,hQ];refine Qgr ?_;simp -implicitDefEqProofs[Yg,cU]
     . have hV:rlV 82 U = .osl 82 U.length:=(by simp[rlV,cU]);have hQ:rlO 82 U=[(82,.row 2 (U.map ita))]:=(by simp[rlO,cU]);simp -implicitDefEqProofs[ms1,<- hU,hV,hQ];refine Qgr ?_;simp -implicitDefEqProofs[Yg,cU,ita]
end
def mt1 (B:List AV) (day id:Int) (D:List Int) (U:List Rf) (i:Nat):St :=
 ⟨[(11,.int .i64 i),(10,.vsl (D.map ia)),(9,rlV 103 U),(3,.ptr 3 0),(1,.int .i64 day),(2,.int .i64 id)],(3,.box B)::rlO 103 U⟩
def mt2 (B:List AV) (day id:Int) (D:List Int) (P:List Int) (U:List Rf) (i q:Nat):St :=
 ⟨[(13,.int .i64 q),(12,.vsl (P.map ia)),(11,.int .i64 i),(10,.vsl (D.map ia)),(9,rlV 103 U),(3,.ptr 3 0),(1,.int .i64 day),(2,.int .i64 id)],(3,.box B)::rlO 103 U⟩
def mt3 (B:List AV) (day id:Int) (D:List Int) (P:List Int) (V:AV) (Q:List (Nat×AObj)) (d n:Int) (e:Bool) (i q j:Nat):St :=
 ⟨[(16,.int .i64 j),(15,.bool e),(14,.ptr 14 0),(13,.int .i64 q),(12,.vsl (P.map ia)),(11,.int .i64 i),(10,.vsl (D.map ia)),(9,V),(3,.ptr 3 0),(1,.int .i64 day),(2,.int .i64 id)],(14,.box [.int .i64 d,.int .i64 n])::(3,.box B)::Q⟩
section
variable {G:Nat->Option (List AV)}
set_option maxHeartbeats 8000000 in
theorem Zmk (r:List Iss) (l:List Nte) (hs:List Hld) (ps:List Prt) (day id:Int) (hl:WfN l) (hr:Wf r) (hd:Sml (nums r)) (hw:WfP hs ps) :
  PC Tryz.prog G 30 [prA r l hs ps,.int .i64 day,.int .i64 id] (msA r l hs ps day id):=by
 have cS:=ZkX (G:=G) r l hs ps hr.1.1;have ha:=ZkV (G:=G) r l hs ps day 1 id (someD r) hl hr hd hw;rw[Zl6]at ha;unfold msA msE;by_cases h0:ab7 r l hs ps day 1 id []=0
 case neg =>
  rw[if_neg h0];unfold prA at *
  (refine Z5p rfl λR hG hrd=>Qga ?_;subst hG)
  simp -implicitDefEqProofs[Z5n,Z5o];refine Ye.of cS (by simp[AV.pure,isa,na,hoa,ptA]) ?_;simp -implicitDefEqProofs[];refine Ye.of ha (by simp[AV.pure,isa,na,hoa,ptA]) ?_;simp -implicitDefEqProofs[];refine ⟨rfl,?_⟩;simp -implicitDefEqProofs[h0,Yg]
 obtain ⟨q1,q2,-⟩:=ZkU h0;have k0:=(ZkT q1).1;rw[h0]at ha;rw[if_pos h0,h0];have hhl:=hw.hl;have hpl:=hw.pl;have c1:=ZkM (G:=G) r l hs ps id (by unfold Sml;omega);obtain ⟨k,hk,e1,e2⟩:=ZlG q2;rw[e1]at c1;have hdl:=hw.dl _ (List.getElem_mem hk);have hds:=ZlW k0 (List.getElem_mem hk);obtain ⟨h,hh⟩ : ∃ h,h=hs[k]:=⟨_,rfl⟩;rw[<- hh]at hdl hds e2;have hlk:hs[k]=h:=hh.symm;have hid:h.id=id:=(Zid e2).2;have hop:=Zj3 (Zj2.1 k0).1;have hB:=Zg8 (Zj2.1 k0).1;have eN:∀ d,ndI l hs id d=ndsL l h d:=λd=>by unfold ndI;rw[e2]
 have c2:=λd (hm:d∈h.ds)=>ZlQ (G:=G) r l hs ps id d hl hr hd hw k0 q2 (hds d hm)
 simp only[eN]at c2;have c4:=λx=>ZkN (G:=G) x day
 have hnn:∀ d,d∈h.ds->ndsL l h d≠[]:=λd hm=>Zi8 hop hB (hds d hm) hm
 have hn8:∀ d,(ndsL l h d).length<=8:=λd=>by
  unfold ndsL
  split
  . exact Nat.le_trans (List.length_filter_le ..) (Nat.le_refl _)
  . simp
 have hmi:misI l hs ps day id=miK (thK id (outP ps day) (outP ps day).length) (ndsL l h) h.ds h.ds.length:=by
  unfold misI miK misL mi1;rw[e2];simp only[List.take_length,hid,Zme]
 rw[hmi];clear hmi;have hth:∀ d n,decide ((d,n)∈thK id (outP ps day) (outP ps day).length)=Zju ps day id d n:=λd n=>Zme
 have hho:hoa h=[.int .i64 h.id,.int .i64 h.fr,.int .i64 h.to,.vsl (h.ds.map ia)]:=rfl;obtain ⟨B,hB'⟩ : ∃ B:List AV,B=[.vsl (r.map isa),.vsl (l.map na),.vsl (hs.map hoa),.vsl (ps.map ptA)]:=⟨_,rfl⟩;have b3:B[3]? = some (.vsl (ps.map ptA)):=(by rw[hB'];rfl);have pB:B.all AV.pure=true:=(by rw[hB'];simp[AV.pure,isa,na,hoa,ptA]);unfold prA at *;generalize thK id (outP ps day) (outP ps day).length=W at *;generalize hDe:h.ds=D at *;obtain ⟨f,hf⟩ : ∃ f,f=ndsL l h:=⟨_,rfl⟩;rw[<- hf]at c2 hnn hn8 ⊢;clear hf;refine Z5p rfl λR hG' hrd=>?_
 subst hG';refine Qga ?_;simp -implicitDefEqProofs[Z5n,Z5o];refine Ye.of cS (by simp[AV.pure,isa,na,hoa,ptA]) ?_;simp -implicitDefEqProofs[];refine Ye.of ha (by simp[AV.pure,isa,na,hoa,ptA]) ?_;simp -implicitDefEqProofs[];refine ⟨rfl,?_⟩;refine Ye.of c1 (by simp[AV.pure,isa,na,hoa,ptA]) ?_;simp -implicitDefEqProofs[hk,hlk,hho,hDe];refine ⟨rfl,?_⟩;rw[<- hB'];refine Z9v (λi=>mt1 B day id D (miK W f D i) i) (λ_=>True) D.length ?_ trivial ?_ ?_
 . have e0:miK W f D 0=[]:=rfl;simp only[mt1,e0,rlV,rlO,if_true]
   ((try simp only[hB',ia]);refine Ym.sub (by simp[lk,Ya,AV.keys,hB',ia]) ?_;simp only[hB',ia,Wkl,and_true];(try simp[lk,Yc,Ya,AV.keys,hB',ia]))
 . intro i hi _;have wi:IntKind.i64.wrap ((i:Int)+1)=(i:Int)+1:=Yf (by omega) (by omega);have sc:=Zmf (W:=W) (f:=f) hi;have hle:=Zmi (W:=W) (D:=D) hn8 i;obtain ⟨d,hde⟩ : ∃ d,d=D[i]:=⟨_,rfl⟩;have hm:d∈D:=(by rw[hde];exact List.getElem_mem hi);rw[<- hde]at sc;have hld:D[i]=d:=hde.symm;have c2:=c2 d hm;have hnn:=hnn d hm;have hn8:=hn8 d;obtain ⟨P,hPe⟩ : ∃ P,P=f d:=⟨_,rfl⟩;rw[<- hPe]at c2 hnn hn8 sc;have oP:Yg (P.map ia) = .vsl (P.map ia):=(by unfold Yg;rw[if_neg (by simpa using hnn)]);rw[oP]at c2;obtain ⟨U,hU⟩ : ∃ U,U=miK W f D i:=⟨_,rfl⟩;obtain ⟨U2,hU2⟩ : ∃ U2,U2=miK W f D (i+1):=⟨_,rfl⟩;rw[<- hU]at sc hle;rw[<- hU2]at sc;have hw2:mt1 B day id D (miK W f D (i+1)) (i+1)=⟨[(11,.int .i64 (i+1:Nat)),(10,.vsl (D.map ia)),(9,rlV 103 U2),(3,.ptr 3 0),(1,.int .i64 day),(2,.int .i64 id)],(3,.box B)::rlO 103 U2⟩:=(by rw[mt1,<- hU2]);obtain ⟨S2,hS2⟩ : ∃ S2,S2=mt1 B day id D (miK W f D (i+1)) (i+1):=⟨_,rfl⟩;rw[<- hS2]at hw2;have hw1:mt1 B day id D (miK W f D i) i=⟨[(11,.int .i64 i),(10,.vsl (D.map ia)),(9,rlV 103 U),(3,.ptr 3 0),(1,.int .i64 day),(2,.int .i64 id)],(3,.box B)::rlO 103 U⟩:=(by rw[mt1,<- hU]);by_cases cU:U=[]
   case' pos =>
    have hV:rlV 103 U = .nils:=(by simp[rlV,cU]);have hQ:rlO 103 U=[]:=by simp[rlO,cU]
   case' neg =>
    have hV:rlV 103 U = .osl 103 U.length:=(by simp[rlV,cU]);have hQ:rlO 103 U=[(103,.row 2 (U.map ita))]:=by simp[rlO,cU]
   all_goals
    refine Qga ?_;simp -implicitDefEqProofs[hw1,hV,hQ,hi,ia,hld];simp -implicitDefEqProofs[hB',hi,ia,hld];refine Ye.of c2 (by simp[AV.pure,isa,na,hoa,ptA]) ?_;simp -implicitDefEqProofs[];refine ⟨rfl,?_⟩;rw[<- hB'];refine Z9v (λq=>mt2 B day id D P (U++mi1 W d P q) i q) (λ_=>True) P.length ?_ trivial ?_ ?_
    . have e0:mi1 W d P 0=[]:=rfl;simp only[mt2,e0,List.append_nil,hV,hQ]
      ((try simp only[hB',ia]);refine Ym.sub (by simp[lk,Ya,AV.keys,hB',ia]) ?_;simp only[hB',ia,Wkl,Zgm,and_true];(try simp[lk,Yc,Ya,AV.keys,hB',ia]))
    . intro q hq _;have wq:IntKind.i64.wrap ((q:Int)+1)=(q:Int)+1:=Yf (by omega) (by omega);have so:=Zmh (W:=W) (d:=d) hq;have hl2:=Zmg (W:=W) (d:=d) (P:=P) (q:=q);obtain ⟨n,hn⟩ : ∃ n,n=P[q]:=⟨_,rfl⟩;rw[<- hn]at so;have hln:P[q]=n:=hn.symm;have hth:=hth d n;obtain ⟨S,hS⟩ : ∃ S,S=U++mi1 W d P q:=⟨_,rfl⟩;obtain ⟨T,hT⟩ : ∃ T,T=U++mi1 W d P (q+1):=⟨_,rfl⟩;have hSl:S.length<=8*i+8:=(by rw[hS,List.length_append];omega);have bb:(S.length+1)*16<=70368744177664:=(by omega);have hv1:mt2 B day id D P (U++mi1 W d P q) i q=⟨[(13,.int .i64 q),(12,.vsl (P.map ia)),(11,.int .i64 i),(10,.vsl (D.map ia)),(9,rlV 103 S),(3,.ptr 3 0),(1,.int .i64 day),(2,.int .i64 id)],(3,.box B)::rlO 103 S⟩:=(by rw[mt2,<- hS]);have hv2:mt2 B day id D P (U++mi1 W d P (q+1)) i (q+1)=⟨[(13,.int .i64 (q+1:Nat)),(12,.vsl (P.map ia)),(11,.int .i64 i),(10,.vsl (D.map ia)),(9,rlV 103 T),(3,.ptr 3 0),(1,.int .i64 day),(2,.int .i64 id)],(3,.box B)::rlO 103 T⟩:=(by rw[mt2,<- hT]);obtain ⟨S3,hS3⟩ : ∃ S3,S3=mt2 B day id D P (U++mi1 W d P (q+1)) i (q+1):=⟨_,rfl⟩;rw[<- hS3]at hv2
      obtain ⟨tI,t0,t1,t2⟩ : ∃ t:Nat->Bool,t 0=false/\(∀ j (hj:j<ps.length),t (j+1)=(t j||(decide (ps[j].ho=id)&&(decide (ps[j].dw=d)&&decide (ps[j].lt=n))&&outB ps[j] day&&decide (ps[j].lo=0))))/\t ps.length=decide ((d,n)∈W) :=
       ⟨λj=>(ps.take j).any λx=>decide (x.ho=id)&&(decide (x.dw=d)&&decide (x.lt=n))&&outB x day&&decide (x.lo=0),by simp,
        λj hj=>by simp only[List.take_succ_eq_append_getElem hj,List.any_append];simp,
        by
         simp only[List.take_length,hth,Zju,herB]
         congr 1;funext x
         cases decide (x.ho=id) <;> cases decide (x.dw=d) <;> cases decide (x.lt=n) <;> cases outB x day <;> cases decide (x.lo=0) <;> rfl⟩
      by_cases cS:S=[]
      case' pos =>
       have hVS:rlV 103 S = .nils:=(by simp[rlV,cS]);have hQS:rlO 103 S=[]:=by simp[rlO,cS]
      case' neg =>
       have hVS:rlV 103 S = .osl 103 S.length:=(by simp[rlV,cS]);have hQS:rlO 103 S=[(103,.row 2 (S.map ita))]:=by simp[rlO,cS]
      all_goals
       refine Qga ?_;simp -implicitDefEqProofs[hv1,hVS,hQS,hi,hld,hq,ia,hln];refine ⟨rfl,?_⟩;refine Z9v (λj=>mt3 B day id D P (rlV 103 S) (rlO 103 S) d n (tI j) i q j) (λ_=>True) ps.length ?_ trivial ?_ ?_
       . simp only[mt3,t0,hVS,hQS]
         ((try simp only[hB',ia]);refine Ym.sub (by simp[lk,Ya,AV.keys,hB',ia]) ?_;simp only[hB',ia,Wkl,Zgm,and_true];(try simp[lk,Yc,Ya,AV.keys,hB',ia]))
       . intro j hj _;have wj:IntKind.i64.wrap ((j:Int)+1)=(j:Int)+1:=Yf (by omega) (by omega);have tt:=t1 j hj;obtain ⟨y,hy⟩ : ∃ y,y=ps[j]:=⟨_,rfl⟩;rw[<- hy]at tt;have hly:ps[j]=y:=hy.symm;have c4:=c4 y;have hpt:ptA y=[.int .i64 y.no,.int .i64 y.dy,.int .i64 y.ho,.int .i64 y.dw,.int .i64 y.lt,.int .i64 y.bk,.int .u8 y.lo]:=rfl;rw[hpt]at c4;clear t0 t1 t2;refine Qga ?_
         cases e:tI j
         case true =>
          rw[e,Bool.true_or]at tt;simp -implicitDefEqProofs[mt3,e,hVS,hQS,hj,hly,hpt,wj,hB'];simp only[mt3,tt,hVS,hQS]
          ((try simp only[hB',ia,hpt]);refine Ym.sub (by simp[lk,Ya,AV.keys,hB',ia,hpt]) ?_;simp only[hB',ia,hpt,Wkl,Zgm,and_true];(try simp[lk,Yc,Ya,AV.keys,hB',ia,hpt]))
         rw[e,Bool.false_or]at tt;by_cases q1:y.ho=id
         case neg =>
          simp only[q1,decide_false,Bool.false_and]at tt;simp -implicitDefEqProofs[mt3,e,hVS,hQS,hj,hly,hpt,q1,wj,hB'];simp only[mt3,tt,hVS,hQS]
          ((try simp only[hB',ia,hpt]);refine Ym.sub (by simp[lk,Ya,AV.keys,hB',ia,hpt]) ?_;simp only[hB',ia,hpt,Wkl,Zgm,and_true];(try simp[lk,Yc,Ya,AV.keys,hB',ia,hpt]))
         by_cases p1:y.dw=d
         case neg =>
          simp only[p1,decide_false,Bool.false_and,Bool.and_false]at tt;simp -implicitDefEqProofs[mt3,e,hVS,hQS,hj,hly,hpt,q1,p1,wj,hB'];simp only[mt3,tt,hVS,hQS]
          ((try simp only[hB',ia,hpt,q1]);refine Ym.sub (by simp[lk,Ya,AV.keys,hB',ia,hpt,q1]) ?_;simp only[hB',ia,hpt,q1,Wkl,Zgm,and_true];(try simp[lk,Yc,Ya,AV.keys,hB',ia,hpt,q1]))
         by_cases p2:y.lt=n
         case neg =>
          simp only[p2,decide_false,Bool.false_and,Bool.and_false]at tt;simp -implicitDefEqProofs[mt3,e,hVS,hQS,hj,hly,hpt,q1,p1,p2,wj,hB'];simp only[mt3,tt,hVS,hQS]
          ((try simp only[hB',ia,hpt,q1,p1]);refine Ym.sub (by simp[lk,Ya,AV.keys,hB',ia,hpt,q1,p1]) ?_;simp only[hB',ia,hpt,q1,p1,Wkl,Zgm,and_true];(try simp[lk,Yc,Ya,AV.keys,hB',ia,hpt,q1,p1]))
         simp only[q1,p1,p2,decide_true,Bool.true_and]at tt;rw[q1,p1,p2]at c4;simp -implicitDefEqProofs[mt3,e,hVS,hQS,hj,hly,hpt,q1,p1,p2,hB'];refine Yd.of c4 (by simp[AV.pure]) ?_
         cases q4:outB y day
         . rw[q4,Bool.false_and]at tt;simp -implicitDefEqProofs[wj];simp only[mt3,tt,hVS,hQS]
           ((try simp only[hB',ia,hpt,q1,p1,p2]);refine Ym.sub (by simp[lk,Ya,AV.keys,hB',ia,hpt,q1,p1,p2]) ?_;simp only[hB',ia,hpt,q1,p1,p2,Wkl,Zgm,and_true];(try simp[lk,Yc,Ya,AV.keys,hB',ia,hpt,q1,p1,p2]))
         . rw[q4,Bool.true_and]at tt;by_cases q5:y.lo=0
           . rw[decide_eq_true q5]at tt;simp -implicitDefEqProofs[q5,wj];simp only[mt3,tt,hVS,hQS]
             ((try simp only[hB',ia,hpt,q1,p1,p2]);refine Ym.sub (by simp[lk,Ya,AV.keys,hB',ia,hpt,q1,p1,p2]) ?_;simp only[hB',ia,hpt,q1,p1,p2,Wkl,Zgm,and_true];(try simp[lk,Yc,Ya,AV.keys,hB',ia,hpt,q1,p1,p2]))
           . rw[decide_eq_false q5]at tt;simp -implicitDefEqProofs[q5,wj];simp only[mt3,tt,hVS,hQS]
             ((try simp only[hB',ia,hpt,q1,p1,p2]);refine Ym.sub (by simp[lk,Ya,AV.keys,hB',ia,hpt,q1,p1,p2]) ?_;simp only[hB',ia,hpt,q1,p1,p2,Wkl,Zgm,and_true];(try simp[lk,Yc,Ya,AV.keys,hB',ia,hpt,q1,p1,p2]))
       . intro _;refine Qga ?_;by_cases c:(d,n)∈W
         . rw[if_pos c]at so;rw[decide_eq_true c]at t2;have e:T=S:=(by rw[hT,hS,so]);simp -implicitDefEqProofs[mt3,t2,hVS,hQS,b3];refine Qgr ?_;simp -implicitDefEqProofs[wq];rw[<- hS3,hv2,e,hVS,hQS]
           ((try simp only[hB',ia]);refine Ym.sub (by simp[lk,Ya,AV.keys,hB',ia]) ?_;simp only[hB',ia,Wkl,Zgm,and_true];(try simp[lk,Yc,Ya,AV.keys,hB',ia]))
         . rw[if_neg c]at so;rw[decide_eq_false c]at t2;have e:T=S++[(d,n)]:=(by rw[hT,hS,so,List.append_assoc]);have hne:¬T=[]:=(by rw[e];simp);have em:T.map ita=S.map ita++[[.int .i64 d,.int .i64 n]]:=(by rw[e,List.map_append];rfl);have eT:T.length=S.length+1:=(by rw[e];simp);have hVT:rlV 103 T = .osl 103 (S.length+1):=(by simp[rlV,hne,eT]);have hQT:rlO 103 T=[(103,.row 2 (T.map ita))]:=(by simp[rlO,hne]);simp -implicitDefEqProofs[mt3,t2,hVS,hQS,b3];refine Qgr ?_;simp -implicitDefEqProofs[wq,bb];rw[<- hS3,hv2,hVT,hQT]
           first
            |(rw[em,cS];((try simp only[hB',ia]);refine Ym.sub (by simp[lk,Ya,AV.keys,hB',ia]) ?_;simp only[hB',ia,Wkl,and_true];(try simp[lk,Yc,Ya,AV.keys,hB',ia]));done)
            |(rw[<- em];((try simp only[hB',ia,eT]);refine Ym.sub (by simp[lk,Ya,AV.keys,hB',ia,eT]) ?_;simp only[hB',ia,eT,Wkl,Zgm,and_true];(try simp[lk,Yc,Ya,AV.keys,hB',ia,eT]));done)
    . intro _;rw[<- sc];refine Qga ?_;simp -implicitDefEqProofs[mt2];refine Qgr ?_;simp -implicitDefEqProofs[wi];rw[<- hS2,hw2];unfold rlV rlO
      split
      . ((try simp only[hB',ia]);refine Ym.sub (by simp[lk,Ya,AV.keys,hB',ia]) ?_;simp only[hB',ia,Wkl,and_true];(try simp[lk,Yc,Ya,AV.keys,hB',ia]))
      . ((try simp only[hB',ia]);refine Ym.sub (by simp[lk,Ya,AV.keys,hB',ia]) ?_;simp only[hB',ia,Wkl,Zgm,and_true];(try simp[lk,Yc,Ya,AV.keys,hB',ia]))
 . intro _;obtain ⟨U,hU⟩ : ∃ U,U=miK W f D D.length:=⟨_,rfl⟩;rw[<- hU];refine Qga ?_;by_cases cU:U=[]
   . have hV:rlV 103 U = .nils:=(by simp[rlV,cU]);have hQ:rlO 103 U=[]:=(by simp[rlO,cU]);simp -implicitDefEqProofs[mt1,<- hU,hV,hQ];refine Qgr ?_;simp -implicitDefEqProofs[Yg,cU]
   . have hV:rlV 103 U = .osl 103 U.length:=(by simp[rlV,cU]);have hQ:rlO 103 U=[(103,.row 2 (U.map ita))]:=(by simp[rlO,cU]);simp -implicitDefEqProofs[mt1,<- hU,hV,hQ];refine Qgr ?_;simp -implicitDefEqProofs[Yg,cU,ita]
end
section
variable {G:Nat->Option (List AV)}
set_option maxHeartbeats 1000000 in
theorem Zml (hG:GC G) (hN:GN G) (hP:GP G) (r:List Iss) (l:List Nte) (hs:List Hld) (ps:List Prt) (day id d m:Int) (hr:∀ x∈r,KOk x) (hl:∀ x∈l,NOk7 x) (hp:∀ x∈ps,POk x) :
  PC Tryz.prog G 4 [prA r l hs ps,.int .i64 day,.int .i64 id,.int .i64 d,.int .i64 m] (.bool true):=by
 have c1:=ZlA (G:=G) r l hs ps
 cases h:gr7 r l hs ps
 case true =>
  rw[h]at c1;unfold prA at *
  (refine Z5E rfl λR hG hrd=>Qga ?_;subst hG)
  simp -implicitDefEqProofs[Z5C,Z5D];refine Qco (c1) (by simp) ?_;simp -implicitDefEqProofs[]
 obtain ⟨wl,wr,wd,wp⟩:=ZlF h hr hl hp;have c2:=ZlC (G:=G) r l hs ps wr.1 wl.1 wp;have c3:=ZlY hG hN hP r l hs ps id d wl wr wd wp;have c4:=ZlZ (G:=G) r l hs ps id d wl wr wd wp;have c5:=Zmj hG hN hP r l hs ps day id wl wr wd wp;have c6:=Zmk (G:=G) r l hs ps day id wl wr wd wp;have c7:=Zm3 hG hN hP r l hs ps day id d m wl wr wd wp;have c8:=Zm4 (G:=G) r l hs ps day id d m wl wr wd wp
 have s1:Sml (neE r l hs ps id d):=by
  unfold neE
  split
  . unfold ndI
    split
    . unfold ndsL
      split
      . unfold Sml;exact Nat.le_trans (List.length_filter_le ..) (by decide)
      . simp[Sml]
    . simp[Sml]
  . simp[Sml]
 have s2:Sml (msE r l hs ps day id):=by
  unfold msE
  split
  . unfold misI
    cases e:hoF hs id with
    |none=>simp[Sml]
    | some x =>
      have hx:=wp.dl x (Zid e).1
      have hk:=Zmi (W:=thK x.id (outP ps day) (outP ps day).length) (f:=ndsL l x) (D:=x.ds) (λd=>by
       unfold ndsL
       split
       . exact Nat.le_trans (List.length_filter_le ..) (Nat.le_refl _)
       . simp) x.ds.length
      have e2:misL l x ps day=miK (thK x.id (outP ps day) (outP ps day).length) (ndsL l x) x.ds x.ds.length:=by
       unfold miK misL mi1;simp only[List.take_length,Zme]
      simp only[e2,Sml];omega
  . simp[Sml]
 have c9:=PC.sub (Z9C (G:=G) _ (neE r l hs ps id d) s1) (xs:=[Yg ((neE r l hs ps id d).map ia),Yg ((neE r l hs ps id d).map ia)]) ⟨.orNil _,.orNil _,trivial⟩;have c10:=PC.sub (Zfk (G:=G) (msE r l hs ps day id) (msE r l hs ps day id) s2) (xs:=[Yg ((msE r l hs ps day id).map ita),Yg ((msE r l hs ps day id).map ita)]) ⟨.orNil _,.orNil _,trivial⟩;rw[decide_eq_true rfl]at c10;have c12:=ZlB (G:=G) r l hs ps wr.1 wl.1 wp;rw[h]at c1;have p1:=ZjJ (neE r l hs ps id d);have k1:=Zfm ((neE r l hs ps id d).map ia);have p2:=Zfl (l:=(msE r l hs ps day id).map ita) (by simp[ita,AV.pure]);have k2:=Zfm ((msE r l hs ps day id).map ita);unfold neA at c3 c4;unfold msA at c5 c6;unfold wgA at c7 c8;have pp:(prA r l hs ps).pure=true:=(by simp[prA,AV.pure,isa,na,hoa,ia,ptA]);unfold prA at *;generalize Yg ((neE r l hs ps id d).map ia)=V1 at *;generalize Yg ((msE r l hs ps day id).map ita)=V2 at *;generalize ab7 r l hs ps 0 1 id [d]=e1 at *;generalize ab7 r l hs ps day 1 id []=e2 at *;generalize ab7 r l hs ps day m id [d]=e3 at *;generalize wgE r l hs ps day id d m=w at *
 (refine Z5E rfl λR hG hrd=>Qga ?_;subst hG)
 simp -implicitDefEqProofs[Z5C,Z5D];refine Qco (c1) (by simp) ?_;simp -implicitDefEqProofs[];refine Qco (c2) (by simp) ?_;simp -implicitDefEqProofs[];refine Qco (c3) (by simp) ?_;simp -implicitDefEqProofs[];refine Qco (c4) (by simp) ?_;simp -implicitDefEqProofs[];refine Qco (c5) (by simp) ?_;simp -implicitDefEqProofs[];refine Qco (c6) (by simp) ?_;simp -implicitDefEqProofs[];refine Qco (c7) (by simp) ?_;simp -implicitDefEqProofs[];refine Qco (c8) (by simp) ?_;simp -implicitDefEqProofs[];refine Yd.of c9 (by simp[p1]) ?_;simp -implicitDefEqProofs[];refine Yd.of c10 (by simp[p2]) ?_;simp -implicitDefEqProofs[];refine Yd.of c12 (by simp[pp]) ?_;simp -implicitDefEqProofs[]
end
theorem Zmm {xs:List AV} (h:TVs [.int .i64] xs):∃ n:Int,xs=ia n:=by
 obtain ⟨x0,_,rfl,h0,h⟩:=h.cons_inv;obtain rfl:=h.nil_inv;obtain ⟨n,rfl,-⟩:=h0.int_inv;exact ⟨n,rfl⟩
open Go.ChangeShapes Go.WideShapes Go.ChangeAt Go.WideMaps Go.WideElems Go.RowKit Go.Deep
def laid7:List (String×DataW Unit):=[("blueline/sheet.checks",Rows.laid_blueline_sheet_checks),("blueline/note.checks",Rows.laid_blueline_note_checks),("blueline/recall.checks",Rows.laid_blueline_recall_checks)]
theorem Zmn (os:Os) (args:Array Value):laidMetH Tryz.prog laid7 ((World.doorLaid Tryz.prog 41 os).forCall (λ_ _=>0) ⟨#[],args,[]⟩).memory :=
 laidMetH_of_parts3 (fuel:=8) (laidMet_of_run' 8 (by kernel_rfl) (by kernel_rfl)) (by kernel_rfl) (by kernel_rfl)
theorem cellF {W:World} {fuel:Nat} {c:Value} {y:DataW (List UInt8)×List MemPlace} {tE:Nat} {fld:Field} {ps rs:Array TypeId} {vd:Bool} {b:UInt8} {s:List UInt8} {f0:FuncId}
  (uE:Tryz.prog.underlying tE=some (.struct #[fld])) (hfo:fld.offset=0) (uF:Tryz.prog.underlying fld.type=some (.func ps rs vd)) (cF:Tryz.prog.cellsOf fld.type=1)
  (hone:((List.range Tryz.prog.funcs.size).filter λf=>(Tryz.prog.funcs[f]?).any (·.name.toUTF8.data.toList == b::s))=[f0])
  (h:DataW.trod (funcToken Tryz.prog) Tryz.prog W 0 (λ_=>true) true fuel tE [c]=some y) (hy:y.1 = .agg [.held (b::s)]):c = .func (.func f0) #[] #[]:=by
 obtain ⟨y0,n,rfl,-,h0⟩:=trod_struct1 uE h;rw[hfo,List.drop_zero,cF]at h0;simp only[DataW.agg.injEq,List.cons.injEq,and_true]at hy;exact func_of_trod (q:=y0.2) uF hone (by rw[<- hy];simpa using h0)
theorem Zmo {W:World} {laid:List (String×DataW Unit)} {nm:String} {d:DataW Unit} {g tA tE:Nat} {fld:Field} {ps rs:Array TypeId} {vd:Bool} {n:Nat} (toks:List (List UInt8)) (fs:List FuncId)
  (h:laidMetH Tryz.prog laid W) (hm:(nm,DataW.iface "func table" d)∈laid) (hg:Tryz.prog.globalNamed nm=some g) (ht:(Tryz.prog.globals[g]?).map (·.type)=some tA)
  (uA:Tryz.prog.underlying tA=some (.array n tE)) (uE:Tryz.prog.underlying tE=some (.struct #[fld])) (hfo:fld.offset=0) (uF:Tryz.prog.underlying fld.type=some (.func ps rs vd))
  (cA:Tryz.prog.cellsOf tA=n) (cE:Tryz.prog.cellsOf tE=1) (cF:Tryz.prog.cellsOf fld.type=1) (hl1:toks.length=n) (hl2:fs.length=n)
  (hd0:(d.funcsOut:DataW (List UInt8)) = .agg (toks.map λs=>.agg [.held s]))
  (hone:∀ (i:Nat) (s:List UInt8) (f:FuncId),toks[i]? = some s->fs[i]? = some f->∃ b r,s=b::r/\((List.range Tryz.prog.funcs.size).filter λf=>(Tryz.prog.funcs[f]?).any (·.name.toUTF8.data.toList == b::r))=[f]) :
  ∃ t fr,W.heap[g]? = some (.cells ((fs.map λf=>Value.func (.func f) #[] #[]).toArray) t fr):=by
 obtain ⟨g',t,cs,fuel,p,hg',ht',hv,hd⟩:=h.funcs hm;obtain rfl:=Option.some.inj (hg.symm.trans hg');obtain rfl:=Option.some.inj (ht.symm.trans ht');obtain ⟨xs,m,rfl,hx,hlen,hn,hel⟩:=DataW.trod_array uA hd;rw[cA]at hlen;rw[cE]at hel;rw[hd0,Prod.mk.injEq,DataW.agg.injEq]at hx;have hx:=hx.1
 have hcs:cs.toList=fs.map λf=>Value.func (.func f) #[] #[]:=by
  refine List.ext_getElem? λi=>?_
  by_cases hi:i<n
  . have e:=hel i hi;have h1:i<xs.length:=(by omega);have h2:i<toks.length:=(by omega);have h3:i<fs.length:=(by omega);have h4:i<cs.toList.length:=(by omega);obtain ⟨b,r,hb,ho⟩:=hone i _ _ (List.getElem?_eq_getElem h2) (List.getElem?_eq_getElem h3);rw[Nat.mul_one,List.drop_eq_getElem_cons h4,List.take_succ_cons,List.take_zero,List.getElem?_eq_getElem h1]at e;have ey:=congrArg (λl=>l[i]?) hx;simp only[List.getElem?_map,List.getElem?_eq_getElem h2,List.getElem?_eq_getElem h1,Option.map_some,Option.some.injEq]at ey;rw[hb]at ey;have:=cellF uE hfo uF cF ho e ey.symm;rw[List.getElem?_eq_getElem h4,List.getElem?_map,List.getElem?_eq_getElem h3,this];rfl
  . rw[List.getElem?_eq_none (by omega),List.getElem?_eq_none (by simp;omega)]
 simp only[World.var?,hg,Option.bind_some]at hv
 split at hv
 . rename_i cs' t fr heq;injection hv with hv
   have e:cs=(fs.map λf=>Value.func (.func f) #[] #[]).toArray:=(by rw[<- hcs]);exact ⟨t,fr,by rw[heq,hv,e]⟩
 . cases hv
def TabB (W:World) (g:Nat) (fs:List FuncId):Prop:=∃ t fr,W.heap[g]? = some (.cells ((fs.map λf=>Value.func (.func f) #[] #[]).toArray) t fr)
def tabA (fs:List FuncId):List AV:=fs.map λf=>.func (.func f) [] []
theorem Zmp {W:World} {g:Nat} {fs:List FuncId} (h:TabB W g fs):PV noM W (.vptr (tabA fs) 0) (.pointer (some ⟨g,0,none⟩)):=by
 obtain ⟨t,fr,hb⟩:=h;refine .vptr _ 0 g 0 (λj=>(((fs.map λf=>Value.func (.func f) #[] #[]).toArray)[j]?).getD undef) (Array.getElem?_eq_some_iff.1 hb).1 id ?_ ?_
 . intro j hj;have hj':j<fs.length:=(by simpa [tabA] using hj);simp[World.cell?,hb,hj']
 . intro j x hx;unfold tabA at hx;rw[List.getElem?_map,Option.map_eq_some_iff]at hx;obtain ⟨f,hf,rfl⟩:=hx;have hj':=(List.getElem?_eq_some_iff.1 hf).1;have e:((fs.map λf=>Value.func (.func f) #[] #[]).toArray)[j]? = some (.func (.func f) #[] #[]):=(by simp[hf]);rw[e];exact .func _ [] [] #[] #[] rfl rfl (by simp) (by simp)
def fsC:List FuncId:=[260,261,262,263]
def fsN:List FuncId:=[237,238,239,240,242,243,246,248]
def fsR:List FuncId:=[252,253,254,257,258]
set_option maxRecDepth 100000 in
theorem Zmq {W:World} (h:laidMetH Tryz.prog laid7 W):TabB W 0 fsN :=
 Zmo [[98,108,117,101,108,105,110,101,47,110,111,116,101,46,99,104,101,99,107,115,36,49],[98,108,117,101,108,105,110,101,47,110,111,116,101,46,99,104,101,99,107,115,36,50],[98,108,117,101,108,105,110,101,47,110,111,116,101,46,99,104,101,99,107,115,36,51],[98,108,117,101,108,105,110,101,47,110,111,116,101,46,99,104,101,99,107,115,36,52],[98,108,117,101,108,105,110,101,47,110,111,116,101,46,99,104,101,99,107,115,36,53],[98,108,117,101,108,105,110,101,47,110,111,116,101,46,99,104,101,99,107,115,36,54],[98,108,117,101,108,105,110,101,47,110,111,116,101,46,99,104,101,99,107,115,36,55],[98,108,117,101,108,105,110,101,47,110,111,116,101,46,99,104,101,99,107,115,36,56]] fsN h (List.mem_cons_of_mem _ (List.mem_cons_self ..)) (by kernel_rfl) (by kernel_rfl) Tryz.underlying235 (fld:=_) Tryz.underlying234 rfl Tryz.underlying208 (by kernel_rfl) (by kernel_rfl) (by kernel_rfl) rfl rfl rfl
 (λi s f hs hf=>by
  match i,hs,hf with
  |0,hs,hf=>cases hs;cases hf;exact ⟨_,_,rfl,by kernel_rfl⟩
  |1,hs,hf=>cases hs;cases hf;exact ⟨_,_,rfl,by kernel_rfl⟩
  |2,hs,hf=>cases hs;cases hf;exact ⟨_,_,rfl,by kernel_rfl⟩
  |3,hs,hf=>cases hs;cases hf;exact ⟨_,_,rfl,by kernel_rfl⟩
  |4,hs,hf=>cases hs;cases hf;exact ⟨_,_,rfl,by kernel_rfl⟩
  |5,hs,hf=>cases hs;cases hf;exact ⟨_,_,rfl,by kernel_rfl⟩
  |6,hs,hf=>cases hs;cases hf;exact ⟨_,_,rfl,by kernel_rfl⟩
  |7,hs,hf=>cases hs;cases hf;exact ⟨_,_,rfl,by kernel_rfl⟩
  |i+8,hs,_=>simp at hs)
set_option maxRecDepth 100000 in
theorem Zmr {W:World} (h:laidMetH Tryz.prog laid7 W):TabB W 2 fsC :=
 Zmo [[98,108,117,101,108,105,110,101,47,115,104,101,101,116,46,99,104,101,99,107,115,36,49],[98,108,117,101,108,105,110,101,47,115,104,101,101,116,46,99,104,101,99,107,115,36,50],[98,108,117,101,108,105,110,101,47,115,104,101,101,116,46,99,104,101,99,107,115,36,51],[98,108,117,101,108,105,110,101,47,115,104,101,101,116,46,99,104,101,99,107,115,36,52]] fsC h (List.mem_cons_self ..) (by kernel_rfl) (by kernel_rfl) Tryz.underlying264 (fld:=_) Tryz.underlying263 rfl Tryz.underlying262 (by kernel_rfl) (by kernel_rfl) (by kernel_rfl) rfl rfl rfl
 (λi s f hs hf=>by
  match i,hs,hf with
  |0,hs,hf=>cases hs;cases hf;exact ⟨_,_,rfl,by kernel_rfl⟩
  |1,hs,hf=>cases hs;cases hf;exact ⟨_,_,rfl,by kernel_rfl⟩
  |2,hs,hf=>cases hs;cases hf;exact ⟨_,_,rfl,by kernel_rfl⟩
  |3,hs,hf=>cases hs;cases hf;exact ⟨_,_,rfl,by kernel_rfl⟩
  |i+4,hs,_=>simp at hs)
set_option maxRecDepth 100000 in
theorem Zms {W:World} (h:laidMetH Tryz.prog laid7 W):TabB W 1 fsR :=
 Zmo [[98,108,117,101,108,105,110,101,47,114,101,99,97,108,108,46,99,104,101,99,107,115,36,49],[98,108,117,101,108,105,110,101,47,114,101,99,97,108,108,46,99,104,101,99,107,115,36,50],[98,108,117,101,108,105,110,101,47,114,101,99,97,108,108,46,99,104,101,99,107,115,36,51],[98,108,117,101,108,105,110,101,47,114,101,99,97,108,108,46,99,104,101,99,107,115,36,52],[98,108,117,101,108,105,110,101,47,114,101,99,97,108,108,46,99,104,101,99,107,115,36,53]] fsR h (List.mem_cons_of_mem _ (List.mem_cons_of_mem _ (List.mem_cons_self ..))) (by kernel_rfl) (by kernel_rfl) Tryz.underlying245 (fld:=_) Tryz.underlying244 rfl Tryz.underlying242 (by kernel_rfl) (by kernel_rfl) (by kernel_rfl) rfl rfl rfl
 (λi s f hs hf=>by
  match i,hs,hf with
  |0,hs,hf=>cases hs;cases hf;exact ⟨_,_,rfl,by kernel_rfl⟩
  |1,hs,hf=>cases hs;cases hf;exact ⟨_,_,rfl,by kernel_rfl⟩
  |2,hs,hf=>cases hs;cases hf;exact ⟨_,_,rfl,by kernel_rfl⟩
  |3,hs,hf=>cases hs;cases hf;exact ⟨_,_,rfl,by kernel_rfl⟩
  |4,hs,hf=>cases hs;cases hf;exact ⟨_,_,rfl,by kernel_rfl⟩
  |i+5,hs,_=>simp at hs)
def G7:Nat->Option (List AV):=λg=>if g=2 then some (tabA fsC) else if g=0 then some (tabA fsN) else if g=1 then some (tabA fsR) else none
theorem Zmt:GC G7:=rfl
theorem Zmu:GN G7:=rfl
theorem Zmv:GP G7:=rfl
theorem Zmw {W:World} (h:laidMetH Tryz.prog laid7 W):GR G7 noM W:=by
 intro g cs hg;simp only[G7]at hg
 split at hg
 . rename_i e;subst e;cases hg;exact Zmp (Zmr h)
 . split at hg
   . rename_i e;subst e;cases hg;exact Zmp (Zmq h)
   . split at hg
     . rename_i e;subst e;cases hg;exact Zmp (Zms h)
     . cases hg
def nteK:List TY:=[.int .i64,.int .i64,.int .u8,.int .i64,.int .i64,.int .i64,.int .i64,.int .i64,.bool,.int .u8]
def hldK:List TY:=[.int .i64,.int .i64,.int .i64,.sl [.int .i64]]
def prtK:List TY:=[.int .i64,.int .i64,.int .i64,.int .i64,.int .i64,.int .i64,.int .u8]
def prsK:List TY:=[.sl isK2,.sl nteK,.sl hldK,.sl prtK]
theorem Zmx {xs:List AV} (h:TVs nteK xs):∃ x:Nte,xs=na x/\NOk7 x:=by
 obtain ⟨x0,_,rfl,h0,h⟩:=h.cons_inv;obtain ⟨x1,_,rfl,h1,h⟩:=h.cons_inv;obtain ⟨x2,_,rfl,h2,h⟩:=h.cons_inv;obtain ⟨x3,_,rfl,h3,h⟩:=h.cons_inv;obtain ⟨x4,_,rfl,h4,h⟩:=h.cons_inv;obtain ⟨x5,_,rfl,h5,h⟩:=h.cons_inv;obtain ⟨x6,_,rfl,h6,h⟩:=h.cons_inv;obtain ⟨x7,_,rfl,h7,h⟩:=h.cons_inv;obtain ⟨x8,_,rfl,h8,h⟩:=h.cons_inv;obtain ⟨x9,_,rfl,h9,h⟩:=h.cons_inv;obtain rfl:=h.nil_inv;obtain ⟨v0,rfl,-⟩:=h0.int_inv;obtain ⟨v1,rfl,-⟩:=h1.int_inv;obtain ⟨v2,rfl,k2⟩:=h2.int_inv;obtain ⟨v3,rfl,-⟩:=h3.int_inv;obtain ⟨v4,rfl,-⟩:=h4.int_inv;obtain ⟨v5,rfl,-⟩:=h5.int_inv;obtain ⟨v6,rfl,-⟩:=h6.int_inv;obtain ⟨v7,rfl,-⟩:=h7.int_inv;obtain ⟨v8,rfl⟩:=h8.bool_inv;obtain ⟨v9,rfl,k9⟩:=h9.int_inv;obtain ⟨a2,b2⟩:=bounds_u8 k2;obtain ⟨a9,b9⟩:=bounds_u8 k9;exact ⟨⟨v0,v1,v2,v3,v4,v5,v6,v7,v8,v9⟩,rfl,a2,b2,a9,b9⟩
theorem Zmy {xs:List AV} (h:TVs hldK xs):∃ x:Hld,xs=hoa x:=by
 obtain ⟨x0,_,rfl,h0,h⟩:=h.cons_inv;obtain ⟨x1,_,rfl,h1,h⟩:=h.cons_inv;obtain ⟨x2,_,rfl,h2,h⟩:=h.cons_inv;obtain ⟨x3,_,rfl,h3,h⟩:=h.cons_inv;obtain rfl:=h.nil_inv;obtain ⟨v0,rfl,-⟩:=h0.int_inv;obtain ⟨v1,rfl,-⟩:=h1.int_inv;obtain ⟨v2,rfl,-⟩:=h2.int_inv;obtain ⟨rows,rfl,-,g⟩:=h3.sl_inv;obtain ⟨ds,rfl⟩:=Zln (f:=ia) λr hr=>Zmm (g r hr)
 exact ⟨⟨v0,v1,v2,ds⟩,rfl⟩
theorem Zmz {xs:List AV} (h:TVs prtK xs):∃ x:Prt,xs=ptA x/\POk x:=by
 obtain ⟨x0,_,rfl,h0,h⟩:=h.cons_inv;obtain ⟨x1,_,rfl,h1,h⟩:=h.cons_inv;obtain ⟨x2,_,rfl,h2,h⟩:=h.cons_inv;obtain ⟨x3,_,rfl,h3,h⟩:=h.cons_inv;obtain ⟨x4,_,rfl,h4,h⟩:=h.cons_inv;obtain ⟨x5,_,rfl,h5,h⟩:=h.cons_inv;obtain ⟨x6,_,rfl,h6,h⟩:=h.cons_inv;obtain rfl:=h.nil_inv;obtain ⟨v0,rfl,-⟩:=h0.int_inv;obtain ⟨v1,rfl,-⟩:=h1.int_inv;obtain ⟨v2,rfl,-⟩:=h2.int_inv;obtain ⟨v3,rfl,-⟩:=h3.int_inv;obtain ⟨v4,rfl,-⟩:=h4.int_inv;obtain ⟨v5,rfl,-⟩:=h5.int_inv;obtain ⟨v6,rfl,k6⟩:=h6.int_inv;exact ⟨⟨v0,v1,v2,v3,v4,v5,v6⟩,rfl,bounds_u8 k6⟩
theorem ZmA {xs:List AV} (h:TVs prsK xs):∃ (r:List Iss) (l:List Nte) (hs:List Hld) (ps:List Prt),AV.agg xs=prA r l hs ps/\(∀ x∈r,KOk x)/\(∀ x∈l,NOk7 x)/\∀ x∈ps,POk x:=by
 obtain ⟨x0,_,rfl,h0,h⟩:=h.cons_inv;obtain ⟨x1,_,rfl,h1,h⟩:=h.cons_inv;obtain ⟨x2,_,rfl,h2,h⟩:=h.cons_inv;obtain ⟨x3,_,rfl,h3,h⟩:=h.cons_inv;obtain rfl:=h.nil_inv;obtain ⟨rows,rfl,-,g⟩:=h0.sl_inv;obtain ⟨r,rfl,hr⟩:=Zlv (f:=isa) (p:=KOk) λr hr=>Zlu (g r hr)
 obtain ⟨rows,rfl,-,g⟩:=h1.sl_inv;obtain ⟨l,rfl,hl⟩:=Zlv (f:=na) (p:=NOk7) λr hr=>Zmx (g r hr)
 obtain ⟨rows,rfl,-,g⟩:=h2.sl_inv;obtain ⟨hs,rfl⟩:=Zln (f:=hoa) λr hr=>Zmy (g r hr)
 obtain ⟨rows,rfl,-,g⟩:=h3.sl_inv;obtain ⟨ps,rfl,hp⟩:=Zlv (f:=ptA) (p:=POk) λr hr=>Zmz (g r hr)
 exact ⟨r,l,hs,ps,rfl,hr,hl,hp⟩
theorem ZmB {P:Program} {f:FuncId} {fn:Func} {s:ChangeSpec} {c:OpenClaim}
  (h1:c.wf (OpenSpec.ofChange s)=true) (h1a:laidOutB P=true) (h1b:mapsRowed P=true)
  (h2:(fn.params.all (P.readableRec ·)&&namedTie P c.named s.vars&&(c.stops == [])&&(P.stops == [])&&(c.knobs == [])&&(P.stopKnobs == []))=true)
  (h3:(c.inPlace == P.inPlace f)=true) (h4:(c.unfollowed == P.unfollowed f)=true) (h5:(c.recurses == P.recurses f)=true) (h6:(c.named == P.varsNamed f)=true)
  (h7:((c.maps == (fn.params.toList++s.plain.varTypes P).any (P.mapsRec ·))&&(c.ifaces == (fn.params.toList++s.plain.varTypes P).any (P.ifacesRec ·))&&(c.mapsOut == P.mapsAmong fn.resultTypes.toList)&&(c.loops == (fn.params.toList++s.plain.varTypes P).any (P.loopsFrom ·))&&(c.wideKeys == (fn.params.toList++s.plain.varTypes P++fn.resultTypes.toList).any (P.wideKeysFrom ·))&&s.vars.all (P.varReadable ·)&&fn.resultTypes.all (λt=>P.readableRec t&&decide (t<P.types.size))&&(c.ifacesOut == fn.resultTypes.toList.any (P.ifacesRec ·))&&(c.loopsOut == fn.resultTypes.toList.any (P.loopsFrom ·)))=true)
  (h8:(c.plainKeys == P.plainKeys)=true) (h9:c.shortTexts.isNone=true) (h10:P.stopsHeard=true) (h11:P.mayEnter=true) (h12:(c.lifted == P.liftsFinal)=true) (h13:(P.make == some c.make)=true)
  (h14:((c.kinds == (if c.domain.isEmpty then [] else fn.params.toList.map λt=>match P.underlying t with|some (.int k)=>some k|_=>none))&&(c.pinned == c.pinnedBy)&&(c.veiled == (fn.params.toList++s.plain.varTypes P++fn.resultTypes.toList).any (P.veiledRec ·))&&c.veiledFits P fn.params.toList (fn.params.toList++s.plain.varTypes P++fn.resultTypes.toList))=true) :
  joinedFacts P f fn s c=true:=by
 rw[Bool.and_eq_true,Bool.and_eq_true,Bool.and_eq_true,Bool.and_eq_true,Bool.and_eq_true]at h2;rw[Bool.and_eq_true,Bool.and_eq_true,Bool.and_eq_true,Bool.and_eq_true,Bool.and_eq_true,Bool.and_eq_true,Bool.and_eq_true,Bool.and_eq_true]at h7;obtain ⟨⟨⟨⟨⟨a1,a2⟩,a3⟩,a4⟩,a5⟩,a6⟩:=h2;obtain ⟨⟨⟨⟨⟨⟨⟨⟨b1,b2⟩,b3⟩,b4⟩,b5⟩,b6⟩,b7⟩,b8⟩,b9⟩:=h7;unfold joinedFacts;rw[h1,h1a,h1b,a1,a2,a3,a4,a5,a6,h3,h4,h5,h6,b1,b2,b3,b4,b5,b6,b7,b8,b9,h8,h9,h10,h11,h12,h13];simp only[Bool.true_and];exact h14
theorem ZmC:laidOutB Tryz.prog=true:=by kernel_rfl
theorem ZmD:mapsRowed Tryz.prog=true:=by kernel_rfl
theorem ZmE:(false == Tryz.prog.plainKeys)=true:=by kernel_rfl
theorem ZmF:Tryz.prog.stopsHeard=true:=by kernel_rfl
theorem ZmG:Tryz.prog.mayEnter=true:=by kernel_rfl
theorem ZmH:(Rows.recallHoldsRow.lifted == Tryz.prog.liftsFinal)=true:=by kernel_rfl
theorem ZmI:(Tryz.prog.make == some Rows.recallHoldsRow.make)=true:=by kernel_rfl
theorem ZmJ:Tryz.prog.mainIs=some (true, "c78c3ff270fe74a990be3be0c8d074bef76ac0378b180a9ded0d213bc229583d".toList):=by kernel_rfl
theorem ZmK:false=Tryz.prog.looks []:=by kernel_rfl
end Go.Proofs.YtcdlimgkliklhaaGreatDoor
