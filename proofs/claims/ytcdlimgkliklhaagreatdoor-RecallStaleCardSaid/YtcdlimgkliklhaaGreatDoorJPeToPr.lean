/-
  What the program's functions on prints compute: offices, opened; what is asked.
-/
import Derived.Test.YtcdlimgkliklhaaGreatDoorJRcUToPc
import Derived.Test.YtcdlimgkliklhaaGreatDoorJEfToNk
import Derived.Shelf.Sort.Plain
import Derived.Test.YtcdlimgkliklhaaGreatDoorProg
import Derived.Test.YtcdlimgkliklhaaGreatDoorJRcfToEe
import Derived.Test.YtcdlimgkliklhaaGreatDoorJAmLToAmXb
import Derived.Test.YtcdlimgkliklhaaGreatDoorJOpenToOpen
import Derived.Test.YtcdlimgkliklhaaGreatDoorJRowToRow
set_option linter.all false
set_option linter.unusedSimpArgs false
set_option linter.unusedVariables false
set_option linter.unusedSectionVars false
namespace Go.Proofs.YtcdlimgkliklhaaGreatDoor
open Go.RowKit
def opP (r:List Iss) (l:List Nte) (hs:List Hld) (ps:List Prt):AV:=.tup [if ck7 r l hs ps=0 then ofA r l hs ps else .nilp,.int .i64 (ck7 r l hs ps)]
theorem Zju {r:List Iss} {l:List Nte} {hs:List Hld} {ps:List Prt}:ck7 r l hs ps=0↔chN r l=0/\ptsB r hs ps=true:=by
 unfold ck7;by_cases h:chN r l=0
 . rw[if_pos h];by_cases h2:ptsB r hs ps=true
   . simp[h,h2]
   . simp[h,h2]
 . simp[h]
theorem Zjv {r:List Iss} {l:List Nte} (h:chN r l=0):openV r=0:=by
 unfold chN at h
 split at h
 . assumption
 . rename_i e;exact absurd h e
def as7 (r:List Iss) (l:List Nte) (hs:List Hld) (ps:List Prt) (day m:Int):Int:=if ck7 r l hs ps=0 then if inR day 0 14610=true/\inR m 1 999=true then 0 else 2 else ck7 r l hs ps
def ab7 (r:List Iss) (l:List Nte) (hs:List Hld) (ps:List Prt) (day m id:Int) (ds:List Int):Int:=if as7 r l hs ps day m=0 then if 0<=hoI hs id/\(ds.all λd=>decide (d∈nums r))=true then 0 else 6 else as7 r l hs ps day m
section
variable {G:Nat->Option (List AV)}
theorem Zjw (hG:GC G) (hN:GN G) (hP:GP G) (r:List Iss) (l:List Nte) (hs:List Hld) (ps:List Prt) (hl:WfN l) (hr:Wf r) (hd:Sml (nums r)) (hw:WfP hs ps):PC Tryz.prog G 76 [prA r l hs ps] (opP r l hs ps):=by
 have hc:=Zgl hG hN r l hl hr;have hD:=Zcy hG r hr;rw[rega]at hD;have hR:=Zjt hP r l hs ps hr.1.1 hd hw;have pO:=ZiI r l hs ps;have kO:=ZiJ r l hs ps;have eO:ofA r l hs ps = .vptr [.vsl (r.map isa),.vsl (l.map na),.vsl (hs.map hoa),.vsl (ps.map ptA),.vsl ((nums r).map ia)] 0:=rfl;have sO:∀ ok st,Yh ok st 6 (ofA r l hs ps)=some (ofA r l hs ps):=λok st=>by rw[eO];rw[eO]at pO;simp[Yh,pO]
 unfold opP prA;by_cases h0:chN r l=0
 case neg =>
  have e:ck7 r l hs ps=chN r l:=(by rw[ck7,if_neg h0]);rw[e,if_neg h0]
  (refine ZhR rfl λR hG hrd=>Qga ?_;subst hG)
  simp -implicitDefEqProofs[ZhP,ZhQ];refine Qco (hc) (by simp) ?_;simp -implicitDefEqProofs[h0]
 have ho:=Zjv h0;rw[if_pos ho,ho]at hD;rw[h0]at hc;refine ZhR rfl λR hG hrd=>?_
 subst hG;refine Qga ?_;simp -implicitDefEqProofs[ZhP,ZhQ];refine Qco (hc) (by simp) ?_;simp -implicitDefEqProofs[];refine Qco (hD) (by simp) ?_;simp -implicitDefEqProofs[];rw[eO]at hR
 (first|refine Yd.flat (hR) (by simp[AV.flat]) (by simp) ?_|refine Ye.flat (hR) (by simp[AV.flat]) (by simp) ?_)
 cases q:ptsB r hs ps
 . have e:ck7 r l hs ps=70:=(by rw[ck7,if_pos h0,q];rfl);simp -implicitDefEqProofs[e]
 . have e:ck7 r l hs ps=0:=(by rw[ck7,if_pos h0,q];rfl);simp -implicitDefEqProofs[e,eO]
def asP (r:List Iss) (l:List Nte) (hs:List Hld) (ps:List Prt) (day m:Int):AV:=.tup [if as7 r l hs ps day m=0 then ofA r l hs ps else .nilp,.int .i64 (as7 r l hs ps day m)]
theorem Zjx (hG:GC G) (hN:GN G) (hP:GP G) (r:List Iss) (l:List Nte) (hs:List Hld) (ps:List Prt) (day m:Int) (hl:WfN l) (hr:Wf r) (hd:Sml (nums r)) (hw:WfP hs ps) :
  PC Tryz.prog G 89 [prA r l hs ps,.int .i64 day,.int .i64 m] (asP r l hs ps day m):=by
 have ho:=Zjw hG hN hP r l hs ps hl hr hd hw;have c1:=ZiT (G:=G) 0 14610 day;have c2:=ZiT (G:=G) 1 999 m;have pO:=ZiI r l hs ps;have kO:=ZiJ r l hs ps;have eO:ofA r l hs ps = .vptr [.vsl (r.map isa),.vsl (l.map na),.vsl (hs.map hoa),.vsl (ps.map ptA),.vsl ((nums r).map ia)] 0:=rfl;have sO:∀ ok st,Yh ok st 6 (ofA r l hs ps)=some (ofA r l hs ps):=λok st=>by rw[eO];rw[eO]at pO;simp[Yh,pO]
 unfold opP at ho;unfold asP as7;by_cases h0:ck7 r l hs ps=0
 case neg =>
  rw[if_neg h0]at ho;unfold prA at *
  (refine ZhU rfl λR hG hrd=>Qga ?_;subst hG)
  simp -implicitDefEqProofs[ZhS,ZhT];refine Qco (ho) (by simp) ?_;simp -implicitDefEqProofs[h0]
 rw[if_pos h0,h0]at ho;unfold prA at *;generalize ofA r l hs ps=O at *
 (refine ZhU rfl λR hG hrd=>Qga ?_;subst hG)
 simp -implicitDefEqProofs[ZhS,ZhT];refine Qco (ho) (by simp) ?_;simp -implicitDefEqProofs[];refine Qco (c1) (by simp) ?_
 cases q1:inR day 0 14610
 . simp -implicitDefEqProofs[h0]
 simp -implicitDefEqProofs[];refine Qco (c2) (by simp) ?_
 cases q2:inR m 1 999
 . simp -implicitDefEqProofs[h0]
 . simp -implicitDefEqProofs[h0,pO,sO]
end
theorem Zjy (ok:Nat->Bool) (st:St) (l:List Int):frzO ok st (.row 1 (l.map ia)) = .row 1 (l.map ia):=by
 simp only[frzO,W10]
 congr 2
 funext p;simp[ia,frzA,frz,AV.keys]
def smI (x y:Int):Bool:=decide (x=y)
def kI (l:List Int):Nat->List Int
 |0=>[]
 |p+1=>if p≠0/\smI (l.getD p default) (l.getD (p-1) default)=true then kI l p else kI l p++[l.getD p default]
theorem Zjz (l:List Int):∀ p,(kI l p).length<=p
 |0=>W0f _
 | p+1=>by
   have:=Zjz l p;rw[kI];split <;> simp <;> omega
def noI (l:List Int) (p:Nat):Prop:=∀ j,0<j->j<p->smI (l.getD j default) (l.getD (j-1) default)=false
theorem ZjA {l:List Int}:∀ {p:Nat},noI l p->p<=l.length->kI l p=l.take p
 |0,_,_=>rfl
 | p + 1,h,hp=>by
   rw[kI,ZjA (p:=p) (λj h1 h2=>h j h1 (by omega)) (by omega),W08 (by omega)];have e:l.getD p default=l[p]:=by simp[W0j,show p<l.length by omega]
   split
   . rename_i h2;rw[h p (by omega) (by omega)]at h2;exact absurd h2.2 (by simp)
   . rw[e]
def cpI (l:List Int) (p:Nat):List Int:=kI l p++l.drop (kI l p).length
theorem ZjB {l:List Int} {p:Nat} (h:p<=l.length):(cpI l p).length=l.length:=by
 have:=Zjz l p;simp[cpI];omega
theorem ZjC {l:List Int} {p j:Nat} (hp:p<l.length) (h1:(kI l p).length<=j) (h2:j<=p):(cpI l p)[j]? = some (l.getD j default):=by
 rw[cpI,W0o h1,W13];have:(kI l p).length+(j-(kI l p).length)=j:=(by omega);rw[this];simp[W0j,show j<l.length by omega]
theorem ZjD {l:List Int} {p:Nat} (hp:p<l.length) (h:¬(p≠0/\smI (l.getD p default) (l.getD (p-1) default)=true)):(cpI l p).set (kI l p).length (l.getD p default)=cpI l (p+1):=by
 have hl:=Zjz l p;have e:kI l (p+1)=kI l p++[l.getD p default]:=(by rw[kI,if_neg h]);rw[cpI,cpI,e,W25 _ _ (by omega),W2r,W0x (by omega:(kI l p).length<l.length)];simp only[List.set_cons_zero,W0s,W2t,W0U,List.singleton_append]
theorem ZjE {l:List Int} {p:Nat} (h:p≠0/\smI (l.getD p default) (l.getD (p-1) default)=true):cpI l (p+1)=cpI l p/\kI l (p+1)=kI l p:=by
 have e:kI l (p+1)=kI l p:=(by rw[kI,if_pos h]);exact ⟨by rw[cpI,cpI,e],e⟩
def cpcI (l:List Int):List Int:=kI l l.length
def zrO:List AV:=[.int .i64 0]
def cpoI (l:List Int):List (List AV):=(cpcI l).map ia++List.replicate (l.length-(cpcI l).length) zrO
def cpvI (k:Nat) (l:List Int):AV:=if (cpcI l).length=l.length then .osl k l.length else .oss k l.length 0 (cpcI l).length
theorem kI_lt {l:List Int} {k:Nat} (hk0:k≠0) (hd:smI (l.getD k default) (l.getD (k-1) default)=true):∀ p,k<p->(kI l p).length<p:=by
 intro p hp
 induction p with
 |zero=>omega
 | succ p ih =>
   by_cases h:p=k
   . subst h;have:=Zjz l p;rw[kI,if_pos ⟨hk0,hd⟩];omega
   . have:=ih (by omega);rw[kI];split <;> simp <;> omega
theorem ZjF {l:List Int} {p:Nat} (h:p<l.length):l.getD p default=l[p]:=by simp[W0j,h]
theorem ZjG {l:List Int} (h:noI l l.length):cpcI l=l:=by rw[cpcI,ZjA h (W0f _),W0v]
theorem ZjH (ok:Nat->Bool) (st:St) (l:List Int):frzO ok st (.row 1 (cpoI l)) = .row 1 (cpoI l):=by
 have h:=Zjy ok st (cpcI l);simp only[frzO,AObj.row.injEq,true_and]at h ⊢;rw[cpoI,W0r,h];simp[zrO,frzA,frz,AV.keys]
theorem ZjI (x:Int):∀ (t:List Int) (p:Int),cmpG p (t++[x])=if (p::t).getLast (by simp)=x then cmpG p t else cmpG p t++[x]
 | [],p=>by
   by_cases e:x=p
   . subst e;simp[cmpG]
   . simp[cmpG,e,Ne.symm e]
 | y :: t,p=>by
   have ih:=ZjI x t y;rw[W1e,cmpG,cmpG,List.getLast_cons (by simp)];by_cases e:y=p
   . rw[if_pos e,if_pos e,<- e,ih]
   . rw[if_neg e,if_neg e,ih]
     split <;> simp
theorem ZjJ (l:List Int):∀ p,p<=l.length->kI l p=cmpI (l.take p)
 |0,_=>by simp[kI,cmpI]
 | p + 1,h=>by
   have hp:p<l.length:=h;have ih:=ZjJ l p (by omega);rw[kI,ih,ZjF hp,W08 hp]
   cases p with
   | zero =>
     simp[cmpI,cmpG]
   | succ q =>
     have hq:q<l.length:=(by omega);have e1:(q+1-1)=q:=(by omega);rw[e1,ZjF hq];have e2:l.take (q+1)=l.take q++[l[q]]:=W08 hq
     obtain ⟨a,t,hat⟩ : ∃ a t,l.take (q+1)=a::t:=by
      cases hh:l.take (q+1) with
      |nil=>exact absurd (congrArg List.length hh) (by simp only[W15,W1V];omega)
      |cons a t=>exact ⟨a,t,rfl⟩
     have hl:(a::t).getLast (by simp)=l[q]:=by
      have:(l.take (q+1)).getLast (by rw[hat];simp)=l[q]:=by
       simp only[List.getLast_eq_getElem,W1W,W15]
       congr 1;omega
      simpa [hat] using this
     rw[hat,W1e,cmpI,cmpI,ZjI,hl];by_cases c:l[q]=l[q+1]
     . rw[if_pos c,if_pos ⟨by omega,by simp[smI,c]⟩]
     . rw[if_neg c,if_neg (λh=>c (by have:=h.2;simp[smI]at this;exact this.symm))];simp
theorem ZjK (l:List Int):cpcI l=cmpI l:=by rw[cpcI,ZjJ l _ (W0f _),W0v]
section
variable {G:Nat->Option (List AV)}
theorem ZjL (l:List Int) (h3:l.length<=1000) :
  PB Tryz.prog G 116 [(1000,.row 1 (l.map ia))] [.osl 1000 l.length] (cpvI 1000 l) [(1000,.row 1 (cpoI l))]:=by
 (refine Zia (W0C rfl) λR hG hrd=>Qga ?_;subst hG)
 simp -implicitDefEqProofs[Zi8,Zi9];by_cases hs:(l.length:Int)<2
 . have e:cpcI l=l:=ZjG λj h1 h2=>by omega
   simp -implicitDefEqProofs[hs];refine ⟨[.osl 1000 l.length],?_,?_,?_⟩
   . simp[Z29,evRes,Yi,newK,frzA,frz,AV.keys,lk,St.tmp,Zi9]
   . simp[cpvI,e,tupV]
   . simp[Yi,newK,Zjy,cpoI,e]
 simp -implicitDefEqProofs[hs];refine Za9 (λi=>⟨[(3,.int .i64 ((i:Int)+1)),(0,.osl 1000 l.length)],[(1000,.row 1 (l.map ia))]⟩) (λi=>noI l (i+1)) (l.length-1) ?_ (λj h1 h2=>by omega) ?_ ?_
 . refine Ym.sub (by simp[lk,Ya,AV.keys]) ?_;simp only[W0g,W0Q,or_false,W1N,forall_eq,Zfv,and_true];simp[lk]
 . intro i hi hn;refine Qga ?_;have k1:(i:Int)+1<l.length:=(by omega);have k2:((i:Int)+1).toNat=i+1:=(by omega);have k3:(0:Int)<=(i:Int)+1:=(by omega);have k4:i+1<l.length:=(by omega);have k5:i<l.length:=(by omega);have w1:IntKind.i64.wrap (i:Int)=i:=Yf (by omega) (by omega);have w2:IntKind.i64.wrap ((i:Int)+1+1)=(i:Int)+1+1:=Yf (by omega) (by omega);have ex:∀ x,ia x=[.int .i64 x]:=λx=>rfl
   have hsm:smI (l.getD (i+1) default) (l.getD i default)=decide (l[i+1]=l[i]):=(by rw[ZjF k4,ZjF k5];rfl);by_cases hd:l[i+1]=l[i]
   . simp -implicitDefEqProofs [k1,k2,k3,k4,k5,w1,ex,hd];refine ⟨rfl,?_⟩;rw[W0M hd]at hsm;have hs2:i+1≠0/\smI (l.getD (i+1) default) (l.getD (i+1-1) default)=true:=⟨by omega,hsm⟩;have hk:=ZjA hn (by omega);have hk1:(kI l (i+1)).length=i+1:=(by rw[hk];simp;omega);obtain ⟨c1,c2⟩:=ZjE hs2;have c3:cpI l (i+1)=l:=(by rw[cpI,hk1,hk,W11]);have hkl:=λp=>kI_lt (l:=l) (k:=i+1) (by omega) hsm p
     have k6:i+1<=l.length:=(by omega);simp -implicitDefEqProofs[k2,k3,k6];refine Za9 (λj=>⟨[(5,.int .i64 ((j:Int)+1)),(4,.oss 1000 l.length (i+1) l.length),(3,.int .i64 (kI l (i+1+1+j)).length),(0,.osl 1000 l.length)],[(1000,.row 1 ((cpI l (i+1+1+j)).map ia))]⟩) (λ_=>True) (l.length-(i+1+1)) ?_ trivial ?_ ?_
     . have z1:cpI l (i+1+1+0)=l:=(by rw[W1Y,c1,c3]);have z2:(kI l (i+1+1+0)).length=i+1:=(by rw[W1Y,c2,hk1]);rw[z1,z2];refine Ym.sub (by simp[lk,Ya,AV.keys]) ?_;simp only[W0g,W0Q,or_false,W1N,forall_eq,Zfv,and_true];simp[lk]
     . intro j hj _;refine Qga ?_;have hq:i+1+1+j<l.length:=(by omega);have hq2:i+1+j<l.length:=(by omega);have hml:=hkl (i+1+1+j) (by omega);have hcl:=ZjB (l:=l) (p:=i+1+1+j) (by omega);have a1:=ZjC (j:=i+1+1+j) hq (by omega) (by omega);have a2:=ZjC (j:=i+1+j) hq (by omega) (by omega);rw[ZjF hq]at a1;rw[ZjF hq2]at a2;have hkeep:=ZjD hq;have hskip:=ZjE (l:=l) (p:=i+1+1+j);have e3:i+1+1+j-1=i+1+j:=(by omega);have hkk:kI l (i+1+1+j+1)=kI l (i+1+1+j+1):=rfl
       conv at hkk=>rhs;rw[kI]
       have hsm2:smI (l.getD (i+1+1+j) default) (l.getD (i+1+j) default)=decide (l[i+1+1+j]=l[i+1+j]):=(by rw[ZjF hq,ZjF hq2];rfl);rw[e3,hsm2,ZjF hq]at hkeep hkk;rw[e3,hsm2]at hskip;have e4:i+1+1+(j+1)=i+1+1+j+1:=(by omega);have m1:(j:Int)+1<((l.length-(i+1):Nat):Int):=(by omega);have m2:((j:Int)+1).toNat=j+1:=(by omega);have m3:(0:Int)<=(j:Int)+1:=(by omega);have m4:j+1<l.length-(i+1):=(by omega);have m5:j<l.length-(i+1):=(by omega);have m6:i+1+(j+1)=i+1+1+j:=(by omega);have u1:IntKind.i64.wrap (j:Int)=j:=Yf (by omega) (by omega);have u2:IntKind.i64.wrap ((j:Int)+1+1)=(j:Int)+1+1:=Yf (by omega) (by omega);have u3:IntKind.i64.wrap (((kI l (i+1+1+j)).length:Int)+1)=(kI l (i+1+1+j)).length+1:=Yf (by omega) (by omega);have m7:(kI l (i+1+1+j)).length<l.length:=(by omega);have hpl:=Zjz l (i+1+1+j);generalize cpI l (i+1+1+j)=Q at *;obtain ⟨q1,g1⟩:=W02.1 a1;obtain ⟨q2,g2⟩:=W02.1 a2;generalize l[i+1+1+j]=x at *;generalize l[i+1+j]=y at *;have ex1:=ex x;have ey1:=ex y;by_cases hd2:x=y
       . obtain ⟨f1,f2⟩:=hskip ⟨by omega,W0M hd2⟩;simp -implicitDefEqProofs[m1,m2,m3,m4,m5,m6,u1,u2,hq,hq2,g1,g2,hcl,ex1,ey1,hd2];refine ⟨rfl,?_⟩;rw[e4,f1,f2];refine Ym.sub (by simp[lk,Ya,AV.keys]) ?_;simp only[W0g,W0Q,or_false,W1N,forall_eq,Zfv,and_true];simp[lk]
       . have hn2:¬(i+1+1+j≠0/\decide (x=y)=true):=by
          rintro ⟨-,h⟩;exact hd2 (W0X h)
         have f1:=hkeep hn2;rw[if_neg hn2]at hkk;have il:∀ z:Int,(ia z).length=1:=λz=>rfl
         have id5:∀ z:Int,(ia z).drop 1=[]:=λz=>rfl
         have m8:(((kI l (i+1+1+j)).length:Int)+1)=((kI l (i+1+1+j+1)).length:Nat):=(by rw[hkk];simp);simp -implicitDefEqProofs[hd2,m1,m2,m3,m4,m5,m6,u1,u2,u3,hq,hq2,g1,g2,hcl,ex1,ey1,m7,il,id5];refine ⟨rfl,?_⟩;rw[<- ex1,<- W2s,f1,m8,e4];refine Ym.sub (by simp[lk,Ya,AV.keys]) ?_;simp only[W0g,W0Q,or_false,W1N,forall_eq,Zfv,and_true];simp[lk]
     . intro _;refine Qga ?_;have n1:¬(((l.length-(i+1+1):Nat):Int)+1<((l.length-(i+1):Nat):Int)):=(by omega);have e5:i+1+1+(l.length-(i+1+1))=l.length:=(by omega);rw[e5];have hml:=hkl l.length (by omega);have hcl:=ZjB (l:=l) (p:=l.length) (W0f _);have n2:(kI l l.length).length<=l.length:=(by omega);simp -implicitDefEqProofs[n1,hcl];refine Qgr ?_;simp -implicitDefEqProofs[hcl,n2];refine Qgr ?_
       have t1:List.take (kI l l.length).length ((cpI l l.length).map ia)=(cpcI l).map ia:=by
        rw[<- List.map_take,cpI,List.take_left'];rfl;rfl
       have t2:List.drop l.length ((cpI l l.length).map ia)=[]:=W1j (by simp[hcl]);rw[t1,t2,W1H];have hne:¬(cpcI l).length=l.length:=(by rw[cpcI];omega);refine ⟨[.oss 1000 l.length 0 (kI l l.length).length],?_,?_,?_⟩
       . simp[Z29,evRes,Yi,newK,frzA,frz,AV.keys,lk,St.tmp]
       . rw[cpvI,if_neg hne];rfl
       . have hz:List.map ia (cpcI l)++List.replicate (l.length-(kI l l.length).length) [AV.int .i64 0]=cpoI l:=rfl;rw[hz];simp[Yi,newK,ZjH]
   . rw [W0S hd]at hsm;simp -implicitDefEqProofs[k1,k2,k3,k4,k5,w1,ex,hd,w2];refine ⟨rfl,?_,λj h1 h2=>?_⟩
     . (refine Ym.sub (by simp[lk,Ya,AV.keys]) ?_;simp only[Wkl,Zfv,and_true];(try simp[lk,Yc,Ya,AV.keys]))
     . rcases W0q j (i+1) with h|h
       . exact hn j h1 h
       . have:j=i+1:=(by omega);subst this;exact hsm
 . intro hn;refine Qga ?_;have k1:¬((l.length-1:Nat):Int)+1<l.length:=by omega
   have hn2:noI l l.length:=by
    have:l.length-1+1=l.length:=by omega
    rwa [this]at hn
   have e:cpcI l=l:=ZjG hn2;simp -implicitDefEqProofs[k1];refine Qgr ?_;simp -implicitDefEqProofs[];refine ⟨[.osl 1000 l.length],?_,?_,?_⟩
   . simp[Z29,evRes,Yi,newK,frzA,frz,AV.keys,lk,St.tmp,Zi9]
   . simp[cpvI,e,tupV]
   . simp[Yi,newK,Zjy,cpoI,e]
end
end Go.Proofs.YtcdlimgkliklhaaGreatDoor

namespace Go.Proofs
open Go.Shelf
def Tryz.lays189_ren:Go.Shelf.Ren:=⟨fun|189=>115|125=>165|257=>164|128=>192|129=>193|294=>183|295=>184|296=>185|297=>186|298=>187|299=>188|216=>189|300=>190|301=>191|328=>203|329=>204|330=>205|331=>206|332=>207|215=>157|343=>213|n=>n,fun|28=>34|3=>3|46=>225|0=>0|51=>93|53=>156|4=>4|183=>255|182=>254|131=>159|5=>5|9=>9|218=>272|222=>276|228=>284|229=>285|n=>n,fun|n=>n⟩
theorem Tryz.lays189:Go.Proofs.Lays.n189 Tryz.prog Tryz.lays189_ren:={
 mixed:=by kernel_rfl
 f125:=Tryz.func165.trans (congrArg some (by kernel_rfl))
 f128:=Tryz.func192.trans (congrArg some (by kernel_rfl))
 f129:=Tryz.func193.trans (congrArg some (by kernel_rfl))
 f189:=Tryz.func115.trans (congrArg some (by kernel_rfl))
 f215:=Tryz.func157.trans (congrArg some (by kernel_rfl))
 f216:=Tryz.func189.trans (congrArg some (by kernel_rfl))
 f257:=Tryz.func164.trans (congrArg some (by kernel_rfl))
 f294:=Tryz.func183.trans (congrArg some (by kernel_rfl))
 f295:=Tryz.func184.trans (congrArg some (by kernel_rfl))
 f296:=Tryz.func185.trans (congrArg some (by kernel_rfl))
 f297:=Tryz.func186.trans (congrArg some (by kernel_rfl))
 f298:=Tryz.func187.trans (congrArg some (by kernel_rfl))
 f299:=Tryz.func188.trans (congrArg some (by kernel_rfl))
 f300:=Tryz.func190.trans (congrArg some (by kernel_rfl))
 f301:=Tryz.func191.trans (congrArg some (by kernel_rfl))
 f328:=Tryz.func203.trans (congrArg some (by kernel_rfl))
 f329:=Tryz.func204.trans (congrArg some (by kernel_rfl))
 f330:=Tryz.func205.trans (congrArg some (by kernel_rfl))
 f331:=Tryz.func206.trans (congrArg some (by kernel_rfl))
 f332:=Tryz.func207.trans (congrArg some (by kernel_rfl))
 f343:=Tryz.func213.trans (congrArg some (by kernel_rfl))
 t0:=Tryz.underlying0
 a0:=Tryz.isAgg0
 z0:=Tryz.sizeOf0
 v0:=Tryz.zeroValue0
 t3:=Tryz.underlying3
 a3:=Tryz.isAgg3
 z3:=Tryz.sizeOf3
 v3:=Tryz.zeroValue3
 t4:=Tryz.underlying4
 a4:=Tryz.isAgg4
 z4:=Tryz.sizeOf4
 v4:=Tryz.zeroValue4
 t5:=Tryz.underlying5
 a5:=Tryz.isAgg5
 z5:=Tryz.sizeOf5
 v5:=Tryz.zeroValue5
 t9:=Tryz.underlying9
 a9:=Tryz.isAgg9
 z9:=Tryz.sizeOf9
 v9:=Tryz.zeroValue9
 t28:=Tryz.underlying34
 a28:=Tryz.isAgg34
 z28:=Tryz.sizeOf34
 v28:=Tryz.zeroValue34
 t46:=Tryz.underlying225
 a46:=Tryz.isAgg225
 z46:=Tryz.sizeOf225
 v46:=Tryz.zeroValue225
 t51:=Tryz.underlying93
 a51:=Tryz.isAgg93
 z51:=Tryz.sizeOf93
 v51:=Tryz.zeroValue93
 t53:=Tryz.underlying156
 a53:=Tryz.isAgg156
 z53:=Tryz.sizeOf156
 v53:=Tryz.zeroValue156
 t131:=Tryz.underlying159
 a131:=Tryz.isAgg159
 z131:=Tryz.sizeOf159
 v131:=Tryz.zeroValue159
 t182:=Tryz.underlying254
 a182:=Tryz.isAgg254
 z182:=Tryz.sizeOf254
 v182:=Tryz.zeroValue254
 t183:=Tryz.underlying255
 a183:=Tryz.isAgg255
 z183:=Tryz.sizeOf255
 v183:=Tryz.zeroValue255
 t218:=Tryz.underlying272
 a218:=Tryz.isAgg272
 z218:=Tryz.sizeOf272
 v218:=Tryz.zeroValue272
 t222:=Tryz.underlying276
 a222:=Tryz.isAgg276
 z222:=Tryz.sizeOf276
 v222:=Tryz.zeroValue276
 t228:=Tryz.underlying284
 a228:=Tryz.isAgg284
 z228:=Tryz.sizeOf284
 v228:=Tryz.zeroValue284
 t229:=Tryz.underlying285
 a229:=Tryz.isAgg285
 z229:=Tryz.sizeOf285
 v229:=Tryz.zeroValue285 }
open Go.Sort Go.RowKit in
theorem Tryz.slices_Sort_int (blk off cap:Nat) (zs:List Int) (w:World) (hH:Holds (Value.int .i64) w blk off zs.toArray) (hblk:blk<w.heap.size) (hsz:zs.length<4611686018427387904) :
 Calls Tryz.prog 115 #[.slice (some ⟨blk,off,none⟩) zs.length cap] w λe w' =>
  e = .returned (.tuple #[])/\∃ n os,w'=grow (putRow (Value.int .i64) (Sort.ahead w n) blk off (zs.mergeSort λx y=>decide (x<=y)).toArray) os:=Any.slices_Sort_int Tryz.lays189 blk off cap zs w hH hblk hsz
end Go.Proofs

namespace Go.Proofs.YtcdlimgkliklhaaGreatDoor
open Go.RowKit
theorem ZjM (W:World) (os:Array Obj):Ext W (Go.Sort.grow W os):=by
 refine ⟨rfl,rfl,rfl,?_,λk hk=>?_⟩
 . simp[Go.Sort.grow]
 . simp only[Go.Sort.grow];exact W28 hk
section
variable {G:Nat->Option (List AV)}
theorem ZjN (l:List Int) (hm:l.length<4611686018427387904) :
  PB Tryz.prog G 115 [(1000,.row 1 (l.map ia))] [.osl 1000 l.length] (.tup []) [(1000,.row 1 ((sortI l).map ia))]:=by
 refine ⟨by kernel_rfl,λR W κ vs hG hN hW hX hE hk hsz hvs=>?_⟩;have hg:(obSt [(1000,.row 1 (l.map ia))]).get 1000=some (.row 1 (l.map ia)):=rfl;obtain ⟨vs⟩:=vs
 match vs,hsz with
 |[v],_ =>
 have hv:=hvs 0 _ v rfl rfl;obtain ⟨b,s,c,cs,t,hκ,rfl,hnc,hc,hb,hs,hr,hx⟩:=hk.osl hv hg (by simp)
 have hcell:∀ i,i<l.length->cs[s+i]? = some (.int .i64 l[i]!):=by
  intro i hi;obtain ⟨u,hu,hu2⟩:=hx i 0 (ia l[i]) (.int .i64 l[i]) (by simp[hi]) rfl
  have hu3:u = .int .i64 l[i]:=by
   cases hu2 with|pv h=>cases h;rfl
  subst hu3;rw[getElem!_pos l i hi];simpa using hu
 have hH:Go.Sort.Holds (Value.int .i64) W b s l.toArray:=by
  intro j hj;have hj':j<l.length:=(by simpa using hj);refine ⟨?_,by simp[World.frozen?,hb]⟩;rw[World.cell?,hb];simpa using hcell j hj'
 have hlt:=hk.loc_lt hκ;refine (Go.Proofs.Tryz.slices_Sort_int b s c l W hH hlt hm).mono ?_;rintro e W' ⟨rfl,n,os,rfl⟩;have hsl:(sortI l).length=l.length:=Zds l;refine ⟨_,κ,rfl,?_,.tup [] #[] rfl (by simp)⟩;refine SK.grow ?_ (ZjM _ _)
 have:=hk.change (o':=.row 1 ((sortI l).map ia)) (W':=Go.Sort.putRow (Value.int .i64) (Go.Sort.ahead W n) b s (l.mergeSort λx y=>decide (x<=y)).toArray)
  (cs':=Go.Sort.putCells (Value.int .i64) s (l.mergeSort λx y=>decide (x<=y)).toArray cs) hg hκ hb (by simp[AObj.dim,hsl]) (by simp[Go.Sort.putCells])
  (by simp[Go.Sort.putRow,Go.Sort.mapBlock,Go.Sort.ahead])
  (by simp[Go.Sort.putRow,Go.Sort.mapBlock,Go.Sort.ahead,Array.getElem?_modify,hb,Go.Sort.onCells])
  (by intro i hi hne;simp[Go.Sort.putRow,Go.Sort.mapBlock,Go.Sort.ahead,Array.getElem?_modify,Ne.symm hne]) rfl rfl rfl ?_
 . exact this
 . refine ⟨by simp[ia],by simp[Go.Sort.putCells];omega,?_⟩;intro i j r x hi hj
   have hi2:i<l.length:=by
    have:=(W02.1 hi).1;simpa [hsl] using this
   have hi3:i<(sortI l).length:=(by omega);rw[W09,W07 hi3,W0m,W00]at hi;subst hi
   match j,hj with
   |0,hj =>
   have ex:AV.int .i64 (sortI l)[i]=x:=(by simpa [ia] using hj);subst ex;refine ⟨.int .i64 (sortI l)[i],?_,.pv (.int _ _)⟩;have hz:s+i*1+0<cs.size:=(by omega);have e1:s+i*1+0-s=i:=(by omega);have e2:(l.mergeSort λx y=>decide (x<=y))=sortI l:=rfl;simp only[Go.Sort.putCells,e2];rw[Array.getElem?_mapIdx,W0n hz,W0m,if_pos (by simp;omega),e1];simp[hi3]
end
def herB (id day:Int) (x:Prt):Bool:=decide (x.ho=id)&&outB x day
def sureM (ps:List Prt) (day id d:Int):Int:=((ps.filter λx=>herB id day x&&decide (x.dw=d)&&decide (x.lo=0)).map (·.lt)).foldl max 0
def perhL (ps:List Prt) (day id d:Int):List Int:=(ps.filter λx=>herB id day x&&decide (x.dw=d) && !decide (x.lo=0)).map (·.lt)
def wkL (ps:List Prt) (day id d:Int):List Int:=sureM ps day id d::r9.filter λn=>decide (sureM ps day id d<n)&&(perhL ps day id d).contains n
def r1K (k:Nat):Nat:=if 1000<=k then k-1000 else k
def nlV (k:Nat) (S:List Int):AV:=if S=[] then .nils else .osl k S.length
def nlO (k:Nat) (S:List Int):List (Nat×AObj):=if S=[] then [] else [(k,.row 1 (S.map ia))]
def nlN (k:Nat) (S:List Int):Nat:=if S=[] then k-1000 else k
theorem ZjO (o:List (Nat×AObj)) (k:Nat) (S:List Int):∀ q∈nlO k S,Yc o q.2=true:=by
 intro q hq;unfold nlO at hq
 split at hq
 . cases hq
 . simp at hq;subst hq;exact Zfv o S
theorem ZjP (ρ:Nat->Nat) (l:List Int):(AObj.row 1 (l.map ia)).ren ρ = .row 1 (l.map ia):=by
 simp only[AObj.ren,W10]
 congr 2
 funext p;simp[ia,AV.ren]
section
variable {G:Nat->Option (List AV)}
theorem ZjQ (r:List Iss) (l:List Nte) (hs:List Hld) (ps:List Prt) (day:Int):PC Tryz.prog G 70 [ofA r l hs ps,.int .i64 day] (.func (.func 128) [] [.vptr [ofA r l hs ps] 0,.vptr [.int .i64 day] 0]):=by
 have pO:=ZiI r l hs ps;obtain ⟨cs,eS⟩ : ∃ cs,ofA r l hs ps = .vptr cs 0:=⟨_,rfl⟩;rw[eS]at pO ⊢
 (refine ZhX rfl λR hG hrd=>Qga ?_;subst hG)
 simp -implicitDefEqProofs[ZhV,ZhW,pO]
end
def smS (U:List Int) (v i:Nat):St:=⟨[(10,.int .i64 i),(9,.int .i64 U.length),(8,.vsl (U.map ia)),(5,nlV 23 (sbN U v i)),(1,.int .i64 v)],nlO 23 (sbN U v i)⟩
def drA (r:List Iss) (l:List Nte) (d m:Int):AV:=.tup [if asN r l [] m=0/\d∈nums r then fileA r l else .nilp,.int .i64 (if asN r l [] m=0 then if d∈nums r then 0 else 6 else asN r l [] m)]
def truE (U:List Int):List (AV×AV):=(List.range (2 ^ U.length)).map λ(v:Nat)=>(.int .i64 (v:Int),Yg ((sbT U v).map ia))
theorem ZjR {U:List Int} {v:Nat} (h:v<2 ^ U.length):(truE U)[v]? = some (.int .i64 v,Yg ((sbT U v).map ia)):=by
 unfold truE;rw[W09,W0L h];rfl
theorem ZjS (U:List Int):(truE U).length=2 ^ U.length:=by simp[truE]
section
variable {G:Nat->Option (List AV)}
theorem ZjT (U:List Int) (v:Nat) (hv:v<64) (hU:U.length<=5):PC Tryz.prog G 161 [.vsl (U.map ia),.int .i64 v] (Yg ((sbT U v).map ia)):=by
 refine Z6y rfl λR hG hrd=>?_
 subst hG;refine Qga ?_;simp -implicitDefEqProofs[Z6w,Z6x];refine Za9 (smS U v) (λ_=>True) U.length ?_ trivial ?_ ?_
 . have e0:sbN U v 0=[]:=rfl;simp only[smS,nlV,nlO,e0,if_true]
   (refine Ym.sub (by simp[lk,Ya,AV.keys]) ?_;simp only[Wkl,and_true];(try simp[lk,Yc,Ya,AV.keys]))
 . intro i hi _;have sc:sbN U v (i+1)=if v / 2 ^ i % 2=1 then sbN U v i++[U.getD i 0] else sbN U v i:=rfl
   have hle:=Zh3 U v i;have bU:=bitU (v:=v) (i:=i) hv (by omega);have hg:U.getD i 0=U[i]:=(by rw[W0j,W07 hi];rfl);rw[hg]at sc;have wi:IntKind.i64.wrap ((i:Int)+1)=(i:Int)+1:=Yf (by omega) (by omega);obtain ⟨S,hS⟩ : ∃ S,S=sbN U v i:=⟨_,rfl⟩;rw[<- hS]at sc hle;obtain ⟨T,hT⟩ : ∃ T,T=sbN U v (i+1):=⟨_,rfl⟩;rw[<- hT]at sc;have bb:(S.length+1)*8<=70368744177664:=(by omega);by_cases cS:S=[]
   case' pos =>
    have hV:nlV 23 S = .nils:=(by simp[nlV,cS]);have hQ:nlO 23 S=[]:=by simp[nlO,cS]
   case' neg =>
    have hV:nlV 23 S = .osl 23 S.length:=(by simp[nlV,cS]);have hQ:nlO 23 S=[(23,.row 1 (S.map ia))]:=by simp[nlO,cS]
   all_goals
    refine Qga ?_;by_cases q:v / 2 ^ i % 2=1
    . rw[if_pos q]at sc bU;have hne:¬T=[]:=(by rw[sc];simp);have hV2:nlV 23 T = .osl 23 (S.length+1):=(by rw[nlV,if_neg hne,sc];simp);have hQ2:nlO 23 T=[(23,.row 1 (S.map ia++[ia U[i]]))]:=(by rw[nlO,if_neg hne,sc];simp);simp -implicitDefEqProofs[smS,<- hS,hV,hQ,hi,ia,bU,wi,bb];simp only[smS,<- hT,hV2,hQ2]
      ((try simp only[ia,cS]);refine Ym.sub (by simp[lk,Ya,AV.keys,ia,cS]) ?_;simp only[ia,cS,Wkl,Zfv,and_true];(try simp[lk,Yc,Ya,AV.keys,ia,cS]))
    . rw[if_neg q]at sc bU;have sc:T=S:=sc;subst sc;simp -implicitDefEqProofs[smS,<- hS,hV,hQ,hi,ia,bU,wi];simp only[smS,<- hT,hV,hQ]
      ((try simp only[ia]);refine Ym.sub (by simp[lk,Ya,AV.keys,ia]) ?_;simp only[ia,Wkl,Zfv,and_true];(try simp[lk,Yc,Ya,AV.keys,ia]))
 . intro _;obtain ⟨S,hS⟩ : ∃ S,S=sbN U v U.length:=⟨_,rfl⟩;have eT:sbT U v=S:=hS.symm;refine Qga ?_;by_cases cS:S=[]
   . have hV:nlV 23 S = .nils:=(by simp[nlV,cS]);have hQ:nlO 23 S=[]:=(by simp[nlO,cS]);simp -implicitDefEqProofs[smS,<- hS,hV,hQ];refine Qgr ?_;simp -implicitDefEqProofs[eT,cS,Yg]
   . have hV:nlV 23 S = .osl 23 S.length:=(by simp[nlV,cS]);have hQ:nlO 23 S=[(23,.row 1 (S.map ia))]:=(by simp[nlO,cS]);simp -implicitDefEqProofs[smS,<- hS,hV,hQ];refine Qgr ?_;simp -implicitDefEqProofs[eT,cS,Yg,ia]
theorem ZjU (hG:GC G) (hN:GN G) (r:List Iss) (l:List Nte) (d m:Int) (hw:WfN l) (hr:Wf r) (hd:Sml (nums r)):PC Tryz.prog G 111 [.agg [.vsl (r.map isa),.vsl (l.map na)],.nils,.int .i64 m,.int .i64 d] (drA r l d m):=by
 have ha:=PC.sub (Zgm hG hN r l [] m hw hr (by simp[Sml])) (xs:=[.agg [.vsl (r.map isa),.vsl (l.map na)],.nils,.int .i64 m]) ⟨.rfl',.nils,.rfl',trivial⟩;have hc:=ZfQ (G:=G) (nums r) d hd;have pF:=Zgi r l;have kF:(fileA r l).keys=[]:=AV.pure_keys _ pF;have hF:fileA r l = .vptr [.vsl (r.map isa),.vsl (l.map na),.vsl ((nums r).map ia),opA l] 0:=rfl;unfold drA;unfold askA at ha;by_cases h0:asN r l [] m=0
 . rw[h0]at ha ⊢;rw[hF]at ha pF ⊢
   (refine Z6r rfl λR hG hrd=>Qga ?_;subst hG)
   simp -implicitDefEqProofs[Z6p,Z6q];refine Qco (ha) (by simp) ?_;simp -implicitDefEqProofs[pF];refine Qco (hc) (by simp) ?_;by_cases h1:d∈nums r
   . simp -implicitDefEqProofs[h1,pF]
   . simp -implicitDefEqProofs[h1,pF]
 . rw[if_neg h0]at ha
   (refine Z6r rfl λR hG hrd=>Qga ?_;subst hG)
   simp -implicitDefEqProofs[Z6p,Z6q];refine Qco (ha) (by simp) ?_;simp -implicitDefEqProofs[h0]
theorem ZjV (r:List Iss) (l:List Nte):PC Tryz.prog G 112 [fileA r l] (.func (.func 160) [] [.vptr [fileA r l] 0]):=by
 have pO:=Zgi r l;obtain ⟨cs,eS⟩ : ∃ cs,fileA r l = .vptr cs 0:=⟨_,rfl⟩;rw[eS]at pO ⊢
 (refine Z6u rfl λR hG hrd=>Qga ?_;subst hG)
 simp -implicitDefEqProofs[Z6s,Z6t,pO]
end
def toT (F:AV) (K:Nat) (l i:Nat):List (Nat×AV):=[(10,.int .i64 i),(9,.int .i64 K),(1,.vptr [F] 0),(0,.func (.yield l) [] [])]
theorem ZjW (S:List Int):(Yg (S.map ia)).pure=true:=by unfold Yg;split <;> simp_all [AV.pure,ia]
section
variable {G:Nat->Option (List AV)}
set_option maxHeartbeats 2000000 in
theorem ZjX (r:List Iss) (l:List Nte) (hU:(opQ l).length<=5) :
  Zj6 Tryz.prog G 160 [.vptr [fileA r l] 0] (truE (opQ l)):=by
 have pO:=Zgi r l;have hpw:=pow5 hU;have sh:=shU (n:=(opQ l).length) (by omega)
 have oA:opA l=Yg ((opQ l).map ia):=by
  unfold opA Yg opQ;by_cases c:opU l=[]
  . simp[c,sortI]
  . have h2:sortI (opU l)≠[]:=λh=>c (by have:=congrArg List.length h;rw[Zds]at this;exact W0l.1 this)
    rw[if_neg c,if_neg (by simpa using h2)]
 have hA:=λ(v:Nat) (hv:v<64)=>PC.sub (ZjT (G:=G) (opQ l) v hv hU) (xs:=[opA l,.int .i64 v]) ⟨by rw[oA];exact .orNil _,.rfl',trivial⟩
 have eO:fileA r l = .vptr [.vsl (r.map isa),.vsl (l.map na),.vsl ((nums r).map ia),opA l] 0:=rfl;have pA:(opA l).pure=true:=by rw[oA];exact ZjW _
 have lenO:opA l = .nils/\(opQ l).length=0∨opA l = .vsl ((opQ l).map ia):=by
  rw[oA];unfold Yg
  split
  . rename_i h;left;exact ⟨rfl,by simpa using h⟩
  . right;rfl
 have hat:=λv (h:v<2 ^ (opQ l).length)=>ZjR (U:=opQ l) h
 have hln:=ZjS (opQ l);refine Zjo Tryz.func160 (by kernel_rfl) (rc:=Z6v) (by kernel_rfl) rfl (W0C rfl) λn l' J K hn H hY=>?_
 generalize truE (opQ l)=E at *;obtain ⟨k,hk⟩ : ∃ k,k=2 ^ (opQ l).length:=⟨_,rfl⟩;rw[<- hk]at hpw sh hat hln
 have pT:∀ i,∀ q∈toT (fileA r l) k l' i,q.2.pure=true:=λi q hq=>by
  simp only[toT,W0g,W0Q,or_false]at hq;rcases hq with rfl|rfl|rfl|rfl <;> simp[AV.pure,pO]
 unfold Z6v;refine Zje ⟨toT (fileA r l) k l' 0,[]⟩ (λM A=>?_) (Zjg (Zjh (λi=>i) (λi=>⟨toT (fileA r l) k l' i,[]⟩) (λi=>i<=k) (λi=>k-i) 0 rfl rfl (W1f _) λi hi=>?_))
 . refine Qga ?_;rcases lenO with ⟨h1,h2⟩|h1
   . rw[h2]at sh;have k1:k=1:=(by rw[hk,h2]);have sh0:IntKind.i64.wrap 1=(k:Int):=(by rw[k1];rfl);simp -implicitDefEqProofs[iniT,eO,toT,h1,sh0]
     (refine Ym.sub (by simp[lk,Ya,AV.keys]) ?_;simp only[Wkl,and_true];(try simp[lk,Yc,Ya,AV.keys]))
   . simp -implicitDefEqProofs[iniT,eO,toT,h1,sh]
     (refine Ym.sub (by simp[lk,Ya,AV.keys]) ?_;simp only[Wkl,and_true];(try simp[lk,Yc,Ya,AV.keys]))
 by_cases hlt:i<k
 case neg =>
  obtain rfl:i=k:=(by omega);refine Zje ⟨(11,.bool false)::toT (fileA r l) i l' i,[]⟩ (λM A=>?_) (Zjc (Zjf (.exit 0) ⟨[],[]⟩ (λM A=>?_) ?_))
  . refine Qga ?_;simp -implicitDefEqProofs[toT];exact (by (first|exact Ym.tm (by simp[lk])|exact Ym.sub (by simp[lk,Ya,AV.keys]) (by simp[lk,Yc,Ya,AV.keys])))
  . refine Qga ?_;simp -implicitDefEqProofs[toT];exact (by (first|exact Ym.tm (by simp[lk])|exact Ym.sub (by simp[lk,Ya,AV.keys]) (by simp[lk,Yc,Ya,AV.keys])))
  . simp only[ItBk,if_true];refine ⟨by simp,by simp[hln],λ_ _ _ h=>h⟩
 have wi:IntKind.i64.wrap ((i:Int)+1)=((i+1:Nat):Int):=Yf (by omega) (by omega);have hA:=hA i (by omega);have hat:=hat i hlt;have pV:=ZjW (sbT (opQ l) i);obtain ⟨V,hV⟩ : ∃ V,V=Yg ((sbT (opQ l) i).map ia):=⟨_,rfl⟩;rw[<- hV]at hA hat pV;refine Zje ⟨(11,.bool true)::toT (fileA r l) k l' i,[]⟩ (λM A=>?_) (Zje ⟨toT (fileA r l) k l' i,[]⟩ (λM A=>?_) (Zjd (Zjg ?_)))
 . refine Qga ?_;simp -implicitDefEqProofs[toT,hlt];exact (by (first|exact Ym.tm (by simp[lk])|exact Ym.sub (by simp[lk,Ya,AV.keys]) (by simp[lk,Yc,Ya,AV.keys])))
 . refine Qga ?_;simp -implicitDefEqProofs[toT];exact (by (first|exact Ym.tm (by simp[lk])|exact Ym.sub (by simp[lk,Ya,AV.keys]) (by simp[lk,Yc,Ya,AV.keys])))
 refine Zje ⟨(3,.int .i64 i)::toT (fileA r l) k l' i,[]⟩ (λM A=>?_) ?_
 . refine Qga ?_;simp -implicitDefEqProofs[toT];exact (by (first|exact Ym.tm (by simp[lk])|exact Ym.sub (by simp[lk,Ya,AV.keys]) (by simp[lk,Yc,Ya,AV.keys])))
 refine Zjj H hY 8 (d:=21) (f:=.t 13) (ys:=[.t 14,.t 20]) (gd:=none) rfl (xs:=[.int .i64 i,V])
  ((20,V)::(14,.int .i64 i)::(13,.func (.yield l') [] [])::toT (fileA r l) k l' i) ⟨(22,.bool false)::toT (fileA r l) k l' i,[]⟩ [] [(22,.bool true)] (W0C rfl) ?_ ?_ ?_ ?_ rfl rfl ?_ ?_ ?_ ?_ ?_ ?_
 . rw[W09,hat];rfl
 . intro x hx;simp only[W0g,W0Q,or_false]at hx;rcases hx with rfl|rfl
   . simp[AV.pure]
   . exact pV
 . intro q hq;simp only[W0g]at hq;rcases hq with rfl|rfl|rfl|hq
   . exact pV
   . simp[AV.pure]
   . simp[AV.pure]
   . exact pT i q hq
 . simp -implicitDefEqProofs[toT,eO]
   first|refine Yd.of hA (by simp[pA]) ?_|refine Ye.of hA (by simp[pA]) ?_
   simp -implicitDefEqProofs[pV]
   ((try simp only[AV.pure_keys _ pV]);refine Ym.sub (by simp[lk,Ya,AV.keys,AV.pure_keys _ pV]) ?_;simp only[AV.pure_keys _ pV,Wkl,and_true];(try simp[lk,Yc,Ya,AV.keys,AV.pure_keys _ pV]))
 . rfl
 . simp -implicitDefEqProofs[toT];exact (by (first|exact Ym.tm (by simp[lk])|exact Ym.sub (by simp[lk,Ya,AV.keys]) (by simp[lk,Yc,Ya,AV.keys])))
 . refine Zjf .normal ⟨toT (fileA r l) k l' i,[]⟩ (λM A=>?_) ⟨rfl,Zjf .normal ⟨toT (fileA r l) k l' (i+1),[]⟩ (λM A=>?_) ⟨i+1,rfl,rfl,by omega,by omega⟩⟩
   . refine Qga ?_;simp -implicitDefEqProofs[toT];exact (by (first|exact Ym.tm (by simp[lk])|exact Ym.sub (by simp[lk,Ya,AV.keys]) (by simp[lk,Yc,Ya,AV.keys])))
   . refine Qga ?_;simp -implicitDefEqProofs[toT,wi];exact (by (first|exact Ym.tm (by simp[lk])|exact Ym.sub (by simp[lk,Ya,AV.keys]) (by simp[lk,Yc,Ya,AV.keys])))
 . intro q hq
   cases hq
 . simp -implicitDefEqProofs[];exact (by (first|exact Ym.tm (by simp[lk])|exact Ym.sub (by simp[lk,Ya,AV.keys]) (by simp[lk,Yc,Ya,AV.keys])))
 . intro A;refine Qga ?_;simp -implicitDefEqProofs[];exact (by (first|exact Ym.tm (by simp[lk])|exact Ym.sub (by simp[lk,Ya,AV.keys]) (by simp[lk,Yc,Ya,AV.keys])))
end
theorem Z1B.sub {P:Program} {G:Nat->Option (List AV)} {st st1:St} {f:FuncId} {xs ys:List AV} {v:AV} (h:Z1B P G st f ys v st1) (hp:xs.all AV.pure=true) (hs:NsubL xs ys):Z1B P G st f xs v st1 :=
 λR a W κ vs hG hk ha=>h R a W κ vs hG hk ⟨ha.1.trans hs.len,λi y u hi hu=>by
  obtain ⟨x,h2,h3⟩:=hs.at i y hi;exact .pv (h3 _ _ _ ((ha.2 i x u h2 hu).toPV (W03.1 hp x (W0d h2))))⟩
theorem NewS.sub {P:Program} {G:Nat->Option (List AV)} {st:St} {ρ:Nat->Nat} {os:List (Nat×AObj)} {f:FuncId} {xs ys:List AV} {v:AV} (h:NewS P G st ρ os f ys v) (hp:xs.all AV.pure=true) (hs:NsubL xs ys):NewS P G st ρ os f xs v:=by
 obtain ⟨pre,h1,h2⟩:=h;exact ⟨pre,h1,λst' h'=>(h2 st' h').sub hp hs⟩
structure SetP (P:Program) (G:Nat->Option (List AV)) (so co:FuncId) (U:List Int):Prop where
 hsp:PB P G so [(1000,.row 1 (U.map ia))] [.osl 1000 U.length] (.tup []) [(1000,.row 1 ((sortI U).map ia))]
 hcp:PB P G co [(1000,.row 1 ((sortI U).map ia))] [.osl 1000 U.length] (if (setI U).length=U.length then .osl 1000 U.length else .oss 1000 U.length 0 (setI U).length) [(1000,.row 1 (cpoI (sortI U)))]
 hOl:(cpoI (sortI U)).length=U.length
 hOt:(cpoI (sortI U)).take (setI U).length=(setI U).map ia
 hOf:(setI U).length=U.length->cpoI (sortI U)=(setI U).map ia
 kO:∀ o,Yc o (.row 1 (cpoI (sortI U)))=true
 rO:∀ ρ,AObj.ren ρ (.row 1 (cpoI (sortI U))) = .row 1 (cpoI (sortI U))
 hCl:(setI U).length<=U.length
def poK (l:List Nte) (d m:Int) (k:Nat):List Int:=(List.range k).map (ltV l d m)
theorem Zk9 {l:List Nte} {d m:Int} {k:Nat}:poK l d m (k+1)=poK l d m k++[ltV l d m k]:=by simp[poK,W1y]
theorem Zka {l:List Nte} {d m:Int} {k:Nat}:(poK l d m k).length=k:=by simp[poK]
def poB (F:AV) (d m:Int) (S:List Int):List (Nat×AObj):=[(1004,.box [.int .i64 d]),(1005,.box [.int .i64 m]),(1008,.box [F]),(1010,.box [nlV 1037 S])]++nlO 1037 S
def poU (F:AV) (d m:Int) (S T:List Int):List (Nat×AObj):=[(1004,.box [.int .i64 d]),(1005,.box [.int .i64 m]),(1008,.box [F]),(1010,.box [nlV (nlN 1037 S) T])]++nlO (nlN 1037 S) T
def poF (k:Nat):Bool:=decide (k<1000)&&(k == 12||k == 204||k == 205||k == 206||k == 207||k == 209||k == 210||k == 211)
def poA (r:List Iss) (l:List Nte) (d m:Int):AV:=.tup [if asN r l [] m=0/\d∈nums r then .vsl ((posL l d m).map ia) else .nils,.int .i64 (if asN r l [] m=0 then if d∈nums r then 0 else 6 else asN r l [] m)]
section
variable {G:Nat->Option (List AV)}
theorem Zkb (U:List Int) (h:U.length<=1000):SetP Tryz.prog G 115 116 U:=by
 have hsp:=ZjN (G:=G) U (by omega);have sl:(sortI U).length=U.length:=Zds U;have hcp:=ZjL (G:=G) (sortI U) (by omega);rw[sl]at hcp;have hC:cpcI (sortI U)=setI U:=ZjK _
 have hCl:(setI U).length<=U.length:=by
  have:=Zjz (sortI U) (sortI U).length;rw[<- hC];unfold cpcI;omega
 have hOl:(cpoI (sortI U)).length=U.length:=by
  unfold cpoI;rw[W0s,W0N,W1I,hC,sl];omega
 have hOt:(cpoI (sortI U)).take (setI U).length=(setI U).map ia:=by
  unfold cpoI;rw[hC];exact List.take_left' (by simp)
 have hOf:(setI U).length=U.length->cpoI (sortI U)=(setI U).map ia:=λh=>by
  rw[<- hOt,h,<- hOl,W0v]
 have hcv:∀ k,cpvI k (sortI U)=if (setI U).length=U.length then .osl k U.length else .oss k U.length 0 (setI U).length:=λk=>by unfold cpvI;rw[hC,sl]
 rw[hcv]at hcp;have hz:∀ n,List.replicate n zrO=(List.replicate n (0:Int)).map ia:=λn=>by rw[List.map_replicate];rfl
 exact ⟨hsp,hcp,hOl,hOt,hOf,λo=>by unfold cpoI;rw[hz,<- W0r];exact Zfv _ _,λρ=>by unfold cpoI;rw[hz,<- W0r];exact Zfu _ _,hCl⟩
set_option maxHeartbeats 4000000 in
theorem Zkc (hG:GC G) (hN:GN G) (r:List Iss) (l:List Nte) (d m:Int) (hw:WfN l) (hr:Wf r) (hd:Sml (nums r)):PC Tryz.prog G 61 [.agg [.vsl (r.map isa),.vsl (l.map na)],.int .i64 d,.int .i64 m] (poA r l d m):=by
 have c1:=ZjU hG hN r l d m hw hr hd;unfold drA at c1;unfold poA;by_cases h0:asN r l [] m=0/\d∈nums r
 case neg =>
  rw[if_neg h0]at c1 ⊢;obtain ⟨e,he⟩ : ∃ e,e=(if asN r l [] m=0 then if d∈nums r then (0:Int) else 6 else asN r l [] m):=⟨_,rfl⟩
  have e0:¬e=0:=by
   rw[he];by_cases h1:asN r l [] m=0
   . rw[if_pos h1,if_neg λh=>h0 ⟨h1,h⟩];decide
   . rw[if_neg h1];exact h1
  rw[<- he]at c1 ⊢
  (refine Z6B rfl λR hG hrd=>Qga ?_;subst hG)
  simp -implicitDefEqProofs[Z6z,Z6A];refine Qco (c1) (by simp) ?_;simp -implicitDefEqProofs[e0]
 rw[if_pos h0,if_pos h0.1,if_pos h0.2]at c1;rw[if_pos h0,if_pos h0.1,if_pos h0.2];have hop:=Zjv (ZgI h0.1).1;have hB:=ZgH (ZgI h0.1).1;have hU:=Zh6 hB;have h12:=ZgJ hB;have hp2:=pow5 hU;have hpos:0<2 ^ (opQ l).length:=Nat.pos_of_ne_zero (by simp);have hps:=Ziv (l:=l) (d:=d) (m:=m) λv _=>ZiC hop hB h0.2 m v
 have e3:(List.range (2 ^ (opQ l).length)).map (ltV l d m)=poK l d m (2 ^ (opQ l).length):=rfl;rw[e3]at hps;have hlv:∀ v,ltV l d m v=(byV (sbT (opQ l) v) m l d l.length).lt:=λv=>rfl
 have tf:=ZjV (G:=G) r l;have hit:=ZjX (G:=G) r l hU;have hat:=λv (h:v<2 ^ (opQ l).length)=>ZjR (U:=opQ l) h
 have hln:=ZjS (opQ l);have sbl:=λv=>Zh3 (opQ l) v (opQ l).length
 have hSP:=Zkb (G:=G) (poK l d m (2 ^ (opQ l).length)) (by rw[Zka];omega);have hff:=λv=>Zgn (G:=G) r l false true (sbT (opQ l) v) [] m
 have hby:=λv=>by_pb (G:=G) r l (sbT (opQ l) v) m d [] h12 (by have:=sbl v;unfold Sml sbT;omega) (λ_ _ h=>by cases h)
 have l1:∀ s,liA false s = .vsl (s.map ia):=λs=>by simp[liA]
 have l2:liA true [] = .nils:=(by simp[liA]);simp only[l1,l2]at hff;generalize truE (opQ l)=E at *;obtain ⟨N,hN'⟩ : ∃ N,N=2 ^ (opQ l).length:=⟨_,rfl⟩;rw[<- hN']at hp2 hpos hps hat hln hSP;have pF:=Zgi r l;have kF:(fileA r l).keys=[]:=AV.pure_keys _ pF;have rF:=λρ=>AV.ren_pure (ρ:=ρ) (fileA r l) pF
 have fF:∀ ok st,frz ok st 6 (fileA r l)=some (fileA r l):=λok st=>by unfold fileA;simp[frz,AV.keys]
 obtain ⟨cs,hF⟩ : ∃ cs,fileA r l = .vptr cs 0:=⟨_,rfl⟩;simp only[hF]at c1 tf hit hff hby pF kF rF fF;clear hF;refine Z6B rfl λR hG' hrd=>?_
 subst hG';refine Qga ?_;simp -implicitDefEqProofs[Z6z,Z6A];refine Qco (c1) (by simp) ?_;simp -implicitDefEqProofs[];refine Yd.of tf (by simp[pF]) ?_;simp -implicitDefEqProofs[]
 refine Zj8 hrd (by decide) hit (by simp[evA,St.tmp,lk]) (by simp[AV.pure,pF]) poF (by intro k hk;simp[poF]at hk;omega) r1K [(4,.ptr 1004 0),(5,.ptr 1005 0),(8,.ptr 1008 0),(10,.ptr 1010 0)]
  (λk=>poB (.vptr cs 0) d m (poK l d m k)) (λk=>poU (.vptr cs 0) d m (poK l d m k) (poK l d m (k+1))) (λk=>k<=N) (W1f _) ?_ ?_ ?_ ?_ ?_ ?_ ?_ ?_ ?_ ?_ ?_
 . intro k q hq;simp only[poB,nlO]at hq
   split at hq <;> simp at hq
   . rcases hq with rfl|rfl|rfl|rfl <;> simp
   . rcases hq with rfl|rfl|rfl|rfl|rfl <;> simp
 . intro k;simp only[poB,nlO]
   split <;> simp[r1K]
 . intro k;simp only[poU,nlO,nlN]
   split <;> split <;> simp[r1K]
 . intro k q hq;have hne:poK l d m (k+1)≠[]:=(by rw[Zk9];simp);simp only[poB,poU,nlO,nlN]at *;by_cases c:poK l d m k=[]
   . simp only[c,if_true]at *
     split <;> simp at hq ⊢ <;> rcases hq with rfl|rfl|rfl|rfl <;> simp[isK,lk]
   . simp only[c,hne,if_false]at *;simp at hq ⊢;rcases hq with rfl|rfl|rfl|rfl|rfl <;> simp[isK,lk]
 . intro k q hq;simp only[poB,poU,nlO,nlN]at *;by_cases c:poK l d m k=[]
   . simp only[c,if_true]at *
     split at hq <;> simp at hq
     . rcases hq with rfl|rfl|rfl|rfl <;> exact .inl (by simp[isK,lk])
     . rcases hq with rfl|rfl|rfl|rfl|rfl
       . exact .inl (by simp[isK,lk])
       . exact .inl (by simp[isK,lk])
       . exact .inl (by simp[isK,lk])
       . exact .inl (by simp[isK,lk])
       . exact .inr (by simp[Yl,r1K,St.get,St.set,putO,lk])
   . simp only[c,if_false]at *
     split at hq <;> simp at hq
     . rcases hq with rfl|rfl|rfl|rfl <;> exact .inl (by simp[isK,lk])
     . rcases hq with rfl|rfl|rfl|rfl|rfl <;> exact .inl (by simp[isK,lk])
 . intro k;have hne:poK l d m (k+1)≠[]:=(by rw[Zk9];simp);simp only[poB,poU,nlO,nlV,nlN];by_cases c:poK l d m k=[]
   . simp[c,hne,Yl,r1K,AV.ren,Zh0,ZjP]
   . simp[c,hne,Yl,r1K,AV.ren,Zh0,ZjP]
 . have e0:poK l d m 0=[]:=rfl;simp[poB,nlO,nlV,e0,Yl,r1K,St.set,putO,AObj.ren,AV.ren,rF]
 . intro k q hq;simp only[poB,W0h]at hq;rcases hq with hq|hq
   . simp only[poB,nlO];simp at hq;rcases hq with rfl|rfl|rfl|rfl
     . simp[Yc,Ya,AV.keys]
     . simp[Yc,Ya,AV.keys]
     . simp[Yc,Ya,kF]
     . unfold nlV
       split <;> simp[Yc,Ya,AV.keys,lk]
   . exact ZjO _ _ _ q hq
 . intro q hq;simp at hq;rcases hq with rfl|rfl|rfl|rfl
   all_goals
    refine ⟨by simp[lk,AV.ren,r1K],by simp,by simp,λj k hk=>?_⟩;simp[AV.keys]at hk;subst hk;simp only[poB];simp[isK,lk]
 . intro k x hx hk R' hG hN;have hkl:k<N:=(by rw[<- hln];exact (W02.1 hx).1);rw[hat k hkl]at hx;obtain rfl:=W1M hx;have hff:=hff k;have hby:=hby k;have sc:=Zk9 (l:=l) (d:=d) (m:=m) (k:=k);have hle:=Zka (l:=l) (d:=d) (m:=m) (k:=k);rw[hlv]at sc;have pV:=ZjW (sbT (opQ l) k);have kV:=AV.pure_keys _ pV;have nV:Nsub (Yg ((sbT (opQ l) k).map ia)) (.vsl ((sbT (opQ l) k).map ia)):=.orNil _;obtain ⟨V,hV'⟩ : ∃ V,V=Yg ((sbT (opQ l) k).map ia):=⟨_,rfl⟩;rw[<- hV']at pV kV nV ⊢;obtain ⟨x,hx'⟩ : ∃ x,x=byV (sbT (opQ l) k) m l d l.length:=⟨_,rfl⟩;have hnx:na x=[.int .i64 x.nu,.int .i64 x.dy,.int .u8 x.sg,.int .i64 x.dr,.int .i64 x.lt,.int .i64 x.fr,.int .i64 x.tu,.int .i64 x.ca,.bool x.up,.int .u8 x.wy]:=rfl;rw[<- hx',hnx]at hby;rw[<- hx']at sc;obtain ⟨B,hB'⟩ : ∃ B,B=AV.vsl ((sbT (opQ l) k).map ia):=⟨_,rfl⟩;rw[<- hB']at hff hby nV;have pB:B.pure=true:=(by rw[hB'];simp[AV.pure,ia]);have rB:=λρ=>AV.ren_pure (ρ:=ρ) B pB
   have kB:B.keys=[]:=AV.pure_keys _ pB;generalize byK (sbT (opQ l) k) m l d l.length []=K at *;clear hB';generalize poK l d m k=S at *;generalize poK l d m (k+1)=T at *;have bb:(S.length+1)*8<=70368744177664:=(by omega);have hne:¬T=[]:=(by rw[sc];simp);have hTl:T.length=S.length+1:=(by rw[sc];simp);have em:T.map ia=S.map ia++[[.int .i64 x.lt]]:=(by rw[sc,W0r];rfl);by_cases cS:S=[]
   case' pos =>
    have hV:nlV 1037 S = .nils:=(by simp[nlV,cS]);have hQ:nlO 1037 S=[]:=(by simp[nlO,cS]);have hM:nlN 1037 S=37:=by simp[nlN,cS]
   case' neg =>
    have hV:nlV 1037 S = .osl 1037 S.length:=(by simp[nlV,cS]);have hQ:nlO 1037 S=[(1037,.row 1 (S.map ia))]:=(by simp[nlO,cS]);have hM:nlN 1037 S=1037:=by simp[nlN,cS]
   all_goals
    refine Qga ?_;simp only[poB,hV,hQ,W1e,W18];simp -implicitDefEqProofs[];intro R'' hG'' hN'';refine Z1P (Zk6 mixed ?_);rw[hG'']
    iterate 5 (rw[RE_op (by simp[wants]) (by simp[Z1y])];simp -implicitDefEqProofs[execE])
    rw[Zk8 (by simp[wants])];simp -implicitDefEqProofs[];refine CallE.new (NewS.sub (ys:=[.vptr cs 0,B,.nils,.int .i64 m]) (NewS.of hff (λk=>k+200) (by simp[ffO]) (by simp[ffO,St.get,lk]) (by simp[AV.pure,pF,pB]) rfl) (by simp[AV.pure,pF,pV]) ⟨.rfl',nV,.rfl',.rfl',trivial⟩) ?_;simp -implicitDefEqProofs[Yl,ffO,ffC,AV.ren,AObj.ren,rF,rB,kV,kF,kB]
    iterate 1 (rw[RE_op (by simp[wants]) (by simp[Z1y])];simp -implicitDefEqProofs[execE])
    rw[Zk8 (by simp[wants])];simp -implicitDefEqProofs[];refine CallE.new (NewS.ref hby (λk=>k-800) (by simp[fcO]) (by simp[fcO]) (by simp[fcO,St.get,lk,AV.ren,AObj.ren,mpA,rF,rB,fcC]) (by simp only[fcO,W0g,W0Q,or_false,W1N,forall_eq,Zg6,and_true];simp[lk,Yc,Ya,AV.keys,kF,kB,fcC]) (by simp[Ya,AV.keys,kF,lk,fcC,fcO]) rfl (by simp[AV.ren,rF,fcC]) rfl) ?_;simp -implicitDefEqProofs[Yl,fcO,fcC,AV.ren,AObj.ren,Zg7,rF,rB,kV,kF,kB]
    iterate 4 (rw[RE_op (by simp[wants]) (by simp[Z1y])];simp -implicitDefEqProofs[execE,bb])
    refine ⟨rfl,?_⟩;refine ⟨rfl,?_,by omega⟩;simp only[poU,hM,nlV,nlO,hne,if_false,hTl,em];simp[cS,Yi,poF,Zgd,frzO,frzA,frz,AV.keys,ia,fF,W0y]
 . intro _;rw[hln];have hUl:=Zka (l:=l) (d:=d) (m:=m) (k:=N);generalize poK l d m N=U at *;obtain ⟨hsp,hcp,hOl,hOt,hOf,kO,rO,hCl⟩:=hSP;have cU:¬U=[]:=λh=>by rw[h]at hUl;simp at hUl;omega
   rw[<- hps];have pu:((setI U).map ia).all (λr=>r.all AV.pure)=true:=(by simp[ia,AV.pure]);simp -implicitDefEqProofs[poB,nlV,nlO,cU,Yl,r1K,AV.ren,Zh0,ZjP,rF];refine Qgr ?_;simp -implicitDefEqProofs[];refine Yd.sem (Z1B.byref hsp (λ_=>37) (by simp) (by simp) (by simp[St.get,lk,Zfu]) (by simp[Zfv]) (by simp[Ya,AV.keys,lk]) rfl (by simp[AV.ren]) rfl rfl) ?_;simp -implicitDefEqProofs[Yl,Zfu];refine Yd.sem (Z1B.byref hcp (λ_=>37) (by simp) (by simp) (by simp[St.get,lk,Zfu]) (by simp[Zfv]) (by simp[Ya,AV.keys,lk]) rfl (by simp[AV.ren]) rfl rfl) ?_;by_cases hq:(setI U).length=U.length
   . have hOf:=hOf hq;rw[hOf]at *;simp -implicitDefEqProofs[Yl,Zfu,hq,AV.ren,ia]
   . skip
     simp -implicitDefEqProofs[Yl,rO,hq,AV.ren,hOl,hOt,hCl,ia]
end
open Qq in
def Zkd:RCode :=
 .seq (r 0 [n 6 (.bool false)]) (.seq (r 1 [m 7 0,m 8 1,o 9 .geq 7 8,m 10 9,g 10 true (m 11 0),g 10 true (m 12 2),g 10 true (o 13 .leq 11 12),v 14 10 13,m 6 14]) .ret)
def Zke:List RRes:=[.t 6]
theorem Zkf:PCt Tryz.prog 147 Tryz.f147 Zkd Zke:=pcT Tryz.func147 rfl (by kernel_rfl) (by kernel_rfl) (by kernel_rfl)
open Qq in
def Zkg:RCode :=
 .seq (r 0 [n 4 (.bool false)]) (.seq (.seq (r 1 [n 5 O]) (.block 0 (.loop (.seq (.seq (r 2 [m 6 5,m 7 0,e 8 7,o 9 .lss 6 8]) (.cond (.t 9) .skip (.exit 0))) (.seq (.block 1 (.seq (r 4 [m 12 0,m 13 5,i 14 1 12 13,l 15 14,m 16 1,o 17 .eql 15 16]) (.cond (.t 17) (.seq (r 5 [n 4 (.bool true)]) .ret) .skip))) (r 3 [m 10 5,k 11 .add 10 I,m 5 11])))))) (.seq (r 6 [n 4 (.bool false)]) .ret))
def Zkh:List RRes:=[.t 4]
theorem Zki:PCt Tryz.prog 104 Tryz.f104 Zkg Zkh:=pcT Tryz.func104 rfl (by kernel_rfl) (by kernel_rfl) (by kernel_rfl)
open Qq in
def Zkj:RCode :=
 .seq (r 0 [b 2 0,n 4 (.bool false)]) (.seq (r 1 [f 8 2 2,l 9 8,m 10 1,i 11 4 9 10,L 12 4 11,w 5 (.alloc [O,O,O,.nils]),s 4 5 12]) (.seq (.seq (R 2 [f 13 0 5,a [0] (l 14 13),a [1] (w 15 (.call 147 [.t 14,.c I,.c (.int .i64 9999)])),a [2] (t 16 15),a [3,2] (m 17 16),a [4] (g 17 false (m 18 1)),a [5,4] (g 17 false (k 19 .gtr 18 O)),a [6,4,4] (g 17 false (m 20 19)),a [7] (g 20 true (f 21 0 5)),a [8,7] (g 20 true (l 22 21)),a [7] (g 20 true (f 23 2 2)),a [10,7] (g 20 true (l 24 23)),a [7] (g 20 true (m 25 1)),a [12,7] (g 20 true (k 26 .sub 25 I)),a [11,13,7] (g 20 true (i 27 4 24 26)),a [14,7] (g 20 true (f 28 0 27)),a [15,7] (g 20 true (l 29 28)),a [9,16,7] (g 20 true (o 30 .leq 22 29)),a [7,17,4] (g 17 false (v 31 20 30)),a [4,18] (u 32 17 31),a [19,7] (m 33 32),a [20] (g 33 false (f 34 1 5)),a [21,20] (g 33 false (l 35 34)),a [20] (g 33 false (f 36 2 5)),a [23,20] (g 33 false (l 37 36)),a [22,24,20,20] (g 33 false (w 38 (.call 147 [.t 35,.c I,.t 37]))),a [25,20] (g 33 false (t 39 38)),a [20,26] (u 40 33 39),a [27,25] (m 41 40),a [28] (g 41 false (f 42 2 5)),a [29,28] (g 41 false (l 43 42)),a [30,28] (g 41 false (k 44 .gtr 43 (.int .i64 999))),a [28,31] (u 45 41 44),a [32,28] (m 46 45),a [33] (g 46 false (f 47 3 5)),a [34,33] (g 46 false (l 48 47)),a [35,33] (g 46 false (e 49 48)),a [36,33] (g 46 false (k 50 .gtr 49 (.int .i64 8))),a [33,37] (u 51 46 50)]) (.cond (.t 51) (.seq (r 3 [n 4 (.bool false)]) .ret) .skip)) (.seq (r 4 [f 52 0 2,f 53 0 52,L 54 1 53,c 55 54 [54],m 6 55]) (.seq (.seq (r 5 [n 7 O]) (.block 0 (.loop (.seq (.seq (r 6 [m 56 7,f 57 3 5,l 58 57,e 59 58,o 60 .lss 56 59]) (.cond (.t 60) .skip (.exit 0))) (.seq (.block 1 (.seq (R 8 [m 63 6,f 64 3 5,a [1] (l 65 64),m 66 7,a [2,3] (i 67 1 65 66),a [4] (l 68 67),a [0,5] (c 69 104 [63,68]),a [6] (t 70 69),a [7,6] (m 71 70),a [8] (g 71 false (m 72 7)),a [9,8] (g 71 false (k 73 .gtr 72 O)),a [10,8,8] (g 71 false (m 74 73)),a [11] (g 74 true (f 75 3 5)),a [12,11] (g 74 true (l 76 75)),a [11] (g 74 true (m 77 7)),a [13,14,11] (g 74 true (i 78 1 76 77)),a [15,11] (g 74 true (l 79 78)),a [11] (g 74 true (f 80 3 5)),a [17,11] (g 74 true (l 81 80)),a [11] (g 74 true (m 82 7)),a [19,11] (g 74 true (k 83 .sub 82 I)),a [18,20,11] (g 74 true (i 84 1 81 83)),a [21,11] (g 74 true (l 85 84)),a [16,22,11] (g 74 true (o 86 .leq 79 85)),a [11,23,8] (g 71 false (v 87 74 86)),a [8,24] (u 88 71 87)]) (.cond (.t 88) (.seq (r 9 [n 4 (.bool false)]) .ret) .skip))) (r 7 [m 61 7,k 62 .add 61 I,m 7 62])))))) (.seq (r 10 [n 4 (.bool true)]) .ret)))))
def Zkk:List RRes:=[.t 4]
theorem Zkl:PCt Tryz.prog 135 Tryz.f135 Zkj Zkk:=pcT Tryz.func135 rfl (by kernel_rfl) (by kernel_rfl) (by kernel_rfl)
open Qq in
def Zkm:RCode :=
 .seq (r 0 [b 2 0,n 4 O]) (.seq (.seq (r 1 [n 5 O]) (.block 0 (.loop (.seq (.seq (r 2 [m 6 5,f 7 2 2,l 8 7,e 9 8,o 10 .lss 6 9]) (.cond (.t 10) .skip (.exit 0))) (.seq (.block 1 (.seq (r 4 [f 13 2 2,l 14 13,m 15 5,i 16 4 14 15,f 17 0 16,l 18 17,m 19 1,o 20 .eql 18 19]) (.cond (.t 20) (.seq (r 5 [m 21 5,m 4 21]) .ret) .skip))) (r 3 [m 11 5,k 12 .add 11 I,m 5 12])))))) (.seq (r 6 [n 4 (.int .i64 (-1))]) .ret))
def Zkn:List RRes:=[.t 4]
theorem Zko:PCt Tryz.prog 83 Tryz.f83 Zkm Zkn:=pcT Tryz.func83 rfl (by kernel_rfl) (by kernel_rfl) (by kernel_rfl)
open Qq in
def Zkp:RCode :=
 .seq (r 0 [b 2 0,n 4 (.bool false)]) (.seq (r 1 [f 8 3 2,l 9 8,m 10 1,i 11 7 9 10,L 12 7 11,w 5 (.alloc [O,O,O,O,O,O,.int .u8 0]),s 7 5 12]) (.seq (.seq (R 2 [f 13 0 5,a [0] (l 14 13),a [1] (w 15 (.call 147 [.t 14,.c I,.c (.int .i64 9999)])),a [2] (t 16 15),a [3,2] (m 17 16),a [4] (g 17 false (m 18 1)),a [5,4] (g 17 false (k 19 .gtr 18 O)),a [6,4,4] (g 17 false (m 20 19)),a [7] (g 20 true (f 21 0 5)),a [8,7] (g 20 true (l 22 21)),a [7] (g 20 true (f 23 3 2)),a [10,7] (g 20 true (l 24 23)),a [7] (g 20 true (m 25 1)),a [12,7] (g 20 true (k 26 .sub 25 I)),a [11,13,7] (g 20 true (i 27 7 24 26)),a [14,7] (g 20 true (f 28 0 27)),a [15,7] (g 20 true (l 29 28)),a [9,16,7] (g 20 true (o 30 .leq 22 29)),a [7,17,4] (g 17 false (v 31 20 30)),a [4,18] (u 32 17 31),a [19,7] (m 33 32),a [20] (g 33 false (f 34 1 5)),a [21,20] (g 33 false (l 35 34)),a [22,20,20] (g 33 false (w 36 (.call 147 [.t 35,.c O,.c (.int .i64 14610)]))),a [23,20] (g 33 false (t 37 36)),a [20,24] (u 38 33 37),a [25,23] (m 39 38),a [26] (g 39 false (L 40 4 2)),a [26] (g 39 false (f 41 2 5)),a [28,26] (g 39 false (l 42 41)),a [27,29,26,26] (g 39 false (c 43 83 [40,42])),a [30,26] (g 39 false (k 44 .lss 43 O)),a [26,31] (u 45 39 44),a [32,30] (m 46 45),a [33] (g 46 false (f 47 6 5)),a [34,33] (g 46 false (l 48 47)),a [35,33] (g 46 false (k 49 .gtr 48 (.int .u8 2))),a [33,36] (u 50 46 49)]) (.cond (.t 50) (.seq (r 3 [n 4 (.bool false)]) .ret) .skip)) (.seq (.seq (r 4 [f 52 0 2,f 53 0 52,L 54 1 53,f 55 3 5,L 56 2 55,c 57 172 [54,56],m 51 57,x 58 0 51,x 59 1 51,w 6 (.alloc [O,O,.int .u8 0,.nils,.nils]),s 5 6 58,m 7 59]) (.seq (r 5 [m 60 7,t 61 60]) (.cond (.t 61) (.seq (r 6 [n 4 (.bool false)]) .ret) .skip))) (.seq (r 7 [f 62 5 5,l 63 62,k 64 .eql 63 (.int .i64 (-1)),m 65 64,g 65 false (f 66 5 5),g 65 false (l 67 66),g 65 false (f 68 1 5),g 65 false (l 69 68),g 65 false (w 70 (.call 147 [.t 67,.t 69,.c (.int .i64 14610)])),g 65 false (m 71 70),g 71 true (f 72 6 5),g 71 true (l 73 72),g 71 true (k 74 .eql 73 (.int .u8 0)),g 65 false (v 75 71 74),u 76 65 75,m 4 76]) .ret))))
def Zkq:List RRes:=[.t 4]
theorem Zkr:PCt Tryz.prog 136 Tryz.f136 Zkp Zkq:=pcT Tryz.func136 rfl (by kernel_rfl) (by kernel_rfl) (by kernel_rfl)
open Qq in
def Zks:RCode :=
 .seq (r 0 [b 1 0,n 2 (.bool false)]) (.seq (.seq (r 1 [f 5 2 1,l 6 5,e 7 6,k 8 .gtr 7 (.int .i64 6),m 9 8,g 9 false (f 10 3 1),g 9 false (l 11 10),g 9 false (e 12 11),g 9 false (k 13 .gtr 12 (.int .i64 30)),u 14 9 13]) (.cond (.t 14) (.seq (r 2 [n 2 (.bool false)]) .ret) .skip)) (.seq (.seq (r 3 [n 3 O]) (.block 0 (.loop (.seq (.seq (r 4 [m 15 3,f 16 2 1,l 17 16,e 18 17,o 19 .lss 15 18]) (.cond (.t 19) .skip (.exit 0))) (.seq (.block 1 (.seq (r 6 [L 22 4 1,m 23 3,c 24 135 [22,23],t 25 24]) (.cond (.t 25) (.seq (r 7 [n 2 (.bool false)]) .ret) .skip))) (r 5 [m 20 3,k 21 .add 20 I,m 3 21])))))) (.seq (.seq (r 8 [n 4 O]) (.block 2 (.loop (.seq (.seq (r 9 [m 26 4,f 27 3 1,l 28 27,e 29 28,o 30 .lss 26 29]) (.cond (.t 30) .skip (.exit 2))) (.seq (.block 3 (.seq (r 11 [L 33 4 1,m 34 4,c 35 136 [33,34],t 36 35]) (.cond (.t 36) (.seq (r 12 [n 2 (.bool false)]) .ret) .skip))) (r 10 [m 31 4,k 32 .add 31 I,m 4 32])))))) (.seq (r 13 [n 2 (.bool true)]) .ret))))
def Zkt:List RRes:=[.t 2]
theorem Zku:PCt Tryz.prog 78 Tryz.f78 Zks Zkt:=pcT Tryz.func78 rfl (by kernel_rfl) (by kernel_rfl) (by kernel_rfl)
open Qq in
def Zkv:RCode :=
 .seq (r 0 [b 1 0,n 2 O]) (.seq (.seq (r 1 [f 4 0 1,L 5 2 4,c 6 77 [5],m 3 6]) (.seq (r 2 [m 7 3,k 8 .neq 7 O]) (.cond (.t 8) (.seq (r 3 [m 9 3,m 2 9]) .ret) .skip))) (.seq (.seq (r 4 [L 10 4 1,c 11 78 [10],t 12 11]) (.cond (.t 12) (.seq (r 5 [n 2 (.int .i64 70)]) .ret) .skip)) (.seq (r 6 [n 2 O]) .ret)))
def Zkw:List RRes:=[.t 2]
theorem Zkx:PCt Tryz.prog 24 Tryz.f24 Zkv Zkw:=pcT Tryz.func24 rfl (by kernel_rfl) (by kernel_rfl) (by kernel_rfl)
open Qq in
def Zky:RCode :=
 .seq (r 0 [b 2 0,n 4 (.bool false)]) (.seq (r 1 [f 5 1 2,l 6 5,m 7 1,o 8 .leq 6 7,m 9 8,g 9 true (f 10 5 2),g 9 true (l 11 10),g 9 true (k 12 .eql 11 (.int .i64 (-1))),g 9 true (m 13 12),g 13 false (f 14 5 2),g 13 false (l 15 14),g 13 false (m 16 1),g 13 false (o 17 .gtr 15 16),g 9 true (u 18 13 17),v 19 9 18,m 20 19,g 20 true (f 21 6 2),g 20 true (l 22 21),g 20 true (k 23 .neq 22 (.int .u8 2)),v 24 20 23,m 4 24]) .ret)
def Zkz:List RRes:=[.t 4]
theorem ZkA:PCt Tryz.prog 57 Tryz.f57 Zky Zkz:=pcT Tryz.func57 rfl (by kernel_rfl) (by kernel_rfl) (by kernel_rfl)
open Qq in
def ZkB:RCode :=
 .seq (r 0 [b 3 0,n 6 O]) (.seq (.seq (r 1 [L 8 4 3,c 9 24 [8],m 7 9]) (.seq (r 2 [m 10 7,k 11 .neq 10 O]) (.cond (.t 11) (.seq (r 3 [m 12 7,m 6 12]) .ret) .skip))) (.seq (.seq (r 4 [m 13 1,w 14 (.call 147 [.t 13,.c O,.c (.int .i64 14610)]),t 15 14,m 16 15,g 16 false (m 17 2),g 16 false (w 18 (.call 147 [.t 17,.c I,.c (.int .i64 999)])),g 16 false (t 19 18),u 20 16 19]) (.cond (.t 20) (.seq (r 5 [n 6 (.int .i64 2)]) .ret) .skip)) (.seq (r 6 [n 6 O]) .ret)))
def ZkC:List RRes:=[.t 6]
theorem ZkD:PCt Tryz.prog 92 Tryz.f92 ZkB ZkC:=pcT Tryz.func92 rfl (by kernel_rfl) (by kernel_rfl) (by kernel_rfl)
open Qq in
def ZkE:RCode :=
 .seq (r 0 [b 1 0,n 2 (.bool false)]) (.seq (.seq (r 1 [f 4 0 1,L 5 2 4,c 6 67 [5],m 7 6,g 7 false (f 8 2 1),g 7 false (l 9 8),g 7 false (e 10 9),g 7 false (k 11 .gtr 10 (.int .i64 8)),u 12 7 11,m 13 12,g 13 false (f 14 3 1),g 13 false (l 15 14),g 13 false (e 16 15),g 13 false (k 17 .gtr 16 (.int .i64 40)),u 18 13 17]) (.cond (.t 18) (.seq (r 2 [n 2 (.bool true)]) .ret) .skip)) (.seq (.seq (r 3 [n 3 O]) (.block 0 (.loop (.seq (.seq (r 4 [m 19 3,f 20 2 1,l 21 20,e 22 21,o 23 .lss 19 22]) (.cond (.t 23) .skip (.exit 0))) (.seq (.block 1 (.seq (r 6 [f 26 2 1,l 27 26,m 28 3,i 29 4 27 28,f 30 3 29,l 31 30,e 32 31,k 33 .gtr 32 (.int .i64 20)]) (.cond (.t 33) (.seq (r 7 [n 2 (.bool true)]) .ret) .skip))) (r 5 [m 24 3,k 25 .add 24 I,m 3 25])))))) (.seq (r 8 [n 2 (.bool false)]) .ret)))
def ZkF:List RRes:=[.t 2]
theorem ZkG:PCt Tryz.prog 17 Tryz.f17 ZkE ZkF:=pcT Tryz.func17 rfl (by kernel_rfl) (by kernel_rfl) (by kernel_rfl)
open Qq in
def ZkH:RCode :=
 .seq (r 0 [b 2 0,b 3 1,n 4 (.bool false)]) (.seq (.seq (r 1 [f 9 0 2,L 10 2 9,f 11 0 3,L 12 2 11,c 13 79 [10,12],t 14 13,m 15 14,g 15 false (f 16 2 2),g 15 false (l 17 16),g 15 false (e 18 17),g 15 false (f 19 2 3),g 15 false (l 20 19),g 15 false (e 21 20),g 15 false (o 22 .neq 18 21),u 23 15 22,m 24 23,g 24 false (f 25 3 2),g 24 false (l 26 25),g 24 false (e 27 26),g 24 false (f 28 3 3),g 24 false (l 29 28),g 24 false (e 30 29),g 24 false (o 31 .neq 27 30),u 32 24 31]) (.cond (.t 32) (.seq (r 2 [n 4 (.bool false)]) .ret) .skip)) (.seq (.seq (r 3 [n 5 O]) (.block 0 (.loop (.seq (.seq (r 4 [m 33 5,f 34 2 2,l 35 34,e 36 35,o 37 .lss 33 36]) (.cond (.t 37) .skip (.exit 0))) (.seq (.block 1 (.seq (R 6 [f 40 2 2,a [0] (l 41 40),m 42 5,a [1,2] (i 43 4 41 42),a [3] (L 44 4 43),f 45 2 3,a [5] (l 46 45),m 47 5,a [6,7] (i 48 4 46 47),a [8] (L 49 4 48),w 6 (.alloc [O,O,O,.nils]),w 7 (.alloc [O,O,O,.nils]),a [10,4,0,1,2,3,4,10,11] (s 4 6 44),a [11,9,12,0,1,2,3,4,5,6,7,8,9,10,11,12] (s 4 7 49)]) (.seq (r 7 [f 50 0 6,l 51 50,f 52 0 7,l 53 52,o 54 .neq 51 53,m 55 54,g 55 false (f 56 1 6),g 55 false (l 57 56),g 55 false (f 58 1 7),g 55 false (l 59 58),g 55 false (o 60 .neq 57 59),u 61 55 60,m 62 61,g 62 false (f 63 2 6),g 62 false (l 64 63),g 62 false (f 65 2 7),g 62 false (l 66 65),g 62 false (o 67 .neq 64 66),u 68 62 67,m 69 68,g 69 false (f 70 3 6),g 69 false (l 71 70),g 69 false (f 72 3 7),g 69 false (l 73 72),g 69 false (c 74 25 [71,73]),g 69 false (t 75 74),u 76 69 75]) (.cond (.t 76) (.seq (r 8 [n 4 (.bool false)]) .ret) .skip)))) (r 5 [m 38 5,k 39 .add 38 I,m 5 39])))))) (.seq (.seq (r 9 [n 8 O]) (.block 2 (.loop (.seq (.seq (r 10 [m 77 8,f 78 3 2,l 79 78,e 80 79,o 81 .lss 77 80]) (.cond (.t 81) .skip (.exit 2))) (.seq (.block 3 (.seq (R 12 [f 84 3 2,a [0] (l 85 84),m 86 8,a [1,2] (i 87 7 85 86),a [3] (L 88 7 87),f 89 3 3,a [5] (l 90 89),m 91 8,a [6,7] (i 92 7 90 91),a [8] (L 93 7 92),a [4,9] (w 94 (.eqs true [.i,.i,.i,.i,.i,.i,.i] (.t 88) (.t 93)))]) (.cond (.t 94) (.seq (r 13 [n 4 (.bool false)]) .ret) .skip))) (r 11 [m 82 8,k 83 .add 82 I,m 8 83])))))) (.seq (r 14 [n 4 (.bool true)]) .ret))))
def ZkI:List RRes:=[.t 4]
theorem ZkJ:PCt Tryz.prog 26 Tryz.f26 ZkH ZkI:=pcT Tryz.func26 rfl (by kernel_rfl) (by kernel_rfl) (by kernel_rfl)
open Qq in
def ZkK:RCode :=
 .seq (r 0 [b 1 0,w 2 (.alloc [.nils,.nils,.nils,.nils])]) (.seq (R 1 [f 6 0 1,a [0] (L 7 2 6),a [1] (c 8 68 [7]),w 9 (.bsl true 7 0 [] []),f 10 3 1,a [4] (l 11 10),a [3,5,2] (w 12 (.app 7 56 (.t 9) (.t 11))),a [2,6] (w 13 (.build [.nils,.nils,.nils,.nils] [(0,2,.t 8),(3,1,.t 12)])),w 3 (.alloc [.nils,.nils,.nils,.nils]),a [8,7,6,0,1,2,3,4,5,6,7,8] (s 4 3 13)]) (.seq (.seq (r 2 [n 4 O]) (.block 0 (.loop (.seq (.seq (r 3 [m 14 4,f 15 2 1,l 16 15,e 17 16,o 18 .lss 14 17]) (.cond (.t 18) .skip (.exit 0))) (.seq (.block 1 (.seq (r 5 [f 21 2 1,l 22 21,m 23 4,i 24 4 22 23,L 25 4 24,w 5 (.alloc [O,O,O,.nils]),s 4 5 25]) (.seq (r 6 [w 26 (.bsl true 1 0 [] []),f 27 3 5,l 28 27,w 29 (.app 1 8 (.t 26) (.t 28)),f 30 3 5,s 1 30 29]) (r 7 [f 31 2 3,l 32 31,L 33 4 5,w 34 (.bsl false 4 1 [O,O,O,.nils] [(0,.t 33)]),w 35 (.app 4 48 (.t 32) (.t 34)),f 36 2 3,s 1 36 35])))) (r 4 [m 19 4,k 20 .add 19 I,m 4 20])))))) (.seq (r 8 [L 37 4 3,s 4 2 37]) .ret)))
def ZkL:List RRes:=[.c 2 true 4]
theorem ZkM:PCt Tryz.prog 18 Tryz.f18 ZkK ZkL:=pcT Tryz.func18 rfl (by kernel_rfl) (by kernel_rfl) (by kernel_rfl)
theorem ZkN {r:List Iss} (h:openV r=0):r≠[]:=by
 rintro rfl;exact absurd h (by decide)
section
variable {G:Nat->Option (List AV)}
theorem ZkO (n lo hi:Int):PC Tryz.prog G 147 [.int .i64 n,.int .i64 lo,.int .i64 hi] (.bool (inR n lo hi)):=by
 (refine Zkf rfl λR hG hrd=>Qga ?_;subst hG)
 by_cases h1:lo<=n <;> by_cases h2:n<=hi <;> simp -implicitDefEqProofs[Zkd,Zke,inR,h1,h2]
theorem ZkP (l:List Int) (n:Int) (h:Sml l):PC Tryz.prog G 104 [.vsl (l.map ia),.int .i64 n] (.bool (decide (n∈l))):=by
 (refine Zki rfl λR hG hrd=>Qga ?_;subst hG)
 unfold Sml at h;simp -implicitDefEqProofs[Zkg,Zkh];refine Za9 (λi=>⟨[(5,.int .i64 i),(0,.vsl (l.map ia)),(1,.int .i64 n)],[]⟩) (λi=>∀ j (h:j<l.length),j<i->¬l[j]=n) l.length (by (first|exact Ym.tm (by simp[lk])|exact Ym.sub (by simp[lk,Ya,AV.keys]) (by simp[lk,Yc,Ya,AV.keys]))) (by simp) ?_ ?_
 . intro i hi he;refine Qga ?_;have w1:IntKind.i64.wrap ((i:Int)+1)=(i:Int)+1:=Yf (by omega) (by omega);by_cases e:l[i]=n
   . have hm:n∈l:=e ▸ W0e hi;simp -implicitDefEqProofs[hi,ia,e];refine Qgr ?_;simp -implicitDefEqProofs[hm]
   . simp -implicitDefEqProofs[hi,ia,e,w1];refine ⟨by (first|exact Ym.tm (by simp[lk])|exact Ym.sub (by simp[lk,Ya,AV.keys]) (by simp[lk,Yc,Ya,AV.keys])),λj hj hji=>?_⟩;rcases W0q j i with h2|h2
     . exact he j hj h2
     . obtain rfl:j=i:=(by omega);exact e
 . intro he;refine Qga ?_
   have hm:¬n∈l:=λhm=>by
    obtain ⟨j,hj,e⟩:=W0k hm;exact he j hj hj e
   simp -implicitDefEqProofs[];refine Qgr ?_;simp -implicitDefEqProofs[hm]
theorem ZkQ (r:List Iss) (l:List Nte) (hs:List Hld) (ps:List Prt) (id:Int) (hh:Sml hs):PC Tryz.prog G 83 [prA r l hs ps,.int .i64 id] (.int .i64 (hoI hs id)):=by
 unfold Sml at hh;unfold prA
 (refine Zko rfl λR hG hrd=>Qga ?_;subst hG)
 simp -implicitDefEqProofs[Zkm,Zkn];refine Za9 (λi=>⟨[(5,.int .i64 i),(2,.ptr 2 0),(1,.int .i64 id)],[(2,.box [.vsl (r.map isa),.vsl (l.map na),.vsl (hs.map hoa),.vsl (ps.map ptA)])]⟩) (λi=>∀ j (h:j<hs.length),j<i->decide (hs[j].id=id)=false) hs.length ?_ (by simp) ?_ ?_
 . (refine Ym.sub (by simp[lk,Ya,AV.keys]) ?_;simp only[Wkl,and_true];(try simp[lk,Yc,Ya,AV.keys]))
 . intro i hi he;refine Qga ?_;have w1:IntKind.i64.wrap ((i:Int)+1)=(i:Int)+1:=Yf (by omega) (by omega);by_cases h:hs[i].id=id
   . have hf:hoI hs id=i:=(by unfold hoI;exact Zb0 hi (by simpa using h) he);simp -implicitDefEqProofs[hi,hoa,h];refine Qgr ?_;simp -implicitDefEqProofs[hf]
   . simp -implicitDefEqProofs[hi,hoa,h,w1];refine ⟨?_,λj q1 q2=>?_⟩
     . (refine Ym.sub (by simp[lk,Ya,AV.keys]) ?_;simp only[Wkl,and_true];(try simp[lk,Yc,Ya,AV.keys]))
     . by_cases e:j=i
       . subst e;simpa using h
       . simpa using he j q1 (by omega)
 . intro he;refine Qga ?_;have hf:hoI hs id = -1:=(by unfold hoI;exact Zb1 (λj hj=>he j hj hj));simp -implicitDefEqProofs[];refine Qgr ?_;simp -implicitDefEqProofs[hf]
theorem ZkR (x:Prt) (day:Int):PC Tryz.prog G 57 [.agg (ptA x),.int .i64 day] (.bool (outB x day)):=by
 (refine ZkA rfl λR hG hrd=>Qga ?_;subst hG)
 by_cases h1:x.dy<=day
 . by_cases h2:x.bk = -1
   . by_cases h3:x.lo=2
     . simp -implicitDefEqProofs[Zky,Zkz,ptA,h1,h2,h3,outB]
     . simp -implicitDefEqProofs[Zky,Zkz,ptA,h1,h2,h3,outB]
   . by_cases h4:day<x.bk
     . by_cases h3:x.lo=2
       . simp -implicitDefEqProofs[Zky,Zkz,ptA,h1,h2,h3,h4,outB]
       . simp -implicitDefEqProofs[Zky,Zkz,ptA,h1,h2,h3,h4,outB]
     . simp -implicitDefEqProofs[Zky,Zkz,ptA,h1,h2,h4,outB]
 . simp -implicitDefEqProofs[Zky,Zkz,ptA,h1,outB]
set_option maxHeartbeats 4000000 in
theorem ZkS (r:List Iss) (l:List Nte) (hs:List Hld) (ps:List Prt) (i:Nat) (hi:i<hs.length) (hr:Sml r) (hne:r≠[]) (hd:Sml (nums r)) (hw:WfP hs ps) :
  PC Tryz.prog G 135 [prA r l hs ps,.int .i64 i] (.bool (hoB (nums r) hs i)):=by
 have hl:=hw.hl;have hn:=Zav (G:=G) r hr hne;rw[rega]at hn;have hC:=λn=>ZkP (G:=G) (nums r) n hd
 have hx:=ZiE hi;have hds:=hw.dl _ (W0e hi);have heq:=Zjs (nums r) hs i;obtain ⟨h,hhe⟩ : ∃ h,h=hs[i]:=⟨_,rfl⟩;rw[<- hhe]at hx hds;have hlx:hs[i]=h:=hhe.symm;have hho:hoa h=[.int .i64 h.id,.int .i64 h.fr,.int .i64 h.to,.vsl (h.ds.map ia)]:=rfl;have hC0:hoC hs i=(inR h.id 1 9999&&(i == 0||decide ((hAt hs (i-1)).id<h.id))&&inR h.fr 1 h.to&&decide (h.to<=999)&&decide (h.ds.length<=8)):=(by unfold hoC;rw[hx]);have hno2:hoC hs i=false->hoB (nums r) hs i=false:=λq=>by rw[heq,q];rfl
 have c1:=ZkO (G:=G) h.id 1 9999;have c2:=ZkO (G:=G) h.fr 1 h.to;unfold prA;refine Zkl rfl λR hG hrd=>?_
 subst hG;refine Qga ?_
 cases q1:inR h.id 1 9999
 . have e:=hno2 (by rw[hC0,q1];rfl);rw[q1]at c1
   cases i
   case' zero=>simp -implicitDefEqProofs[Zkj,Zkk,hi,hlx,hho]
   case' succ k =>
    have k1:(k:Int)+1<hs.length:=(by omega);have k2:((k:Int)+1).toNat=k+1:=(by omega);have k3:(0:Int)<=(k:Int)+1:=(by omega);simp -implicitDefEqProofs[Zkj,Zkk,k1,k2,k3,hi,hlx,hho]
   all_goals
    refine Qco (c1) (by simp) ?_;simp -implicitDefEqProofs[];exact ⟨rfl,e⟩
 rw[q1]at c1;obtain ⟨I,hIe⟩ : ∃ I,I=i:=⟨_,rfl⟩
 cases i
 case' zero =>
  have q2:hoC hs 0=(inR h.fr 1 h.to&&decide (h.to<=999)&&decide (h.ds.length<=8)):=(by rw[hC0,q1];rfl);simp -implicitDefEqProofs[Zkj,Zkk,hi,hlx,hho];refine Qco (c1) (by simp) ?_;simp -implicitDefEqProofs[]
 case' succ k =>
  have hk:k<hs.length:=(by omega);have w0:IntKind.i64.wrap ((k:Int)+1-1)=(k:Int):=(by rw[Yf (by omega) (by omega)];omega);have w2:IntKind.i64.wrap (k:Int)=(k:Int):=Yf (by omega) (by omega);have g0:(0:Int)<(k:Int)+1:=(by omega);have k1:(k:Int)+1<hs.length:=(by omega);have k2:((k:Int)+1).toNat=k+1:=(by omega);have k3:(0:Int)<=(k:Int)+1:=(by omega);have hhk:hoa hs[k]=[.int .i64 hs[k].id,.int .i64 hs[k].fr,.int .i64 hs[k].to,.vsl (hs[k].ds.map ia)]:=rfl;simp -implicitDefEqProofs[Zkj,Zkk,k1,k2,k3,hi,hlx,hho];refine Qco (c1) (by simp) ?_;by_cases hp:hs[k].id<h.id
  case' neg =>
   have e:=hno2 (by rw[hC0,W19,ZiE hk,W0S hp];simp);have hp2:h.id<=hs[k].id:=(by omega);simp -implicitDefEqProofs[hk,w0,w2,g0,hhk,hp2,hho];exact ⟨rfl,e⟩
  have hp2:¬h.id<=hs[k].id:=(by omega);have q2:hoC hs (k+1)=(inR h.fr 1 h.to&&decide (h.to<=999)&&decide (h.ds.length<=8)):=(by rw[hC0,q1,W19,ZiE hk,W0M hp];simp);simp -implicitDefEqProofs[hk,w0,w2,g0,hhk,hp2,hho]
 all_goals
  refine Qco (c2) (by simp) ?_
  cases q3:inR h.fr 1 h.to
  case false =>
   have e:=hno2 (by rw[q2,q3];rfl);simp -implicitDefEqProofs[];exact ⟨rfl,e⟩
  by_cases q4:999<h.to
  case pos =>
   have e:=hno2 (by rw[q2,W0S (show ¬h.to<=999 by omega)];simp);simp -implicitDefEqProofs[hho,q4];exact ⟨rfl,e⟩
  by_cases q5:8<h.ds.length
  case pos =>
   have q5':(8:Int)<h.ds.length:=(by omega);have e:=hno2 (by rw[q2,W0S (show ¬h.ds.length<=8 by omega)];simp);simp -implicitDefEqProofs[hho,q4,q5'];exact ⟨rfl,e⟩
  have q5':¬(8:Int)<h.ds.length:=(by omega);rw[q3,W0M (show h.to<=999 by omega),W0M (show h.ds.length<=8 by omega)]at q2;simp -implicitDefEqProofs[hho,q4,q5'];refine ⟨rfl,?_⟩;refine Qco (hn) (by simp) ?_;simp -implicitDefEqProofs[];refine Za9 (λk=>⟨[(7,.int .i64 k),(6,.vsl ((nums r).map ia)),(5,.ptr 5 0)],[(5,.box (hoa h))]⟩) (λk=>∀ j,j<k->wkC (nums r) h.ds j=true) h.ds.length ?_ (by simp) ?_ ?_
  . ((try simp only[hho]);refine Ym.sub (by simp[lk,Ya,AV.keys,hho]) ?_;simp only[hho,Wkl,and_true];(try simp[lk,Yc,Ya,AV.keys,hho]))
  . intro k hk hK
    have hwf:wkC (nums r) h.ds k=false->hoB (nums r) hs I=false:=λq=>by
     rw[hIe,heq,hx]
     cases q6:(List.range h.ds.length).all (wkC (nums r) h.ds)
     . rw[W2b]
     . have:=Zau.1 q6 k hk;rw[q]at this;cases this
    rw[hIe]at hwf;have hcd:=hC h.ds[k];have gd:h.ds.getD k 0=h.ds[k]:=(by simp[W0j,hk]);refine Qga ?_;by_cases m1:h.ds[k]∈nums r
    case neg =>
     have e:=hwf (by rw[wkC,gd];simp[m1]);rw[W0S m1]at hcd
     cases k
     case' zero=>simp -implicitDefEqProofs[hk,ia,hho]
     case' succ p =>
      have k1:(p:Int)+1<h.ds.length:=(by omega);have k2:((p:Int)+1).toNat=p+1:=(by omega);have k3:(0:Int)<=(p:Int)+1:=(by omega);simp -implicitDefEqProofs[k1,k2,k3,hk,ia,hho]
     all_goals
      refine Qco (hcd) (by simp) ?_;simp -implicitDefEqProofs[];refine ⟨rfl,?_⟩;refine Qgr ?_;simp -implicitDefEqProofs[e]
      done
    rw[W0M m1]at hcd
    cases k with
    | zero =>
      have e:wkC (nums r) h.ds 0=true:=(by rw[wkC,gd];simp[m1]);have w1:IntKind.i64.wrap 1=1:=rfl;simp -implicitDefEqProofs[hk,ia,hho];refine Qco (hcd) (by simp) ?_;simp -implicitDefEqProofs[w1];refine ⟨rfl,?_,e⟩
      ((try simp only[hho]);refine Ym.sub (by simp[lk,Ya,AV.keys,hho]) ?_;simp only[hho,Wkl,and_true];(try simp[lk,Yc,Ya,AV.keys,hho]))
    | succ p =>
      have hp:p<h.ds.length:=(by omega);have g2:h.ds.getD p 0=h.ds[p]:=(by simp[W0j,hp]);have w0:IntKind.i64.wrap ((p:Int)+1-1)=(p:Int):=(by rw[Yf (by omega) (by omega)];omega);have w2:IntKind.i64.wrap (p:Int)=(p:Int):=Yf (by omega) (by omega);have g0:(0:Int)<(p:Int)+1:=(by omega);have k1:(p:Int)+1<h.ds.length:=(by omega);have k2:((p:Int)+1).toNat=p+1:=(by omega);have k3:(0:Int)<=(p:Int)+1:=(by omega);have wk2:IntKind.i64.wrap ((p:Int)+1+1)=(p:Int)+1+1:=Yf (by omega) (by omega);by_cases m2:h.ds[p]<h.ds[p+1]
      . have e:wkC (nums r) h.ds (p+1)=true:=(by rw[wkC,gd,W19,g2];simp[m1,m2]);have m3:¬h.ds[p+1]<=h.ds[p]:=(by omega);simp -implicitDefEqProofs[k1,k2,k3,hk,ia,hho];refine Qco (hcd) (by simp) ?_;simp -implicitDefEqProofs[hp,w0,w2,g0,hho,ia,m3,wk2,k1,k2,k3,hk];refine ⟨rfl,?_,λj hj=>?_⟩
        . ((try simp only[hho]);refine Ym.sub (by simp[lk,Ya,AV.keys,hho]) ?_;simp only[hho,Wkl,and_true];(try simp[lk,Yc,Ya,AV.keys,hho]))
        . rcases W0q j (p+1) with h4|h4
          . exact hK j h4
          . obtain rfl:j=p+1:=(by omega);exact e
      . have e:=hwf (by rw[wkC,gd,W19,g2];simp[m2]);have m3:h.ds[p+1]<=h.ds[p]:=(by omega);simp -implicitDefEqProofs[k1,k2,k3,hk,ia,hho];refine Qco (hcd) (by simp) ?_;simp -implicitDefEqProofs[hp,w0,w2,g0,hho,ia,m3,k1,k2,k3,hk];refine ⟨rfl,?_⟩;refine Qgr ?_;simp -implicitDefEqProofs[e]
  . intro hK
    have e:hoB (nums r) hs I=true:=by
     rw[hIe,heq,q2,hx];simp only[W1k,Bool.and_self];exact Zau.2 hK
    rw[hIe]at e;refine Qga ?_;simp -implicitDefEqProofs[hho];refine Qgr ?_;simp -implicitDefEqProofs[e]
end
section
variable {G:Nat->Option (List AV)}
set_option maxHeartbeats 4000000 in
theorem ZkT (r:List Iss) (l:List Nte) (hs:List Hld) (ps:List Prt) (i:Nat) (hi:i<ps.length) (hr:Sml r) (hw:WfP hs ps) :
  PC Tryz.prog G 136 [prA r l hs ps,.int .i64 i] (.bool (shB r hs ps i)):=by
 have hpl:=hw.pl;have hh:Sml hs:=(by have:=hw.hl;unfold Sml;omega);have hx:=ZiF hi;obtain ⟨x,hxe⟩ : ∃ x,x=ps[i]:=⟨_,rfl⟩;have hpo:=hw.po _ (W0e hi);rw[<- hxe]at hx hpo;have hlx:ps[i]=x:=hxe.symm;have hpt:ptA x=[.int .i64 x.no,.int .i64 x.dy,.int .i64 x.ho,.int .i64 x.dw,.int .i64 x.lt,.int .i64 x.bk,.int .u8 x.lo]:=rfl;have hsh:shB r hs ps i=((i == 0||decide ((pAt ps (i-1)).no<x.no))&&prB r hs x):=(by unfold shB;rw[hx]);have c1:=ZkO (G:=G) x.no 1 9999;have c2:=ZkO (G:=G) x.dy 0 14610;have c3:=ZkQ (G:=G) r l hs ps x.ho hh;have c4:=Zat (G:=G) r x.dw x.lt hr;have c5:=ZkO (G:=G) x.bk x.dy 14610;rw[rega]at c4;have hI:=hoF_I hs x.ho;have hfst:∀ c:Bool,prB r hs x=false->(c&&prB r hs x)=false:=λc h=>by rw[h,W2b]
 unfold prA at *;refine Zkr rfl λR hG hrd=>?_
 subst hG;refine Qga ?_
 cases q1:inR x.no 1 9999
 . have e:shB r hs ps i=false:=(by rw[hsh];exact hfst _ (by simp[prB,q1]));rw[q1]at c1
   cases i
   case' zero=>simp -implicitDefEqProofs[Zkp,Zkq,hi,hlx,hpt]
   case' succ k =>
    have k1:(k:Int)+1<ps.length:=(by omega);have k2:((k:Int)+1).toNat=k+1:=(by omega);have k3:(0:Int)<=(k:Int)+1:=(by omega);simp -implicitDefEqProofs[Zkp,Zkq,k1,k2,k3,hi,hlx,hpt]
   all_goals
    refine Qco (c1) (by simp) ?_;simp -implicitDefEqProofs[];exact ⟨rfl,e⟩
 rw[q1]at c1;obtain ⟨P,hP⟩ : ∃ P,P=shB r hs ps i:=⟨_,rfl⟩;rw[<- hP]
 cases i
 case' zero =>
  have q2:P=prB r hs x:=(by rw[hP,hsh];rfl);simp -implicitDefEqProofs[Zkp,Zkq,hi,hlx,hpt];refine Qco (c1) (by simp) ?_;simp -implicitDefEqProofs[]
 case' succ k =>
  have hk:k<ps.length:=(by omega);have w0:IntKind.i64.wrap ((k:Int)+1-1)=(k:Int):=(by rw[Yf (by omega) (by omega)];omega);have w2:IntKind.i64.wrap (k:Int)=(k:Int):=Yf (by omega) (by omega);have g0:(0:Int)<(k:Int)+1:=(by omega);have k1:(k:Int)+1<ps.length:=(by omega);have k2:((k:Int)+1).toNat=k+1:=(by omega);have k3:(0:Int)<=(k:Int)+1:=(by omega);have hpk:ptA ps[k]=[.int .i64 ps[k].no,.int .i64 ps[k].dy,.int .i64 ps[k].ho,.int .i64 ps[k].dw,.int .i64 ps[k].lt,.int .i64 ps[k].bk,.int .u8 ps[k].lo]:=rfl;simp -implicitDefEqProofs[Zkp,Zkq,k1,k2,k3,hi,hlx,hpt];refine Qco (c1) (by simp) ?_;by_cases hp:ps[k].no<x.no
  case' neg =>
   have e:P=false:=(by rw[hP,hsh,W19,ZiF hk,W0S hp];simp);have hp2:x.no<=ps[k].no:=(by omega);simp -implicitDefEqProofs[hk,w0,w2,g0,hpk,hp2,hpt];exact ⟨rfl,e⟩
  have hp2:¬x.no<=ps[k].no:=(by omega);have q2:P=prB r hs x:=(by rw[hP,hsh,W19,ZiF hk,W0M hp];simp);simp -implicitDefEqProofs[hk,w0,w2,g0,hpk,hp2,hpt]
 all_goals
  clear hP hsh;subst q2;refine Qco (c2) (by simp) ?_
  cases q3:inR x.dy 0 14610
  case false =>
   have e:prB r hs x=false:=(by simp[prB,q3]);simp -implicitDefEqProofs[];exact ⟨rfl,e⟩
  simp -implicitDefEqProofs[];refine Qco (c3) (by simp) ?_;by_cases q4:hoI hs x.ho<0
  case pos =>
   have e:prB r hs x=false:=by
    rw[W0S (show ¬0<=hoI hs x.ho by omega)]at hI;simp[prB,<- hI]
   simp -implicitDefEqProofs[q4];exact ⟨rfl,e⟩
  rw[W0M (show 0<=hoI hs x.ho by omega)]at hI;by_cases q5:2<x.lo
  case pos =>
   have e:prB r hs x=false:=by
    have:¬x.lo<=2:=(by omega);simp[prB,this]
   simp -implicitDefEqProofs[q4,hpt,q5];exact ⟨rfl,e⟩
  have q5':x.lo<=2:=(by omega);simp -implicitDefEqProofs[q4,hpt,q5];refine ⟨rfl,?_⟩;refine Qco (c4) (by simp) ?_
  cases q6:findN x.dw x.lt r with
  | none =>
    have e:prB r hs x=false:=(by simp[prB,q6]);simp -implicitDefEqProofs[q6,fndA,noIs,e]
  | some y =>
    have ey:isa y=[.int .i64 y.d,.int .i64 y.l,.int .u8 y.k,.vsl (y.its.map ita),.vsl (y.dms.map dma)]:=rfl;have e:prB r hs x=(decide (x.bk = -1)||(inR x.bk x.dy 14610&&decide (x.lo=0))):=(by simp[prB,q1,q3,<- hI,q5',q6]);rw[e];by_cases q7:x.bk = -1
    . simp -implicitDefEqProofs[q6,fndA,ey,hpt,q7]
    . simp -implicitDefEqProofs[q6,fndA,ey,hpt,q7];refine Qco (c5) (by simp) ?_
      cases inR x.bk x.dy 14610
      . simp -implicitDefEqProofs[]
      . simp -implicitDefEqProofs[hpt]
theorem ZkU (r:List Iss) (l:List Nte) (hs:List Hld) (ps:List Prt) (hr:Sml r) (hne:r≠[]) (hd:Sml (nums r)) (hw:WfP hs ps):PC Tryz.prog G 78 [prA r l hs ps] (.bool (ptsB r hs ps)):=by
 have hl:=hw.hl;have hp:=hw.pl;have c1:=λi hi=>ZkS (G:=G) r l hs ps i hi hr hne hd hw
 have c2:=λi hi=>ZkT (G:=G) r l hs ps i hi hr hw
 unfold prA at *;refine Zku rfl λR hG hrd=>?_
 subst hG;refine Qga ?_;by_cases h6:6<hs.length
 . have h6':(6:Int)<hs.length:=by omega
   have e:ptsB r hs ps=false:=by
    have:¬hs.length<=6:=(by omega);simp[ptsB,this]
   simp -implicitDefEqProofs[Zks,Zkt,h6',e]
 have h6':¬(6:Int)<hs.length:=(by omega);by_cases h30:30<ps.length
 . have h30':(30:Int)<ps.length:=by omega
   have e:ptsB r hs ps=false:=by
    have:¬ps.length<=30:=(by omega);simp[ptsB,this]
   simp -implicitDefEqProofs[Zks,Zkt,h6',h30',e]
 have h30':¬(30:Int)<ps.length:=(by omega);simp -implicitDefEqProofs[Zks,Zkt,h6',h30'];refine Za9 (λi=>⟨[(3,.int .i64 i),(1,.ptr 1 0)],[(1,.box [.vsl (r.map isa),.vsl (l.map na),.vsl (hs.map hoa),.vsl (ps.map ptA)])]⟩) (λi=>∀ j,j<i->hoB (nums r) hs j=true) hs.length ?_ (by simp) ?_ ?_
 . (refine Ym.sub (by simp[lk,Ya,AV.keys]) ?_;simp only[Wkl,and_true];(try simp[lk,Yc,Ya,AV.keys]))
 . intro i hi he;have c1:=c1 i hi;have wi:IntKind.i64.wrap ((i:Int)+1)=(i:Int)+1:=Yf (by omega) (by omega);refine Qga ?_
   cases q:hoB (nums r) hs i
   . have e:=Zjq (ps:=ps) hi q;rw[q]at c1;simp -implicitDefEqProofs[hi];refine Qco (c1) (by simp) ?_;simp -implicitDefEqProofs[];refine Qgr ?_;simp -implicitDefEqProofs[e]
   . rw [q]at c1;simp -implicitDefEqProofs[hi];refine Qco (c1) (by simp) ?_;simp -implicitDefEqProofs[wi];refine ⟨?_,λj hj=>?_⟩
     . (refine Ym.sub (by simp[lk,Ya,AV.keys]) ?_;simp only[Wkl,and_true];(try simp[lk,Yc,Ya,AV.keys]))
     . rcases W0q j i with h4|h4
       . exact he j h4
       . obtain rfl:j=i:=(by omega);exact q
 . intro he;refine Qga ?_;simp -implicitDefEqProofs[];refine Qgr ?_;simp -implicitDefEqProofs[];refine Za9 (λi=>⟨[(4,.int .i64 i),(1,.ptr 1 0)],[(1,.box [.vsl (r.map isa),.vsl (l.map na),.vsl (hs.map hoa),.vsl (ps.map ptA)])]⟩) (λi=>∀ j,j<i->shB r hs ps j=true) ps.length ?_ (by simp) ?_ ?_
   . (refine Ym.sub (by simp[lk,Ya,AV.keys]) ?_;simp only[Wkl,and_true];(try simp[lk,Yc,Ya,AV.keys]))
   . intro i hi hE;have c2:=c2 i hi;have wi:IntKind.i64.wrap ((i:Int)+1)=(i:Int)+1:=Yf (by omega) (by omega);refine Qga ?_
     cases q:shB r hs ps i
     . have e:=Zjr hi q;rw[q]at c2;simp -implicitDefEqProofs[hi];refine Qco (c2) (by simp) ?_;simp -implicitDefEqProofs[];refine Qgr ?_;simp -implicitDefEqProofs[e]
     . rw [q]at c2;simp -implicitDefEqProofs[hi];refine Qco (c2) (by simp) ?_;simp -implicitDefEqProofs[wi];refine ⟨?_,λj hj=>?_⟩
       . (refine Ym.sub (by simp[lk,Ya,AV.keys]) ?_;simp only[Wkl,and_true];(try simp[lk,Yc,Ya,AV.keys]))
       . rcases W0q j i with h4|h4
         . exact hE j h4
         . obtain rfl:j=i:=(by omega);exact q
   . intro hE
     have e:ptsB r hs ps=true:=by
      simp only[ptsB,W01,W0b];exact ⟨⟨⟨by omega,by omega⟩,Zau.2 he⟩,Zau.2 hE⟩
     refine Qga ?_;simp -implicitDefEqProofs[];refine Qgr ?_;simp -implicitDefEqProofs[e]
theorem ZkV (r:List Iss) (l:List Nte) (hs:List Hld) (ps:List Prt) (hl:WfN l) (hr:Wf r) (hd:Sml (nums r)) (hw:WfP hs ps):PC Tryz.prog G 24 [prA r l hs ps] (.int .i64 (ck7 r l hs ps)):=by
 have c1:=ZdL (G:=G) r l hl hr;by_cases h0:chN r l=0
 . have c2:=ZkU (G:=G) r l hs ps hr.1.1 (ZkN (Zjv h0)) hd hw;rw[h0]at c1;unfold prA at *;unfold ck7;rw[if_pos h0]
   (refine Zkx rfl λR hG hrd=>Qga ?_;subst hG)
   simp -implicitDefEqProofs[Zkv,Zkw];refine Qco (c1) (by simp) ?_;simp -implicitDefEqProofs[];refine Qco (c2) (by simp) ?_
   cases q:ptsB r hs ps
   . simp -implicitDefEqProofs[]
   . simp -implicitDefEqProofs[]
 . have e:ck7 r l hs ps=chN r l:=(by rw[ck7,if_neg h0]);rw[e];unfold prA
   (refine Zkx rfl λR hG hrd=>Qga ?_;subst hG)
   simp -implicitDefEqProofs[Zkv,Zkw];refine Qco (c1) (by simp) ?_;simp -implicitDefEqProofs[h0]
theorem ZkW (r:List Iss) (l:List Nte) (hs:List Hld) (ps:List Prt) (day m:Int) (hl:WfN l) (hr:Wf r) (hd:Sml (nums r)) (hw:WfP hs ps):PC Tryz.prog G 92 [prA r l hs ps,.int .i64 day,.int .i64 m] (.int .i64 (as7 r l hs ps day m)):=by
 have c1:=ZkV (G:=G) r l hs ps hl hr hd hw;have c2:=ZkO (G:=G) day 0 14610;have c3:=ZkO (G:=G) m 1 999;unfold as7 prA at *;by_cases h0:ck7 r l hs ps=0
 . rw[h0]at c1
   (refine ZkD rfl λR hG hrd=>Qga ?_;subst hG)
   simp -implicitDefEqProofs[ZkB,ZkC];refine Qco (c1) (by simp) ?_;simp -implicitDefEqProofs[];refine Qco (c2) (by simp) ?_
   cases q1:inR day 0 14610
   . simp -implicitDefEqProofs[h0]
   simp -implicitDefEqProofs[];refine Qco (c3) (by simp) ?_
   cases q2:inR m 1 999
   . simp -implicitDefEqProofs[h0]
   . simp -implicitDefEqProofs[h0]
 . (refine ZkD rfl λR hG hrd=>Qga ?_;subst hG)
   simp -implicitDefEqProofs[ZkB,ZkC];refine Qco (c1) (by simp) ?_;simp -implicitDefEqProofs[h0]
theorem ZkX {r:List Iss} {l:List Nte} {hs:List Hld} {ps:List Prt} {day m:Int} (h:as7 r l hs ps day m=0):ck7 r l hs ps=0/\inR day 0 14610=true/\inR m 1 999=true:=by
 unfold as7 at h;by_cases c:ck7 r l hs ps=0
 . rw[if_pos c]at h;by_cases c2:inR day 0 14610=true/\inR m 1 999=true
   . exact ⟨c,c2⟩
   . rw[if_neg c2]at h;cases h
 . rw[if_neg c]at h;exact absurd h c
end
def fgC (f:Nat->Bool):List AV:=[.bool (f 0),.bool (f 1),.bool (f 2),.bool (f 3),.bool (f 4),.bool (f 5),.bool (f 6),.bool (f 7),.bool (f 8)]
theorem ZkY (f:Nat->Bool):∀ {n:Nat},n<9->(fgC f)[n]? = some (.bool (f n))
 |0,_=>rfl
 |1,_=>rfl
 |2,_=>rfl
 |3,_=>rfl
 |4,_=>rfl
 |5,_=>rfl
 |6,_=>rfl
 |7,_=>rfl
 |8,_=>rfl
 |n+9,h=>by omega
theorem ZkZ (f:Nat->Bool) (v:Bool):∀ {n:Nat},n<9->Z4 (fgC f) n [.bool v]=fgC λj=>if j=n then v else f j
 |0,_=>rfl
 |1,_=>rfl
 |2,_=>rfl
 |3,_=>rfl
 |4,_=>rfl
 |5,_=>rfl
 |6,_=>rfl
 |7,_=>rfl
 |8,_=>rfl
 |n+9,h=>by omega
theorem Zl0 (o:List (Nat×AObj)) (f:Nat->Bool):Yc o (.box (fgC f))=true:=by simp[Yc,fgC,Ya,AV.keys]
def flL (a:Nat) (f:Nat->Bool) (n:Nat):List Int:=((List.range n).filter λj=>decide (a<=j)&&f j).map λ(j:Nat)=>(j:Int)
theorem Zl1 {a:Nat} {f:Nat->Bool} {n:Nat}:flL a f (n+1)=if a<=n/\f n=true then flL a f n++[(n:Int)] else flL a f n:=by
 unfold flL;rw[W1y,W1a,W0r];by_cases c:a<=n/\f n=true
 . rw[if_pos c];simp[c]
 . rw [if_neg c]
   have:(decide (a<=n)&&f n)=false:=by
    cases q:f n
    . simp
    . have:¬a<=n:=λh=>c ⟨h,q⟩
      simp[this]
   simp[this]
theorem Zl2 {a:Nat} {f:Nat->Bool}:∀ {n:Nat},n<=a->flL a f n=[]
 |0,_=>rfl
 |n+1,h=>by rw[Zl1,if_neg (by omega),Zl2 (by omega)]
theorem Zl3 (a:Nat) (f:Nat->Bool) (n:Nat):(flL a f n).length<=n:=by
 unfold flL;rw[W0N];exact W0O (W0D ..) (by simp)
theorem Zl4 {p:Int->Bool} {f:Nat->Bool} (h:∀ j:Nat,1<=j->j<9->p (j:Int)=f j):r8.filter p=flL 1 f 9:=by
 have e:r8=((List.range 9).filter λj=>decide (1<=j)).map λ(j:Nat)=>(j:Int):=rfl
 rw[e,List.filter_map,List.filter_filter];unfold flL
 congr 1
 refine List.filter_congr λj hj=>?_
 have hj:=W1u.1 hj;by_cases c:1<=j
 . simp[c,h j c hj]
 . simp[c]
section
variable {G:Nat->Option (List AV)}
end
def lsI (f:Nat->Bool) (l:List Nte) (d:Int):Nat->Int
 |0=>-1
 |i+1=>if (f i&&decide ((nAt l i).dr=d))=true then (i:Int) else lsI f l d i
theorem Zl5 {f:Nat->Bool} {l:List Nte} {d:Int}:∀ i,-1<=lsI f l d i/\lsI f l d i<i
 |0=>by simp[lsI]
 | i+1=>by
   have:=Zl5 (f:=f) (l:=l) (d:=d) i;rw[lsI]
   split <;> omega
theorem Zl6 (s:List Int) (m:Int) (l:List Nte) (d:Int):∀ i,(byV s m l d i).lt=if 0<=lsI (fB s [] m l) l d i then (nAt l (lsI (fB s [] m l) l d i).toNat).lt else 1
 |0=>by simp[byV,lsI,zN1]
 | i + 1=>by
   rw[byV,lsI];by_cases c:(fB s [] m l i&&decide ((nAt l i).dr=d))=true
   . rw[if_pos c];simp only[W01,W0b]at c;rw[if_pos ⟨c.2,c.1⟩,if_pos (by omega)];simp
   . rw[if_neg c];simp only[W01,W0b]at c;rw[if_neg (λh=>c ⟨h.2,h.1⟩)];exact Zl6 s m l d i
section
variable {G:Nat->Option (List AV)}
theorem Zl7 (r:List Iss) (l:List Nte) (f:Nat->Bool) (d:Int) (hl:l.length<=12):PC Tryz.prog G 178 [.agg [.vsl (r.map isa),.vsl (l.map na)],.vsl ((rbK f l.length 0).map ba),.int .i64 d] (.int .i64 (lsI f l d l.length)):=by
 have hat:=λi (hi:i<l.length)=>ZgC (f:=f) (k:=0) (W1f i) hi
 have hlen:=ZgB (f:=f) (n:=l.length) (k:=0);generalize rbK f l.length 0=B at *
 (refine Z6Z rfl λR hG hrd=>Qga ?_;subst hG)
 simp -implicitDefEqProofs[Z6X,Z6Y];refine Za9 (λi=>⟨[(8,.int .i64 i),(7,.int .i64 (lsI f l d i)),(3,.ptr 3 0),(1,.vsl (B.map ba)),(2,.int .i64 d)],[(3,.box [.vsl (r.map isa),.vsl (l.map na)])]⟩) (λ_=>True) l.length ?_ trivial ?_ ?_
 . ((try simp only[lsI]);refine Ym.sub (by simp[lk,Ya,AV.keys,lsI]) ?_;simp only[lsI,Wkl,and_true];(try simp[lk,Yc,Ya,AV.keys,lsI]))
 . intro i hi _;have wi:IntKind.i64.wrap ((i:Int)+1)=(i:Int)+1:=Yf (by omega) (by omega);obtain ⟨hb,eb⟩:=W02.1 (hat i hi);have hx:=Zd7 hi;have sn:lsI f l d (i+1)=if (f i&&decide ((nAt l i).dr=d))=true then (i:Int) else lsI f l d i:=rfl
   rw[hx]at sn;generalize hlx:l[i]=x at *;have hnx:na x=[.int .i64 x.nu,.int .i64 x.dy,.int .u8 x.sg,.int .i64 x.dr,.int .i64 x.lt,.int .i64 x.fr,.int .i64 x.tu,.int .i64 x.ca,.bool x.up,.int .u8 x.wy]:=rfl;refine Qga ?_
   cases hf:f i
   . rw[hf]at eb sn;simp only[W1L,W05,if_false]at sn;simp -implicitDefEqProofs[hlen,hi,hb,eb,ba,wi,sn]
     (refine Ym.sub (by simp[lk,Ya,AV.keys]) ?_;simp only[Wkl,and_true];(try simp[lk,Yc,Ya,AV.keys]))
   . rw[hf]at eb sn;by_cases c:x.dr=d
     . simp only[c,W1i,Bool.and_self,if_true]at sn;simp -implicitDefEqProofs[hlen,hi,hb,eb,ba,hlx,hnx,c,wi,sn]
       (refine Ym.sub (by simp[lk,Ya,AV.keys]) ?_;simp only[Wkl,and_true];(try simp[lk,Yc,Ya,AV.keys]))
     . simp only[c,W1x,W2b,W05,if_false]at sn;simp -implicitDefEqProofs[hlen,hi,hb,eb,ba,hlx,hnx,c,wi,sn]
       (refine Ym.sub (by simp[lk,Ya,AV.keys]) ?_;simp only[Wkl,and_true];(try simp[lk,Yc,Ya,AV.keys]))
 . intro _;refine Qga ?_;simp -implicitDefEqProofs[hlen];refine Qgr ?_;simp -implicitDefEqProofs[]
theorem Zl8 (r:List Iss) (l:List Nte) (s:List Int) (m d:Int) (hl:l.length<=12):PC Tryz.prog G 145 [.agg [.vsl (r.map isa),.vsl (l.map na)],.vsl ((rbK (fB s [] m l) l.length 0).map ba),.int .i64 d] (.int .i64 (byV s m l d l.length).lt):=by
 have hb:=Zl7 (G:=G) r l (fB s [] m l) d hl;have hlt:=Zl5 (f:=fB s [] m l) (l:=l) (d:=d) l.length;have hV:=Zl6 s m l d l.length;generalize lsI (fB s [] m l) l d l.length=k at *;generalize (byV s m l d l.length).lt=V at *
 (refine Z6W rfl λR hG hrd=>Qga ?_;subst hG)
 simp -implicitDefEqProofs[Z6U,Z6V];refine Qco (hb) (by simp) ?_;by_cases c:0<=k
 . obtain ⟨n,rfl⟩:=Int.eq_ofNat_of_zero_le c;have hn:n<l.length:=(by omega);have hx:=Zd7 hn;rw[if_pos c]at hV;simp only[Int.ofNat_eq_natCast,Int.toNat_natCast]at hV;rw[hx]at hV;generalize hlx:l[n]=x at *;have hnx:na x=[.int .i64 x.nu,.int .i64 x.dy,.int .u8 x.sg,.int .i64 x.dr,.int .i64 x.lt,.int .i64 x.fr,.int .i64 x.tu,.int .i64 x.ca,.bool x.up,.int .u8 x.wy]:=rfl;simp -implicitDefEqProofs[c,hn,hlx,hnx,hV]
 . rw[if_neg c]at hV;simp -implicitDefEqProofs[c,hV]
end
def pfF (l:List Nte) (d m:Int) (i j:Nat):Bool:=(List.range i).any λv=>decide (ltV l d m v=(j:Int))
theorem Zl9 {l:List Nte} {d m:Int} {i n:Nat} (h:ltV l d m i=(n:Int)):pfF l d m (i+1)=λj=>if j=n then true else pfF l d m i j:=by
 funext j
 unfold pfF;rw[W1y,W2h];by_cases c:j=n
 . subst c;simp[h]
 . have c2:¬(n:Int)=(j:Int):=(by omega);simp[c,c2,h]
def p3S (r:List Iss) (l:List Nte) (d m:Int) (T:AV) (i:Nat):St:=⟨[(11,.int .i64 i),(10,T),(9,.ptr 9 0),(3,.ptr 3 0),(1,.int .i64 d),(2,.int .i64 m)],[(9,.box (fgC (pfF l d m i))),(3,.box [.vsl (r.map isa),.vsl (l.map na)])]⟩
def cgS (key t:Nat) (p b:Nat) (f:Nat->Bool) (k:Nat):St:=⟨[(p,.int .i64 k),(t,nlV key (flL 1 f k)),(b,.ptr b 0)],(b,.box (fgC f))::nlO key (flL 1 f k)⟩
section
variable {G:Nat->Option (List AV)}
theorem Zla (r:List Iss) (l:List Nte) (d:Int) (hr:Sml r) (hne:r≠[]) (hd:Sml (nums r)):PC Tryz.prog G 144 [.agg [.vsl (r.map isa),.vsl (l.map na)],.int .i64 d] (.bool (decide (d∈nums r))):=by
 have c1:=Zav (G:=G) r hr hne;rw[rega]at c1;have c2:=Zdm (G:=G) (nums r) d hd
 (refine Z6E rfl λR hG hrd=>Qga ?_;subst hG)
 simp -implicitDefEqProofs[Z6C,Z6D];refine Qco (c1) (by simp) ?_;simp -implicitDefEqProofs[];refine Qco (c2) (by simp) ?_;simp -implicitDefEqProofs[]
set_option maxHeartbeats 4000000 in
theorem Zlb (r:List Iss) (l:List Nte) (d m:Int) (hw:WfN l) (hr:Wf r) (hd:Sml (nums r)):PC Tryz.prog G 88 [.agg [.vsl (r.map isa),.vsl (l.map na)],.int .i64 d,.int .i64 m] (poA r l d m):=by
 have c1:=PC.sub (ZgK (G:=G) r l [] m hw hr (by simp[Sml])) (xs:=[.agg [.vsl (r.map isa),.vsl (l.map na)],.nils,.int .i64 m]) ⟨.rfl',.nils,.rfl',trivial⟩;unfold poA;by_cases h0:asN r l [] m=0
 case neg =>
  rw[if_neg (λh=>h0 h.1),if_neg h0]
  (refine Z6H rfl λR hG hrd=>Qga ?_;subst hG)
  simp -implicitDefEqProofs[Z6F,Z6G];refine Qco (c1) (by simp) ?_;simp -implicitDefEqProofs[h0]
 have hop:=Zjv (ZgI h0).1;have hB:=ZgH (ZgI h0).1;have c2:=Zla (G:=G) r l d hr.1.1 (ZkN hop) hd;rw[h0]at c1 ⊢;by_cases h1:d∈nums r
 case neg =>
  rw[if_neg (λh=>h1 h.2),if_pos rfl,if_neg h1];rw[W0S h1]at c2
  (refine Z6H rfl λR hG hrd=>Qga ?_;subst hG)
  simp -implicitDefEqProofs[Z6F,Z6G];refine Qco (c1) (by simp) ?_;simp -implicitDefEqProofs[];refine Qco (c2) (by simp) ?_;simp -implicitDefEqProofs[]
 rw[if_pos ⟨rfl,h1⟩,if_pos rfl,if_pos h1];rw[W0M h1]at c2;have hU:=Zh6 hB;have h12:=ZgJ hB;have hp2:=pow5 hU;have c3:=Zhh (G:=G) r l hB;have sbl:=λv=>Zh3 (opQ l) v (opQ l).length
 have hbd:=λv=>ZiC hop hB h1 m v
 have hlv:∀ v,ltV l d m v=(byV (sbT (opQ l) v) m l d l.length).lt:=λv=>rfl
 have hff:=λv=>ZgG (G:=G) r l false true (sbT (opQ l) v) [] m h12 (by have:=sbl v;unfold Sml sbT;omega) (by simp[Sml])
 have hll:=λv=>Zl8 (G:=G) r l (sbT (opQ l) v) m d h12
 have l1:∀ s,liA false s = .vsl (s.map ia):=λs=>by simp[liA]
 have l2:liA true [] = .nils:=(by simp[liA]);simp only[l1,l2]at hff;simp only[<- hlv]at hll
 have hps:posL l d m=flL 1 (pfF l d m (2 ^ (opQ l).length)) 9:=by
  unfold posL;exact Zl4 λj _ _=>rfl
 have hpn:posL l d m≠[]:=Ziu λv=>hbd v
 obtain ⟨N,hN'⟩ : ∃ N,N=2 ^ (opQ l).length:=⟨_,rfl⟩;rw[<- hN']at hp2 hps c3;have tl:=Zh8 (opQ l) N
 have tat:∀ v,v<N->(trK (opQ l) N)[v]? = some [.vsl ((sbT (opQ l) v).map ia)]:=λv hv=>by
  unfold trK;rw[W09,W0L hv];rfl
 have tp:=Zha (opQ l) N;obtain ⟨T,hT⟩ : ∃ T,T=trK (opQ l) N:=⟨_,rfl⟩;rw[<- hT]at c3 tl tat tp;refine Z6H rfl λR hG hrd=>?_
 subst hG;refine Qga ?_;simp -implicitDefEqProofs[Z6F,Z6G];refine Qco (c1) (by simp) ?_;simp -implicitDefEqProofs[];refine Qco (c2) (by simp) ?_;simp -implicitDefEqProofs[];refine Qco (c3) (by simp) ?_;simp -implicitDefEqProofs[];refine Za9 (p3S r l d m (.vsl T)) (λ_=>True) N ?_ trivial ?_ ?_
 . have e0:fgC (pfF l d m 0)=[.bool false,.bool false,.bool false,.bool false,.bool false,.bool false,.bool false,.bool false,.bool false]:=rfl;simp only[p3S,e0]
   (refine Ym.sub (by simp[lk,Ya,AV.keys]) ?_;simp only[Wkl,and_true];(try simp[lk,Yc,Ya,AV.keys]))
 . intro i hi _;have wi:IntKind.i64.wrap ((i:Int)+1)=(i:Int)+1:=Yf (by omega) (by omega);have hff:=hff i;have hll:=hll i;obtain ⟨b1,b2⟩:=hbd i;obtain ⟨n,hn⟩ : ∃ n:Nat,ltV l d m i=n:=⟨(ltV l d m i).toNat,by omega⟩;have sc:=Zl9 hn;rw[hn]at hll b1 b2;have n9:n<9:=(by omega);have n9':(n:Int)<9:=(by omega);have n8:n<=8:=(by omega);have hpu:=ZkZ (pfF l d m i) true n9;rw[<- sc]at hpu;simp only[Z4,W2t,W0U,W1e,W18]at hpu;have L9:∀ f,(fgC f).length=9:=λ_=>rfl
   have tat:=tat i hi;obtain ⟨g1,g2⟩:=W02.1 tat;have pR:(AV.vsl ((rbK (fB (sbT (opQ l) i) [] m l) l.length 0).map ba)).pure=true:=(by simp[AV.pure,ba]);refine Qga ?_;simp -implicitDefEqProofs[p3S,hi,tl,g2,tat];refine Ye.of hff (by simp[AV.pure,isa,na,ia]) ?_;simp -implicitDefEqProofs[];refine Ye.of hll (by simp[AV.pure,isa,na,ba]) ?_;simp -implicitDefEqProofs[n9',n9,n8,L9,hpu,wi];refine ⟨rfl,?_⟩;simp only[p3S]
   (refine Ym.sub (by simp[lk,Ya,AV.keys]) ?_;simp only[Wkl,Zl0,and_true];(try simp[lk,Yc,Ya,AV.keys]))
 . intro _;have hln:¬flL 1 (pfF l d m N) 9=[]:=(by rw[<- hps];exact hpn);rw[hps];simp only[p3S];generalize pfF l d m N=f at *;refine Qga ?_;simp -implicitDefEqProofs[tl];refine Qgr ?_;simp -implicitDefEqProofs[];refine Za9 (λk=>cgS 53 12 13 9 f (k+1)) (λ_=>True) 8 ?_ trivial ?_ ?_
   . have e0:flL 1 f 1=[]:=Zl2 (by omega);simp only[cgS,e0,nlV,nlO,if_true]
     (refine Ym.sub (by simp[lk,Ya,AV.keys]) ?_;simp only[Wkl,Zl0,and_true];(try simp[lk,Yc,Ya,AV.keys]))
   . intro k hk _;have sc:=Zl1 (a:=1) (f:=f) (n:=k+1);have hle:=Zl3 1 f (k+1);obtain ⟨m',hm⟩ : ∃ m',m'=k+1:=⟨_,rfl⟩;rw[<- hm]at sc hle;have m9:m'<9:=(by omega);have m9':(m':Int)<9:=(by omega);have m8:m'<=8:=(by omega);have m1:1<=m':=(by omega);have hat:=ZkY f m9;have wm:IntKind.i64.wrap ((m':Int)+1)=((m'+1:Nat):Int):=Yf (by omega) (by omega);obtain ⟨S,hS⟩ : ∃ S,S=flL 1 f m':=⟨_,rfl⟩;obtain ⟨T',hT'⟩ : ∃ T',T'=flL 1 f (m'+1):=⟨_,rfl⟩;rw[<- hS]at sc hle;rw[<- hT']at sc;have bb:(S.length+1)*8<=70368744177664:=(by omega);have hw1:cgS 53 12 13 9 f (k+1)=⟨[(13,.int .i64 m'),(12,nlV 53 S),(9,.ptr 9 0)],(9,.box (fgC f))::nlO 53 S⟩:=(by rw[<- hm,cgS,<- hS]);have hw2:cgS 53 12 13 9 f (k+1+1)=⟨[(13,.int .i64 (m'+1:Nat)),(12,nlV 53 T'),(9,.ptr 9 0)],(9,.box (fgC f))::nlO 53 T'⟩:=(by rw[<- hm,cgS,<- hT']);by_cases cS:S=[]
     case' pos =>
      have hV:nlV 53 S = .nils:=(by simp[nlV,cS]);have hQ:nlO 53 S=[]:=by simp[nlO,cS]
     case' neg =>
      have hV:nlV 53 S = .osl 53 S.length:=(by simp[nlV,cS]);have hQ:nlO 53 S=[(53,.row 1 (S.map ia))]:=by simp[nlO,cS]
     all_goals
      refine Qga ?_
      cases hf:f m'
      . have e:T'=S:=(by rw[sc,hf];simp);rw[hf]at hat;simp -implicitDefEqProofs[hw1,hV,hQ,m9',m9,m8,hat,wm];rw[hw2,e,hV,hQ]
        (refine Ym.sub (by simp[lk,Ya,AV.keys]) ?_;simp only[Wkl,Zl0,Zfv,and_true];(try simp[lk,Yc,Ya,AV.keys]))
      . have e:T'=S++[(m':Int)]:=(by rw[sc,if_pos ⟨m1,hf⟩]);have hne:¬T'=[]:=(by rw[e];simp);have em:T'.map ia=S.map ia++[[.int .i64 m']]:=(by rw[e,W0r];rfl);have eT:T'.length=S.length+1:=(by rw[e];simp);have hV2:nlV 53 T' = .osl 53 (S.length+1):=(by simp[nlV,hne,eT]);have hQ2:nlO 53 T'=[(53,.row 1 (T'.map ia))]:=(by simp[nlO,hne]);rw[hf]at hat;simp -implicitDefEqProofs[hw1,hV,hQ,m9',m9,m8,hat,wm,bb];rw[hw2,hV2,hQ2]
        first
         |(rw[em,cS];(refine Ym.sub (by simp[lk,Ya,AV.keys]) ?_;simp only[Wkl,Zl0,and_true];(try simp[lk,Yc,Ya,AV.keys]));done)
         |(rw[<- em];((try simp only[eT]);refine Ym.sub (by simp[lk,Ya,AV.keys,eT]) ?_;simp only[eT,Wkl,Zl0,Zfv,and_true];(try simp[lk,Yc,Ya,AV.keys,eT]));done)
   . intro _;obtain ⟨S,hS⟩ : ∃ S,S=flL 1 f 9:=⟨_,rfl⟩;rw[<- hS]at hln ⊢;have hV:nlV 53 S = .osl 53 S.length:=(by simp[nlV,hln]);have hQ:nlO 53 S=[(53,.row 1 (S.map ia))]:=(by simp[nlO,hln]);have e9:(8:Nat)+1=9:=rfl;refine Qga ?_;simp -implicitDefEqProofs[cgS,e9,<- hS,hV,hQ];refine Qgr ?_;simp -implicitDefEqProofs[ia]
end
section
variable {G:Nat->Option (List AV)}
end
section
variable {G:Nat->Option (List AV)}
end
open Go.ChangeShapes Go.WideShapes Go.ChangeAt Go.WideMaps Go.WideElems Go.RowKit Go.Deep
theorem own:ownKnob Tryz.prog.godebug=none:=by kernel_rfl
theorem Zlk:laidOutB Tryz.prog=true:=by kernel_rfl
theorem cF:Tryz.prog.cellsOf 262=1:=by kernel_rfl
theorem Zll {P:Program} {G:Nat->Option (List AV)} {f:FuncId} {args:List AV} {W:World} {vs:Array Value} (h:PC P G f args (.bool true)) (hG:GR G noM W) (hs:vs.size=args.length)
  (hv:∀ (i:Nat) (x:AV) (u:Value),args[i]? = some x->vs[i]? = some u->PV noM W x u):Calls P f vs W λe W'=>e = .returned (.bool true)/\Ext W W' :=
 (h.2 noM W vs (λ_ h=>h.elim) hG hs hv).mono λe W' ⟨v,h1,h2,h3⟩=>by
  cases h2
  exact ⟨h1,h3⟩
def itK:List TY:=[.int .i64,.int .i64]
def dmK:List TY:=[.int .i64,.int .i64,.int .i64]
def isK2:List TY:=[.int .i64,.int .i64,.int .u8,.sl itK,.sl dmK]
theorem Zlm {xs:List AV} (h:TVs itK xs):∃ p:Int×Int,xs=ita p:=by
 obtain ⟨x0,_,rfl,h0,h⟩:=h.cons_inv;obtain ⟨x1,_,rfl,h1,h⟩:=h.cons_inv;obtain rfl:=h.nil_inv;obtain ⟨n,rfl,-⟩:=h0.int_inv;obtain ⟨l,rfl,-⟩:=h1.int_inv;exact ⟨(n,l),rfl⟩
theorem Zln {xs:List AV} (h:TVs dmK xs):∃ d:Dm,xs=dma d:=by
 obtain ⟨x0,_,rfl,h0,h⟩:=h.cons_inv;obtain ⟨x1,_,rfl,h1,h⟩:=h.cons_inv;obtain ⟨x2,_,rfl,h2,h⟩:=h.cons_inv;obtain rfl:=h.nil_inv;obtain ⟨n,rfl,-⟩:=h0.int_inv;obtain ⟨l,rfl,-⟩:=h1.int_inv;obtain ⟨u,rfl,-⟩:=h2.int_inv;exact ⟨⟨n,l,u⟩,rfl⟩
def KOk (x:Iss):Prop:=0<=x.k/\x.k<=255
theorem Zlo {xs:List AV} (h:TVs isK2 xs):∃ x:Iss,xs=isa x/\KOk x:=by
 obtain ⟨x0,_,rfl,h0,h⟩:=h.cons_inv;obtain ⟨x1,_,rfl,h1,h⟩:=h.cons_inv;obtain ⟨x2,_,rfl,h2,h⟩:=h.cons_inv;obtain ⟨x3,_,rfl,h3,h⟩:=h.cons_inv;obtain ⟨x4,_,rfl,h4,h⟩:=h.cons_inv;obtain rfl:=h.nil_inv;obtain ⟨n,rfl,-⟩:=h0.int_inv;obtain ⟨l,rfl,-⟩:=h1.int_inv;obtain ⟨k,rfl,hk⟩:=h2.int_inv;obtain ⟨r3,rfl,-,g3⟩:=h3.sl_inv;obtain ⟨r4,rfl,-,g4⟩:=h4.sl_inv;obtain ⟨its,rfl⟩:=Zlh (f:=ita) λr hr=>Zlm (g3 r hr)
 obtain ⟨dms,rfl⟩:=Zlh (f:=dma) λr hr=>Zln (g4 r hr)
 exact ⟨⟨n,l,k,its,dms⟩,rfl,bounds_u8 hk⟩
theorem Zlp {α β:Type} {f:α->β} {p:α->Prop} {rows:List β} (h:∀ r∈rows,∃ d,r=f d/\p d):∃ l:List α,rows=l.map f/\∀ x∈l,p x:=by
 induction rows with
 |nil=>exact ⟨[],rfl,by simp⟩
 | cons r rows ih =>
   obtain ⟨d,rfl,hd⟩:=h r (W0H ..);obtain ⟨l,rfl,hl⟩:=ih λr hr=>h r (W0z _ hr)
   exact ⟨d::l,rfl,λx hx=>by
    rcases W0g.1 hx with rfl|hx
    . exact hd
    . exact hl x hx⟩
theorem Zlq {G:Nat->Option (List AV)} (r:List Iss):PC Tryz.prog G 125 [rega r] (.bool (Zao r)):=by
 by_cases h1:80<r.length
 . (refine Za3 rfl λR hG hrd=>Qga ?_;subst hG)
   have h1':(80:Int)<r.length:=(by omega);simp -implicitDefEqProofs[Za1,Za2,rega,h1',Zao,h1]
 . exact Zas r (by unfold Sml;omega)
theorem Zlr {r:List Iss} (h:Zao r=false) (hk:∀ x∈r,KOk x):Wf r:=by
 simp only[Zao,W1U,W1b,W27,W0T,W0b,not_or]at h;exact ⟨⟨by unfold Sml;omega,λx hx=>by have:=h.2 x hx;unfold Sml;omega⟩,hk⟩
def gr7 (r:List Iss) (l:List Nte) (hs:List Hld) (ps:List Prt):Bool:=Zao r||decide (16<l.length)||decide (8<hs.length)||decide (40<ps.length)||hs.any λh=>decide (20<h.ds.length)
theorem Zls (o:List (Nat×AObj)) (l:List Hld):Yc o (.row 4 (l.map hoa))=true:=by
 simp only[Yc,W03,W0i];rintro x ⟨y,-,rfl⟩ v hv;simp only[hoa,W0g,W0Q,or_false]at hv;rcases hv with rfl|rfl|rfl|rfl <;> simp[Ya,AV.keys]
theorem Zlt (o:List (Nat×AObj)) (l:List Prt):Yc o (.row 7 (l.map ptA))=true:=by
 simp only[Yc,W03,W0i];rintro x ⟨y,-,rfl⟩ v hv;simp only[ptA,W0g,W0Q,or_false]at hv;rcases hv with rfl|rfl|rfl|rfl|rfl|rfl|rfl <;> simp[Ya,AV.keys]
def hlV (k:Nat) (H:List Hld):AV:=if H=[] then .nils else .osl k H.length
def hlO (k:Nat) (H:List Hld):List (Nat×AObj):=if H=[] then [] else [(k,.row 4 (H.map hoa))]
def tw7 (B:List AV) (R L:AV) (hs:List Hld) (P:AV) (i:Nat):St :=
 ⟨[(4,.int .i64 i),(3,.ptr 3 0),(2,.ptr 2 0),(1,.ptr 1 0)],[(1,.box B),(2,.box [.nils,.nils,.nils,.nils]),(3,.box [R,L,hlV 35 (hs.take i),P])]++hlO 35 (hs.take i)⟩
section
variable {G:Nat->Option (List AV)}
theorem Zlu (r:List Iss) (l:List Nte):PC Tryz.prog G 67 [.agg [.vsl (r.map isa),.vsl (l.map na)]] (.bool (Zao r||decide (16<l.length))):=by
 have hg:=Zlq (G:=G) r;rw[rega]at hg
 (refine Z7z rfl λR hG hrd=>Qga ?_;subst hG)
 simp -implicitDefEqProofs[Z7x,Z7y];refine Qco (hg) (by simp) ?_
 cases q:Zao r
 . have e:decide ((16:Int)<l.length)=decide (16<l.length):=(by rw[decide_eq_decide];omega);simp -implicitDefEqProofs[e]
 . simp -implicitDefEqProofs[]
theorem Zlv (r:List Iss) (l:List Nte) (hs:List Hld) (ps:List Prt):PC Tryz.prog G 17 [prA r l hs ps] (.bool (gr7 r l hs ps)):=by
 have hg:=Zlu (G:=G) r l;unfold gr7 prA;generalize (Zao r||decide (16<l.length))=g at *;refine ZkG rfl λR hG hrd=>?_
 subst hG;refine Qga ?_;simp -implicitDefEqProofs[ZkE,ZkF];refine Qco (hg) (by simp) ?_
 cases g
 case true=>simp -implicitDefEqProofs[]
 by_cases h8:8<hs.length
 . have h8':(8:Int)<hs.length:=(by omega);simp -implicitDefEqProofs[h8,h8']
 have h8':¬(8:Int)<hs.length:=(by omega);by_cases h40:40<ps.length
 . have h40':(40:Int)<ps.length:=(by omega);simp -implicitDefEqProofs[h8,h8',h40,h40']
 have h40':¬(40:Int)<ps.length:=(by omega);simp -implicitDefEqProofs[h8',h40'];refine Za9 (λi=>⟨[(3,.int .i64 i),(1,.ptr 1 0)],[(1,.box [.vsl (r.map isa),.vsl (l.map na),.vsl (hs.map hoa),.vsl (ps.map ptA)])]⟩) (λi=>∀ j (h:j<hs.length),j<i->¬20<hs[j].ds.length) hs.length ?_ (by simp) ?_ ?_
 . (refine Ym.sub (by simp[lk,Ya,AV.keys]) ?_;simp only[Wkl,and_true];(try simp[lk,Yc,Ya,AV.keys]))
 . intro i hi he;have wi:IntKind.i64.wrap ((i:Int)+1)=(i:Int)+1:=Yf (by omega) (by omega);refine Qga ?_;by_cases q:20<hs[i].ds.length
   . have q':(20:Int)<hs[i].ds.length:=(by omega);have e:(hs.any λh=>decide (20<h.ds.length))=true:=W14.2 ⟨_,W0e hi,by simpa using q⟩;simp -implicitDefEqProofs[hi,hoa,q'];refine Qgr ?_;rw[e];simp -implicitDefEqProofs[]
   . have q':¬(20:Int)<hs[i].ds.length:=(by omega);simp -implicitDefEqProofs[hi,hoa,q',wi];refine ⟨?_,λj h1 h2=>?_⟩
     . (refine Ym.sub (by simp[lk,Ya,AV.keys]) ?_;simp only[Wkl,and_true];(try simp[lk,Yc,Ya,AV.keys]))
     . rcases W0q j i with h4|h4
       . have:=he j h1 h4;omega
       . obtain rfl:j=i:=(by omega);omega
 . intro he
   have e:(hs.any λh=>decide (20<h.ds.length))=false:=W27.2 λx hx=>by
    obtain ⟨j,hj,rfl⟩:=W0k hx;simpa using he j hj hj
   refine Qga ?_;simp -implicitDefEqProofs[];refine Qgr ?_;simp -implicitDefEqProofs[h8,h40,e]
theorem Zlw (r:List Iss) (l:List Nte) (hs:List Hld) (ps:List Prt) (hr:SmlR r) (hl:Sml l) (hw:WfP hs ps):PC Tryz.prog G 26 [prA r l hs ps,prA r l hs ps] (.bool true):=by
 have c1:=ZgM (G:=G) r r l l hr hl;rw[W0M ⟨rfl,rfl⟩]at c1;have c2:=λh (hh:h∈hs)=>Zag (G:=G) h.ds h.ds (by have:=hw.dl h hh;unfold Sml;omega)
 have hhl:=hw.hl;have hpl:=hw.pl;unfold prA;refine ZkJ rfl λR hG hrd=>?_
 subst hG;refine Qga ?_;simp -implicitDefEqProofs[ZkH,ZkI];refine Qco (c1) (by simp) ?_;simp -implicitDefEqProofs[];refine Za9 (λi=>⟨[(5,.int .i64 i),(2,.ptr 2 0),(3,.ptr 3 0)],[(2,.box [.vsl (r.map isa),.vsl (l.map na),.vsl (hs.map hoa),.vsl (ps.map ptA)]),(3,.box [.vsl (r.map isa),.vsl (l.map na),.vsl (hs.map hoa),.vsl (ps.map ptA)])]⟩) (λ_=>True) hs.length ?_ trivial ?_ ?_
 . (refine Ym.sub (by simp[lk,Ya,AV.keys]) ?_;simp only[Wkl,and_true];(try simp[lk,Yc,Ya,AV.keys]))
 . intro i hi _;have c2:=c2 _ (W0e hi);rw[W0M rfl]at c2;have wi:IntKind.i64.wrap ((i:Int)+1)=(i:Int)+1:=Yf (by omega) (by omega);refine Qga ?_;simp -implicitDefEqProofs[hi,hoa];refine ⟨rfl,?_⟩;refine Qco (c2) (by simp) ?_;simp -implicitDefEqProofs[wi]
   (refine Ym.sub (by simp[lk,Ya,AV.keys]) ?_;simp only[Wkl,and_true];(try simp[lk,Yc,Ya,AV.keys]))
 . intro _;refine Qga ?_;simp -implicitDefEqProofs[];refine Qgr ?_;simp -implicitDefEqProofs[];refine Za9 (λi=>⟨[(8,.int .i64 i),(2,.ptr 2 0),(3,.ptr 3 0)],[(2,.box [.vsl (r.map isa),.vsl (l.map na),.vsl (hs.map hoa),.vsl (ps.map ptA)]),(3,.box [.vsl (r.map isa),.vsl (l.map na),.vsl (hs.map hoa),.vsl (ps.map ptA)])]⟩) (λ_=>True) ps.length ?_ trivial ?_ ?_
   . (refine Ym.sub (by simp[lk,Ya,AV.keys]) ?_;simp only[Wkl,and_true];(try simp[lk,Yc,Ya,AV.keys]))
   . intro i hi _;have wi:IntKind.i64.wrap ((i:Int)+1)=(i:Int)+1:=Yf (by omega) (by omega);refine Qga ?_;simp -implicitDefEqProofs[hi,ptA,wi];refine ⟨rfl,?_⟩
     (refine Ym.sub (by simp[lk,Ya,AV.keys]) ?_;simp only[Wkl,and_true];(try simp[lk,Yc,Ya,AV.keys]))
   . intro _;refine Qga ?_;simp -implicitDefEqProofs[];refine Qgr ?_;simp -implicitDefEqProofs[]
set_option maxHeartbeats 1000000 in
theorem Zlx (r:List Iss) (l:List Nte) (hs:List Hld) (ps:List Prt) (hr:SmlR r) (hl:Sml l) (hw:WfP hs ps):PC Tryz.prog G 18 [prA r l hs ps] (prA r l hs ps):=by
 have c1:=ZgN (G:=G) r l hr hl;have hhl:=hw.hl;have hpl:=hw.pl;have hdl:=hw.dl;have b2:ps.length*56<=70368744177664:=(by omega);refine PC.out (v:=.agg [.vsl (r.map isa),.vsl (l.map na),Yg (hs.map hoa),.vsl (ps.map ptA)]) ?_ (Nsub.agg ⟨.rfl',.rfl',.orNil _,.rfl',trivial⟩);obtain ⟨B,hB⟩ : ∃ B:List AV,B=[.vsl (r.map isa),.vsl (l.map na),.vsl (hs.map hoa),.vsl (ps.map ptA)]:=⟨_,rfl⟩;unfold prA;rw[<- hB];refine ZkM rfl λR hG hrd=>?_
 subst hG;refine Qga ?_;simp -implicitDefEqProofs[ZkK,ZkL,hB];refine Qco (c1) (by simp) ?_;by_cases p0:ps=[]
 case' pos =>
  simp only[p0,W1d]at hB;simp -implicitDefEqProofs[p0]
 case' neg=>simp -implicitDefEqProofs[p0,b2,ptA]
 all_goals
  refine ⟨rfl,?_⟩;rw[<- hB];refine Za9 (tw7 B (.vsl (r.map isa)) (.vsl (l.map na)) hs (.vsl (ps.map ptA))) (λ_=>True) hs.length ?_ trivial ?_ ?_
  . refine Ym.trans (Ym.frz (λk=>k == 9) _) ?_;simp only[tw7,hlV,hlO,W1g,if_true,hB,W1H]
    ((try simp only[Yi,frzA,frzO,frz,Yh,Yj,St.get,AV.pure,p0,ptA]);refine Ym.sub (by simp[lk,Ya,AV.keys,Yi,frzA,frzO,frz,Yh,Yj,St.get,AV.pure,p0,ptA]) ?_;simp only[Yi,frzA,frzO,frz,Yh,Yj,St.get,AV.pure,p0,ptA,Wkl,and_true];(try simp[lk,Yc,Ya,AV.keys,Yi,frzA,frzO,frz,Yh,Yj,St.get,AV.pure,p0,ptA]))
  . intro i hi _;have hdi:=hdl _ (W0e hi);obtain ⟨h,hhe⟩ : ∃ h,h=hs[i]:=⟨_,rfl⟩;rw[<- hhe]at hdi;have hlx:hs[i]=h:=hhe.symm;have hho:hoa h=[.int .i64 h.id,.int .i64 h.fr,.int .i64 h.to,.vsl (h.ds.map ia)]:=rfl;have wi:IntKind.i64.wrap ((i:Int)+1)=(i:Int)+1:=Yf (by omega) (by omega);have tk:hs.take (i+1)=hs.take i++[h]:=(by rw[W08 hi,hlx]);have tl:(hs.take i).length=i:=(by simp;omega);have bb:(i+1)*48<=70368744177664:=(by omega);have b3:h.ds.length*8<=70368744177664:=(by omega);obtain ⟨H,hH⟩ : ∃ H,H=hs.take i:=⟨_,rfl⟩;rw[<- hH]at tk tl;have em:(H++[h]).map hoa=H.map hoa++[hoa h]:=(by simp);have hne:¬H++[h]=[]:=(by simp);have hV2:hlV 35 (H++[h]) = .osl 35 (i+1):=(by unfold hlV;rw[if_neg hne];simp[tl]);have hO2:hlO 35 (H++[h])=[(35,.row 4 (H.map hoa++[hoa h]))]:=by unfold hlO;rw[if_neg hne,em]
    have pH:∀ ok st,(H.map hoa).map (λr=>r.map (frzA ok st))=H.map hoa:=λok st=>by
     rw[W10]
     congr 1
     funext x;simp[hoa,frzA,frz,AV.keys]
    refine Yb mixed 15 ?_;by_cases cH:H=[]
    case' pos =>
     have hV:hlV 35 H = .nils:=(by simp[hlV,cH]);have hQ:hlO 35 H=[]:=by simp[hlO,cH]
    case' neg =>
     have hV:hlV 35 H = .osl 35 i:=(by simp[hlV,cH,tl]);have hQ:hlO 35 H=[(35,.row 4 (H.map hoa))]:=by simp[hlO,cH]
    all_goals
     by_cases d0:h.ds=[]
     case' pos=>simp -implicitDefEqProofs[tw7,<- hH,hV,hQ,hB,hi,hlx,hho,d0,wi,bb,tl]
     case' neg=>simp -implicitDefEqProofs[tw7,<- hH,hV,hQ,hB,hi,hlx,hho,d0,ia,wi,bb,b3,tl]
     all_goals
      refine GO0 (Z2R (st':=⟨[(5,.ptr 5 0),(4,.int .i64 i),(3,.ptr 3 0),(2,.ptr 2 0),(1,.ptr 1 0)],[(1,.box [.vsl (r.map isa),.vsl (l.map na),.vsl (hs.map hoa),.vsl (ps.map ptA)]),(2,.box [.nils,.nils,.nils,.nils]),(3,.box [.vsl (r.map isa),.vsl (l.map na),hlV 35 H,.vsl (ps.map ptA)]),(5,.box [.int .i64 h.id,.int .i64 h.fr,.int .i64 h.to,.vsl (h.ds.map ia)])]++hlO 35 H⟩) (Ym.trans (Ym.frz (λk=>k == 26) _) ?_) ?_)
      . simp only[hV,hQ]
        ((try simp only[Yi,frzA,frzO,frz,Yh,Yj,St.get,pH,d0,AV.pure,ia]);refine Ym.sub (by simp[lk,Ya,AV.keys,Yi,frzA,frzO,frz,Yh,Yj,St.get,pH,d0,AV.pure,ia]) ?_;simp only[Yi,frzA,frzO,frz,Yh,Yj,St.get,pH,d0,AV.pure,ia,Wkl,Zls,and_true];(try simp[lk,Yc,Ya,AV.keys,Yi,frzA,frzO,frz,Yh,Yj,St.get,pH,d0,AV.pure,ia]))
        all_goals exact p0
      . refine Qga ?_;simp -implicitDefEqProofs[hV,hQ,wi,bb,tl];refine Qgr ?_;simp -implicitDefEqProofs[wi];simp only[tw7,tk,hV2,hO2,hB,hho];rw[<- hho,<- em]
        ((try simp only[hho,p0]);refine Ym.sub (by simp[lk,Ya,AV.keys,hho,p0]) ?_;simp only[hho,p0,Wkl,Zls,and_true];(try simp[lk,Yc,Ya,AV.keys,hho,p0]))
        all_goals exact ⟨by rw[<- tl,cH];rfl,cH⟩
  . intro _;have tl:hs.take hs.length=hs:=W0v;refine Qga ?_;by_cases cH:hs=[]
    . have hV:hlV 35 hs = .nils:=(by simp[hlV,cH]);have hQ:hlO 35 hs=[]:=(by simp[hlO,cH]);simp -implicitDefEqProofs[tw7,tl,hV,hQ,hB];refine Qgr ?_;simp -implicitDefEqProofs[Yg,cH,p0,AV.pure,ptA]
    . have hV:hlV 35 hs = .osl 35 hs.length:=(by simp[hlV,cH]);have hQ:hlO 35 hs=[(35,.row 4 (hs.map hoa))]:=(by simp[hlO,cH]);simp -implicitDefEqProofs[tw7,tl,hV,hQ,hB];refine Qgr ?_;simp -implicitDefEqProofs[Yg,cH,hoa,p0,AV.pure,ptA]
end
theorem Zly {r:List Iss} {l:List Nte} {hs:List Hld} {ps:List Prt} (h:gr7 r l hs ps=false) (hr:∀ x∈r,KOk x) (hl:∀ x∈l,NOk7 x) (hp:∀ x∈ps,POk x):WfN l/\Wf r/\Sml (nums r)/\WfP hs ps:=by
 simp only[gr7,W1U,W1b,W27,W0b]at h;have hw:=Zlr h.1.1.1.1 hr;exact ⟨⟨by unfold Sml;omega,hl⟩,hw,Zcu hw.1.1,by omega,by omega,λx hx=>by have:=h.2 x hx;omega,hp⟩
def wkE (r:List Iss) (l:List Nte) (hs:List Hld) (ps:List Prt) (day id d:Int):List Int:=if ab7 r l hs ps day 1 id [d]=0 then wkL ps day id d else []
section
variable {G:Nat->Option (List AV)}
end
theorem Zlz {hs:List Hld} {id:Int} (h:0<=hoI hs id):∃ (k:Nat) (hk:k<hs.length),hoI hs id=k/\hoF hs id=some hs[k]:=by
 unfold hoI fstOf at *
 cases e:hs.findIdx? (λh=>decide (h.id=id)) with
 |none=>rw[e]at h;simp at h
 | some i =>
   obtain ⟨h1,h2,h3⟩:=W1A.1 e;exact ⟨i,h1,rfl,List.find?_eq_some_iff_getElem.2 ⟨h2,i,h1,rfl,λj hj=>by simpa using h3 j hj⟩⟩
theorem ZlA {r:List Iss} {l:List Nte} (h:Zda r l=true) {x:Nte} (hx:x∈l):1<=x.fr/\x.fr<=999/\1<=x.tu/\x.tu<=999:=by
 obtain ⟨i,hi,rfl⟩:=W0k hx;simp only[Zda,W01,W03]at h;have h1:=h.1.2 i (W1u.2 hi);simp only[noteB,cN3,W01,Zd7 hi,Zin]at h1;have h2:=h1.1.1.1.1.1.2;omega
theorem ZlB {r:List Iss} {l:List Nte} {hs:List Hld} {ps:List Prt} (h:ck7 r l hs ps=0) {x:Hld} (hx:x∈hs):1<=x.fr/\x.fr<=x.to/\x.to<=999/\x.ds.length<=8:=by
 obtain ⟨i,hi,rfl⟩:=W0k hx;have h1:=W03.1 (ZiH.1 (Zju.1 h).2).1.2 i (W1u.2 hi);simp only[hoB,W01,ZiE hi,Zin,W0b]at h1;omega
def ndI (l:List Nte) (hs:List Hld) (id d:Int):List Int:=match hoF hs id with
 |some h=>ndsL l h d
 |none=>[]
def mkL (l:List Nte) (h:Hld) (i:Nat):List Int:=h.fr::(l.take i).flatMap (mk1 h)
theorem ZlC {l:List Nte} {h:Hld} {i:Nat} (hi:i<l.length):mkL l h (i+1)=mkL l h i++mk1 h l[i]:=by
 unfold mkL;rw[W08 hi,List.flatMap_append];simp
theorem ZlD {h:Hld} {x:Nte}:(mk1 h x).length<=2:=by
 unfold mk1;rw[W0s]
 split <;> split <;> simp
theorem ZlE {l:List Nte} {h:Hld}:∀ i,(mkL l h i).length<=1+2*i
 |0=>by simp[mkL]
 | i + 1=>by
   have:=ZlE (l:=l) (h:=h) i;by_cases hi:i<l.length
   . rw[ZlC hi,W0s];have:=ZlD (h:=h) (x:=l[i]);omega
   . have e:mkL l h (i+1)=mkL l h i:=(by unfold mkL;rw[W0J (by omega),W0J (by omega)]);rw[e];omega
theorem ZlF {l:List Nte} {h:Hld}:mkL l h l.length=mks l h:=by unfold mkL mks;rw[W0v]
def mk7S (r:List Iss) (l:List Nte) (h:Hld) (i:Nat):St :=
 ⟨[(6,.int .i64 i),(5,.osl 11 (mkL l h i).length),(2,.ptr 2 0),(3,.ptr 3 0)],[(11,.row 1 ((mkL l h i).map ia)),(2,.box [.vsl (r.map isa),.vsl (l.map na)]),(3,.box (hoa h))]⟩
section
variable {G:Nat->Option (List AV)}
set_option maxHeartbeats 1000000 in
theorem ZlG (r:List Iss) (l:List Nte) (h:Hld) (h12:l.length<=12) (hB:∀ x∈l,1<=x.tu/\x.tu<=999):PC Tryz.prog G 139 [.agg [.vsl (r.map isa),.vsl (l.map na)],.agg (hoa h)] (.vsl ((mks l h).map ia)):=by
 have c1:=λn=>ZkO (G:=G) n h.fr h.to
 have hho:hoa h=[.int .i64 h.id,.int .i64 h.fr,.int .i64 h.to,.vsl (h.ds.map ia)]:=rfl;refine Z6K rfl λR hG hrd=>?_
 subst hG;refine Qga ?_;simp -implicitDefEqProofs[Z6I,Z6J,hho];refine Za9 (mk7S r l h) (λ_=>True) l.length ?_ trivial ?_ ?_
 . simp only[mk7S,mkL,W1g,List.flatMap_nil,hho]
   ((try simp only[ia]);refine Ym.sub (by simp[lk,Ya,AV.keys,ia]) ?_;simp only[ia,Wkl,and_true];(try simp[lk,Yc,Ya,AV.keys,ia]))
 . intro i hi _;have wi:IntKind.i64.wrap ((i:Int)+1)=(i:Int)+1:=Yf (by omega) (by omega);have sc:=ZlC (h:=h) hi;have hle:=ZlE (l:=l) (h:=h) i;have hBx:=hB _ (W0e hi);obtain ⟨x,hxe⟩ : ∃ x,x=l[i]:=⟨_,rfl⟩;rw[<- hxe]at sc hBx;have hlx:l[i]=x:=hxe.symm;have hnx:na x=[.int .i64 x.nu,.int .i64 x.dy,.int .u8 x.sg,.int .i64 x.dr,.int .i64 x.lt,.int .i64 x.fr,.int .i64 x.tu,.int .i64 x.ca,.bool x.up,.int .u8 x.wy]:=rfl;have wt:IntKind.i64.wrap (x.tu+1)=x.tu+1:=Yf (by omega) (by omega);have c1:=c1 x.fr;unfold mk1 at sc;obtain ⟨S,hS⟩ : ∃ S,S=mkL l h i:=⟨_,rfl⟩;obtain ⟨T,hT⟩ : ∃ T,T=mkL l h (i+1):=⟨_,rfl⟩;rw[<- hS,<- hT]at sc;rw[<- hS]at hle;have b1:(S.length+1)*8<=70368744177664:=(by omega);have b2:(S.length+1+1)*8<=70368744177664:=by omega
   have i2:inR (x.tu+1) h.fr h.to=(decide (x.tu<h.to)&&decide (h.fr<=x.tu+1)):=by
    rw[W2i,Zin];simp;omega
   rw[i2]at sc;refine Qga ?_;simp -implicitDefEqProofs[mk7S,<- hS,hi,hlx,hnx,hho];refine Qco (c1) (by simp) ?_
   cases q1:inR x.fr h.fr h.to
   all_goals
    rw[q1]at sc;by_cases q2:x.tu<h.to
    case' neg =>
     have sc:T=_:=sc;simp only[q2,W1x,W1L,W05,if_false,if_true,W1H]at sc;simp -implicitDefEqProofs[hnx,hho,wi,wt,q2,b1,b2,hi,hlx];simp only[mk7S,<- hT,sc,hho]
     ((try simp only[hnx,ia]);refine Ym.sub (by simp[lk,Ya,AV.keys,hnx,ia]) ?_;simp only[hnx,ia,Wkl,Zfv,and_true];(try simp[lk,Yc,Ya,AV.keys,hnx,ia]))
    by_cases q3:h.fr<=x.tu+1
    . simp only[q2,q3,W1i,Bool.and_self,W05,if_false,if_true,W18]at sc;simp -implicitDefEqProofs[hnx,hho,wi,wt,q2,q3,b1,b2,hi,hlx];simp only[mk7S,<- hT,sc,hho,W0r]
      ((try simp only[hnx,ia]);refine Ym.sub (by simp[lk,Ya,AV.keys,hnx,ia]) ?_;simp only[hnx,ia,Wkl,Zfv,and_true];(try simp[lk,Yc,Ya,AV.keys,hnx,ia]))
    . simp only[q2,q3,W1i,W1x,W2b,W05,if_false,if_true,W1H]at sc;simp -implicitDefEqProofs[hnx,hho,wi,wt,q2,q3,b1,b2,hi,hlx];simp only[mk7S,<- hT,sc,hho,W0r]
      ((try simp only[hnx,ia]);refine Ym.sub (by simp[lk,Ya,AV.keys,hnx,ia]) ?_;simp only[hnx,ia,Wkl,Zfv,and_true];(try simp[lk,Yc,Ya,AV.keys,hnx,ia]))
 . intro _;refine Qga ?_;rw[<- ZlF];simp only[mk7S];generalize mkL l h l.length=S at *;simp -implicitDefEqProofs[hho];refine Qgr ?_;simp -implicitDefEqProofs[ia]
end
def ndF (l:List Nte) (d:Int) (M:List Int) (i j:Nat):Bool:=(M.take i).any λm=>(posL l d m).contains (j:Int)
def orF (f:Nat->Bool) (P:List Int) (q j:Nat):Bool:=f j||(P.take q).contains (j:Int)
theorem ZlH {f:Nat->Bool} {P:List Int} {q n:Nat} (hq:q<P.length) (hn:P[q]=(n:Int)):orF f P (q+1)=λj=>if j=n then true else orF f P q j:=by
 funext j
 unfold orF;rw[W08 hq,hn];by_cases c:j=n
 . subst c;simp
 . have c2:¬(j:Int)=(n:Int):=(by omega);simp[c,c2]
theorem ZlI {l:List Nte} {d:Int} {M:List Int} {i:Nat} (hi:i<M.length):ndF l d M (i+1)=orF (ndF l d M i) (posL l d M[i]) (posL l d M[i]).length:=by
 funext j
 unfold ndF orF;rw[W08 hi,W2h,W0v];simp
def nd7S (B H:List AV) (id d:Int) (V:AV) (f:Nat->Bool) (i:Nat):St :=
 ⟨[(10,.int .i64 i),(9,V),(7,.ptr 7 0),(3,.ptr 3 0),(8,.ptr 8 0),(1,.int .i64 id),(2,.int .i64 d)],[(7,.box (fgC f)),(3,.box B),(8,.box H)]⟩
def ne7S (B H:List AV) (id d:Int) (V P:AV) (f:Nat->Bool) (i q:Nat):St :=
 ⟨[(13,.int .i64 q),(11,P),(10,.int .i64 i),(9,V),(7,.ptr 7 0),(3,.ptr 3 0),(8,.ptr 8 0),(1,.int .i64 id),(2,.int .i64 d)],[(7,.box (fgC f)),(3,.box B),(8,.box H)]⟩
section
variable {G:Nat->Option (List AV)}
set_option maxHeartbeats 4000000 in
theorem ZlJ (r:List Iss) (l:List Nte) (hs:List Hld) (ps:List Prt) (id d:Int) (hl:WfN l) (hr:Wf r) (hd:Sml (nums r)) (hw:WfP hs ps) (h0:ck7 r l hs ps=0) (hi:0<=hoI hs id) (hdn:d∈nums r) :
  PC Tryz.prog G 81 [prA r l hs ps,.int .i64 id,.int .i64 d] (Yg ((ndI l hs id d).map ia)):=by
 have hhl:=hw.hl;have c1:=ZkQ (G:=G) r l hs ps id (by unfold Sml;omega);obtain ⟨k,hk,e1,e2⟩:=Zlz hi;have eN:ndI l hs id d=ndsL l hs[k] d:=(by unfold ndI;rw[e2]);rw[eN];rw[e1]at c1;have hdl:=hw.dl _ (W0e hk);obtain ⟨hb1,hb2,hb3,hb4⟩:=ZlB h0 (W0e hk);obtain ⟨h,hh⟩ : ∃ h,h=hs[k]:=⟨_,rfl⟩;rw[<- hh]at hdl hb1 hb2 hb3 hb4 ⊢;have hlk:hs[k]=h:=hh.symm;have hop:=Zjv (Zju.1 h0).1;have hB:=ZgH (Zju.1 h0).1;have h12:=ZgJ hB;have c2:=ZkP (G:=G) h.ds d (by unfold Sml;omega);have c3:=ZlG (G:=G) r l h h12 λx hx=>by have:=ZlA hB hx;omega
 have c4:=λm=>Zlb (G:=G) r l d m hl hr hd
 have as0:∀ m∈mks l h,asN r l [] m=0:=λm hm=>by
  obtain ⟨q1,q2⟩:=Zit hb2 hm;unfold asN;rw[if_pos (Zju.1 h0).1,if_pos (by simp[truB]),if_pos (Zin.2 ⟨by omega,by omega⟩)]
 have hpb:∀ m,∀ c∈posL l d m,1<=c/\c<=8:=λm c hc=>(Zir.1 hc).1
 have hpl:∀ m,(posL l d m).length<=8:=λm=>by
  unfold posL;exact W0O (W0D ..) (W0f _)
 have hml:=ZlE (l:=l) (h:=h) l.length;rw[ZlF]at hml
 have hnd:ndsL l h d=if d∈h.ds then flL 1 (ndF l d (mks l h) (mks l h).length) 9 else []:=by
  unfold ndsL;by_cases c:d∈h.ds
  . rw[if_pos (by simpa using c),if_pos c];refine Zl4 λj _ _=>?_
    unfold ndF;rw[W0v]
  . rw[if_neg (by simpa using c),if_neg c]
 have hho:hoa h=[.int .i64 h.id,.int .i64 h.fr,.int .i64 h.to,.vsl (h.ds.map ia)]:=rfl;have L9:∀ f,(fgC f).length=9:=λ_=>rfl
 obtain ⟨B,hB'⟩ : ∃ B:List AV,B=[.vsl (r.map isa),.vsl (l.map na),.vsl (hs.map hoa),.vsl (ps.map ptA)]:=⟨_,rfl⟩;unfold prA at *;have eF:fgC (λ_=>false)=[.bool false,.bool false,.bool false,.bool false,.bool false,.bool false,.bool false,.bool false,.bool false]:=rfl;refine Z6N rfl λR hG hrd=>?_
 subst hG;refine Qga ?_;simp -implicitDefEqProofs[Z6L,Z6M];refine Ye.of c1 (by simp[AV.pure,isa,na,hoa,ptA]) ?_;simp -implicitDefEqProofs[hk,hlk,hho];refine ⟨rfl,?_⟩;refine Qco (c2) (by simp) ?_;by_cases c:d∈h.ds
 case' neg =>
  rw[hnd,if_neg c];obtain ⟨f,hf⟩ : ∃ f:Nat->Bool,f=λ_=>false:=⟨_,rfl⟩
  have hfin:([]:List Int)=flL 1 f 9:=(by rw[hf];rfl);rw[hfin];clear hfin;simp -implicitDefEqProofs[c];have h7:[AV.bool false,.bool false,.bool false,.bool false,.bool false,.bool false,.bool false,.bool false,.bool false]=fgC f:=(by rw[hf,eF]);rw[h7]
 case' pos =>
  rw[hnd,if_pos c];rw[hho]at c3;simp -implicitDefEqProofs[c];refine Qco (c3) (by simp) ?_;simp -implicitDefEqProofs[];obtain ⟨M,hM⟩ : ∃ M,M=mks l h:=⟨_,rfl⟩;rw[<- hM]at as0 hml ⊢;rw[<- hB',<- hho];refine Za9 (λi=>nd7S B (hoa h) id d (.vsl (M.map ia)) (ndF l d M i) i) (λ_=>True) M.length ?wk trivial ?round ?done
  case wk =>
   have e0:fgC (ndF l d M 0)=[.bool false,.bool false,.bool false,.bool false,.bool false,.bool false,.bool false,.bool false,.bool false]:=rfl;simp only[nd7S,e0]
   ((try simp only[hB',hho,ia]);refine Ym.sub (by simp[lk,Ya,AV.keys,hB',hho,ia]) ?_;simp only[hB',hho,ia,Wkl,and_true];(try simp[lk,Yc,Ya,AV.keys,hB',hho,ia]))
  case round =>
   intro i hi _;have wi:IntKind.i64.wrap ((i:Int)+1)=(i:Int)+1:=Yf (by omega) (by omega);have sc:=ZlI (l:=l) (d:=d) hi;obtain ⟨m,hm⟩ : ∃ m,m=M[i]:=⟨_,rfl⟩;have c4:=c4 m;have hs0:=as0 m (by rw[hm];exact W0e hi);unfold poA at c4;rw[if_pos ⟨hs0,hdn⟩,if_pos hs0,if_pos hdn]at c4;rw[<- hm]at sc;have hlm:M[i]=m:=hm.symm;have hpb:=hpb m;have hpl:=hpl m;generalize posL l d m=P at *;generalize ndF l d M i=f at *;obtain ⟨g,hg⟩ : ∃ g,g=ndF l d M (i+1):=⟨_,rfl⟩;rw[<- hg]at sc;refine Qga ?_;simp -implicitDefEqProofs[nd7S,hi,hlm,ia,hB'];refine Ye.of c4 (by simp[AV.pure,isa,na]) ?_;simp -implicitDefEqProofs[];refine ⟨rfl,?_⟩;rw[<- hB'];refine Za9 (λq=>ne7S B (hoa h) id d (.vsl (M.map ia)) (.vsl (P.map ia)) (orF f P q) i q) (λ_=>True) P.length ?wk2 trivial ?round2 ?done2
   case wk2 =>
    have e0:orF f P 0=f:=(by funext j;simp[orF]);simp only[ne7S,e0]
    ((try simp only[hB',hho,ia]);refine Ym.sub (by simp[lk,Ya,AV.keys,hB',hho,ia]) ?_;simp only[hB',hho,ia,Wkl,Zl0,and_true];(try simp[lk,Yc,Ya,AV.keys,hB',hho,ia]))
   case round2 =>
    intro q hq _;have wq:IntKind.i64.wrap ((q:Int)+1)=(q:Int)+1:=Yf (by omega) (by omega);obtain ⟨b1,b2⟩:=hpb _ (W0e hq);obtain ⟨n,hn⟩ : ∃ n:Nat,P[q]=(n:Int):=⟨P[q].toNat,by omega⟩;have so:=ZlH (f:=f) hq hn;rw[hn]at b1 b2;have n9:n<9:=(by omega);have n9':(n:Int)<9:=(by omega);have n8:n<=8:=(by omega);have hpu:=ZkZ (orF f P q) true n9;rw[<- so]at hpu;simp only[Z4,W2t,W0U,W1e,W18]at hpu;refine Qga ?_;simp -implicitDefEqProofs[ne7S,hq,hn,ia,n9',n9,n8,L9,hpu,wq]
    ((try simp only[hB',hho,ia]);refine Ym.sub (by simp[lk,Ya,AV.keys,hB',hho,ia]) ?_;simp only[hB',hho,ia,Wkl,Zl0,and_true];(try simp[lk,Yc,Ya,AV.keys,hB',hho,ia]))
   case done2 =>
    intro _;rw[<- sc];refine Qga ?_;simp -implicitDefEqProofs[ne7S];refine Qgr ?_;simp -implicitDefEqProofs[wi]
    try simp only[nd7S]
    rw[hg]
    ((try simp only[hB',hho,ia]);refine Ym.sub (by simp[lk,Ya,AV.keys,hB',hho,ia]) ?_;simp only[hB',hho,ia,Wkl,Zl0,and_true];(try simp[lk,Yc,Ya,AV.keys,hB',hho,ia]))
  intro _;obtain ⟨f,hf⟩ : ∃ f,f=ndF l d M M.length:=⟨_,rfl⟩;simp only[nd7S];rw[<- hf];refine Qga ?_;simp -implicitDefEqProofs[];refine Qgr ?_;simp -implicitDefEqProofs[]
 all_goals
  clear hf;refine Za9 (λk=>cgS 69 14 15 7 f (k+1)) (λ_=>True) 8 ?_ trivial ?_ ?_
  . have e0:flL 1 f 1=[]:=Zl2 (by omega);simp only[cgS,e0,nlV,nlO,if_true]
    (refine Ym.sub (by simp[lk,Ya,AV.keys]) ?_;simp only[Wkl,Zl0,and_true];(try simp[lk,Yc,Ya,AV.keys]))
  . intro k' hk' _;have sc:=Zl1 (a:=1) (f:=f) (n:=k'+1);have hle:=Zl3 1 f (k'+1);obtain ⟨m',hm⟩ : ∃ m',m'=k'+1:=⟨_,rfl⟩;rw[<- hm]at sc hle;have m9:m'<9:=(by omega);have m9':(m':Int)<9:=(by omega);have m8:m'<=8:=(by omega);have m1:1<=m':=(by omega);have hat:=ZkY f m9;have wm:IntKind.i64.wrap ((m':Int)+1)=((m'+1:Nat):Int):=Yf (by omega) (by omega);obtain ⟨S,hS⟩ : ∃ S,S=flL 1 f m':=⟨_,rfl⟩;obtain ⟨T',hT'⟩ : ∃ T',T'=flL 1 f (m'+1):=⟨_,rfl⟩;rw[<- hS]at sc hle;rw[<- hT']at sc;have bb:(S.length+1)*8<=70368744177664:=(by omega);have hw1:cgS 69 14 15 7 f (k'+1)=⟨[(15,.int .i64 m'),(14,nlV 69 S),(7,.ptr 7 0)],(7,.box (fgC f))::nlO 69 S⟩:=(by rw[<- hm,cgS,<- hS]);have hw2:cgS 69 14 15 7 f (k'+1+1)=⟨[(15,.int .i64 (m'+1:Nat)),(14,nlV 69 T'),(7,.ptr 7 0)],(7,.box (fgC f))::nlO 69 T'⟩:=(by rw[<- hm,cgS,<- hT']);by_cases cS:S=[]
    case' pos =>
     have hV:nlV 69 S = .nils:=(by simp[nlV,cS]);have hQ:nlO 69 S=[]:=by simp[nlO,cS]
    case' neg =>
     have hV:nlV 69 S = .osl 69 S.length:=(by simp[nlV,cS]);have hQ:nlO 69 S=[(69,.row 1 (S.map ia))]:=by simp[nlO,cS]
    all_goals
     refine Qga ?_
     cases hf:f m'
     . have e:T'=S:=(by rw[sc,hf];simp);rw[hf]at hat;simp -implicitDefEqProofs[hw1,hV,hQ,m9',m9,m8,hat,wm];rw[hw2,e,hV,hQ]
       (refine Ym.sub (by simp[lk,Ya,AV.keys]) ?_;simp only[Wkl,Zl0,Zfv,and_true];(try simp[lk,Yc,Ya,AV.keys]))
     . have e:T'=S++[(m':Int)]:=(by rw[sc,if_pos ⟨m1,hf⟩]);have hne:¬T'=[]:=(by rw[e];simp);have em:T'.map ia=S.map ia++[[.int .i64 m']]:=(by rw[e,W0r];rfl);have eT:T'.length=S.length+1:=(by rw[e];simp);have hV2:nlV 69 T' = .osl 69 (S.length+1):=(by simp[nlV,hne,eT]);have hQ2:nlO 69 T'=[(69,.row 1 (T'.map ia))]:=(by simp[nlO,hne]);rw[hf]at hat;simp -implicitDefEqProofs[hw1,hV,hQ,m9',m9,m8,hat,wm,bb];rw[hw2,hV2,hQ2]
       first
        |(rw[em,cS];(refine Ym.sub (by simp[lk,Ya,AV.keys]) ?_;simp only[Wkl,Zl0,and_true];(try simp[lk,Yc,Ya,AV.keys]));done)
        |(rw[<- em];((try simp only[eT]);refine Ym.sub (by simp[lk,Ya,AV.keys,eT]) ?_;simp only[eT,Wkl,Zl0,Zfv,and_true];(try simp[lk,Yc,Ya,AV.keys,eT]));done)
  . intro _;obtain ⟨S,hS⟩ : ∃ S,S=flL 1 f 9:=⟨_,rfl⟩;have hw1:cgS 69 14 15 7 f (8+1)=⟨[(15,.int .i64 (9:Nat)),(14,nlV 69 S),(7,.ptr 7 0)],(7,.box (fgC f))::nlO 69 S⟩:=(by rw[cgS,<- hS]);rw[<- hS];refine Qga ?_;by_cases cS:S=[]
    . have hV:nlV 69 S = .nils:=(by simp[nlV,cS]);have hQ:nlO 69 S=[]:=(by simp[nlO,cS]);simp -implicitDefEqProofs[hw1,hV,hQ];refine Qgr ?_;simp -implicitDefEqProofs[Yg,cS]
    . have hV:nlV 69 S = .osl 69 S.length:=(by simp[nlV,cS]);have hQ:nlO 69 S=[(69,.row 1 (S.map ia))]:=(by simp[nlO,cS]);simp -implicitDefEqProofs[hw1,hV,hQ];refine Qgr ?_;simp -implicitDefEqProofs[Yg,cS,ia]
end
def cmk (h:Hld) (x:Nte) (q:Nat):List Int:=([x.fr,x.tu+1].take q).filter λc=>inR c h.fr h.to
theorem ZlK {h:Hld} {x:Nte}:cmk h x 2=mk1 h x:=by
 unfold cmk mk1
 cases h1:inR x.fr h.fr h.to <;> cases h2:inR (x.tu+1) h.fr h.to <;> simp[h1,h2]
def npS (O:AV) (id d:Int) (l:List Nte) (h:Hld) (i:Nat):St :=
 ⟨[(43,.int .i64 i),(42,.int .i64 l.length),(41,.vsl (l.map na)),(8,.osl 35 (mkL l h i).length),(0,O),(1,.int .i64 id),(2,.int .i64 d),(7,.ptr 7 0)],[(35,.row 1 ((mkL l h i).map ia)),(7,.box (hoa h))]⟩
def npI (O:AV) (id d:Int) (l:List Nte) (h:Hld) (x:Nte) (S:List Int) (i q:Nat):St :=
 ⟨[(54,.int .i64 q),(53,.int .i64 2),(52,.vsl ([x.fr,x.tu+1].map ia)),(43,.int .i64 i),(42,.int .i64 l.length),(41,.vsl (l.map na)),(8,.osl 35 (S++cmk h x q).length),(0,O),(1,.int .i64 id),(2,.int .i64 d),(7,.ptr 7 0)],[(35,.row 1 ((S++cmk h x q).map ia)),(7,.box (hoa h))]⟩
def psU (l:List Nte) (d:Int) (M:List Int) (k:Nat):List Int:=(M.take k).flatMap λm=>posL l d m
theorem ZlL {l:List Nte} {d:Int} {M:List Int} {k:Nat} (hk:k<M.length):psU l d M (k+1)=psU l d M k++posL l d M[k]:=by
 unfold psU;rw[W08 hk,List.flatMap_append];simp
theorem ZlM {l:List Nte} {d m:Int}:(posL l d m).length<=8:=by
 unfold posL;exact W0O (W0D ..) (W0f _)
theorem ZlN {l:List Nte} {d:Int} {M:List Int}:∀ k,(psU l d M k).length<=8*k
 |0=>by simp[psU]
 | k + 1=>by
   have:=ZlN (l:=l) (d:=d) (M:=M) k;by_cases hk:k<M.length
   . rw[ZlL hk,W0s];have:=ZlM (l:=l) (d:=d) (m:=M[k]);omega
   . have e:psU l d M (k+1)=psU l d M k:=(by unfold psU;rw[W0J (by omega),W0J (by omega)]);rw[e];omega
def nqS (O:AV) (d:Int) (l:List Nte) (M:List Int) (k:Nat):St :=
 ⟨[(73,.int .i64 k),(72,.int .i64 M.length),(71,.vsl (M.map ia)),(13,nlV 90 (psU l d M k)),(0,O),(2,.int .i64 d)],nlO 90 (psU l d M k)⟩
section
variable {G:Nat->Option (List AV)}
set_option maxHeartbeats 4000000 in
theorem ZlO (hG:GC G) (hN:GN G) (r:List Iss) (l:List Nte) (hs:List Hld) (ps:List Prt) (id d:Int) (hl:WfN l) (hr:Wf r) (hd:Sml (nums r)) (hw:WfP hs ps) (h0:ck7 r l hs ps=0) (hi:0<=hoI hs id) (hdn:d∈nums r) :
  PC Tryz.prog G 80 [ofA r l hs ps,.int .i64 id,.int .i64 d] (Yg ((ndI l hs id d).map ia)):=by
 have hhl:=hw.hl;have c1:=ZiZ (G:=G) r l hs ps id (by unfold Sml;omega);obtain ⟨k,hk,e1,e2⟩:=Zlz hi;have eN:ndI l hs id d=ndsL l hs[k] d:=(by unfold ndI;rw[e2]);rw[eN];rw[e1]at c1;have hdl:=hw.dl _ (W0e hk);obtain ⟨hb1,hb2,hb3,hb4⟩:=ZlB h0 (W0e hk);obtain ⟨h,hh⟩ : ∃ h,h=hs[k]:=⟨_,rfl⟩;rw[<- hh]at hdl hb1 hb2 hb3 hb4 ⊢;have hlk:hs[k]=h:=hh.symm;have hop:=Zjv (Zju.1 h0).1;have hB:=ZgH (Zju.1 h0).1;have h12:=ZgJ hB;have c2:=ZfQ (G:=G) h.ds d (by unfold Sml;omega);have c3:=λc=>ZiT (G:=G) h.fr h.to c
 have c4:=λm=>Zkc hG hN r l d m hl hr hd
 have as0:∀ m∈mks l h,asN r l [] m=0:=λm hm=>by
  obtain ⟨q1,q2⟩:=Zit hb2 hm;unfold asN;rw[if_pos (Zju.1 h0).1,if_pos (by simp[truB]),if_pos (Zin.2 ⟨by omega,by omega⟩)]
 have hpn:∀ m,posL l d m≠[]:=λm=>Ziu λv=>ZiC hop hB hdn m v
 have hml:=ZlE (l:=l) (h:=h) l.length;rw[ZlF]at hml;have hho:hoa h=[.int .i64 h.id,.int .i64 h.fr,.int .i64 h.to,.vsl (h.ds.map ia)]:=rfl;have pO:=ZiI r l hs ps;have kO:=ZiJ r l hs ps;have eO:ofA r l hs ps = .vptr [.vsl (r.map isa),.vsl (l.map na),.vsl (hs.map hoa),.vsl (ps.map ptA),.vsl ((nums r).map ia)] 0:=rfl;have hr2:List.range 2=[0,1]:=rfl;have fO:∀ ok st,frz ok st 6 (ofA r l hs ps)=some (ofA r l hs ps):=λok st=>by unfold ofA;simp[frz,AV.keys]
 obtain ⟨O,hO⟩ : ∃ O,O=ofA r l hs ps:=⟨_,rfl⟩;rw[<- hO]at pO kO eO fO c1 ⊢;clear hO;refine Z6Q rfl λR hG' hrd=>?_
 subst hG';refine Qga ?_;simp -implicitDefEqProofs[Z6O,Z6P,eO];rw[<- eO];refine Ye.of c1 (by simp[pO,AV.pure]) ?_;simp -implicitDefEqProofs[hk,hlk,hho];refine ⟨rfl,?_⟩;refine Qco (c2) (by simp) ?_;by_cases c:d∈h.ds
 case neg =>
  have e:ndsL l h d=[]:=(by unfold ndsL;rw[if_neg (by simpa using c)]);rw[e];simp -implicitDefEqProofs[c,Yg]
 have hset:=Ziw (l:=l) (h:=h) (d:=d) (by simpa using c);have hnn:ndsL l h d≠[]:=ZiD hop hB hdn c;simp -implicitDefEqProofs[c,eO];rw[<- eO];refine Za9 (npS O id d l h) (λ_=>True) l.length ?_ trivial ?_ ?_
 . simp only[npS,mkL,W1g,List.flatMap_nil,hho]
   ((try simp only[ia,kO]);refine Ym.sub (by simp[lk,Ya,AV.keys,ia,kO]) ?_;simp only[ia,kO,Wkl,and_true];(try simp[lk,Yc,Ya,AV.keys,ia,kO]))
 . intro i hi _;have wi:IntKind.i64.wrap ((i:Int)+1)=(i:Int)+1:=Yf (by omega) (by omega);have sc:=ZlC (h:=h) hi;have hle:=ZlE (l:=l) (h:=h) i;have hBx:=ZlA hB (W0e hi);obtain ⟨x,hxe⟩ : ∃ x,x=l[i]:=⟨_,rfl⟩;rw[<- hxe]at sc hBx;have hlx:l[i]=x:=hxe.symm;have hnx:na x=[.int .i64 x.nu,.int .i64 x.dy,.int .u8 x.sg,.int .i64 x.dr,.int .i64 x.lt,.int .i64 x.fr,.int .i64 x.tu,.int .i64 x.ca,.bool x.up,.int .u8 x.wy]:=rfl;have wt:IntKind.i64.wrap (x.tu+1)=x.tu+1:=Yf (by omega) (by omega);rw[<- ZlK]at sc;obtain ⟨S,hS⟩ : ∃ S,S=mkL l h i:=⟨_,rfl⟩;obtain ⟨T,hT⟩ : ∃ T,T=mkL l h (i+1):=⟨_,rfl⟩;rw[<- hS,<- hT]at sc;rw[<- hS]at hle;refine Qga ?_;simp -implicitDefEqProofs[npS,<- hS,hi,hlx,hnx,wt];refine Za9 (npI O id d l h x S i) (λ_=>True) 2 ?_ trivial ?_ ?_
   . simp only[npI,cmk,W1g,List.filter_nil,W1H]
     ((try simp only[ia,hho,kO,hr2]);refine Ym.sub (by simp[lk,Ya,AV.keys,ia,hho,kO,hr2]) ?_;simp only[ia,hho,kO,hr2,Wkl,Zfv,and_true];(try simp[lk,Yc,Ya,AV.keys,ia,hho,kO,hr2]))
   . intro q hq _;have wq:IntKind.i64.wrap ((q:Int)+1)=(q:Int)+1:=Yf (by omega) (by omega);have hql:q<[x.fr,x.tu+1].length:=hq
     have sq:cmk h x (q+1)=if inR ([x.fr,x.tu+1][q]) h.fr h.to=true then cmk h x q++[[x.fr,x.tu+1][q]] else cmk h x q:=by
      unfold cmk;rw[W08 hql,W1a]
      cases e:inR ([x.fr,x.tu+1][q]) h.fr h.to <;> simp[List.filter_cons,e]
     have hgq:([x.fr,x.tu+1].map ia)[q]? = some [.int .i64 ([x.fr,x.tu+1][q])]:=by
      rw[W09,W07 hql];rfl
     have hlc:(cmk h x q).length<=2:=by
      unfold cmk;exact W0O (W0D ..) (by simp;omega)
     obtain ⟨cc,hcc⟩ : ∃ cc,cc=[x.fr,x.tu+1][q]:=⟨_,rfl⟩;rw[<- hcc]at sq hgq;have c3:=c3 cc;obtain ⟨C,hC⟩ : ∃ C,C=[x.fr,x.tu+1].map ia:=⟨_,rfl⟩;rw[<- hC]at hgq;have hCl:C.length=2:=(by rw[hC];rfl);obtain ⟨g1,g2⟩:=W02.1 hgq;obtain ⟨S1,hS1⟩ : ∃ S1,S1=S++cmk h x q:=⟨_,rfl⟩;obtain ⟨T1,hT1⟩ : ∃ T1,T1=S++cmk h x (q+1):=⟨_,rfl⟩;have hl1:S1.length<=100:=(by rw[hS1,W0s];omega);have bb:(S1.length+1)*8<=70368744177664:=(by omega);have hw1:npI O id d l h x S i q=⟨[(54,.int .i64 q),(53,.int .i64 2),(52,.vsl C),(43,.int .i64 i),(42,.int .i64 l.length),(41,.vsl (l.map na)),(8,.osl 35 S1.length),(0,O),(1,.int .i64 id),(2,.int .i64 d),(7,.ptr 7 0)],[(35,.row 1 (S1.map ia)),(7,.box (hoa h))]⟩:=(by rw[npI,<- hC,<- hS1]);have hw2:npI O id d l h x S i (q+1)=⟨[(54,.int .i64 (q+1:Nat)),(53,.int .i64 2),(52,.vsl C),(43,.int .i64 i),(42,.int .i64 l.length),(41,.vsl (l.map na)),(8,.osl 35 T1.length),(0,O),(1,.int .i64 id),(2,.int .i64 d),(7,.ptr 7 0)],[(35,.row 1 (T1.map ia)),(7,.box (hoa h))]⟩:=(by rw[npI,<- hC,<- hT1]);have q2':(q:Int)<2:=(by omega);refine Qga ?_;simp -implicitDefEqProofs[hw1,hho,q2',hCl,hq,g2,hgq];refine Qco (c3) (by simp) ?_
     cases hin:inR cc h.fr h.to
     . rw[hin]at sq;have e:T1=S1:=(by rw[hT1,hS1,sq];simp);simp -implicitDefEqProofs[wq];rw[hw2,e]
       ((try simp only[hho,kO]);refine Ym.sub (by simp[lk,Ya,AV.keys,hho,kO]) ?_;simp only[hho,kO,Wkl,Zfv,and_true];(try simp[lk,Yc,Ya,AV.keys,hho,kO]))
     . rw[hin,if_pos rfl]at sq;have e:T1=S1++[cc]:=(by rw[hT1,hS1,sq,W0U]);have em:T1.map ia=S1.map ia++[[.int .i64 cc]]:=(by rw[e,W0r];rfl);have eT:T1.length=S1.length+1:=(by rw[e];simp);simp -implicitDefEqProofs[wq,bb];rw[hw2,<- em,eT]
       ((try simp only[hho,kO]);refine Ym.sub (by simp[lk,Ya,AV.keys,hho,kO]) ?_;simp only[hho,kO,Wkl,Zfv,and_true];(try simp[lk,Yc,Ya,AV.keys,hho,kO]))
   . intro _;refine Qga ?_;simp -implicitDefEqProofs[npI];refine Qgr ?_;simp -implicitDefEqProofs[wi];have em:T.map ia=S.map ia++(cmk h x 2).map ia:=(by rw[sc,W0r]);have eT:T.length=S.length+(cmk h x 2).length:=(by rw[sc,W0s]);simp only[npS,<- hT];rw[<- em,<- eT]
     ((try simp only[hho,kO]);refine Ym.sub (by simp[lk,Ya,AV.keys,hho,kO]) ?_;simp only[hho,kO,Wkl,Zfv,and_true];(try simp[lk,Yc,Ya,AV.keys,hho,kO]))
 . intro _;rw[<- hset]at hnn ⊢;simp only[npS,ZlF];obtain ⟨M,hM⟩ : ∃ M,M=mks l h:=⟨_,rfl⟩;rw[<- hM]at as0 hml hnn ⊢;have e3:M.flatMap (λm=>posL l d m)=psU l d M M.length:=(by unfold psU;rw[W0v]);rw[e3]at hnn ⊢;refine Qga ?_;simp -implicitDefEqProofs[];refine Qgr ?_;simp -implicitDefEqProofs[];refine Za9 (nqS O d l M) (λ_=>True) M.length ?_ trivial ?_ ?_
   . have e0:psU l d M 0=[]:=rfl;refine Ym.trans (Ym.frz (λk=>k == 35) _) ?_;simp only[nqS,e0,nlV,nlO,if_true]
     ((try simp only[Yi,frzA,frzO,frz,Yh,Yj,St.get,AV.pure,ia,kO,hho,fO]);refine Ym.sub (by simp[lk,Ya,AV.keys,Yi,frzA,frzO,frz,Yh,Yj,St.get,AV.pure,ia,kO,hho,fO]) ?_;simp only[Yi,frzA,frzO,frz,Yh,Yj,St.get,AV.pure,ia,kO,hho,fO,Wkl,and_true];(try simp[lk,Yc,Ya,AV.keys,Yi,frzA,frzO,frz,Yh,Yj,St.get,AV.pure,ia,kO,hho,fO]))
   . intro q hq _;have wq:IntKind.i64.wrap ((q:Int)+1)=(q:Int)+1:=Yf (by omega) (by omega);have sc:=ZlL (l:=l) (d:=d) hq;have hle:=ZlN (l:=l) (d:=d) (M:=M) q;obtain ⟨m,hm⟩ : ∃ m,m=M[q]:=⟨_,rfl⟩;have c4:=c4 m;have hs0:=as0 m (by rw[hm];exact W0e hq);unfold poA at c4;rw[if_pos ⟨hs0,hdn⟩,if_pos hs0,if_pos hdn]at c4;rw[<- hm]at sc;have hlm:M[q]=m:=hm.symm;have hpn:=hpn m;have hpl:=ZlM (l:=l) (d:=d) (m:=m);generalize posL l d m=P at *;obtain ⟨S,hS⟩ : ∃ S,S=psU l d M q:=⟨_,rfl⟩;obtain ⟨T,hT⟩ : ∃ T,T=psU l d M (q+1):=⟨_,rfl⟩;rw[<- hS]at sc hle;rw[<- hT]at sc;have hw1:nqS O d l M q=⟨[(73,.int .i64 q),(72,.int .i64 M.length),(71,.vsl (M.map ia)),(13,nlV 90 S),(0,O),(2,.int .i64 d)],nlO 90 S⟩:=(by rw[nqS,<- hS]);have hw2:nqS O d l M (q+1)=⟨[(73,.int .i64 (q+1:Nat)),(72,.int .i64 M.length),(71,.vsl (M.map ia)),(13,nlV 90 T),(0,O),(2,.int .i64 d)],nlO 90 T⟩:=(by rw[nqS,<- hT]);have bb:(S.length+P.length)*8<=70368744177664:=(by omega);have bb2:P.length*8<=70368744177664:=(by omega);have hne:¬T=[]:=(by rw[sc];simp[hpn]);have em:T.map ia=S.map ia++P.map ia:=(by rw[sc,W0r]);have eT:T.length=S.length+P.length:=(by rw[sc,W0s]);have hV2:nlV 90 T = .osl 90 T.length:=(by simp[nlV,hne]);have hQ2:nlO 90 T=[(90,.row 1 (T.map ia))]:=(by simp[nlO,hne]);by_cases cS:S=[]
     case' pos =>
      have hV:nlV 90 S = .nils:=(by simp[nlV,cS]);have hQ:nlO 90 S=[]:=by simp[nlO,cS]
     case' neg =>
      have hV:nlV 90 S = .osl 90 S.length:=(by simp[nlV,cS]);have hQ:nlO 90 S=[(90,.row 1 (S.map ia))]:=by simp[nlO,cS]
     all_goals
      refine Qga ?_;simp -implicitDefEqProofs[hw1,hV,hQ,hq,hlm,ia];simp -implicitDefEqProofs[eO];rw[<- eO];refine Yd.of c4 (by simp[AV.pure,isa,na]) ?_;simp -implicitDefEqProofs[hpn,bb,bb2,wq,ia];rw[hw2,hV2,hQ2]
      first
       |(rw[em,cS];((try simp only[ia,kO,eT,cS]);refine Ym.sub (by simp[lk,Ya,AV.keys,ia,kO,eT,cS]) ?_;simp only[ia,kO,eT,cS,Wkl,and_true];(try simp[lk,Yc,Ya,AV.keys,ia,kO,eT,cS]));done)
       |(rw[<- em];((try simp only[kO,eT]);refine Ym.sub (by simp[lk,Ya,AV.keys,kO,eT]) ?_;simp only[kO,eT,Wkl,Zfv,and_true];(try simp[lk,Yc,Ya,AV.keys,kO,eT]));done)
   . intro _;have hle:=ZlN (l:=l) (d:=d) (M:=M) M.length;obtain ⟨U,hU⟩ : ∃ U,U=psU l d M M.length:=⟨_,rfl⟩;rw[<- hU]at hnn hle ⊢;have hw1:nqS O d l M M.length=⟨[(73,.int .i64 M.length),(72,.int .i64 M.length),(71,.vsl (M.map ia)),(13,nlV 90 U),(0,O),(2,.int .i64 d)],nlO 90 U⟩:=(by rw[nqS,<- hU]);obtain ⟨hsp,hcp,hOl,hOt,hOf,kO',rO,hCl⟩:=Zkb (G:=R.G) U (by omega);have cU:¬U=[]:=λh=>hnn (W1t.2 λx hx=>by have:=Zig.1 hx;rw[h]at this;cases this)
     have hV:nlV 90 U = .osl 90 U.length:=(by simp[nlV,cU]);have hQ:nlO 90 U=[(90,.row 1 (U.map ia))]:=(by simp[nlO,cU]);refine Qga ?_;simp -implicitDefEqProofs[hw1,hV,hQ];refine Qgr ?_;simp -implicitDefEqProofs[];refine Yd.sem (Z1B.byref hsp (λ_=>90) (by simp) (by simp) (by simp[St.get,lk,Zfu]) (by simp[Zfv]) (by simp[Ya,AV.keys,lk]) rfl (by simp[AV.ren]) rfl rfl) ?_;simp -implicitDefEqProofs[Yl,Zfu];refine Yd.sem (Z1B.byref hcp (λ_=>90) (by simp) (by simp) (by simp[St.get,lk,Zfu]) (by simp[Zfv]) (by simp[Ya,AV.keys,lk]) rfl (by simp[AV.ren]) rfl rfl) ?_;by_cases hq:(setI U).length=U.length
     . have hOf:=hOf hq;rw[hOf]at *;simp -implicitDefEqProofs[Yl,Zfu,hq,AV.ren,ia,Yg,hnn]
     . simp -implicitDefEqProofs[Yl,rO,hq,AV.ren,hOl,hOt,hCl,ia,Yg,hnn]
end
theorem ZlP (S:List Int) (ok:Nat->Bool) (st:St):Yh ok st 6 (Yg (S.map ia))=some (Yg (S.map ia)):=by
 unfold Yg
 split
 . simp[Yh,AV.pure]
 . simp[Yh,AV.pure,ia]
section
variable {G:Nat->Option (List AV)}
end
def siK (l:List Nte) (hs:List Hld) (day:Int) (ps:List Prt) (i:Nat):List Int:=((List.range i).filter λj=>stB l hs day (pAt ps j)).map λ(j:Nat)=>(j:Int)
theorem ZlQ {l:List Nte} {hs:List Hld} {day:Int} {ps:List Prt} {i:Nat}:siK l hs day ps (i+1)=if stB l hs day (pAt ps i)=true then siK l hs day ps i++[(i:Int)] else siK l hs day ps i:=by
 unfold siK;rw[W1y,W1a,W0r]
 cases e:stB l hs day (pAt ps i) <;> simp[e]
theorem ZlR {l:List Nte} {hs:List Hld} {day:Int} {ps:List Prt} {i:Nat}:(siK l hs day ps i).length<=i:=by
 unfold siK;rw[W0N];exact W0O (W0D ..) (by simp)
theorem ZlS {l:List Nte} {hs:List Hld} {day:Int} {ps:List Prt} {x:Int} (h:x∈siK l hs day ps ps.length):∃ k:Nat,k<ps.length/\x=k:=by
 obtain ⟨k,hk,rfl⟩:=W0i.1 h;exact ⟨k,W1u.1 (W0G.1 hk).1,rfl⟩
theorem ZlT {l:List Nte} {hs:List Hld} {day:Int} {ps:List Prt}:(siK l hs day ps ps.length).map (λx=>(pAt ps x.toNat))=staL l hs ps day:=by
 unfold siK staL;rw[W10]
 have e:ps=(List.range ps.length).map (pAt ps):=by
  apply W1J
  . simp
  . intro i h1 h2;simp[ZiF h1]
 conv=>rhs;rw[e,List.filter_map]
 simp[W0y]
theorem ZlU {r:List Iss} {l:List Nte} {hs:List Hld} {ps:List Prt} (h:ck7 r l hs ps=0) {x:Prt} (hx:x∈ps):0<=hoI hs x.ho/\x.dw∈nums r:=by
 have h2:=(ZiH.1 (Zju.1 h).2).2.2.2 x hx;simp only[prB,W01]at h2;refine ⟨?_,?_⟩
 . have:=hoF_I hs x.ho;rw[h2.1.1.1.2]at this;simpa using this
 . obtain ⟨y,hy⟩:=W0t.1 h2.1.2;obtain ⟨g1,g2,g3⟩:=ZaX hy;obtain ⟨j,hj,rfl⟩:=W0k g1;rw[<- g2];exact ZaK (ZaF (ZiA (Zjv (Zju.1 h).1))) hj
def st7S (B:List AV) (day:Int) (l:List Nte) (hs:List Hld) (ps:List Prt) (i:Nat):St :=
 ⟨[(6,.int .i64 i),(5,nlV 55 (siK l hs day ps i)),(2,.ptr 2 0),(1,.int .i64 day)],(2,.box B)::nlO 55 (siK l hs day ps i)⟩
section
variable {G:Nat->Option (List AV)}
set_option maxHeartbeats 4000000 in
theorem ZlV (r:List Iss) (l:List Nte) (hs:List Hld) (ps:List Prt) (day:Int) (hl:WfN l) (hr:Wf r) (hd:Sml (nums r)) (hw:WfP hs ps) (h0:ck7 r l hs ps=0) :
  PC Tryz.prog G 94 [prA r l hs ps,.int .i64 day] (Yg ((siK l hs day ps ps.length).map ia)):=by
 have hhl:=hw.hl;have hpl:=hw.pl;have c1:=λx=>ZkR (G:=G) x day
 have c2:=λid=>ZkQ (G:=G) r l hs ps id (by unfold Sml;omega)
 have c4:=λid d h1 h2=>ZlJ (G:=G) r l hs ps id d hl hr hd hw h0 h1 h2
 have c3:=λL n h=>ZkP (G:=G) L n h
 obtain ⟨B,hB'⟩ : ∃ B:List AV,B=[.vsl (r.map isa),.vsl (l.map na),.vsl (hs.map hoa),.vsl (ps.map ptA)]:=⟨_,rfl⟩;unfold prA at *;refine Z69 rfl λR hG hrd=>?_
 subst hG;refine Qga ?_;simp -implicitDefEqProofs[Z67,Z68];rw[<- hB'];refine Za9 (st7S B day l hs ps) (λ_=>True) ps.length ?_ trivial ?_ ?_
 . have e0:siK l hs day ps 0=[]:=rfl;simp only[st7S,e0,nlV,nlO,if_true]
   ((try simp only[hB']);refine Ym.sub (by simp[lk,Ya,AV.keys,hB']) ?_;simp only[hB',Wkl,and_true];(try simp[lk,Yc,Ya,AV.keys,hB']))
 . intro i hi _;have wi:IntKind.i64.wrap ((i:Int)+1)=(i:Int)+1:=Yf (by omega) (by omega);have sc:=ZlQ (l:=l) (hs:=hs) (day:=day) (ps:=ps) (i:=i);have hle:=ZlR (l:=l) (hs:=hs) (day:=day) (ps:=ps) (i:=i);rw[ZiF hi]at sc;obtain ⟨b1,b2⟩:=ZlU h0 (W0e hi);obtain ⟨x,hxe⟩ : ∃ x,x=ps[i]:=⟨_,rfl⟩;rw[<- hxe]at sc b1 b2;have hlx:ps[i]=x:=hxe.symm;have hpt:ptA x=[.int .i64 x.no,.int .i64 x.dy,.int .i64 x.ho,.int .i64 x.dw,.int .i64 x.lt,.int .i64 x.bk,.int .u8 x.lo]:=rfl;obtain ⟨k,hk,e1,e2⟩:=Zlz b1;have c2:=c2 x.ho;have c4:=c4 x.ho x.dw b1 b2;have eN:ndI l hs x.ho x.dw=ndsL l hs[k] x.dw:=(by unfold ndI;rw[e2]);rw[e1]at c2;rw[eN]at c4;have hdl:=hw.dl _ (W0e hk);obtain ⟨h,hh⟩ : ∃ h,h=hs[k]:=⟨_,rfl⟩;rw[<- hh]at hdl c4 e2;have hlk:hs[k]=h:=hh.symm;have hho:hoa h=[.int .i64 h.id,.int .i64 h.fr,.int .i64 h.to,.vsl (h.ds.map ia)]:=rfl
   have hn8:(ndsL l h x.dw).length<=8:=by
    unfold ndsL
    split
    . exact W0O (W0D ..) (W0f _)
    . simp
   have c5:=c3 h.ds x.dw (by unfold Sml;omega);have c6:=PC.sub (c3 (ndsL l h x.dw) x.lt (by unfold Sml;omega)) (xs:=[Yg ((ndsL l h x.dw).map ia),.int .i64 x.lt]) ⟨.orNil _,.rfl',trivial⟩
   have hst:stB l hs day x=(outB x day&&(decide (x.dw∈h.ds) && !decide (x.lt∈ndsL l h x.dw))):=by
    unfold stB;rw[e2];simp
   rw[hst]at sc;have pV:=ZjW (ndsL l h x.dw);obtain ⟨u1,hu1⟩ : ∃ u,u=decide (x.dw∈h.ds):=⟨_,rfl⟩;obtain ⟨u2,hu2⟩ : ∃ u,u=decide (x.lt∈ndsL l h x.dw):=⟨_,rfl⟩;rw[<- hu1]at c5 sc;rw[<- hu2]at c6 sc;generalize Yg ((ndsL l h x.dw).map ia)=V at *;have c1:=c1 x;rw[hpt]at c1;obtain ⟨S,hS⟩ : ∃ S,S=siK l hs day ps i:=⟨_,rfl⟩;obtain ⟨T,hT⟩ : ∃ T,T=siK l hs day ps (i+1):=⟨_,rfl⟩;rw[<- hS]at sc hle;rw[<- hT]at sc;have bb:(S.length+1)*8<=70368744177664:=(by omega);have hw1:st7S B day l hs ps i=⟨[(6,.int .i64 i),(5,nlV 55 S),(2,.ptr 2 0),(1,.int .i64 day)],(2,.box B)::nlO 55 S⟩:=(by rw[st7S,<- hS]);have hw2:st7S B day l hs ps (i+1)=⟨[(6,.int .i64 (i+1:Nat)),(5,nlV 55 T),(2,.ptr 2 0),(1,.int .i64 day)],(2,.box B)::nlO 55 T⟩:=(by rw[st7S,<- hT]);obtain ⟨S2,hS2⟩ : ∃ S2,S2=st7S B day l hs ps (i+1):=⟨_,rfl⟩;rw[<- hS2]at hw2;have b3:B[3]? = some (.vsl (ps.map ptA)):=(by rw[hB'];rfl);by_cases cS:S=[]
   case' pos =>
    have hV:nlV 55 S = .nils:=(by simp[nlV,cS]);have hQ:nlO 55 S=[]:=by simp[nlO,cS]
   case' neg =>
    have hV:nlV 55 S = .osl 55 S.length:=(by simp[nlV,cS]);have hQ:nlO 55 S=[(55,.row 1 (S.map ia))]:=by simp[nlO,cS]
   all_goals
    refine Qga ?_;simp -implicitDefEqProofs[hw1,hV,hQ,hi,hlx,hpt,b3];refine Ye.of c1 (by simp[AV.pure]) ?_
    cases u0:outB x day
    . have e:T=S:=(by rw[sc,u0];simp);simp -implicitDefEqProofs[];refine ⟨rfl,?_⟩;simp -implicitDefEqProofs[wi];rw[<- hS2,hw2,e,hV,hQ]
      ((try simp only[hB',hpt]);refine Ym.sub (by simp[lk,Ya,AV.keys,hB',hpt]) ?_;simp only[hB',hpt,Wkl,Zfv,and_true];(try simp[lk,Yc,Ya,AV.keys,hB',hpt]))
    simp -implicitDefEqProofs[hB'];refine Ye.of c2 (by simp[AV.pure,isa,na,hoa,ptA]) ?_;simp -implicitDefEqProofs[hk,hlk,hho];refine Ye.of c5 (by simp[AV.pure,ia]) ?_
    cases u1
    . have e:T=S:=(by rw[sc,u0];simp);simp -implicitDefEqProofs[];refine ⟨rfl,?_⟩;simp -implicitDefEqProofs[wi];rw[<- hB',<- hS2,hw2,e,hV,hQ]
      ((try simp only[hB',hpt]);refine Ym.sub (by simp[lk,Ya,AV.keys,hB',hpt]) ?_;simp only[hB',hpt,Wkl,Zfv,and_true];(try simp[lk,Yc,Ya,AV.keys,hB',hpt]))
    simp -implicitDefEqProofs[];refine Ye.of c4 (by simp[AV.pure,isa,na,hoa,ptA]) ?_;simp -implicitDefEqProofs[];refine Ye.of c6 (by simp[pV]) ?_
    cases u2
    . have e:T=S++[(i:Int)]:=(by rw[sc,u0];simp);have hne:¬T=[]:=(by rw[e];simp);have em:T.map ia=S.map ia++[[.int .i64 i]]:=(by rw[e,W0r];rfl);have eT:T.length=S.length+1:=(by rw[e];simp);have hV2:nlV 55 T = .osl 55 (S.length+1):=(by simp[nlV,hne,eT]);have hQ2:nlO 55 T=[(55,.row 1 (T.map ia))]:=(by simp[nlO,hne]);simp -implicitDefEqProofs[AV.pure_keys _ pV];refine ⟨rfl,?_⟩;simp -implicitDefEqProofs[wi,bb];rw[<- hB',<- hS2,hw2,hV2,hQ2]
      first
       |(rw[em,cS];((try simp only[hB',hpt]);refine Ym.sub (by simp[lk,Ya,AV.keys,hB',hpt]) ?_;simp only[hB',hpt,Wkl,and_true];(try simp[lk,Yc,Ya,AV.keys,hB',hpt]));done)
       |(rw[<- em];((try simp only[hB',hpt,eT]);refine Ym.sub (by simp[lk,Ya,AV.keys,hB',hpt,eT]) ?_;simp only[hB',hpt,eT,Wkl,Zfv,and_true];(try simp[lk,Yc,Ya,AV.keys,hB',hpt,eT]));done)
    . have e:T=S:=(by rw[sc,u0];simp);simp -implicitDefEqProofs[AV.pure_keys _ pV];refine ⟨rfl,?_⟩;simp -implicitDefEqProofs[wi];rw[<- hB',<- hS2,hw2,e,hV,hQ]
      ((try simp only[hB',hpt]);refine Ym.sub (by simp[lk,Ya,AV.keys,hB',hpt]) ?_;simp only[hB',hpt,Wkl,Zfv,and_true];(try simp[lk,Yc,Ya,AV.keys,hB',hpt]))
 . intro _;obtain ⟨S,hS⟩ : ∃ S,S=siK l hs day ps ps.length:=⟨_,rfl⟩;rw[<- hS];have b3:B[3]? = some (.vsl (ps.map ptA)):=(by rw[hB'];rfl);refine Qga ?_;by_cases cS:S=[]
   . have hV:nlV 55 S = .nils:=(by simp[nlV,cS]);have hQ:nlO 55 S=[]:=(by simp[nlO,cS]);simp -implicitDefEqProofs[st7S,<- hS,hV,hQ,b3];refine Qgr ?_;simp -implicitDefEqProofs[Yg,cS]
   . have hV:nlV 55 S = .osl 55 S.length:=(by simp[nlV,cS]);have hQ:nlO 55 S=[(55,.row 1 (S.map ia))]:=(by simp[nlO,cS]);simp -implicitDefEqProofs[st7S,<- hS,hV,hQ,b3];refine Qgr ?_;simp -implicitDefEqProofs[Yg,cS,ia]
end
def noK (ps:List Prt) (I:List Int) (i:Nat):List Int:=(I.take i).map λx=>(pAt ps x.toNat).no
theorem ZlW {ps:List Prt} {I:List Int} {i:Nat} (h:i<I.length):noK ps I (i+1)=noK ps I i++[(pAt ps I[i].toNat).no]:=by
 unfold noK;rw[W08 h,W0r];rfl
theorem ZlX {ps:List Prt} {I:List Int} {i:Nat}:(noK ps I i).length<=i:=by
 unfold noK;rw[W0N,W15];omega
def nmK (L:List Prt) (i:Nat):List Int:=(L.take i).map (·.no)
theorem ZlY {L:List Prt} {i:Nat} (h:i<L.length):nmK L (i+1)=nmK L i++[L[i].no]:=by
 unfold nmK;rw[W08 h,W0r];rfl
theorem ZlZ {L:List Prt} {i:Nat}:(nmK L i).length<=i:=by
 unfold nmK;rw[W0N,W15];omega
def no7S (B:List AV) (I:List Int) (S:List Int) (i:Nat):St:=⟨[(6,.int .i64 i),(5,nlV 24 S),(2,.ptr 2 0),(1,.vsl (I.map ia))],(2,.box B)::nlO 24 S⟩
def nmS (L:List Prt) (S:List Int) (i:Nat):St:=⟨[(8,.int .i64 i),(7,.int .i64 L.length),(6,.vsl (L.map ptA)),(3,nlV 16 S)],nlO 16 S⟩
def sta7E (r:List Iss) (l:List Nte) (hs:List Hld) (ps:List Prt) (day:Int):List Int:=if as7 r l hs ps day 1=0 then (staL l hs ps day).map (·.no) else []
def stA7 (r:List Iss) (l:List Nte) (hs:List Hld) (ps:List Prt) (day:Int):AV:=.tup [Yg ((sta7E r l hs ps day).map ia),.int .i64 (as7 r l hs ps day 1)]
section
variable {G:Nat->Option (List AV)}
set_option maxHeartbeats 2000000 in
theorem Zm0 (r:List Iss) (l:List Nte) (hs:List Hld) (ps:List Prt) (I:List Int) (hI:∀ x∈I,∃ k:Nat,k<ps.length/\x=k) (hl:I.length<=100) :
  PC Tryz.prog G 93 [prA r l hs ps,.vsl (I.map ia)] (Yg ((noK ps I I.length).map ia)):=by
 obtain ⟨B,hB'⟩ : ∃ B:List AV,B=[.vsl (r.map isa),.vsl (l.map na),.vsl (hs.map hoa),.vsl (ps.map ptA)]:=⟨_,rfl⟩;have b3:B[3]? = some (.vsl (ps.map ptA)):=(by rw[hB'];rfl);unfold prA;refine Z6c rfl λR hG hrd=>?_
 subst hG;refine Qga ?_;simp -implicitDefEqProofs[Z6a,Z6b];rw[<- hB'];refine Za9 (λi=>no7S B I (noK ps I i) i) (λ_=>True) I.length ?_ trivial ?_ ?_
 . have e0:noK ps I 0=[]:=rfl;simp only[no7S,e0,nlV,nlO,if_true]
   ((try simp only[hB']);refine Ym.sub (by simp[lk,Ya,AV.keys,hB']) ?_;simp only[hB',Wkl,and_true];(try simp[lk,Yc,Ya,AV.keys,hB']))
 . intro i hi _;have wi:IntKind.i64.wrap ((i:Int)+1)=(i:Int)+1:=Yf (by omega) (by omega);have sc:=ZlW (ps:=ps) hi;have hle:=ZlX (ps:=ps) (I:=I) (i:=i);obtain ⟨k,hk,ek⟩:=hI _ (W0e hi);rw[ek]at sc;have e3:(k:Int).toNat=k:=(by omega);rw[e3,ZiF hk]at sc;obtain ⟨x,hx⟩ : ∃ x,x=ps[k]:=⟨_,rfl⟩;rw[<- hx]at sc;have hlx:ps[k]=x:=hx.symm;have hpt:ptA x=[.int .i64 x.no,.int .i64 x.dy,.int .i64 x.ho,.int .i64 x.dw,.int .i64 x.lt,.int .i64 x.bk,.int .u8 x.lo]:=rfl;obtain ⟨S,hS⟩ : ∃ S,S=noK ps I i:=⟨_,rfl⟩;obtain ⟨T,hT⟩ : ∃ T,T=noK ps I (i+1):=⟨_,rfl⟩;rw[<- hS]at sc hle;rw[<- hT]at sc;have bb:(S.length+1)*8<=70368744177664:=(by omega);have hw1:no7S B I (noK ps I i) i=⟨[(6,.int .i64 i),(5,nlV 24 S),(2,.ptr 2 0),(1,.vsl (I.map ia))],(2,.box B)::nlO 24 S⟩:=(by rw[no7S,<- hS]);have hw2:no7S B I (noK ps I (i+1)) (i+1)=⟨[(6,.int .i64 (i+1:Nat)),(5,nlV 24 T),(2,.ptr 2 0),(1,.vsl (I.map ia))],(2,.box B)::nlO 24 T⟩:=(by rw[no7S,<- hT]);have hne:¬T=[]:=(by rw[sc];simp);have em:T.map ia=S.map ia++[[.int .i64 x.no]]:=(by rw[sc,W0r];rfl);have eT:T.length=S.length+1:=(by rw[sc];simp);have hV2:nlV 24 T = .osl 24 (S.length+1):=(by simp[nlV,hne,eT]);have hQ2:nlO 24 T=[(24,.row 1 (T.map ia))]:=(by simp[nlO,hne]);by_cases cS:S=[]
   case' pos =>
    have hV:nlV 24 S = .nils:=(by simp[nlV,cS]);have hQ:nlO 24 S=[]:=by simp[nlO,cS]
   case' neg =>
    have hV:nlV 24 S = .osl 24 S.length:=(by simp[nlV,cS]);have hQ:nlO 24 S=[(24,.row 1 (S.map ia))]:=by simp[nlO,cS]
   all_goals
    refine Qga ?_;simp -implicitDefEqProofs[hw1,hV,hQ,hi,ia,ek,b3,hk,hlx,hpt,wi,bb];refine ⟨rfl,?_⟩;rw[hw2,hV2,hQ2]
    first
     |(rw[em,cS];((try simp only[hB',hpt,ia]);refine Ym.sub (by simp[lk,Ya,AV.keys,hB',hpt,ia]) ?_;simp only[hB',hpt,ia,Wkl,and_true];(try simp[lk,Yc,Ya,AV.keys,hB',hpt,ia]));done)
     |(rw[<- em];((try simp only[hB',hpt,eT]);refine Ym.sub (by simp[lk,Ya,AV.keys,hB',hpt,eT]) ?_;simp only[hB',hpt,eT,Wkl,Zfv,and_true];(try simp[lk,Yc,Ya,AV.keys,hB',hpt,eT]));done)
 . intro _;obtain ⟨S,hS⟩ : ∃ S,S=noK ps I I.length:=⟨_,rfl⟩;rw[<- hS];refine Qga ?_;by_cases cS:S=[]
   . have hV:nlV 24 S = .nils:=(by simp[nlV,cS]);have hQ:nlO 24 S=[]:=(by simp[nlO,cS]);simp -implicitDefEqProofs[no7S,<- hS,hV,hQ];refine Qgr ?_;simp -implicitDefEqProofs[Yg,cS]
   . have hV:nlV 24 S = .osl 24 S.length:=(by simp[nlV,cS]);have hQ:nlO 24 S=[(24,.row 1 (S.map ia))]:=(by simp[nlO,cS]);simp -implicitDefEqProofs[no7S,<- hS,hV,hQ];refine Qgr ?_;simp -implicitDefEqProofs[Yg,cS,ia]
set_option maxHeartbeats 2000000 in
theorem Zm1 (L:List Prt) (hl:L.length<=100):PC Tryz.prog G 90 [.vsl (L.map ptA)] (Yg ((nmK L L.length).map ia)):=by
 refine Z6i rfl λR hG hrd=>?_
 subst hG;refine Qga ?_;simp -implicitDefEqProofs[Z6g,Z6h];refine Za9 (λi=>nmS L (nmK L i) i) (λ_=>True) L.length ?_ trivial ?_ ?_
 . have e0:nmK L 0=[]:=rfl;simp only[nmS,e0,nlV,nlO,if_true]
   (refine Ym.sub (by simp[lk,Ya,AV.keys]) ?_;simp only[Wkl,and_true];(try simp[lk,Yc,Ya,AV.keys]))
 . intro i hi _;have wi:IntKind.i64.wrap ((i:Int)+1)=(i:Int)+1:=Yf (by omega) (by omega);have sc:=ZlY hi;have hle:=ZlZ (L:=L) (i:=i);obtain ⟨x,hx⟩ : ∃ x,x=L[i]:=⟨_,rfl⟩;rw[<- hx]at sc;have hlx:L[i]=x:=hx.symm;have hpt:ptA x=[.int .i64 x.no,.int .i64 x.dy,.int .i64 x.ho,.int .i64 x.dw,.int .i64 x.lt,.int .i64 x.bk,.int .u8 x.lo]:=rfl;obtain ⟨S,hS⟩ : ∃ S,S=nmK L i:=⟨_,rfl⟩;obtain ⟨T,hT⟩ : ∃ T,T=nmK L (i+1):=⟨_,rfl⟩;rw[<- hS]at sc hle;rw[<- hT]at sc;have bb:(S.length+1)*8<=70368744177664:=(by omega);have hw1:nmS L (nmK L i) i=⟨[(8,.int .i64 i),(7,.int .i64 L.length),(6,.vsl (L.map ptA)),(3,nlV 16 S)],nlO 16 S⟩:=(by rw[nmS,<- hS]);have hw2:nmS L (nmK L (i+1)) (i+1)=⟨[(8,.int .i64 (i+1:Nat)),(7,.int .i64 L.length),(6,.vsl (L.map ptA)),(3,nlV 16 T)],nlO 16 T⟩:=(by rw[nmS,<- hT]);have hne:¬T=[]:=(by rw[sc];simp);have em:T.map ia=S.map ia++[[.int .i64 x.no]]:=(by rw[sc,W0r];rfl);have eT:T.length=S.length+1:=(by rw[sc];simp);have hV2:nlV 16 T = .osl 16 (S.length+1):=(by simp[nlV,hne,eT]);have hQ2:nlO 16 T=[(16,.row 1 (T.map ia))]:=(by simp[nlO,hne]);by_cases cS:S=[]
   case' pos =>
    have hV:nlV 16 S = .nils:=(by simp[nlV,cS]);have hQ:nlO 16 S=[]:=by simp[nlO,cS]
   case' neg =>
    have hV:nlV 16 S = .osl 16 S.length:=(by simp[nlV,cS]);have hQ:nlO 16 S=[(16,.row 1 (S.map ia))]:=by simp[nlO,cS]
   all_goals
    refine Qga ?_;simp -implicitDefEqProofs[hw1,hV,hQ,hi,hlx,hpt,wi,bb];rw[hw2,hV2,hQ2]
    first
     |(rw[em,cS];((try simp only[hpt,ia]);refine Ym.sub (by simp[lk,Ya,AV.keys,hpt,ia]) ?_;simp only[hpt,ia,Wkl,and_true];(try simp[lk,Yc,Ya,AV.keys,hpt,ia]));done)
     |(rw[<- em];((try simp only[hpt,eT]);refine Ym.sub (by simp[lk,Ya,AV.keys,hpt,eT]) ?_;simp only[hpt,eT,Wkl,Zfv,and_true];(try simp[lk,Yc,Ya,AV.keys,hpt,eT]));done)
 . intro _;obtain ⟨S,hS⟩ : ∃ S,S=nmK L L.length:=⟨_,rfl⟩;rw[<- hS];refine Qga ?_;by_cases cS:S=[]
   . have hV:nlV 16 S = .nils:=(by simp[nlV,cS]);have hQ:nlO 16 S=[]:=(by simp[nlO,cS]);simp -implicitDefEqProofs[nmS,<- hS,hV,hQ];refine Qgr ?_;simp -implicitDefEqProofs[Yg,cS]
   . have hV:nlV 16 S = .osl 16 S.length:=(by simp[nlV,cS]);have hQ:nlO 16 S=[(16,.row 1 (S.map ia))]:=(by simp[nlO,cS]);simp -implicitDefEqProofs[nmS,<- hS,hV,hQ];refine Qgr ?_;simp -implicitDefEqProofs[Yg,cS,ia]
theorem Zm2 (r:List Iss) (l:List Nte) (hs:List Hld) (ps:List Prt) (day:Int) (hl:WfN l) (hr:Wf r) (hd:Sml (nums r)) (hw:WfP hs ps) :
  PC Tryz.prog G 35 [prA r l hs ps,.int .i64 day] (stA7 r l hs ps day):=by
 have ha:=ZkW (G:=G) r l hs ps day 1 hl hr hd hw;unfold stA7 sta7E;by_cases h0:as7 r l hs ps day 1=0
 case neg =>
  rw[if_neg h0];unfold prA at *
  (refine Z6f rfl λR hG hrd=>Qga ?_;subst hG)
  simp -implicitDefEqProofs[Z6d,Z6e];refine Qco (ha) (by simp) ?_;simp -implicitDefEqProofs[h0,Yg]
 have k0:=(ZkX h0).1;have c1:=ZlV (G:=G) r l hs ps day hl hr hd hw k0;have hle:=ZlR (l:=l) (hs:=hs) (day:=day) (ps:=ps) (i:=ps.length);have hpl:=hw.pl;have c2:=PC.sub (Zm0 (G:=G) r l hs ps (siK l hs day ps ps.length) (λx hx=>ZlS hx) (by omega)) (xs:=[prA r l hs ps,Yg ((siK l hs day ps ps.length).map ia)]) ⟨.rfl',.orNil _,trivial⟩
 have e:noK ps (siK l hs day ps ps.length) (siK l hs day ps ps.length).length=(staL l hs ps day).map (·.no):=by
  rw[<- ZlT];unfold noK;rw[W0v,W10];rfl
 rw[e]at c2;have sV:=ZlP ((staL l hs ps day).map (·.no));have pV:=ZjW ((staL l hs ps day).map (·.no));have pI:=ZjW (siK l hs day ps ps.length);rw[h0]at ha;rw[if_pos h0,h0];generalize Yg (((staL l hs ps day).map (·.no)).map ia)=V at *;generalize Yg ((siK l hs day ps ps.length).map ia)=I at *;unfold prA at *
 (refine Z6f rfl λR hG hrd=>Qga ?_;subst hG)
 simp -implicitDefEqProofs[Z6d,Z6e];refine Qco (ha) (by simp) ?_;simp -implicitDefEqProofs[];refine Ye.of c1 (by simp[AV.pure,isa,na,hoa,ptA]) ?_;simp -implicitDefEqProofs[];refine Ye.of c2 (by simp[AV.pure,isa,na,hoa,ptA,pI]) ?_;simp -implicitDefEqProofs[AV.pure_keys _ pI,sV];rfl
end
section
variable {G:Nat->Option (List AV)}
end
def rfK (x:Rf):AV:=.agg [.int .i64 x.1,.int .i64 x.2]
theorem rf_eq (x p:Rf):(KK.ag [.i,.i]).eq (rfK x) (rfK p)=some (decide (x=p)):=by
 obtain ⟨a,b⟩:=x;obtain ⟨e,f⟩:=p;simp only[rfK,KK.eq,eqL,eq1,if_true,W06,W2d]
 congr 1
 by_cases h1:a=e <;> by_cases h2:b=f <;> simp[h1,h2]
theorem rf_is (x:Rf):(KK.ag [.i,.i]).is (rfK x)=true:=rfl
def addU (l:List Rf) (x:Rf):List Rf:=if x∈l then l else l++[x]
def nd2 (l:List Nte) (hs:List Hld) (x:Rf):AV:=Yg ((ndI l hs x.1 x.2).map ia)
def mmA (f:Rf->AV) (K:List Rf):List (AV×AV):=K.map λp=>(rfK p,f p)
theorem Zm3 (f:Rf->AV) (x:Rf):∀ l:List Rf,(KK.ag [.i,.i]).find (rfK x) (mmA f l)=some (l.findIdx? λp=>decide (x=p))
 |[]=>rfl
 | p::r=>by
   have ih:=Zm3 f x r;have e:mmA f (p::r)=(rfK p,f p)::mmA f r:=rfl;rw[e,KK.find,rf_eq,ih,List.findIdx?_cons];by_cases c:x=p
   . simp[c]
   . simp[c]
theorem Zm4 (f:Rf->AV) (a b:Int) (l:List Rf):(KK.ag [.i,.i]).get (.agg [.int .i64 a,.int .i64 b]) (mmA f l)=some (if (a,b)∈l then some (f (a,b)) else none):=by
 show (KK.ag [.i,.i]).get (rfK (a,b)) (mmA f l)=_;unfold KK.get;rw[if_pos (rf_is (a,b)),Zm3]
 cases q:l.findIdx? λp=>decide ((a,b)=p) with
 | none =>
   rw[W1G]at q;have:(a,b) ∉ l:=λh=>by have:=q _ h;simp at this
   simp[this]
 | some j =>
   rw[W1A]at q;obtain ⟨h1,h2,-⟩:=q;have h4:(a,b)=l[j]:=(by simpa using h2);have h3:(a,b)∈l:=(by rw[h4];exact W0e h1);simp[mmA,h1,h3,<- h4]
theorem Zm5 (f:Rf->AV) (a b:Int) (l:List Rf) (h:(a,b) ∉ l):(KK.ag [.i,.i]).put (.agg [.int .i64 a,.int .i64 b]) (f (a,b)) (mmA f l)=some (mmA f (l++[(a,b)])):=by
 show (KK.ag [.i,.i]).put (rfK (a,b)) (f (a,b)) (mmA f l)=_;unfold KK.put;rw[if_pos (rf_is (a,b)),Zm3]
 have q:(l.findIdx? λp=>decide ((a,b)=p))=none:=by
  rw[W1G];intro y hy;simp;rintro rfl;exact h hy
 rw[q];simp[mmA,rfK]
theorem Zm6 (o:List (Nat×AObj)) {f:Rf->AV} (hf:∀ x,(f x).pure=true) (l:List Rf):Yc o (.mp (mmA f l))=true:=by
 simp only[Yc,W03,mmA,W0i];rintro x ⟨y,-,rfl⟩;simp[rfK,Ya,AV.keys,AV.pure_keys _ (hf y)]
theorem Zm7 (ρ:Nat->Nat) {f:Rf->AV} (hf:∀ x,(f x).pure=true) (l:List Rf):AObj.ren ρ (.mp (mmA f l)) = .mp (mmA f l):=by
 simp[AObj.ren,mmA,rfK,AV.ren,W0y,λx=>AV.ren_pure (ρ:=ρ) (f x) (hf x)]
theorem Zm8 (ok:Nat->Bool) (st:St) {f:Rf->AV} (hf:∀ st x,frz ok st 6 (f x)=some (f x)) (l:List Rf):frzO ok st (.mp (mmA f l)) = .mp (mmA f l):=by
 simp[frzO,mmA,rfK,frzA,frz,AV.keys,W0y,hf]
def wB (hs:List Hld) (y:Prt):Bool:=match hoF hs y.ho with
 |some h=>decide (y.dw∈h.ds)
 |none=>false
def slB1 (l:List Nte) (hs:List Hld) (y:Prt):Bool:=wB hs y && !decide (y.lt∈ndI l hs y.ho y.dw)
def kyK (hs:List Hld) (L:List Prt) (k:Nat):List Rf:=(L.take k).foldl (λa y=>if wB hs y=true then addU a (y.ho,y.dw) else a) []
theorem Zm9 {hs:List Hld} {L:List Prt} {k:Nat} (h:k<L.length):kyK hs L (k+1)=if wB hs L[k]=true then addU (kyK hs L k) (L[k].ho,L[k].dw) else kyK hs L k:=by
 unfold kyK;rw[W08 h,W1q];rfl
def slK (l:List Nte) (hs:List Hld) (L:List Prt) (k:Nat):List Prt:=(L.take k).filter (slB1 l hs)
theorem Zma {l:List Nte} {hs:List Hld} {L:List Prt} {k:Nat} (h:k<L.length):slK l hs L (k+1)=if slB1 l hs L[k]=true then slK l hs L k++[L[k]] else slK l hs L k:=by
 unfold slK;rw[W08 h,W1a]
 cases e:slB1 l hs L[k] <;> simp[e]
theorem Zmb {l:List Nte} {hs:List Hld} {L:List Prt} {k:Nat}:(slK l hs L k).length<=k:=by
 unfold slK;exact W0O (W0D ..) (by simp;omega)
theorem Zmc {l:List Nte} {hs:List Hld} {ps:List Prt} {day:Int}:slK l hs (outP ps day) (outP ps day).length=staL l hs ps day:=by
 unfold slK staL outP;rw[W0v,List.filter_filter];refine List.filter_congr λy _=>?_
 unfold stB slB1 wB ndI
 cases hoF hs y.ho with
 |none=>simp
 |some h=>cases outB y day <;> simp
def p7V (k:Nat) (S:List Prt):AV:=if S=[] then .nils else .osl k S.length
def p7O (k:Nat) (S:List Prt):List (Nat×AObj):=if S=[] then [] else [(k,.row 7 (S.map ptA))]
def p7N (k:Nat) (S:List Prt):Nat:=if S=[] then k-1000 else k
def slB (f:Rf->AV) (O:AV) (K:List Rf) (S:List Prt):List (Nat×AObj):=[(1002,.box [O]),(1005,.box [.mp 1010]),(1010,.mp (mmA f K)),(1006,.box [p7V 1063 S])]++p7O 1063 S
def slU (f:Rf->AV) (O:AV) (K:List Rf) (S T:List Prt):List (Nat×AObj):=[(1002,.box [O]),(1005,.box [.mp 1010]),(1010,.mp (mmA f K)),(1006,.box [p7V (p7N 1063 S) T])]++p7O (p7N 1063 S) T
theorem Zmd (ρ:Nat->Nat) (L:List Prt):AObj.ren ρ (.row 7 (L.map ptA)) = .row 7 (L.map ptA):=by
 simp[AObj.ren,ptA,AV.ren,W0y]
theorem Zme (ok:Nat->Bool) (st:St) (n:Nat) (rows:List (List AV)):frzO ok st (.row n rows) = .row n (rows.map λr=>r.map (frzA ok st)):=rfl
theorem Zmf (ok:Nat->Bool) (st:St) (l:List Prt):frzO ok st (.row 7 (l.map ptA)) = .row 7 (l.map ptA):=by
 simp[frzO,ptA,frzA,frz,AV.keys,W0y]
section
variable {G:Nat->Option (List AV)}
set_option maxHeartbeats 8000000 in
theorem Zmg (hG:GC G) (hN:GN G) (r:List Iss) (l:List Nte) (hs:List Hld) (ps:List Prt) (day:Int) (hl:WfN l) (hr:Wf r) (hd:Sml (nums r)) (hw:WfP hs ps) (h0:ck7 r l hs ps=0) :
  PC Tryz.prog G 91 [ofA r l hs ps,.int .i64 day] (Yg ((staL l hs ps day).map ptA)):=by
 have hhl:=hw.hl;rw[<- Zmc];have hO:=ZjQ (G:=G) r l hs ps day;have hit:=outIt (G:=G) r l hs ps day hw.pl;have eNl:=ZiP ps day;have hat:=λk x h=>ZiQ (ps:=ps) (day:=day) (k:=k) (x:=x) h
 have hL:(outP ps day).length<=41:=W0O (W0D ..) hw.pl;have hLp:∀ x∈outP ps day,x∈ps:=λx hx=>(W0G.1 hx).1
 have c1:=λid=>ZiZ (G:=G) r l hs ps id (by unfold Sml;omega)
 have c4:=λid d h1 h2=>ZlO hG hN r l hs ps id d hl hr hd hw h0 h1 h2
 have c3:=λL n h=>ZfQ (G:=G) L n h
 have pf:∀ x,(nd2 l hs x).pure=true:=λx=>ZjW _
 have ff:∀ (ok:Nat->Bool) st x,frz ok st 6 (nd2 l hs x)=some (nd2 l hs x):=λok st x=>by
  unfold nd2 Yg
  split <;> simp[frz,AV.keys]
 have c4':∀ id d,0<=hoI hs id->d∈nums r->PC Tryz.prog G 80 [ofA r l hs ps,.int .i64 id,.int .i64 d] (nd2 l hs (id,d)):=c4;clear c4;have pO:=ZiI r l hs ps;have kO:=ZiJ r l hs ps;have rO:=λρ=>AV.ren_pure (ρ:=ρ) (ofA r l hs ps) pO
 have fO:∀ ok st,frz ok st 6 (ofA r l hs ps)=some (ofA r l hs ps):=λok st=>by unfold ofA;simp[frz,AV.keys]
 have hop:=Zjv (Zju.1 h0).1;have hB:=ZgH (Zju.1 h0).1
 have fv:∀ y:Prt,y∈ps->wB hs y=true->nd2 l hs (y.ho,y.dw) = .vsl ((ndI l hs y.ho y.dw).map ia)/\(ndI l hs y.ho y.dw).length<=8/\ndI l hs y.ho y.dw≠[]:=λy hy hwb=>by
  have hb:=(ZlU h0 hy).2;unfold wB at hwb
  cases e:hoF hs y.ho with
  |none=>rw[e]at hwb;cases hwb
  | some h =>
    rw[e]at hwb;have hm:y.dw∈h.ds:=(by simpa using hwb);have en:ndI l hs y.ho y.dw=ndsL l h y.dw:=(by unfold ndI;rw[e]);have hn:=ZiD (h:=h) hop hB hb hm;refine ⟨?_,?_,?_⟩
    . unfold nd2 Yg;rw[en,if_neg (by simpa using hn)]
    . rw[en];unfold ndsL
      split
      . exact W0O (W0D ..) (W0f _)
      . simp
    . rw[en];exact hn
 have eO:ofA r l hs ps = .vptr [.vsl (r.map isa),.vsl (l.map na),.vsl (hs.map hoa),.vsl (ps.map ptA),.vsl ((nums r).map ia)] 0:=rfl;obtain ⟨f,hf⟩ : ∃ f,f=nd2 l hs:=⟨_,rfl⟩;rw[<- hf]at pf ff c4' fv;obtain ⟨cs,hOe,hc2⟩ : ∃ cs,ofA r l hs ps = .vptr cs 0/\cs[2]? = some (.vsl (hs.map hoa)):=⟨_,rfl,rfl⟩;rw[hOe]at pO kO rO hO hit;simp only[hOe]at c1 c4' fO ⊢;clear hOe eO;generalize outP ps day=L at *;generalize outE ps day=E at *;refine Z6l rfl λR hG' hrd=>?_
 subst hG';refine Qga ?_;simp -implicitDefEqProofs[Z6j,Z6k];refine Yd.of hO (by simp[pO,AV.pure]) ?_;simp -implicitDefEqProofs[]
 refine Zj8 hrd (by decide) hit (by simp[evA,St.tmp,lk]) (by simp[AV.pure,pO]) (λk=>k == 8||k == 9) (by intro k hk;simp at hk;omega) r1K [(2,.ptr 1002 0),(5,.ptr 1005 0),(6,.ptr 1006 0)]
  (λk=>slB f (.vptr cs 0) (kyK hs L k) (slK l hs L k)) (λk=>slU f (.vptr cs 0) (kyK hs L (k+1)) (slK l hs L k) (slK l hs L (k+1))) (λk=>k<=L.length) (W1f _) ?_ ?_ ?_ ?_ ?_ ?_ ?_ ?_ ?_ ?_ ?_
 . intro k q hq;simp only[slB,p7O]at hq
   split at hq <;> simp at hq
   . rcases hq with rfl|rfl|rfl|rfl <;> simp
   . rcases hq with rfl|rfl|rfl|rfl|rfl <;> simp
 . intro k;simp only[slB,p7O]
   split <;> simp[r1K]
 . intro k;simp only[slU,p7O,p7N]
   split <;> split <;> simp[r1K]
 . intro k q hq
   have hne:slK l hs L (k+1)=[]->slK l hs L k=[]:=λh=>by
    by_cases c:k<L.length
    . rw[Zma c]at h
      split at h
      . simp at h
      . exact h
    . unfold slK at *;rw[W0J (by omega)]at h ⊢;exact h
   simp only[slB,slU,p7O,p7N]at *;by_cases c:slK l hs L k=[]
   . simp only[c,if_true]at *
     split <;> simp at hq ⊢ <;> rcases hq with rfl|rfl|rfl|rfl <;> simp[isK,lk]
   . have c2:¬slK l hs L (k+1)=[]:=λh=>c (hne h)
     simp only[c,c2,if_false]at *;simp at hq ⊢;rcases hq with rfl|rfl|rfl|rfl|rfl <;> simp[isK,lk]
 . intro k q hq;simp only[slB,slU,p7O,p7N]at *;by_cases c:slK l hs L k=[]
   . simp only[c,if_true]at *
     split at hq <;> simp at hq
     . rcases hq with rfl|rfl|rfl|rfl <;> exact .inl (by simp[isK,lk])
     . rcases hq with rfl|rfl|rfl|rfl|rfl
       . exact .inl (by simp[isK,lk])
       . exact .inl (by simp[isK,lk])
       . exact .inl (by simp[isK,lk])
       . exact .inl (by simp[isK,lk])
       . exact .inr (by simp[Yl,r1K,St.get,St.set,putO,lk])
   . simp only[c,if_false]at *
     split at hq <;> simp at hq
     . rcases hq with rfl|rfl|rfl|rfl <;> exact .inl (by simp[isK,lk])
     . rcases hq with rfl|rfl|rfl|rfl|rfl <;> exact .inl (by simp[isK,lk])
 . intro k
   have hne:slK l hs L (k+1)=[]->slK l hs L k=[]:=λh=>by
    by_cases c:k<L.length
    . rw[Zma c]at h
      split at h
      . simp at h
      . exact h
    . unfold slK at *;rw[W0J (by omega)]at h ⊢;exact h
   simp only[slB,slU,p7O,p7V,p7N];by_cases c:slK l hs L k=[] <;> by_cases c2:slK l hs L (k+1)=[]
   . simp[c,c2,Yl,r1K,AV.ren,Zh0,Zm7 _ pf]
   . simp[c,c2,Yl,r1K,AV.ren,Zh0,Zmd,Zm7 _ pf]
   . exact absurd (hne c2) c
   . simp[c,c2,Yl,r1K,AV.ren,Zh0,Zmd,Zm7 _ pf]
 . have e0:slK l hs L 0=[]:=rfl;have e1:kyK hs L 0=[]:=rfl;have e2:mmA f []=[]:=rfl;simp[slB,p7O,p7V,e0,e1,e2,Yl,r1K,St.set,putO,AObj.ren,AV.ren,rO]
 . intro k q hq;simp only[slB,W0h]at hq;rcases hq with hq|hq
   . simp only[slB,p7O];simp at hq;rcases hq with rfl|rfl|rfl|rfl
     . simp[Yc,Ya,kO]
     . simp[Yc,Ya,AV.keys,lk]
     . exact Zm6 _ pf _
     . unfold p7V
       split <;> simp[Yc,Ya,AV.keys,lk]
   . unfold p7O at hq
     split at hq
     . cases hq
     . rw[W0B]at hq;subst hq;exact Zlt _ _
 . intro q hq;simp at hq;rcases hq with rfl|rfl|rfl
   all_goals
    refine ⟨by simp[lk,AV.ren,r1K],by simp,by simp,λj k hk=>?_⟩;simp[AV.keys]at hk;subst hk;simp only[slB];simp[isK,lk]
 . intro k x hx hk R' hG1 hN1;obtain ⟨i,hkl,rfl⟩:=hat k x hx;have sc:=Zma (l:=l) (hs:=hs) hkl;have kc:=Zm9 (hs:=hs) hkl;have hle:=Zmb (l:=l) (hs:=hs) (L:=L) (k:=k);have hyp:=hLp _ (W0e hkl);obtain ⟨b1,b2⟩:=ZlU h0 hyp;have fv:=fv _ hyp;obtain ⟨y,hy⟩ : ∃ y,y=L[k]:=⟨_,rfl⟩;rw[<- hy]at sc kc b1 b2 fv ⊢;have hpt:ptA y=[.int .i64 y.no,.int .i64 y.dy,.int .i64 y.ho,.int .i64 y.dw,.int .i64 y.lt,.int .i64 y.bk,.int .u8 y.lo]:=rfl;obtain ⟨k2,hk2,e1,e2⟩:=Zlz b1;have c1:=c1 y.ho;rw[e1]at c1;have c4:=c4' y.ho y.dw b1 b2;have hdl:=hw.dl _ (W0e hk2);obtain ⟨h,hh⟩ : ∃ h,h=hs[k2]:=⟨_,rfl⟩;rw[<- hh]at hdl e2;have hlk:hs[k2]=h:=hh.symm;have hho:hoa h=[.int .i64 h.id,.int .i64 h.fr,.int .i64 h.to,.vsl (h.ds.map ia)]:=rfl;have c5:=c3 h.ds y.dw (by unfold Sml;omega);have hwb:wB hs y=decide (y.dw∈h.ds):=(by unfold wB;rw[e2]);obtain ⟨u1,hu1⟩ : ∃ u,u=decide (y.dw∈h.ds):=⟨_,rfl⟩;rw[<- hu1]at c5 hwb;unfold slB1 at sc;rw[hwb]at sc kc fv;obtain ⟨N,hNe⟩ : ∃ N,N=ndI l hs y.ho y.dw:=⟨_,rfl⟩;rw[<- hNe]at sc fv;generalize kyK hs L k=K at *;generalize kyK hs L (k+1)=K' at *;generalize slK l hs L k=S at *;generalize slK l hs L (k+1)=T at *;have bb:(S.length+1)*56<=70368744177664:=(by omega);by_cases cS:S=[]
   case' pos =>
    have hV:p7V 1063 S = .nils:=(by simp[p7V,cS]);have hQ:p7O 1063 S=[]:=(by simp[p7O,cS]);have hM:p7N 1063 S=63:=by simp[p7N,cS]
   case' neg =>
    have hV:p7V 1063 S = .osl 1063 S.length:=(by simp[p7V,cS]);have hQ:p7O 1063 S=[(1063,.row 7 (S.map ptA))]:=(by simp[p7O,cS]);have hM:p7N 1063 S=1063:=by simp[p7N,cS]
   all_goals
    refine Qga ?_;simp only[slB,hV,hQ,W1e,W18];simp -implicitDefEqProofs[hpt];intro R'' hG2 hN2;refine Qga ?_;simp -implicitDefEqProofs[hpt,hc2,hG2];refine Ye.of c1 (by simp[pO,AV.pure]) ?_;simp -implicitDefEqProofs[hk2,hlk,hho];refine Ye.of c5 (by simp[AV.pure,ia]) ?_
    cases u1
    case false =>
     have kc:K'=K:=kc;have sc:T=S:=(by rw[sc];simp);simp -implicitDefEqProofs[];refine ⟨rfl,?_⟩;refine ⟨?_,by omega⟩;simp only[slU,hM,kc,sc];simp[p7V,p7O,cS,Yi,Zgd,Zmf,Zm8 _ _ (ff _),frzA,frz,AV.keys,fO]
    obtain ⟨fv1,fv2,fv3⟩:=fv rfl;have c6:=c3 N y.lt (by unfold Sml;omega);obtain ⟨u2,hu2⟩ : ∃ u,u=decide (y.lt∈N):=⟨_,rfl⟩;rw[<- hu2]at c6 sc;simp -implicitDefEqProofs[];refine ⟨rfl,?_⟩;by_cases c:(y.ho,y.dw)∈K
    . have kc:K'=K:=(by rw[kc];simp[addU,c]);simp -implicitDefEqProofs[hpt,Zm4,c,fv1,fv3,hG2];refine Ye.of c6 (by simp[AV.pure,ia]) ?_
      cases u2
      . have sc:T=S++[y]:=(by rw[sc];simp);have hne:¬T=[]:=(by rw[sc];simp);have hTl:T.length=S.length+1:=(by rw[sc];simp);have em:T.map ptA=S.map ptA++[ptA y]:=(by rw[sc,W0r];rfl);simp -implicitDefEqProofs[];refine ⟨rfl,?_⟩
        try simp -implicitDefEqProofs[bb]
        refine ⟨?_,by omega⟩;simp only[slU,hM,kc,p7V,p7O,hne,if_false,hTl,em];simp[cS,Yi,Zgd,Zme,Zm8 _ _ (ff _),frzA,frz,AV.keys,fO,ptA,W0y]
      . have sc:T=S:=(by rw[sc];simp);simp -implicitDefEqProofs[];refine ⟨rfl,?_⟩;refine ⟨?_,by omega⟩;simp only[slU,hM,kc,sc];simp[p7V,p7O,cS,Yi,Zgd,Zmf,Zm8 _ _ (ff _),frzA,frz,AV.keys,fO]
    . have kc:K'=K++[(y.ho,y.dw)]:=(by rw[kc];simp[addU,c]);have hin:(y.ho,y.dw)∈K++[(y.ho,y.dw)]:=(by simp);simp -implicitDefEqProofs[hpt,Zm4,c,hG2];refine Ye.of c4 (by simp[pO,AV.pure]) ?_;simp -implicitDefEqProofs[Zm5 f _ _ K c];refine ⟨rfl,?_⟩;simp -implicitDefEqProofs[hpt,Zm4,hin,fv1,hG2];refine Ye.of c6 (by simp[AV.pure,ia]) ?_
      cases u2
      . have sc:T=S++[y]:=(by rw[sc];simp);have hne:¬T=[]:=(by rw[sc];simp);have hTl:T.length=S.length+1:=(by rw[sc];simp);have em:T.map ptA=S.map ptA++[ptA y]:=(by rw[sc,W0r];rfl);simp -implicitDefEqProofs[];refine ⟨rfl,?_⟩
        try simp -implicitDefEqProofs[bb]
        refine ⟨?_,by omega⟩;simp only[slU,hM,kc,p7V,p7O,hne,if_false,hTl,em];simp[cS,Yi,Zgd,Zme,Zm8 _ _ (ff _),frzA,frz,AV.keys,fO,ptA,W0y]
      . have sc:T=S:=(by rw[sc];simp);simp -implicitDefEqProofs[];refine ⟨rfl,?_⟩;refine ⟨?_,by omega⟩;simp only[slU,hM,kc,sc];simp[p7V,p7O,cS,Yi,Zgd,Zmf,Zm8 _ _ (ff _),frzA,frz,AV.keys,fO]
 . intro _;rw[eNl];generalize kyK hs L L.length=K at *;generalize slK l hs L L.length=S at *;by_cases cS:S=[]
   . simp -implicitDefEqProofs[slB,p7V,p7O,cS,Yl,r1K,AV.ren,Zh0,Zm7 _ pf,rO];refine Qgr ?_;simp -implicitDefEqProofs[Yg]
   . simp -implicitDefEqProofs[slB,p7V,p7O,cS,Yl,r1K,AV.ren,Zh0,Zm7 _ pf,rO,Zmd];refine Qgr ?_;simp -implicitDefEqProofs[Yg,cS,ptA]
end
theorem Zmh {L:List Prt}:nmK L L.length=L.map (·.no):=by unfold nmK;rw[W0v]
theorem Zmi (L:List Prt):(Yg (L.map ptA)).pure=true:=by unfold Yg;split <;> simp_all [AV.pure,ptA]
theorem Zmj (L:List Prt) (ok:Nat->Bool) (st:St):Yh ok st 6 (Yg (L.map ptA))=some (Yg (L.map ptA)):=by
 unfold Yg
 split
 . simp[Yh,AV.pure]
 . simp[Yh,AV.pure,ptA]
theorem Zmk {l:List Nte} {hs:List Hld} {ps:List Prt} {day:Int}:(staL l hs ps day).length<=ps.length:=by
 unfold staL;exact W0D ..
section
variable {G:Nat->Option (List AV)}
theorem Zml (hG:GC G) (hN:GN G) (hP:GP G) (r:List Iss) (l:List Nte) (hs:List Hld) (ps:List Prt) (day:Int) (hl:WfN l) (hr:Wf r) (hd:Sml (nums r)) (hw:WfP hs ps) :
  PC Tryz.prog G 34 [prA r l hs ps,.int .i64 day] (stA7 r l hs ps day):=by
 have ha:=Zjx hG hN hP r l hs ps day 1 hl hr hd hw;have pO:=ZiI r l hs ps;unfold asP at ha;unfold stA7 sta7E;by_cases h0:as7 r l hs ps day 1=0
 case neg =>
  rw[if_neg h0]at ha ⊢;unfold prA at *
  (refine Z6o rfl λR hG hrd=>Qga ?_;subst hG)
  simp -implicitDefEqProofs[Z6m,Z6n];refine Qco (ha) (by simp) ?_;simp -implicitDefEqProofs[h0,Yg]
 have k0:=(ZkX h0).1;have c1:=Zmg hG hN r l hs ps day hl hr hd hw k0;have hle:=Zmk (l:=l) (hs:=hs) (ps:=ps) (day:=day);have hpl:=hw.pl;have c2:=PC.sub (Zm1 (G:=G) (staL l hs ps day) (by omega)) (xs:=[Yg ((staL l hs ps day).map ptA)]) ⟨.orNil _,trivial⟩;rw[Zmh]at c2;have sV:=ZlP ((staL l hs ps day).map (·.no));have pS:=Zmi (staL l hs ps day);rw[if_pos h0,h0]at ha;rw[if_pos h0,h0];generalize Yg (((staL l hs ps day).map (·.no)).map ia)=V at *;generalize Yg ((staL l hs ps day).map ptA)=W at *;unfold prA at *
 (refine Z6o rfl λR hG hrd=>Qga ?_;subst hG)
 simp -implicitDefEqProofs[Z6m,Z6n];refine Qco (ha) (by simp) ?_;simp -implicitDefEqProofs[];refine Yd.of c1 (by simp[pO,AV.pure]) ?_;simp -implicitDefEqProofs[];refine Yd.of c2 (by simp[pS]) ?_;simp -implicitDefEqProofs[sV]
end
theorem Zmm:∀ (i:Nat) (a b:List Int),a.take i=b.take i->lexB a b=lexB (a.drop i) (b.drop i)
 |0,_,_,_=>rfl
 |i+1,[],[],_=>rfl
 |i+1,[],y::b,h=>by simp at h
 |i+1,x::a,[],h=>by simp at h
 | i+1,x::a,y::b,h=>by
   simp only[W20,W2g]at h;obtain ⟨rfl,h⟩:=h;rw[W1D,W1D,<- Zmm i a b h];simp[lexB]
theorem Zmn:∀ a:List Int,lexB a a=false
 |[]=>rfl
 |x::a=>by simp[lexB,Zmn a]
section
variable {G:Nat->Option (List AV)}
theorem Zmo (a b:List Int) (ha:Sml a):PC Tryz.prog G 55 [.vsl (a.map ia),.vsl (b.map ia)] (.bool (bfr a b)):=by
 unfold Sml at ha
 (refine Z5U rfl λR hG hrd=>Qga ?_;subst hG)
 by_cases hl:a.length=b.length
 case neg =>
  have hl':¬(a.length:Int)=(b.length:Int):=by omega
  have e:bfr a b=decide ((a.length:Int)<b.length):=by
   unfold bfr;rw[if_neg hl,decide_eq_decide];omega
  rw[e];simp -implicitDefEqProofs[Z5S,Z5T,hl,hl']
 have hl':(a.length:Int)=(b.length:Int):=(by omega);have e:bfr a b=lexB a b:=(by unfold bfr;rw[if_pos hl]);rw[e];simp -implicitDefEqProofs[Z5S,Z5T,hl'];refine Za9 (λi=>⟨[(5,.int .i64 i),(0,.vsl (a.map ia)),(1,.vsl (b.map ia))],[]⟩) (λi=>a.take i=b.take i) a.length ?_ rfl ?_ ?_
 . ((try simp only[hl']);refine Ym.sub (by simp[lk,Ya,AV.keys,hl']) ?_;simp only[hl',Wkl,and_true];(try simp[lk,Yc,Ya,AV.keys,hl']))
 . intro i hi he;have hj:i<b.length:=(by omega);have wi:IntKind.i64.wrap ((i:Int)+1)=(i:Int)+1:=Yf (by omega) (by omega);have hi':(i:Int)<b.length:=(by omega);refine Qga ?_;by_cases q:a[i]=b[i]
   . simp -implicitDefEqProofs[hi,hj,hi',hl',ia,q];refine ⟨rfl,?_⟩;simp -implicitDefEqProofs[wi];refine ⟨?_,by rw[W08 hi,W08 hj,he,q]⟩
     ((try simp only[hl']);refine Ym.sub (by simp[lk,Ya,AV.keys,hl']) ?_;simp only[hl',Wkl,and_true];(try simp[lk,Yc,Ya,AV.keys,hl']))
   . have el:lexB a b=decide (a[i]<b[i]):=by
      rw[Zmm i a b he,W0x hi,W0x hj];simp[lexB,q]
     obtain ⟨u,hu⟩ : ∃ u,u=lexB a b:=⟨_,rfl⟩;rw[<- hu]at el ⊢;simp -implicitDefEqProofs[hi,hj,hi',hl',ia,q];refine ⟨rfl,?_⟩;refine ⟨rfl,?_⟩;refine Qgr ?_;simp -implicitDefEqProofs[el]
 . intro he
   have e:a=b:=by
    have h2:b.take a.length=b:=(by rw[hl,W0v]);rw[W0v,h2]at he;exact he
   have el:lexB a b=false:=(by rw[e];exact Zmn b);rw[el];refine Qga ?_;simp -implicitDefEqProofs[hl'];refine Qgr ?_;simp -implicitDefEqProofs[]
theorem Zmp (a b:List Int) (ha:Sml a) (hb:Sml b):PC Tryz.prog G 98 [.agg [.vsl (a.map ia),.vsl (b.map ia)]] (.int .i64 (a.length+b.length:Nat)):=by
 unfold Sml at ha hb;have wi:IntKind.i64.wrap ((a.length:Int)+b.length)=(a.length:Int)+b.length:=Yf (by omega) (by omega)
 (refine Z60 rfl λR hG hrd=>Qga ?_;subst hG)
 simp -implicitDefEqProofs[Z5Y,Z5Z,wi]
end
def cmI:List Int->List Int->Int
 |[],[]=>0
 |[],_::_=>-1
 |_::_,[]=>1
 |x::a,y::b=>if x<y then -1 else if y<x then 1 else cmI a b
theorem Zmq:∀ (i:Nat) (a b:List Int),a.take i=b.take i->cmI a b=cmI (a.drop i) (b.drop i)
 |0,_,_,_=>rfl
 |i+1,[],[],_=>rfl
 |i+1,[],y::b,h=>by simp at h
 |i+1,x::a,[],h=>by simp at h
 | i+1,x::a,y::b,h=>by
   simp only[W20,W2g]at h;obtain ⟨rfl,h⟩:=h;rw[W1D,W1D,<- Zmq i a b h];simp[cmI]
theorem Zmr:∀ (a b:List Int),a.length=b.length->decide (cmI a b<0)=lexB a b
 |[],[],_=>rfl
 |[],_::_,h=>by simp at h
 |_::_,[],h=>by simp at h
 | x :: a,y::b,h=>by
   have ih:=Zmr a b (by simpa using h);unfold cmI lexB;by_cases c:x<y
   . have:¬x=y:=(by omega);simp[c,this]
   . by_cases c2:y<x
     . have:¬x=y:=(by omega);simp[c,c2,this]
     . have:x=y:=(by omega);simp[this,ih]
section
variable {G:Nat->Option (List AV)}
theorem Zms (a b:List Int) (ha:Sml a) (hb:Sml b):PC Tryz.prog G 152 [.vsl (a.map ia),.vsl (b.map ia)] (.int .i64 (cmI a b)):=by
 unfold Sml at ha hb;have hc:=λx y=>ZbG (G:=G) x y
 (refine Z5X rfl λR hG hrd=>Qga ?_;subst hG)
 simp -implicitDefEqProofs[Z5V,Z5W];refine Za9 (λi=>⟨[(11,.int .i64 i),(10,.int .i64 a.length),(9,.vsl (a.map ia)),(0,.vsl (a.map ia)),(1,.vsl (b.map ia))],[]⟩) (λi=>a.take i=b.take i/\i<=b.length) a.length ?_ ⟨rfl,W1f _⟩ ?_ ?_
 . (refine Ym.sub (by simp[lk,Ya,AV.keys]) ?_;simp only[Wkl,and_true];(try simp[lk,Yc,Ya,AV.keys]))
 . rintro i hi ⟨he,hle⟩;have wi:IntKind.i64.wrap ((i:Int)+1)=(i:Int)+1:=Yf (by omega) (by omega);have ed:=Zmq i a b he;obtain ⟨u,hu⟩ : ∃ u,u=cmI a b:=⟨_,rfl⟩;rw[<- hu]at ed ⊢;rw[W0x hi]at ed;refine Qga ?_;by_cases hj:i<b.length
   case neg =>
    have hj':(b.length:Int)<=i:=(by omega);have e1:b.drop i=[]:=List.drop_eq_nil_of_le (by omega);rw[e1]at ed;have ed:u=1:=ed;simp -implicitDefEqProofs[hi,ia,hj'];refine Qgr ?_;simp -implicitDefEqProofs[ed]
   have hj':¬(b.length:Int)<=i:=(by omega);rw[W0x hj,cmI]at ed;have hc:=hc a[i] b[i];simp -implicitDefEqProofs[hi,hj,ia,hj'];refine Qco (hc) (by simp) ?_;by_cases c:a[i]<b[i]
   . rw[if_pos c]at ed;simp -implicitDefEqProofs[c];refine Qgr ?_;simp -implicitDefEqProofs[ed]
   by_cases c2:b[i]<a[i]
   . rw[if_neg c,if_pos c2]at ed;simp -implicitDefEqProofs[c,c2];refine Qgr ?_;simp -implicitDefEqProofs[ed]
   . have q:a[i]=b[i]:=(by omega);simp -implicitDefEqProofs[c,c2,wi];refine ⟨?_,by rw[W08 hi,W08 hj,he,q],hj⟩
     (refine Ym.sub (by simp[lk,Ya,AV.keys]) ?_;simp only[Wkl,and_true];(try simp[lk,Yc,Ya,AV.keys]))
 . rintro ⟨he,hle⟩;have ed:=Zmq a.length a b he;rw[List.drop_length]at ed;refine Qga ?_;by_cases c:a.length<b.length
   . have c':(a.length:Int)<b.length:=(by omega);rw[W0x c]at ed;have ed:cmI a b = -1:=ed;rw[ed];simp -implicitDefEqProofs[c,c'];refine Qgr ?_;simp -implicitDefEqProofs[c']
   . have c':¬(a.length:Int)<b.length:=(by omega);have e1:b.drop a.length=[]:=List.drop_eq_nil_of_le (by omega);rw[e1]at ed;have ed:cmI a b=0:=ed;rw[ed];simp -implicitDefEqProofs[c,c'];refine Qgr ?_;simp -implicitDefEqProofs[c']
end
def or3 (L:List Int):Int:=(L.find? λx=>!decide (x=0)).getD 0
def cpN (p q:List Int×List Int):Int:=or3 [((szP p:Nat):Int)-((szP q:Nat):Int),(p.1.length:Int)-(q.1.length:Int),cmI p.1 q.1]
theorem Zmt (p q:List Int×List Int):decide (cpN p q<0)=btB p q:=by
 unfold cpN or3 btB bfr;by_cases h1:szP p=szP q
 . have e1:((szP p:Nat):Int)-((szP q:Nat):Int)=0:=(by omega);by_cases h2:p.1.length=q.1.length
   . have e2:(p.1.length:Int)-(q.1.length:Int)=0:=(by omega);rw[<- Zmr p.1 q.1 h2];by_cases h3:cmI p.1 q.1=0
     . simp[e1,e2,h1,h2,h3]
     . simp[e1,e2,h1,h2,h3]
   . have e2:¬(p.1.length:Int)-(q.1.length:Int)=0:=(by omega);simp[e1,e2,h1,h2];omega
 . have e1:¬((szP p:Nat):Int)-((szP q:Nat):Int)=0:=(by omega);simp[e1,h1];omega
section
variable {G:Nat->Option (List AV)}
theorem Zmu (L:List Int) (h:Sml L):PC Tryz.prog G 151 [.vsl (L.map ia)] (.int .i64 (or3 L)):=by
 unfold Sml at h
 (refine Zf3 rfl λR hG hrd=>Qga ?_;subst hG)
 simp -implicitDefEqProofs[Zf1,Zf2];refine Za9 (λi=>⟨[(8,.int .i64 i),(7,.int .i64 L.length),(6,.vsl (L.map ia)),(3,.int .i64 0)],[]⟩) (λi=>or3 L=or3 (L.drop i)) L.length ?_ rfl ?_ ?_
 . (refine Ym.sub (by simp[lk,Ya,AV.keys]) ?_;simp only[Wkl,and_true];(try simp[lk,Yc,Ya,AV.keys]))
 . intro i hi he;have wi:IntKind.i64.wrap ((i:Int)+1)=(i:Int)+1:=Yf (by omega) (by omega);rw[W0x hi]at he;obtain ⟨u,hu⟩ : ∃ u,u=or3 L:=⟨_,rfl⟩;rw[<- hu]at he ⊢;refine Qga ?_;by_cases c:L[i]=0
   . have he2:u=or3 (L.drop (i+1)):=(by rw[he];simp[or3,c]);simp -implicitDefEqProofs[hi,ia,c,wi];refine ⟨?_,he2⟩
     (refine Ym.sub (by simp[lk,Ya,AV.keys]) ?_;simp only[Wkl,and_true];(try simp[lk,Yc,Ya,AV.keys]))
   . have he2:u=L[i]:=(by rw[he];unfold or3;rw[List.find?_cons_of_pos (by simpa using c)];rfl);simp -implicitDefEqProofs[hi,ia,c];refine Qgr ?_;simp -implicitDefEqProofs[he2]
 . intro he;rw[List.drop_length]at he;have he:or3 L=0:=he;rw[he];refine Qga ?_;simp -implicitDefEqProofs[];refine Qgr ?_;simp -implicitDefEqProofs[]
theorem Zmv (p q:List Int×List Int) (h1:p.1.length<=100) (h2:p.2.length<=100) (h3:q.1.length<=100) (h4:q.2.length<=100) :
  PC Tryz.prog G 150 [.agg [.vsl (p.1.map ia),.vsl (p.2.map ia)],.agg [.vsl (q.1.map ia),.vsl (q.2.map ia)]] (.int .i64 (cpN p q)):=by
 have c1:=Zmp (G:=G) p.1 p.2 (by unfold Sml;omega) (by unfold Sml;omega);have c2:=Zmp (G:=G) q.1 q.2 (by unfold Sml;omega) (by unfold Sml;omega);have c3:=Zms (G:=G) p.1 q.1 (by unfold Sml;omega) (by unfold Sml;omega);have c4:=Zmu (G:=G) [((szP p:Nat):Int)-((szP q:Nat):Int),(p.1.length:Int)-(q.1.length:Int),cmI p.1 q.1] (by simp[Sml])
 have w1:IntKind.i64.wrap (((p.1.length+p.2.length:Nat):Int)-((q.1.length+q.2.length:Nat):Int))=((szP p:Nat):Int)-((szP q:Nat):Int):=by
  unfold szP;exact Yf (by omega) (by omega)
 have w2:IntKind.i64.wrap ((p.1.length:Int)-(q.1.length:Int))=(p.1.length:Int)-(q.1.length:Int):=Yf (by omega) (by omega);unfold cpN;have e4:[((szP p:Nat):Int)-((szP q:Nat):Int),(p.1.length:Int)-(q.1.length:Int),cmI p.1 q.1].map ia=[[.int .i64 (((szP p:Nat):Int)-((szP q:Nat):Int))],[.int .i64 ((p.1.length:Int)-(q.1.length:Int))],[.int .i64 (cmI p.1 q.1)]]:=rfl;rw[e4]at c4;generalize or3 [((szP p:Nat):Int)-((szP q:Nat):Int),(p.1.length:Int)-(q.1.length:Int),cmI p.1 q.1]=w at *;generalize ((p.1.length+p.2.length:Nat):Int)=n1 at *;generalize ((q.1.length+q.2.length:Nat):Int)=n2 at *;generalize ((szP p:Nat):Int)-((szP q:Nat):Int)=n3 at *;generalize cmI p.1 q.1=n4 at *;have hr3:List.range 3=[0,1,2]:=rfl
 (refine Z63 rfl λR hG hrd=>Qga ?_;subst hG)
 simp -implicitDefEqProofs[Z61,Z62];refine Ye.of c1 (by simp[AV.pure,ia]) ?_;simp -implicitDefEqProofs[];refine Ye.of c2 (by simp[AV.pure,ia]) ?_;simp -implicitDefEqProofs[w1,w2];refine Ye.of c3 (by simp[AV.pure,ia]) ?_;simp -implicitDefEqProofs[hr3];refine Ye.of c4 (by simp[AV.pure]) ?_;simp -implicitDefEqProofs[];rfl
end
def pvA (p:List Int×List Int):AV:=.agg [Yg (p.1.map ia),Yg (p.2.map ia)]
def fsK (P:List (List Int×List Int)):Nat->List Int×List Int
 |0=>([],[])
 |k+1=>if k=0∨btB (P.getD k ([],[])) (fsK P k)=true then P.getD k ([],[]) else fsK P k
theorem Zmw {P:List (List Int×List Int)}:∀ k,k<=P.length->fsK P k=([],[])∨fsK P k∈P
 |0,_=>.inl rfl
 | k + 1,h=>by
   rw[fsK];have hk:k<P.length:=by omega
   split
   . right
     rw[W0j,W07 hk];exact W0e hk
   . exact Zmw k (by omega)
def fsO (b:List Int×List Int) (k:Nat):List (Nat×AObj):=[(1003,.box [.func (.func 150) [] []]),(1005,.box [Yg (b.1.map ia),Yg (b.2.map ia)]),(1006,.box [.bool (decide (0<k))])]
theorem Zmx (S:List Int):Yg (S.map ia) = .nils∨Yg (S.map ia) = .vsl (S.map ia):=by
 unfold Yg
 split
 . exact .inl rfl
 . exact .inr rfl
section
variable {G:Nat->Option (List AV)}
set_option maxHeartbeats 4000000 in
theorem Zmy (gf:FuncId) (caps:List AV) (P:List (List Int×List Int)) (hc:caps.all AV.pure=true) (hit:IterG Tryz.prog G gf caps (P.map pvA)) (hP:∀ p∈P,p.1.length<=100/\p.2.length<=100) :
  PC Tryz.prog G 148 [.func (.func gf) [] caps,.func (.func 150) [] []] (pvA (fsK P P.length)):=by
 refine Z5N rfl λR hG' hrd=>?_
 subst hG';refine Qga ?_;simp -implicitDefEqProofs[Z5L,Z5M];refine ZgZ hrd hit (by simp[evA,St.tmp,lk]) hc r1K [(3,.ptr 1003 0),(5,.ptr 1005 0),(6,.ptr 1006 0)] (λk=>fsO (fsK P k) k) [1003,1005,1006] (λk=>k<=P.length) (W1f _) (λ_=>rfl) (by simp) (by simp[r1K]) ?_ ?_ ?_ ?_ ?_
 . simp[fsO,fsK,Yg,Yl,r1K,St.set,putO,AObj.ren,AV.ren]
 . intro k q hq;simp[fsO]at hq;rcases hq with rfl|rfl|rfl
   . simp[Yc,Ya,AV.keys]
   . simp[Yc,Ya,ZfV]
   . simp[Yc,Ya,AV.keys]
 . intro q hq;simp at hq;rcases hq with rfl|rfl|rfl
   all_goals exact ⟨by simp[lk,AV.ren,r1K],by simp,by simp[AV.keys]⟩
 . intro k x hx hk R' hG1 hN1;rw[W09]at hx;obtain ⟨p,hp,rfl⟩:=W04.1 hx;obtain ⟨hkl,hpe⟩:=W02.1 hp;have hpm:p∈P:=(by rw[<- hpe];exact W0e hkl);have hgd:P.getD k ([],[])=p:=by rw[W0j,hp];rfl
   have hbl:(fsK P k).1.length<=100/\(fsK P k).2.length<=100:=by
    rcases Zmw (P:=P) k (by omega) with h|h
    . rw[h];simp
    . exact hP _ h
   obtain ⟨l1,l2⟩:=hP p hpm;have sc:fsK P (k+1)=if k=0∨btB p (fsK P k)=true then p else fsK P k:=by rw[fsK,hgd]
   obtain ⟨b,hb⟩ : ∃ b,b=fsK P k:=⟨_,rfl⟩;rw[<- hb]at sc hbl;have hcm:=PC.sub (Zmv (G:=R.G) p b l1 l2 hbl.1 hbl.2) (xs:=[.agg [Yg (p.1.map ia),Yg (p.2.map ia)],.agg [Yg (b.1.map ia),Yg (b.2.map ia)]]) ⟨.agg ⟨.orNil _,.orNil _,trivial⟩,.agg ⟨.orNil _,.orNil _,trivial⟩,trivial⟩;have hlt:=Zmt p b;obtain ⟨n,hn⟩ : ∃ n,n=cpN p b:=⟨_,rfl⟩;rw[<- hn]at hcm hlt;obtain ⟨T,hT⟩ : ∃ T,T=fsK P (k+1):=⟨_,rfl⟩;rw[<- hT]at sc;have hO1:fsO (fsK P k) k=[(1003,.box [.func (.func 150) [] []]),(1005,.box [Yg (b.1.map ia),Yg (b.2.map ia)]),(1006,.box [.bool (decide (0<k))])]:=(by rw[fsO,<- hb]);have hO2:fsO (fsK P (k+1)) (k+1)=[(1003,.box [.func (.func 150) [] []]),(1005,.box [Yg (T.1.map ia),Yg (T.2.map ia)]),(1006,.box [.bool true])]:=(by rw[fsO,<- hT];simp);show AR _ _ _ ⟨(9,pvA p)::_,fsO (fsK P k) k⟩ _;rw[hO1];simp only[hO2];unfold pvA;obtain ⟨V1,hV1⟩ : ∃ V,V=Yg (p.1.map ia):=⟨_,rfl⟩;obtain ⟨V2,hV2⟩ : ∃ V,V=Yg (p.2.map ia):=⟨_,rfl⟩;obtain ⟨W1,hW1⟩ : ∃ V,V=Yg (b.1.map ia):=⟨_,rfl⟩;obtain ⟨W2,hW2⟩ : ∃ V,V=Yg (b.2.map ia):=⟨_,rfl⟩;have hkl':k+1<=P.length:=hkl;have pW1:W1.pure=true:=(by rw[hW1];exact ZjW _);have pW2:W2.pure=true:=(by rw[hW2];exact ZjW _);have fW1:∀ ok st,frz ok st 6 W1=some W1:=λok st=>by rw[hW1];unfold Yg;split <;> simp[frz,AV.keys]
   have fW2:∀ ok st,frz ok st 6 W2=some W2:=λok st=>by rw[hW2];unfold Yg;split <;> simp[frz,AV.keys]
   rw[<- hV1,<- hV2,<- hW1,<- hW2]at hcm;rw[<- hV1,<- hV2,<- hW1,<- hW2];have d1:V1 = .nils∨V1 = .vsl (p.1.map ia):=(by rw[hV1];exact Zmx _);have d2:V2 = .nils∨V2 = .vsl (p.2.map ia):=(by rw[hV2];exact Zmx _);by_cases k0:k=0
   case' pos =>
    have hr:[Yg (T.1.map ia),Yg (T.2.map ia)]=[V1,V2]:=by rw[sc,if_pos (.inl k0),hV1,hV2]
   case' neg =>
    have k0':0<k:=by omega
    have hr:[Yg (T.1.map ia),Yg (T.2.map ia)]=if decide (n<0)=true then [V1,V2] else [W1,W2]:=by
     rw[hlt,sc];by_cases hq:btB p b=true
     . rw[if_pos (.inr hq),if_pos hq,hV1,hV2]
     . rw[if_neg (by simp[k0,hq]),if_neg hq,hW1,hW2]
   all_goals
    rw[hr];clear hV1 hV2 hW1 hW2 hr;rcases d1 with rfl|rfl <;> rcases d2 with rfl|rfl
    all_goals
     refine Qga ?_;simp -implicitDefEqProofs[];intro R'' hG2 hN2;refine Qga ?_
     first
      |(subst k0;simp -implicitDefEqProofs[RndB,Yi,newK,Zgd,frzA,frz,AV.keys,hkl',fW1,fW2];done)
      | (simp -implicitDefEqProofs[k0',hG2]
         refine Yd.of hcm (by simp[AV.pure,ia,pW1,pW2]) ?_;by_cases c:n<0
         . simp -implicitDefEqProofs[c,RndB,Yi,newK,Zgd,frzA,frz,AV.keys,hkl',fW1,fW2]
           done
         . simp -implicitDefEqProofs[c,RndB,Yi,newK,Zgd,frzA,frz,AV.keys,hkl',fW1,fW2]
           done)
 . intro _;rw[W0N];obtain ⟨b,hb⟩ : ∃ b,b=fsK P P.length:=⟨_,rfl⟩;rw[<- hb];have d1:=Zmx b.1;have d2:=Zmx b.2;unfold fsO pvA;generalize Yg (b.1.map ia)=W1 at *;generalize Yg (b.2.map ia)=W2 at *;rcases d1 with rfl|rfl <;> rcases d2 with rfl|rfl
   all_goals
    simp -implicitDefEqProofs[Yl,r1K,AV.ren,Zh0];refine Qgr ?_;simp -implicitDefEqProofs[ia]
end
def plE (ids dl:List Int) (L:List Prt):List (List Int×List Int):=(List.range (2 ^ ids.length)).map (plN ids dl L)
theorem Zmz {ids dl:List Int} {L:List Prt}:(plE ids dl L).length=2 ^ ids.length:=by simp[plE]
theorem ZmA {ids dl:List Int} {L:List Prt}:∀ k,k<2 ^ ids.length->fsK (plE ids dl L) (k+1)=caN ids dl L k
 | 0,h=>by
   have e:(plE ids dl L).getD 0 ([],[])=plN ids dl L 0:=by
    unfold plE;rw[W0j,W09,W0L h];rfl
   rw[fsK,if_pos (.inl rfl),e];rfl
 | k+1,h=>by
   have e:(plE ids dl L).getD (k+1) ([],[])=plN ids dl L (k+1):=by
    unfold plE;rw[W0j,W09,W0L h];rfl
   rw[fsK,e,ZmA k (by omega),caN];simp
theorem ZmB {ids dl:List Int} {L:List Prt}:fsK (plE ids dl L) (plE ids dl L).length=caE ids dl L:=by
 have h:=Nat.two_pow_pos ids.length;have e:(plE ids dl L).length=(2 ^ ids.length-1)+1:=(by rw[Zmz];omega);rw[e,ZmA _ (by omega)];rfl
section
variable {G:Nat->Option (List AV)}
theorem ZmC (r:List Iss) (l:List Nte) (hs:List Hld) (ps:List Prt) (S:List Prt):PC Tryz.prog G 149 [ofA r l hs ps,Yg (S.map ptA)] (.func (.func 179) [] [.vptr [ofA r l hs ps] 0,.vptr [Yg (S.map ptA)] 0]):=by
 have pO:=ZiI r l hs ps;obtain ⟨cs,eS⟩ : ∃ cs,ofA r l hs ps = .vptr cs 0:=⟨_,rfl⟩;rw[eS]at pO ⊢;have pW:=Zmi S
 have d:Yg (S.map ptA) = .nils∨Yg (S.map ptA) = .vsl (S.map ptA):=by
  unfold Yg
  split
  . exact .inl rfl
  . exact .inr rfl
 generalize Yg (S.map ptA)=W at *;rcases d with rfl|rfl
 . (refine Z5Q rfl λR hG hrd=>Qga ?_;subst hG)
   simp -implicitDefEqProofs[Z5O,Z5P,pO]
 . (refine Z5Q rfl λR hG hrd=>Qga ?_;subst hG)
   simp -implicitDefEqProofs[Z5O,Z5P,pO,ptA]
theorem ZmD (r:List Iss) (l:List Nte) (hs:List Hld) (ps:List Prt) (S:List Prt) (P:List (List Int×List Int))
  (hit:IterG Tryz.prog G 179 [.vptr [ofA r l hs ps] 0,.vptr [Yg (S.map ptA)] 0] (P.map pvA)) (hP:∀ p∈P,p.1.length<=100/\p.2.length<=100) :
  PC Tryz.prog G 95 [ofA r l hs ps,Yg (S.map ptA)] (pvA (fsK P P.length)):=by
 have pO:=ZiI r l hs ps;have pW:=Zmi S;have c1:=ZmC (G:=G) r l hs ps S;have c2:=Zmy (G:=G) _ [.vptr [ofA r l hs ps] 0,.vptr [Yg (S.map ptA)] 0] P (by simp[AV.pure,pO,pW]) hit hP;obtain ⟨b,hb⟩ : ∃ b,b=fsK P P.length:=⟨_,rfl⟩;rw[<- hb]at c2 ⊢;have d1:=Zmx b.1;have d2:=Zmx b.2;unfold pvA at c2 ⊢;generalize Yg (b.1.map ia)=W1 at *;generalize Yg (b.2.map ia)=W2 at *;generalize ofA r l hs ps=O at *;generalize Yg (S.map ptA)=W at *;rcases d1 with rfl|rfl <;> rcases d2 with rfl|rfl
 all_goals
  (refine Z66 rfl λR hG hrd=>Qga ?_;subst hG)
  simp -implicitDefEqProofs[Z64,Z65];refine Yd.of c1 (by simp[pO,pW]) ?_;simp -implicitDefEqProofs[];refine Yd.of c2 (by simp[AV.pure,pO,pW]) ?_;simp -implicitDefEqProofs[ia]
end
section
variable {G:Nat->Option (List AV)}
theorem ZmE (g:Nat) (caps:List AV) (p:Prt->Bool) (l:List Prt) (hc:caps.all AV.pure=true) (hl:Sml l)
  (hg:∀ x∈l,PC Tryz.prog G g (.agg (ptA x)::caps) (.bool (p x))) :
  PC Tryz.prog G 180 [.vsl (l.map ptA),.func (.func g) [] caps] (.int .i64 (fstOf p l)):=by
 (refine Z5z rfl λR hG hrd=>Qga ?_;subst hG)
 unfold Sml at hl;have hc2:∀ x∈caps,x.pure=true:=W03.1 hc;simp -implicitDefEqProofs[Z5x,Z5y];refine Za9 (λi=>⟨[(8,.int .i64 i),(7,.int .i64 l.length),(0,.vsl (l.map ptA)),(1,.func (.func g) [] caps)],[]⟩) (λi=>∀ j (h:j<l.length),j<i->p l[j]=false) l.length (by (first|exact Ym.tm (by simp[lk])|exact Ym.sub (by simp[lk,Ya,AV.keys]) (by simp[lk,Yc,Ya,AV.keys]))) (by simp) ?_ ?_
 . intro i hi he;refine Qga ?_;have w1:IntKind.i64.wrap ((i:Int)+1)=((i+1:Nat):Int):=Yf (by omega) (by omega);have hgi:=hg _ (W0e hi);have hln:(ptA l[i]).length=7:=rfl;have htk:(ptA l[i]).take 7=ptA l[i]:=rfl;simp -implicitDefEqProofs[hi,hln,htk];refine Yd.of hgi (by simpa [AV.pure,ptA] using hc2) ?_
   cases h3:p l[i]
   . simp -implicitDefEqProofs[w1];refine ⟨(by (first|exact Ym.tm (by simp[lk])|exact Ym.sub (by simp[lk,Ya,AV.keys]) (by simp[lk,Yc,Ya,AV.keys]))),λj q1 q2=>?_⟩;by_cases e:j=i
     . subst e;exact h3
     . exact he j q1 (by omega)
   . simp -implicitDefEqProofs;refine Qgr ?_;simp -implicitDefEqProofs[Zb0 hi h3 he]
 . intro he;refine Qga ?_;simp -implicitDefEqProofs[];refine Qgr ?_;simp -implicitDefEqProofs[Zb1 (p:=p) (l:=l) (λj hj=>he j hj hj)]
theorem ZmF (g:Nat) (caps:List AV) (p:Prt->Bool) (l:List Prt) (hc:caps.all AV.pure=true) (hl:Sml l)
  (hg:∀ x∈l,PC Tryz.prog G g (.agg (ptA x)::caps) (.bool (p x))) :
  PC Tryz.prog G 153 [.vsl (l.map ptA),.func (.func g) [] caps] (.bool (l.any p)):=by
 have hi:=ZmE (G:=G) g caps p l hc hl hg;have e:=Zb2 p l
 (refine Z5C rfl λR hG hrd=>Qga ?_;subst hG)
 have hc2:∀ x∈caps,x.pure=true:=W03.1 hc;simp -implicitDefEqProofs[Z5A,Z5B];refine Yd.of hi (by simpa [AV.pure] using hc2) ?_;simp -implicitDefEqProofs[e]
theorem ZmG (x y:Prt):PC Tryz.prog G 154 [.agg (ptA y),.vptr (ptA x) 0] (.bool (clP x y)):=by
 unfold clP ptA
 (refine Z5w rfl λR hG hrd=>Qga ?_;subst hG)
 by_cases h1:y.ho=x.ho
 . simp -implicitDefEqProofs[Z5u,Z5v,h1]
 . have h1':¬x.ho=y.ho:=λh=>h1 h.symm
   by_cases h2:y.dw=x.dw
   . simp -implicitDefEqProofs[Z5u,Z5v,h1,h1',h2]
   . have h2':¬x.dw=y.dw:=λh=>h2 h.symm
     simp -implicitDefEqProofs[Z5u,Z5v,h1,h1',h2,h2']
theorem ZmH (l:List Prt) (hne:l≠[]) (hl:Sml l):PB Tryz.prog G 155 [] [.vsl (l.map ptA)] (.osl 5 l.length) [(5,.row 7 (l.map ptA))]:=by
 refine Z5j (λk=>decide (k<1000) && !(k == 5)) (by intro k hk;simp at hk;omega) Tryz.func155 rfl (by kernel_rfl) (rc:=Z5D) (by kernel_rfl) (rs:=Z5E) (by kernel_rfl) (W0C rfl) λR _ hG hrd=>Qga ?_
 subst hG;unfold Sml at hl;have b1:l.length*56<=70368744177664:=(by omega);have h0:¬l.length=0:=λe=>hne (W0l.1 e)
 have k1:(l.map ptA).all (λr=>r.length == 7)=true:=(by simp[ptA]);have k2:(l.map ptA).all (λr=>r.all AV.one)=true:=(by simp[ptA,AV.one]);simp -implicitDefEqProofs[Z5D,Z5E,h0,hne,b1,k1,k2];simp -implicitDefEqProofs[FinO,Yi,Zmf,frzA,frz,AV.keys]
end
end Go.Proofs.YtcdlimgkliklhaaGreatDoor
