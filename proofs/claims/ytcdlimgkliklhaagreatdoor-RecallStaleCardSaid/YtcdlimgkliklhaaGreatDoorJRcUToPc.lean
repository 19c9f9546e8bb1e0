/-
  The abstract machine's code of functions of the program, as a program of ours printed it; that it is theirs is proved beside each.
-/
import Derived.Test.YtcdlimgkliklhaaGreatDoorJAmLToAmXb
import Derived.Test.YtcdlimgkliklhaaGreatDoorProg
import Derived.Test.YtcdlimgkliklhaaGreatDoorJEfToNk
import Derived.Test.YtcdlimgkliklhaaGreatDoorJRcfToEe
import Derived.Test.YtcdlimgkliklhaaGreatDoorJRegToAmE
set_option linter.all false
set_option linter.unusedSimpArgs false
set_option linter.unusedVariables false
set_option linter.unusedSectionVars false
namespace Go.Proofs.YtcdlimgkliklhaaGreatDoor
open Go.RowKit
open Qq in
def Zgo:RCode :=
 .seq (r 0 [b 1 0,n 2 .nils]) (.seq (r 1 [L 8 2 1,c 9 65 [8],m 3 9]) (.seq (r 2 [n 4 .nils]) (.seq (.seq (r 3 [n 5 O]) (.block 0 (.loop (.seq (.seq (r 4 [m 10 5,m 11 3,e 12 11,w 13 (.vop (.sh true) [(.c I),(.t 12)]),o 14 .lss 10 13]) (.cond (.t 14) .skip (.exit 0))) (.seq (.block 1 (.seq (r 6 [w 17 (.bsl true 1 0 [] []),m 6 17]) (.seq (.seq (r 7 [n 7 O]) (.block 2 (.loop (.seq (.seq (r 8 [m 18 7,m 19 3,e 20 19,o 21 .lss 18 20]) (.cond (.t 21) .skip (.exit 2))) (.seq (.block 3 (.seq (r 10 [m 24 5,m 25 7,w 26 (.vop (.sh false) [(.t 24),(.t 25)]),w 27 (.vop (.bits .and) [(.t 26),(.c I)]),k 28 .eql 27 I]) (.cond (.t 28) (R 11 [m 29 6,f 30 1 1,a [1] (l 31 30),m 32 3,m 33 7,a [3,4] (i 34 1 32 33),a [5] (l 35 34),a [2,6] (i 36 10 31 35),a [7] (f 37 0 36),a [8] (l 38 37),a [9] (w 39 (.bsl false 1 1 [O] [(0,.t 38)])),a [0,10] (w 40 (.app 1 8 (.t 29) (.t 39))),a [11,11,0,1,2,3,4,5,6,7,8,9,10,11] (m 6 40)]) .skip))) (r 9 [m 22 7,k 23 .add 22 I,m 7 23])))))) (r 12 [m 41 4,m 42 6,w 43 (.bsl false 1 1 [.nils] [(0,.t 42)]),w 44 (.app 1 24 (.t 41) (.t 43)),m 4 44])))) (r 5 [m 15 5,k 16 .add 15 I,m 5 16])))))) (.seq (r 13 [m 45 4,m 2 45]) .ret))))
def Zgp:List RRes:=[.t 2]
theorem Zgq:PCt Tryz.prog 62 Tryz.f62 Zgo Zgp:=pcT Tryz.func62 rfl (by kernel_rfl) (by kernel_rfl) (by kernel_rfl)
structure Stq where
 fd:Int
 fl:Int
 td:Int
 tl:Int
 nu:Int
 nt:Bool
 deriving DecidableEq,Inhabited
def ja (j:Nat):List AV:=[.int .i64 (j:Int)]
theorem Zgr (o:List (Nat×AObj)) (l:List Nat):Yc o (.row 1 (l.map ja))=true:=by
 simp only[Yc,W03,W0i];rintro x ⟨y,-,rfl⟩ v hv;simp only[ja,W0B]at hv;subst hv;simp[Ya,AV.keys]
def opW (r:List Iss) (l:List Nte) (i:Nat):St :=
 if opI l i=[] then ⟨[(4,.int .i64 i),(3,.nils),(1,.ptr 1 0)],[(1,.box [.vsl (r.map isa),.vsl (l.map na)])]⟩
 else ⟨[(4,.int .i64 i),(3,.osl 24 (opI l i).length),(1,.ptr 1 0)],[(24,.row 1 ((opI l i).map ja)),(1,.box [.vsl (r.map isa),.vsl (l.map na)])]⟩
def jnK (L:List Nat) (i p:Nat):List Nat:=L.take p++i::L.drop p
def opX (r:List Iss) (l:List Nte) (i:Nat) (L:List Nat) (p:Nat):St:=⟨[(5,.int .i64 p),(4,.int .i64 i),(3,.osl 24 (L.length+1)),(1,.ptr 1 0)],[(24,.row 1 ((jnK L i p).map ja)),(1,.box [.vsl (r.map isa),.vsl (l.map na)])]⟩
theorem Zgs {L:List Nat} {i p:Nat} (h:p<L.length):(jnK L i (p+1))[p]? = some L[p]/\(jnK L i (p+1))[p+1]? = some i/\(jnK L i (p+1)).length=L.length+1/\((jnK L i (p+1)).set (p+1) L[p]).set p i=jnK L i p:=by
 unfold jnK;have hl:(L.take p).length=p:=(by simp;omega);rw[W08 h,W0U,W1e,W18];refine ⟨?_,?_,?_,?_⟩
 . rw[W0o (by omega),hl,W2r];rfl
 . rw[W0o (by omega),hl,Nat.add_sub_cancel_left];rfl
 . simp;omega
 . rw[W25 _ _ (by omega),W25 _ _ (by omega),hl,W0x h];simp
section
variable {G:Nat->Option (List AV)}
set_option maxHeartbeats 1000000 in
theorem Zgt (r:List Iss) (l:List Nte) (hl:l.length<=12):PC Tryz.prog G 65 [.agg [.vsl (r.map isa),.vsl (l.map na)]] (Yg ((opI l l.length).map ja)):=by
 (refine Z7e rfl λR hG hrd=>Qga ?_;subst hG)
 simp -implicitDefEqProofs[Z7c,Z7d];refine Za9 (opW r l) (λ_=>True) l.length ?_ trivial ?_ ?_
 . have e:opI l 0=[]:=rfl;simp only[opW,e,if_true]
   (refine Ym.sub (by simp[lk,Ya,AV.keys]) ?_;simp only[Wkl,and_true];(try simp[lk,Yc,Ya,AV.keys]))
 . intro i hi _;have hx:=Zd7 hi;have hnx:na (nAt l i)=[.int .i64 (nAt l i).nu,.int .i64 (nAt l i).dy,.int .u8 (nAt l i).sg,.int .i64 (nAt l i).dr,.int .i64 (nAt l i).lt,.int .i64 (nAt l i).fr,.int .i64 (nAt l i).tu,.int .i64 (nAt l i).ca,.bool (nAt l i).up,.int .u8 (nAt l i).wy]:=rfl;have hO:opI l (i+1)=if (nAt l i).sg=1 then insK (λj=>(nAt l j).nu) (opI l i) i else opI l i:=rfl
   have hlt:=ZdE l i;have hsr:=ZdI l i;have hln:=ZdC l i;have wi:IntKind.i64.wrap ((i:Int)+1)=(i:Int)+1:=Yf (by omega) (by omega);unfold opW;generalize opI l i=L at *;have hF:∀ j,(nAt l j).nu=(λj=>(nAt l j).nu) j:=λ_=>rfl
   refine Qga ?_;by_cases c:(nAt l i).sg=1
   . rw [if_pos c]at hO;have hne:opI l (i+1)≠[]:=(by rw[hO];intro h;have:=ZdB (λj=>(nAt l j).nu) L i;rw[h]at this;cases this);have hlen:(opI l (i+1)).length=L.length+1:=(by rw[hO,ZdB]);have bb:(L.length+1)*8<=70368744177664:=(by omega);have wl:IntKind.i64.wrap (L.length:Int)=(L.length:Int):=(by rw[Yf (by omega) (by omega)]);have wz:IntKind.i64.wrap 0=0:=rfl;have hmid:=λp (hp:p<L.length)=>Zgs (i:=i) hp
     have hend:=λp (h1:p<=L.length)=>ZdJ (f:=λj=>(nAt l j).nu) (x:=i) (k:=p) hsr h1
     by_cases c0:L=[]
     case' pos=>simp -implicitDefEqProofs[c0,hi,<- hx,hnx,c,wz]
     case' neg=>simp -implicitDefEqProofs[c0,hi,<- hx,hnx,c,bb,wl]
     all_goals
      refine Z1Q (opX r l i L) (λp=>p<=L.length/\∀ y∈L.drop p,(nAt l i).nu<(nAt l y).nu) (λp=>p) L.length ?_ ⟨W0f _,λy hy=>by rw[W1j (W0f _)]at hy;cases hy⟩ ?_
      . unfold opX jnK;rw[W0J (W0f _),W1j (W0f _),W0r]
        first
         |(subst c0;((try simp only[ja]);refine Ym.sub (by simp[lk,Ya,AV.keys,ja]) ?_;simp only[ja,Wkl,and_true];(try simp[lk,Yc,Ya,AV.keys,ja]));done)
         |(((try simp only[ja]);refine Ym.sub (by simp[lk,Ya,AV.keys,ja]) ?_;simp only[ja,Wkl,and_true];(try simp[lk,Yc,Ya,AV.keys,ja]));done)
      rintro p ⟨hp,hd⟩;refine Qga ?_
      cases p with
      | zero =>
        have he:=hend 0 (W1f _) hd (λq hq=>by omega);simp -implicitDefEqProofs[opX];refine ⟨rfl,?_⟩;refine Qgr ?_;simp -implicitDefEqProofs[wi];simp only[hne,if_false,hlen];change jnK L i 0=_ at he;rw[hO,<- he]
        ((try simp only[ja]);refine Ym.sub (by simp[lk,Ya,AV.keys,ja]) ?_;simp only[ja,Wkl,Zgr,and_true];(try simp[lk,Yc,Ya,AV.keys,ja]))
      | succ p =>
        obtain ⟨m1,m2,m3,m4⟩:=hmid p hp;have he:=hend (p+1) hp hd;obtain ⟨j,hj⟩ : ∃ j,j=L[p]:=⟨_,rfl⟩;have hji:=(hlt j (by rw[hj];exact W0e _)).1;have hjl:j<l.length:=(by omega);have hpj:L[p]? = some j:=(by rw[hj];exact W07 _);rw[<- hj]at m1 m4;unfold opX;replace he:_->jnK L i (p+1)=_:=he;generalize jnK L i (p+1)=Q at *;obtain ⟨q1,g1⟩:=W02.1 m1;obtain ⟨q2,g2⟩:=W02.1 m2;have hxj:=Zd7 hjl;have hnj:na (nAt l j)=[.int .i64 (nAt l j).nu,.int .i64 (nAt l j).dy,.int .u8 (nAt l j).sg,.int .i64 (nAt l j).dr,.int .i64 (nAt l j).lt,.int .i64 (nAt l j).fr,.int .i64 (nAt l j).tu,.int .i64 (nAt l j).ca,.bool (nAt l j).up,.int .u8 (nAt l j).wy]:=rfl;have w2:IntKind.i64.wrap ((p:Int))=(p:Int):=Yf (by omega) (by omega);have k1:(0:Int)<(p:Int)+1:=(by omega);have k2:((p:Int)+1).toNat=p+1:=(by omega);have k3:(0:Int)<=(p:Int)+1:=(by omega);have k4:p<L.length:=(by omega);have k5:p<=L.length:=(by omega);have k6:p<L.length+1:=(by omega);have k7:(p:Int)<(L.length:Int)+1:=(by omega);have k8:(p:Int)+1<(L.length:Int)+1:=(by omega);by_cases hlt2:(nAt l i).nu<(nAt l j).nu
        . simp -implicitDefEqProofs[w2,k1,k2,k3,k4,k5,k6,k7,k8,g1,g2,m3,ja,hi,hjl,<- hx,<- hxj,hnx,hnj,hlt2];refine ⟨rfl,p,?_,⟨by omega,λu hu=>?_⟩,W2w _⟩
          . have e1:∀ z:Nat,[AV.int .i64 (z:Int)]=ja z:=λ_=>rfl
            simp only[e1];rw[<- W2s,<- W2s,m4]
            (refine Ym.sub (by simp[lk,Ya,AV.keys]) ?_;simp only[Wkl,Zgr,and_true];(try simp[lk,Yc,Ya,AV.keys]))
          . have hps:=(W02.1 hpj).1;have gs:=(W02.1 hpj).2;rw[W0x hps,gs]at hu;rcases W0g.1 hu with rfl|hu
            . exact hlt2
            . exact hd u hu
        . have he:=he (λq hq u hu=>by
           have:q=p:=(by omega);subst this;rw[hpj]at hu
           cases hu
           exact Int.not_lt.1 hlt2)
          simp -implicitDefEqProofs[w2,k1,k2,k3,k4,k5,k6,k7,k8,g1,g2,m3,ja,hi,hjl,<- hx,<- hxj,hnx,hnj,hlt2];refine ⟨rfl,?_⟩;refine Qgr ?_;simp -implicitDefEqProofs[wi];simp only[hne,if_false,hlen];rw[hO,<- he]
          (refine Ym.sub (by simp[lk,Ya,AV.keys]) ?_;simp only[Wkl,Zgr,and_true];(try simp[lk,Yc,Ya,AV.keys]))
   . rw[if_neg c]at hO;by_cases c0:L=[]
     . simp -implicitDefEqProofs[c0,hi,<- hx,hnx,c,wi];simp only[hO,c0,if_true]
       (refine Ym.sub (by simp[lk,Ya,AV.keys]) ?_;simp only[Wkl,and_true];(try simp[lk,Yc,Ya,AV.keys]))
     . simp -implicitDefEqProofs[c0,hi,<- hx,hnx,c,wi];simp only[hO,c0,if_false]
       (refine Ym.sub (by simp[lk,Ya,AV.keys]) ?_;simp only[Wkl,Zgr,and_true];(try simp[lk,Yc,Ya,AV.keys]))
 . intro _;refine Qga ?_;by_cases c:opI l l.length=[]
   . simp -implicitDefEqProofs[opW,c];refine Qgr ?_;simp -implicitDefEqProofs[Yg]
   . simp -implicitDefEqProofs[opW,c];refine Qgr ?_;simp -implicitDefEqProofs[Yg,c,ja]
end
def nuI (l:List Nte):List Int:=(opI l l.length).map λj=>(nAt l j).nu
theorem Zgu {l:List Nte} {n:Int}:n∈nuI l↔n∈opU l:=ZdG
theorem Zgv (l:List Nte):(nuI l).length=(opI l l.length).length:=W0N _
def tkN (l:List Nte) (j:Nat):List (List AV):=((nuI l).take j).map ia
theorem Zgw (o:List (Nat×AObj)) (l:List Nte) (j:Nat):Yc o (.row 1 (tkN l j))=true:=Zfv o _
theorem Zgx {l:List Nte} {j:Nat} (h:j<=(nuI l).length):(tkN l j).length=j:=by simp[tkN];omega
theorem Zgy {l:List Nte}:tkN l (nuI l).length=(nuI l).map ia:=by rw[tkN,W0v]
section
variable {G:Nat->Option (List AV)}
theorem Zgz (nl:Bool) (s:List Int) (n:Int) (h:Sml s):PC Tryz.prog G 177 [liA nl s,.int .i64 n] (.bool (decide (n∈s))):=by
 unfold liA
 split
 . rename_i e;rw[e.2]
   (refine Z7h rfl λR hG hrd=>Qga ?_;subst hG)
   simp -implicitDefEqProofs[Z7f,Z7g];refine Za9 (λi=>⟨[(5,.int .i64 i),(0,.nils),(1,.int .i64 n)],[]⟩) (λi=>True) 0 (by (first|exact Ym.tm (by simp[lk])|exact Ym.sub (by simp[lk,Ya,AV.keys]) (by simp[lk,Yc,Ya,AV.keys]))) trivial (λi hi=>by omega) ?_;intro _;refine Qga ?_;simp -implicitDefEqProofs[];refine Qgr ?_;simp -implicitDefEqProofs[]
 . exact Zdm s n h
def tuS (r:List Iss) (l:List Nte) (s:List Int) (j:Nat):St :=
 if j=0 then ⟨[(7,.int .i64 0),(6,.vsl ((opI l l.length).map ja)),(5,.nils),(2,.ptr 2 0),(1,.vsl (s.map ia))],[(2,.box [.vsl (r.map isa),.vsl (l.map na)])]⟩
 else ⟨[(7,.int .i64 j),(6,.vsl ((opI l l.length).map ja)),(5,.osl 28 j),(2,.ptr 2 0),(1,.vsl (s.map ia))],[(28,.row 1 (tkN l j)),(2,.box [.vsl (r.map isa),.vsl (l.map na)])]⟩
set_option maxHeartbeats 1000000 in
theorem ZgA (r:List Iss) (l:List Nte) (s:List Int) (hl:l.length<=12) (hs:Sml s):PC Tryz.prog G 175 [.agg [.vsl (r.map isa),.vsl (l.map na)],.vsl (s.map ia)] (.bool (truB l s)):=by
 have ho:=Zgt (G:=G) r l hl;have hh:=λn=>Zgz (G:=G) true (nuI l) n (by unfold Sml;rw[Zgv];have:=ZdC l l.length;omega)
 have hln:=ZdC l l.length;have hlt:=ZdE l l.length;have hnl:=Zgv l;have hmem:=λn=>Zgu (l:=l) (n:=n)
 have hnat:∀ j,(h:j<(opI l l.length).length)->(nuI l)[j]'(by rw[hnl];exact h)=(nAt l (opI l l.length)[j]).nu:=λj h=>by simp[nuI]
 unfold Sml at hs
 have key : ∀ R:Run,R.G=G->R.Top->∀ (rc:RCode),rc=dropZ 4 Z7i->AR Tryz.prog R rc ⟨[(5,liA true (nuI l)),(1,.vsl (s.map ia))],[]⟩ (Fin Z7j (.bool (truB l s))):=λR hG _ rc hrc=>by
  subst hrc;subst hG;refine Qga ?_;have pN:=Zg9 true (nuI l);have kN:=Zga true (nuI l);simp -implicitDefEqProofs[dropZ,Z7i];generalize liA true (nuI l)=nV at *;refine Za9 (λi=>⟨[(8,.int .i64 i),(5,nV),(1,.vsl (s.map ia))],[]⟩) (λi=>∀ j,j<i->s.getD j 0∈opU l/\(0<j->s.getD (j-1) 0<s.getD j 0)) s.length ?_ (λj hj=>by omega) ?_ ?_
  . ((try simp only[kN]);refine Ym.sub (by simp[lk,Ya,AV.keys,kN]) ?_;simp only[kN,Wkl,and_true];(try simp[lk,Yc,Ya,AV.keys,kN]))
  . intro i hi hI;refine Qga ?_;have wi:IntKind.i64.wrap ((i:Int)+1)=(i:Int)+1:=Yf (by omega) (by omega);have eg:∀ j,∀ hj:j<s.length,s.getD j 0=s[j]:=λj hj=>by simp[W0j,hj]
    have no:¬(s[i]∈opU l/\(0<i->s.getD (i-1) 0<s[i]))->truB l s=false:=λh=>by
     cases q:truB l s
     . rfl
     . have h2:=ZfO.1 q i hi;rw[eg i hi]at h2;exact absurd h2 h
    have yes:(s[i]∈opU l/\(0<i->s.getD (i-1) 0<s[i]))->∀ j,j<i+1->s.getD j 0∈opU l/\(0<j->s.getD (j-1) 0<s.getD j 0):=λh j hj=>by
     rcases W0q j i with h4|h4
     . exact hI j h4
     . obtain rfl:j=i:=(by omega);rw[eg j hi];exact h
    have hh:=hh s[i];have hmm:=hmem s[i];by_cases hm:s[i]∈opU l
    . have d:decide (s[i]∈nuI l)=true:=(by simpa using hmm.2 hm);rw[d]at hh
      cases i with
      | zero =>
        have w1:IntKind.i64.wrap 1=1:=rfl;have h1:=yes ⟨hm,λh=>by omega⟩;simp -implicitDefEqProofs[hi,ia];refine Ye.of hh (by simp[pN,AV.pure]) ?_;simp -implicitDefEqProofs[w1,kN];refine ⟨rfl,?_,?_⟩
        . ((try simp only[kN]);refine Ym.sub (by simp[lk,Ya,AV.keys,kN]) ?_;simp only[kN,Wkl,and_true];(try simp[lk,Yc,Ya,AV.keys,kN]))
        . simpa using h1
      | succ k =>
        have hk:k<s.length:=(by omega);have k1:(k:Int)+1<s.length:=(by omega);have k2:((k:Int)+1).toNat=k+1:=(by omega);have k3:(0:Int)<=(k:Int)+1:=(by omega);have k4:(0:Int)<(k:Int)+1:=(by omega);have wk2:IntKind.i64.wrap (k:Int)=(k:Int):=Yf (by omega) (by omega);have wk3:IntKind.i64.wrap ((k:Int)+1+1)=(k:Int)+1+1:=Yf (by omega) (by omega);have eg:s.getD (k+1-1) 0=s[k]:=(by simp[W0j,hk]);rw[eg]at no yes;simp -implicitDefEqProofs[hi,hk,ia,k1,k2,k3,k4];refine Ye.of hh (by simp[pN,AV.pure]) ?_;by_cases hlt:s[k+1]<=s[k]
        . have hB:=no λh=>by have:=h.2 (by omega);omega
          simp -implicitDefEqProofs[hi,hk,ia,k1,k2,k3,k4,wk2,hlt,kN];refine ⟨rfl,?_⟩;refine Qgr ?_;simp -implicitDefEqProofs[hB,Z7j]
        . have h1:=yes ⟨hm,λ_=>by omega⟩;simp -implicitDefEqProofs[hi,hk,ia,k1,k2,k3,k4,wk2,wk3,hlt,kN];refine ⟨rfl,?_,h1⟩
          ((try simp only[kN]);refine Ym.sub (by simp[lk,Ya,AV.keys,kN]) ?_;simp only[kN,Wkl,and_true];(try simp[lk,Yc,Ya,AV.keys,kN]))
    . have d:decide (s[i]∈nuI l)=false:=by simpa using λh=>hm (hmm.1 h)
      rw[d]at hh;have hB:=no λh=>hm h.1
      simp -implicitDefEqProofs[hi,ia];refine Ye.of hh (by simp[pN,AV.pure]) ?_;simp -implicitDefEqProofs[kN];refine ⟨rfl,?_⟩;refine Qgr ?_;simp -implicitDefEqProofs[hB,Z7j]
  . intro hI;have hB:=ZfO.2 hI;refine Qga ?_;simp -implicitDefEqProofs[];refine Qgr ?_;simp -implicitDefEqProofs[hB,Z7j]
 refine Z7k rfl λR hG hrd=>?_
 subst hG;refine Yb mixed 9 ?_;simp -implicitDefEqProofs[Z7i];refine Qco (ho) (by simp) ?_;simp -implicitDefEqProofs[];have key:=key R rfl hrd _ rfl;unfold Yg;by_cases c:opI l l.length=[]
 . have c':nuI l=[]:=(by rw[nuI,c];rfl);have e2:liA true (nuI l) = .nils:=(by rw[c'];simp[liA]);rw[e2]at key;refine Z2Q mixed 1000 ?_;simp -implicitDefEqProofs[c];refine Za9 (λi=>⟨[(7,.int .i64 i),(6,.nils),(5,.nils),(1,.vsl (s.map ia))],[]⟩) (λ_=>True) 0 ?_ trivial (λi hi=>by omega) ?_
   . (refine Ym.sub (by simp[lk,Ya,AV.keys]) ?_;simp only[Wkl,and_true];(try simp[lk,Yc,Ya,AV.keys]))
   . intro _;refine Qga ?_;simp -implicitDefEqProofs[];refine Z2S mixed 2 ?_;simp -implicitDefEqProofs[];refine GOz (Z2R ?_ key)
     (refine Ym.sub (by simp[lk,Ya,AV.keys]) ?_;simp only[Wkl,and_true];(try simp[lk,Yc,Ya,AV.keys]))
 . have c':nuI l≠[]:=λh=>c (List.map_eq_nil_iff.1 h)
   have e2:liA true (nuI l) = .vsl ((nuI l).map ia):=(by simp[liA,c']);rw[e2]at key;refine Z2Q mixed 1000 ?_;simp -implicitDefEqProofs[c];refine Za9 (tuS r l s) (λ_=>True) (nuI l).length ?_ trivial ?_ ?_
   . simp only[tuS,if_true]
     (refine Ym.sub (by simp[lk,Ya,AV.keys]) ?_;simp only[Wkl,and_true];(try simp[lk,Yc,Ya,AV.keys]))
   . intro j hj _;have hj':j<(opI l l.length).length:=(by omega);have wj:IntKind.i64.wrap ((j:Int)+1)=(j:Int)+1:=Yf (by omega) (by omega);have hna:=hnat j hj';have hkl:=(hlt _ (W0e hj')).1;have tk:=W08 hj;have tl:=Zgx (l:=l) (j:=j) (by omega);rw[hna]at tk;have tk:tkN l (j+1)=tkN l j++[[.int .i64 (nAt l (opI l l.length)[j]).nu]]:=(by unfold tkN;rw[tk,W0r];rfl);generalize hkk:(opI l l.length)[j]=k at *;have hlk:l[k]=nAt l k:=(Zd7 hkl).symm;have hnk:na (nAt l k)=[.int .i64 (nAt l k).nu,.int .i64 (nAt l k).dy,.int .u8 (nAt l k).sg,.int .i64 (nAt l k).dr,.int .i64 (nAt l k).lt,.int .i64 (nAt l k).fr,.int .i64 (nAt l k).tu,.int .i64 (nAt l k).ca,.bool (nAt l k).up,.int .u8 (nAt l k).wy]:=rfl;have bb:((j:Int)+1)*8<=70368744177664:=(by omega);have bb2:(j+1)*8<=70368744177664:=(by omega);refine Qga ?_
     cases j with
     | zero =>
       have w1:IntKind.i64.wrap 1=1:=rfl;simp -implicitDefEqProofs[tuS,hj',hkk,ja,hkl,hlk,hnk,w1];refine ⟨rfl,?_⟩;have e0:tkN l 0=[]:=(by simp[tkN]);rw[e0,W18]at tk;rw[tk]
       ((try simp only[ja]);refine Ym.sub (by simp[lk,Ya,AV.keys,ja]) ?_;simp only[ja,Wkl,and_true];(try simp[lk,Yc,Ya,AV.keys,ja]))
     | succ i =>
       have k1:(i:Int)+1<(opI l l.length).length:=(by omega);have wk3:IntKind.i64.wrap ((i:Int)+1+1)=(i:Int)+1+1:=Yf (by omega) (by omega);have k2:((i:Int)+1).toNat=i+1:=(by omega);have k3:(0:Int)<=(i:Int)+1:=(by omega);simp -implicitDefEqProofs[tuS,hj',hkk,ja,hkl,hlk,hnk,tl,bb,bb2,k1,k2,k3,wk3];refine ⟨rfl,?_⟩;rw[<- tk]
       ((try simp only[ja]);refine Ym.sub (by simp[lk,Ya,AV.keys,ja]) ?_;simp only[ja,Wkl,Zgw,and_true];(try simp[lk,Yc,Ya,AV.keys,ja]))
   . intro _;refine Qga ?_;simp -implicitDefEqProofs[tuS,hnl,c];refine Z2S mixed 2 ?_;simp -implicitDefEqProofs[];refine GOz (Z2R (Ym.trans (Ym.frz (λk=>k == 28) _) ?_) key);rw[<- hnl,Zgy]
     ((try simp only[Yi,frzA,frzO,frz,Yh,Yj,St.get,ia]);refine Ym.sub (by simp[lk,Ya,AV.keys,Yi,frzA,frzO,frz,Yh,Yj,St.get,ia]) ?_;simp only[Yi,frzA,frzO,frz,Yh,Yj,St.get,ia,Wkl,and_true];(try simp[lk,Yc,Ya,AV.keys,Yi,frzA,frzO,frz,Yh,Yj,St.get,ia]))
def rbK (f:Nat->Bool) (n k:Nat):List Bool:=(List.range n).map λj=>decide (k<=j)&&f j
theorem ZgB {f:Nat->Bool} {n k:Nat}:(rbK f n k).length=n:=by simp[rbK]
theorem ZgC {f:Nat->Bool} {n k j:Nat} (h:k<=j) (h2:j<n):(rbK f n k)[j]? = some (f j):=by
 rw[W07 (by rw[ZgB];exact h2)];simp[rbK,h]
theorem ZgD {f:Nat->Bool} {n k:Nat}:(rbK f n (k+1)).set k (f k)=rbK f n k:=by
 refine W1J (by simp[rbK]) λj h1 h2=>?_
 rw[List.getElem_set]
 split
 . rename_i e;subst e;simp[rbK]
 . rename_i e;have:decide (k+1<=j)=decide (k<=j):=(by rw[decide_eq_decide];omega);simp only[rbK,W1w,List.getElem_range,this]
def ba (b:Bool):List AV:=[.bool b]
theorem ZgE (o:List (Nat×AObj)) (l:List Bool):Yc o (.row 1 (l.map ba))=true:=by
 simp only[Yc,W03,W0i];rintro x ⟨y,-,rfl⟩ v hv;simp only[ba,W0B]at hv;subst hv;simp[Ya,AV.keys]
theorem ZgF {f:Nat->Bool} {n:Nat}:(rbK f n n).map ba=List.replicate n [.bool false]:=by
 refine W1J (by simp[rbK]) λj h1 h2=>?_
 have:¬n<=j:=(by simp at h2;omega);simp[rbK,ba,this]
set_option maxHeartbeats 2000000 in
theorem ZgG (r:List Iss) (l:List Nte) (ns nw:Bool) (s w:List Int) (m:Int) (hl:l.length<=12) (hs:Sml s) (hw:Sml w) :
  PC Tryz.prog G 146 [.agg [.vsl (r.map isa),.vsl (l.map na)],liA ns s,liA nw w,.int .i64 m] (.vsl ((rbK (fB s w m l) l.length 0).map ba)):=by
 have c1:=λn=>Zgz (G:=G) ns s n hs
 have c2:=λn=>Zgz (G:=G) nw w n hw
 have c3:=λn lo hi=>Zdl (G:=G) n lo hi
 have k1:=Zga ns s;have k2:=Zga nw w;have p1:=Zg9 ns s;have p2:=Zg9 nw w;generalize liA ns s=sV at *;generalize liA nw w=wV at *;refine Z7n rfl λR hG hrd=>?_
 subst hG;refine Qga ?_;have b1:(l.length:Int)<=16777216:=(by omega);have rep:=ZgF (f:=fB s w m l) (n:=l.length);have rln:=λk=>ZgB (f:=fB s w m l) (n:=l.length) (k:=k)
 have w0:IntKind.i64.wrap ((l.length:Int)-1)=(l.length:Int)-1:=Yf (by omega) (by omega);simp -implicitDefEqProofs[Z7l,Z7m,b1,<- rep,w0];refine Z1Q (λk:Nat=>⟨[(10,.int .i64 ((k:Int)-1)),(9,.osl 17 l.length),(4,.ptr 4 0),(1,sV),(2,wV),(3,.int .i64 m)],[(17,.row 1 ((rbK (fB s w m l) l.length k).map ba)),(4,.box [.vsl (r.map isa),.vsl (l.map na)])]⟩) (λk=>k<=l.length) (λk=>k) l.length ?_ (W0f _) ?_
 . ((try simp only[k1,k2]);refine Ym.sub (by simp[lk,Ya,AV.keys,k1,k2]) ?_;simp only[k1,k2,Wkl,ZgE,and_true];(try simp[lk,Yc,Ya,AV.keys,k1,k2]))
 . intro k hk
   cases k with
   | zero =>
     have rl0:=rln 0;refine Qga ?_;simp -implicitDefEqProofs[];refine Qgr ?_;simp -implicitDefEqProofs[ba,rl0]
   | succ k =>
     have hi:k<l.length:=hk;have hx:=Zd7 hi;have hnx:na (nAt l k)=[.int .i64 (nAt l k).nu,.int .i64 (nAt l k).dy,.int .u8 (nAt l k).sg,.int .i64 (nAt l k).dr,.int .i64 (nAt l k).lt,.int .i64 (nAt l k).fr,.int .i64 (nAt l k).tu,.int .i64 (nAt l k).ca,.bool (nAt l k).up,.int .u8 (nAt l k).wy]:=rfl;have fe:=Zdd (p:=bsF s w m) (h:=λx y:Nte=>decide (y.ca=x.nu)) hi;rw[<- hx]at fe;have gb:=Zde (p:=bsF s w m) (h:=λx y:Nte=>decide (y.ca=x.nu)) (l:=l) (x:=nAt l k) (i:=k);have gs:=λj=>Zdf (p:=bsF s w m) (h:=λx y:Nte=>decide (y.ca=x.nu)) (l:=l) (x:=nAt l k) (i:=k) (k:=j)
     have fbs:fB s w m l k=gwB (bsF s w m) (λx y=>decide (y.ca=x.nu)) l (nAt l k) k l.length:=fe;have rat:=λj (h:k+1<=j) (h2:j<l.length)=>ZgC (f:=fB s w m l) h h2
     have rst:=ZgD (f:=fB s w m l) (n:=l.length) (k:=k);have rln1:=rln (k+1);rw[fbs]at rst;have c1:=c1 (nAt l k).nu;have c2:=c2 (nAt l k).nu;have c3:=c3 m (nAt l k).fr (nAt l k).tu;have w1:IntKind.i64.wrap ((k:Int)+1)=((k+1:Nat):Int):=Yf (by omega) (by omega);generalize hxx:nAt l k=x at *;have hlx:l[k]=x:=hx.symm;generalize hQQ:rbK (fB s w m l) l.length (k+1)=Q at *;refine Yb mixed 13 ?_;simp -implicitDefEqProofs[hi,hlx,hnx];refine ZfK (S:=⟨[(10,.int .i64 k),(11,.ptr 11 0),(12,.bool (bsF s w m x)),(9,.osl 17 l.length),(4,.ptr 4 0),(1,sV),(2,wV),(3,.int .i64 m)],[(11,.box (na x)),(17,.row 1 (Q.map ba)),(4,.box [.vsl (r.map isa),.vsl (l.map na)])]⟩) (Qga ?_) ?_
     . unfold bsF;by_cases e1:x.sg=2
       . simp -implicitDefEqProofs[hnx,e1];refine Yd.of c2 (by simp[p2,AV.pure]) ?_;by_cases e2:x.nu∈w
         . simp -implicitDefEqProofs[e2]
           ((try simp only[k1,k2,hnx]);refine Ym.sub (by simp[lk,Ya,AV.keys,k1,k2,hnx]) ?_;simp only[k1,k2,hnx,Wkl,ZgE,and_true];(try simp[lk,Yc,Ya,AV.keys,k1,k2,hnx]))
         . simp -implicitDefEqProofs[e2];refine Qco (c3) (by simp) ?_;simp -implicitDefEqProofs[]
           ((try simp only[k1,k2,hnx]);refine Ym.sub (by simp[lk,Ya,AV.keys,k1,k2,hnx]) ?_;simp only[k1,k2,hnx,Wkl,ZgE,and_true];(try simp[lk,Yc,Ya,AV.keys,k1,k2,hnx]))
       . simp -implicitDefEqProofs[hnx,e1];refine Yd.of c1 (by simp[p1,AV.pure]) ?_;by_cases e3:x.nu∈s
         . simp -implicitDefEqProofs[e3];refine Yd.of c2 (by simp[p2,AV.pure]) ?_;by_cases e2:x.nu∈w
           . simp -implicitDefEqProofs[e2]
             ((try simp only[k1,k2,hnx]);refine Ym.sub (by simp[lk,Ya,AV.keys,k1,k2,hnx]) ?_;simp only[k1,k2,hnx,Wkl,ZgE,and_true];(try simp[lk,Yc,Ya,AV.keys,k1,k2,hnx]))
           . simp -implicitDefEqProofs[e2];refine Qco (c3) (by simp) ?_;simp -implicitDefEqProofs[]
             ((try simp only[k1,k2,hnx]);refine Ym.sub (by simp[lk,Ya,AV.keys,k1,k2,hnx]) ?_;simp only[k1,k2,hnx,Wkl,ZgE,and_true];(try simp[lk,Yc,Ya,AV.keys,k1,k2,hnx]))
         . simp -implicitDefEqProofs[e3]
           ((try simp only[k1,k2,hnx]);refine Ym.sub (by simp[lk,Ya,AV.keys,k1,k2,hnx]) ?_;simp only[k1,k2,hnx,Wkl,ZgE,and_true];(try simp[lk,Yc,Ya,AV.keys,k1,k2,hnx]))
     rw[<- gb];refine Qga ?_;simp -implicitDefEqProofs[w1];refine Z1Q (λp:Nat=>⟨[(13,.int .i64 (p:Int)),(10,.int .i64 k),(11,.ptr 11 0),(12,.bool (gwB (bsF s w m) (λx y=>decide (y.ca=x.nu)) l x k p)),(9,.osl 17 l.length),(4,.ptr 4 0),(1,sV),(2,wV),(3,.int .i64 m)],[(11,.box (na x)),(17,.row 1 (Q.map ba)),(4,.box [.vsl (r.map isa),.vsl (l.map na)])]⟩) (λp=>k+1<=p/\p<=l.length) (λp=>l.length-p) (k+1) ?_ ⟨W0f _,hi⟩ ?_
     . ((try simp only[k1,k2,hnx]);refine Ym.sub (by simp[lk,Ya,AV.keys,k1,k2,hnx]) ?_;simp only[k1,k2,hnx,Wkl,ZgE,and_true];(try simp[lk,Yc,Ya,AV.keys,k1,k2,hnx]))
     . rintro p ⟨hp1,hp2⟩;refine Qga ?_;rcases W0q p l.length with h5|h5
       . have hrat:=rat p hp1 h5;obtain ⟨q1,g1⟩:=W02.1 hrat;have hg:=gs p (by omega) h5;have hy:=Zd7 h5;have hny:na (nAt l p)=[.int .i64 (nAt l p).nu,.int .i64 (nAt l p).dy,.int .u8 (nAt l p).sg,.int .i64 (nAt l p).dr,.int .i64 (nAt l p).lt,.int .i64 (nAt l p).fr,.int .i64 (nAt l p).tu,.int .i64 (nAt l p).ca,.bool (nAt l p).up,.int .u8 (nAt l p).wy]:=rfl;have w2:IntKind.i64.wrap ((p:Int)+1)=(p:Int)+1:=Yf (by omega) (by omega);rw[<- hy]at hg;replace hg:_=(_ && !(fB s w m l p&&_)):=hg;generalize hyy:nAt l p=y at *;have hly:l[p]=y:=hy.symm;generalize fB s w m l p=fb at *
         cases hb:gwB (bsF s w m) (λx y=>decide (y.ca=x.nu)) l x k p
         . rw[hb,W1L]at hg;simp -implicitDefEqProofs[hb,h5,hnx,w2];refine ⟨rfl,p+1,?_,⟨by omega,h5⟩,(by show l.length-(p+1)<l.length-p;omega)⟩;simp only[hg]
           ((try simp only[k1,k2,hnx]);refine Ym.sub (by simp[lk,Ya,AV.keys,k1,k2,hnx]) ?_;simp only[k1,k2,hnx,Wkl,ZgE,and_true];(try simp[lk,Yc,Ya,AV.keys,k1,k2,hnx]))
         . rw[hb,W1k]at hg
           cases fb
           . rw[W1L,W1F]at hg;simp -implicitDefEqProofs[hb,h5,hnx,w2,rln1,g1,ba];refine ⟨rfl,p+1,?_,⟨by omega,h5⟩,(by show l.length-(p+1)<l.length-p;omega)⟩;simp only[hg]
             ((try simp only[k1,k2,hnx]);refine Ym.sub (by simp[lk,Ya,AV.keys,k1,k2,hnx]) ?_;simp only[k1,k2,hnx,Wkl,ZgE,and_true];(try simp[lk,Yc,Ya,AV.keys,k1,k2,hnx]))
           . rw[W1k]at hg;simp -implicitDefEqProofs[hb,h5,hnx,w2,rln1,g1,ba,hly,hny];refine ⟨rfl,p+1,?_,⟨by omega,h5⟩,(by show l.length-(p+1)<l.length-p;omega)⟩;simp only[hg]
             ((try simp only[k1,k2,hnx]);refine Ym.sub (by simp[lk,Ya,AV.keys,k1,k2,hnx]) ?_;simp only[k1,k2,hnx,Wkl,ZgE,and_true];(try simp[lk,Yc,Ya,AV.keys,k1,k2,hnx]))
       . obtain rfl:p=l.length:=(by omega);simp -implicitDefEqProofs[];refine Qgr ?_;have e1:∀ b:Bool,[AV.bool b]=ba b:=λ_=>rfl
         have wk:IntKind.i64.wrap ((k:Int)-1)=(k:Int)-1:=Yf (by omega) (by omega);simp -implicitDefEqProofs[hi,rln1,ba,wk];refine Qgr ?_;simp -implicitDefEqProofs[wk];refine ⟨k,?_,by omega,W2w _⟩;simp only[e1];rw[<- W2s,rst]
         ((try simp only[k1,k2,hnx]);refine Ym.sub (by simp[lk,Ya,AV.keys,k1,k2,hnx]) ?_;simp only[k1,k2,hnx,Wkl,ZgE,and_true];(try simp[lk,Yc,Ya,AV.keys,k1,k2,hnx]))
end
theorem ZgH {r:List Iss} {l:List Nte} (h:chN r l=0):Zda r l=true:=by
 unfold chN at h
 split at h
 . cases q:Zda r l
   . rw[q]at h;cases h
   . rfl
 . rename_i e;exact absurd h e
theorem ZgI {r:List Iss} {l:List Nte} {s:List Int} {m:Int} (h:asN r l s m=0):chN r l=0/\truB l s=true/\inR m 1 999=true:=by
 unfold asN at h
 split at h
 . rename_i h1
   split at h
   . rename_i h2
     split at h
     . rename_i h3;exact ⟨h1,h2,h3⟩
     . cases h
   . cases h
 . rename_i e;exact absurd h e
theorem ZgJ {r:List Iss} {l:List Nte} (h:Zda r l=true):l.length<=12:=by simp only[Zda,W01,W0b]at h;exact h.1.1
section
variable {G:Nat->Option (List AV)}
theorem ZgK (r:List Iss) (l:List Nte) (s:List Int) (m:Int) (hw:WfN l) (hr:Wf r) (hs:Sml s):PC Tryz.prog G 143 [.agg [.vsl (r.map isa),.vsl (l.map na)],.vsl (s.map ia),.int .i64 m] (.int .i64 (asN r l s m)):=by
 have hc:=ZdL (G:=G) r l hw hr;have hi:=Zdl (G:=G) m 1 999
 (refine Z7q rfl λR hG hrd=>Qga ?_;subst hG)
 unfold asN;by_cases h0:chN r l=0
 . have ht:=ZgA (G:=R.G) r l s (ZgJ (ZgH h0)) hs;simp -implicitDefEqProofs[Z7o,Z7p];refine Qco (hc) (by simp) ?_;simp -implicitDefEqProofs[h0];refine Qco (ht) (by simp) ?_
   cases q:truB l s
   . simp -implicitDefEqProofs[]
   . simp -implicitDefEqProofs[];refine Qco (hi) (by simp) ?_
     cases q2:inR m 1 999
     . simp -implicitDefEqProofs[]
     . simp -implicitDefEqProofs[]
 . simp -implicitDefEqProofs[Z7o,Z7p];refine Qco (hc) (by simp) ?_;simp -implicitDefEqProofs[h0]
end
section
variable {G:Nat->Option (List AV)}
theorem ZgL {x y:Nte} (h:x≠y):(!decide (x.nu=y.nu)||(!decide (x.dy=y.dy)||(!decide (x.sg=y.sg)||(!decide (x.dr=y.dr)||(!decide (x.lt=y.lt)||(!decide (x.fr=y.fr)||(!decide (x.tu=y.tu)||(!decide (x.ca=y.ca)||(!(x.up == y.up) || !decide (x.wy=y.wy))))))))))=true:=by
 cases q:(!decide (x.nu=y.nu)||(!decide (x.dy=y.dy)||(!decide (x.sg=y.sg)||(!decide (x.dr=y.dr)||(!decide (x.lt=y.lt)||(!decide (x.fr=y.fr)||(!decide (x.tu=y.tu)||(!decide (x.ca=y.ca)||(!(x.up == y.up) || !decide (x.wy=y.wy))))))))))
 . refine absurd ?_ h;simp at q
   cases x;cases y;simp_all
 . rfl
theorem ZgM (a b:List Iss) (l k:List Nte) (ha:SmlR a) (hl:Sml l):PC Tryz.prog G 79 [.agg [.vsl (a.map isa),.vsl (l.map na)],.agg [.vsl (b.map isa),.vsl (k.map na)]] (.bool (decide (a=b/\l=k))):=by
 have hs:=Zam (G:=G) a b ha;rw[rega,rega]at hs;unfold Sml at hl
 (refine Z7t rfl λR hG hrd=>Qga ?_;subst hG)
 simp -implicitDefEqProofs[Z7r,Z7s];refine Qco (hs) (by simp) ?_;by_cases h1:a=b
 . by_cases h2:l.length=k.length
   . have h2':(l.length:Int)=k.length:=(by omega);simp -implicitDefEqProofs[h1,h2'];refine Za9 (λi=>⟨[(5,.int .i64 i),(2,.ptr 2 0),(3,.ptr 3 0)],[(2,.box [.vsl (b.map isa),.vsl (l.map na)]),(3,.box [.vsl (b.map isa),.vsl (k.map na)])]⟩) (λi=>∀ j (h:j<l.length),j<i->l[j]=k[j]) l.length (by subst h1;(first|exact Ym.tm (by simp[lk])|exact Ym.sub (by simp[lk,Ya,AV.keys]) (by simp[lk,Yc,Ya,AV.keys]))) (by simp) ?_ ?_
     . intro i hi he;have hi2:i<k.length:=(by omega);have w1:IntKind.i64.wrap ((i:Int)+1)=(i:Int)+1:=Yf (by omega) (by omega);refine Qga ?_;by_cases h2:l[i]=k[i]
       . simp -implicitDefEqProofs[hi,hi2,na,w1,h2];refine ⟨rfl,by (first|exact Ym.tm (by simp[lk])|exact Ym.sub (by simp[lk,Ya,AV.keys]) (by simp[lk,Yc,Ya,AV.keys])),λj h1 h3=>?_⟩;by_cases e:j=i
         . subst e;exact h2
         . exact he j h1 (by omega)
       . have h3:¬l=k:=λe=>h2 (by subst e;rfl)
         have ne:=ZgL h2;simp -implicitDefEqProofs[hi,hi2,na,w1,ne];refine ⟨rfl,?_⟩;refine Qgr ?_;simp -implicitDefEqProofs[h3]
     . intro he;have h3:l=k:=W1J h2 λj h1 h2=>he j h1 h1
       refine Qga ?_;simp -implicitDefEqProofs[];refine Qgr ?_;simp -implicitDefEqProofs[h3,h1]
   . have h2':¬(l.length:Int)=k.length:=(by omega);have h3:¬l=k:=λe=>h2 (by rw[e])
     simp -implicitDefEqProofs[h1,h2',h3]
 . simp -implicitDefEqProofs[h1]
theorem ZgN (r:List Iss) (l:List Nte) (hr:SmlR r) (hl:Sml l):PC Tryz.prog G 68 [.agg [.vsl (r.map isa),.vsl (l.map na)]] (.agg [.vsl (r.map isa),.vsl (l.map na)]):=by
 have ht:=Zd2 (G:=G) r hr;rw[rega]at ht;unfold Sml at hl
 (refine Z7w rfl λR hG hrd=>Qga ?_;subst hG)
 by_cases h0:l=[]
 . simp -implicitDefEqProofs[Z7u,Z7v,h0];refine Qco (ht) (by simp) ?_;simp -implicitDefEqProofs[h0]
   try rfl
 . have b2:l.length*72<=70368744177664:=(by omega);simp -implicitDefEqProofs[Z7u,Z7v,h0];refine Qco (ht) (by simp) ?_;simp -implicitDefEqProofs[h0,na,b2]
   try rfl
end
section
variable {G:Nat->Option (List AV)}
end
section
variable {G:Nat->Option (List AV)}
end
section
variable {G:Nat->Option (List AV)}
end
def Nsub (x y:AV):Prop:=∀ (M:Nat->Prop) (W:World) (u:Value),PV M W x u->PV M W y u
theorem Nsub.rfl' {x:AV}:Nsub x x:=λ_ _ _ h=>h
theorem Nsub.nils:Nsub .nils (.vsl []):=λ_ _ _ h=>by
 cases h
 exact .vsl [] none 0 1 0 0 (λ_ _=>undef) (W0f _) (W1f _) (λh=>absurd rfl h) (λ_=>⟨rfl,rfl⟩) (by simp) (by simp) (by simp)
theorem Nsub.orNil (l:List (List AV)):Nsub (Yg l) (.vsl l):=by
 unfold Go.Proofs.YtcdlimgkliklhaaGreatDoor.Yg
 split
 . rename_i e;rw[e];exact .nils
 . exact .rfl'
def NsubL:List AV->List AV->Prop
 |[],[]=>True
 |x::xs,y::ys=>Nsub x y/\NsubL xs ys
 |_,_=>False
theorem NsubL.len:∀ {xs ys:List AV},NsubL xs ys->xs.length=ys.length
 |[],[],_=>rfl
 |_::_,_::_,h=>by simp only[W1p,NsubL.len h.2]
 |[],_::_,h=>h.elim
 |_::_,[],h=>h.elim
theorem NsubL.at:∀ {xs ys:List AV},NsubL xs ys->∀ (i:Nat) (y:AV),ys[i]? = some y->∃ x,xs[i]? = some x/\Nsub x y
 |[],[],_,i,y,h=>by simp at h
 | x::xs,y::ys,h,0,z,e=>by
   simp only[W2j,W00]at e;subst e;exact ⟨x,rfl,h.1⟩
 | x::xs,y::ys,h,i+1,z,e=>by
   simp only[List.getElem?_cons_succ]at e;obtain ⟨w,h1,h2⟩:=NsubL.at h.2 i z e;exact ⟨w,by simpa using h1,h2⟩
 |[],_::_,h,_,_,_=>h.elim
 |_::_,[],h,_,_,_=>h.elim
theorem Nsub.agg {xs ys:List AV} (h:NsubL xs ys):Nsub (.agg xs) (.agg ys):=λM W u hu=>by
 cases hu with
 | agg _ us h1 hx =>
   refine .agg ys us (by rw[h1,h.len]) λi y u hy hu=>?_
   obtain ⟨x,h2,h3⟩:=h.at i y hy;exact h3 _ _ _ (hx i x u h2 hu)
theorem PC.sub {P:Program} {G:Nat->Option (List AV)} {f:FuncId} {xs ys:List AV} {v:AV} (h:PC P G f ys v) (hs:NsubL xs ys):PC P G f xs v :=
 ⟨h.1,λM W vs hM hG hz hv=>h.2 M W vs hM hG (hz.trans hs.len) λi y u hi hu=>by
  obtain ⟨x,h2,h3⟩:=hs.at i y hi;exact h3 _ _ _ (hv i x u h2 hu)⟩
section
variable {G:Nat->Option (List AV)}
end
section
variable {G:Nat->Option (List AV)}
end
section
variable {G:Nat->Option (List AV)}
def rfp (d l:Int) (x:Iss):Bool:=decide (x.d=d/\x.l=l)
theorem ZgO {r:List Iss} {d l:Int}:(findN d l r).isSome=r.any (rfp d l):=by
 induction r with
 |nil=>rfl
 | cons x r ih =>
   simp only[findN,List.any_cons]
   split
   . rename_i h;simp[rfp,h]
   . rename_i h;have:rfp d l x=false:=W0S h;rw[ih,this,W1P]
end
section
variable {G:Nat->Option (List AV)}
end
section
variable {G:Nat->Option (List AV)}
end
section
variable {G:Nat->Option (List AV)}
end
section
variable {G:Nat->Option (List AV)}
end
section
variable {G:Nat->Option (List AV)}
end
section
variable {G:Nat->Option (List AV)}
end
abbrev Rf:=Int×Int
def frS (x:Stq):Rf:=(x.fd,x.fl)
def toS (x:Stq):Rf:=(x.td,x.tl)
def edg (L:List Stq):List (Rf×Rf):=L.map λx=>(frS x,toS x)
def pth (E:List (Rf×Rf)) (y:Rf):Nat->Rf->Bool
 |0,x=>decide (x=y)
 |n+1,x=>E.any λe=>decide (e.1=x)&&pth E y n e.2
def diN (E:List (Rf×Rf)) (y x:Rf):Option Nat:=(List.range (E.length+1)).find? λn=>pth E y n x
def diV (E:List (Rf×Rf)) (y x:Rf):Int:=match diN E y x with
 |some n=>n
 |none=>1048576
def md (E:List (Rf×Rf)) (y:Rf) (n:Nat) (x:Rf):Prop:=pth E y n x=true/\∀ m,m<n->pth E y m x=false
section
variable {E:List (Rf×Rf)} {x y z:Rf} {n m:Nat}
theorem ZgP:pth E y (n+1) x=true↔∃ e∈E,e.1=x/\pth E y n e.2=true:=by
 simp[pth,W14]
theorem ZgQ (h1:md E y n x) (h2:md E y m x):n=m:=by
 rcases W0R n m with h|h|h
 . have:=h2.2 n h;rw[h1.1]at this;cases this
 . exact h
 . have:=h1.2 m h;rw[h2.1]at this;cases this
theorem md_of:∀ n,pth E y n x=true->∃ m,m<=n/\md E y m x:=by
 intro n
 induction n using Nat.strongRecOn with
 | _ n ih =>
   intro h;by_cases c:∃ m,m<n/\pth E y m x=true
   . obtain ⟨m,h1,h2⟩:=c;obtain ⟨k,h3,h4⟩:=ih m h1 h2;exact ⟨k,by omega,h4⟩
   . refine ⟨n,W0f _,h,λm hm=>?_⟩
     cases q:pth E y m x
     . rfl
     . exact absurd ⟨m,hm,q⟩ c
theorem ZgR (h:md E y (n+1) x):∃ e∈E,e.1=x/\md E y n e.2:=by
 obtain ⟨e,h1,h2,h3⟩:=ZgP.1 h.1;refine ⟨e,h1,h2,h3,λm hm=>?_⟩
 cases q:pth E y m e.2
 . rfl
 . have:=h.2 (m+1) (by omega);rw[ZgP.2 ⟨e,h1,h2,q⟩]at this;cases this
theorem ZgS:∀ (n:Nat) (x:Rf),md E y n x->∃ ss:List Rf,ss.length=n/\(∀ s∈ss,s∈E.map (·.1)/\∃ k,k<=n/\0<k/\md E y k s)/\ss.Nodup
 |0,x,_=>⟨[],rfl,by simp,.nil⟩
 | n + 1,x,h=>by
   obtain ⟨e,h1,h2,h3⟩:=ZgR h;obtain ⟨ss,l1,l2,l3⟩:=ZgS n e.2 h3;refine ⟨x::ss,by simp[l1],?_,W1z.2 ⟨λhm=>?_,l3⟩⟩
   . intro s hs;rcases W0g.1 hs with rfl|hs
     . exact ⟨W0i.2 ⟨e,h1,h2⟩,n+1,W0f _,by omega,h⟩
     . obtain ⟨q1,k,q2,q3,q4⟩:=l2 s hs;exact ⟨q1,k,by omega,q3,q4⟩
   . obtain ⟨-,k,q2,-,q4⟩:=l2 x hm;have:=ZgQ h q4;omega
theorem md_le (h:md E y n x):n<=E.length:=by
 obtain ⟨ss,l1,l2,l3⟩:=ZgS n x h;have:=List.Nodup.length_le_of_subset l3 (l₂:=E.map (·.1)) λs hs=>(l2 s hs).1
 simpa [l1] using this
theorem ZgT:diN E y x=some n↔md E y n x:=by
 unfold diN
 constructor
 . intro h;have h1:=List.find?_some h;refine ⟨h1,λm hm=>?_⟩;obtain ⟨-,us,vs,e,h2⟩:=List.find?_eq_some_iff_append.1 h;have e1:∀ k:Nat,(List.range (E.length+1))[k]? = (us++n::vs)[k]?:=λk=>by rw[e]
   have hn:us.length=n:=by
    have h3:=e1 us.length;rw[W0o (W0f _),W2r,W2j]at h3;obtain ⟨h4,h5⟩:=W02.1 h3;rw[List.getElem_range]at h5;exact h5
   have hm2:m∈us:=by
    have h3:=e1 m;have hl:m<(List.range (E.length+1)).length:=(by rw[e,W0s];omega);rw[W0E (by omega),W07 hl,List.getElem_range]at h3;exact W0d h3.symm
   simpa using h2 m hm2
 . intro h;have hl:=md_le h;rw[List.find?_eq_some_iff_append];refine ⟨h.1,List.range n,(List.range (E.length-n)).map (n+1 + ·),?_,λm hm=>?_⟩
   . have:E.length+1=n+1+(E.length-n):=(by omega);rw[this,List.range_add,W1y,W0U];rfl
   . simp[h.2 m (W1u.1 hm)]
theorem ZgU:diN E y x=none↔∀ n,pth E y n x=false:=by
 constructor
 . intro h n
   cases q:pth E y n x
   . rfl
   . obtain ⟨m,-,hm⟩:=md_of n q;rw[ZgT.2 hm]at h;cases h
 . intro h
   cases q:diN E y x with
   |none=>rfl
   | some n =>
     have:=(ZgT.1 q).1;rw[h n]at this;cases this
end
section
variable {G:Nat->Option (List AV)}
end
structure BfI (E:List (Rf×Rf)) (l:List Rf) (y:Rf) (out:List Int):Prop where
 len:out.length=l.length
 ok:∀ (i:Nat) (v:Int) (x:Rf),out[i]? = some v->l[i]? = some x->0<=v/\v<=1048576/\(v=1048576∨pth E y v.toNat x=true)/\(x=y->v=0)
def rlx (l:List Rf) (out:List Int) (e:Rf×Rf):Prop:=∃ (ka kb:Nat) (va vb:Int),l[ka]? = some e.1/\l[kb]? = some e.2/\out[ka]? = some va/\out[kb]? = some vb/\vb+1<va
def NoR (E:List (Rf×Rf)) (l:List Rf) (out:List Int):Prop:=∀ e∈E,¬rlx l out e
def NoI (L:List Stq) (l:List Rf) (out:List Int) (i:Nat):Prop:=∀ j (h:j<L.length),j<i->¬rlx l out (frS L[j],toS L[j])
theorem NoI.all {L:List Stq} {l:List Rf} {out:List Int} (h:NoI L l out L.length):NoR (edg L) l out:=by
 intro e he;obtain ⟨x,hx,rfl⟩:=W0i.1 he;obtain ⟨j,hj,rfl⟩:=W0k hx;exact h j hj hj
theorem NoI.step {L:List Stq} {l:List Rf} {out:List Int} {i:Nat} (h:NoI L l out i) (hi:i<L.length) (h1:¬rlx l out (frS L[i],toS L[i])):NoI L l out (i+1):=by
 intro j hj hji;rcases W0q j i with q|q
 . exact h j hj q
 . obtain rfl:j=i:=(by omega);exact h1
theorem BfI.start {E:List (Rf×Rf)} {l:List Rf} {y:Rf} {k:Nat} (hn:l.Nodup) (hk:l[k]? = some y):BfI E l y ((List.replicate l.length 1048576).set k 0):=by
 refine ⟨by simp,λi v x hv hx=>?_⟩;have hi:i<l.length:=(W02.1 hx).1;rw[W2q]at hv
 split at hv
 . rename_i e;subst e;rw[W1I,if_pos hi,W00]at hv;rw[hk,W00]at hx;subst hv;subst hx;exact ⟨by omega,by omega,.inr (by simp[pth]),λ_=>rfl⟩
 . rename_i e;rw[List.getElem?_replicate,if_pos hi,W00]at hv;subst hv;refine ⟨by omega,by omega,.inl rfl,?_⟩;rintro rfl;exact absurd ((List.getElem?_inj hi hn).1 (hx.trans hk.symm)) (λq=>e q.symm)
theorem BfI.step {E:List (Rf×Rf)} {l:List Rf} {y:Rf} {out:List Int} (h:BfI E l y out) (hn:l.Nodup) {e:Rf×Rf} (he:e∈E) {ka kb:Nat} {va vb:Int} (h1:l[ka]? = some e.1) (h2:l[kb]? = some e.2) (h3:out[ka]? = some va) (h4:out[kb]? = some vb) (h5:vb+1<va) :
  BfI E l y (out.set ka (vb+1)):=by
 refine ⟨by simp[h.len],λi v x hv hx=>?_⟩;rw[W2q]at hv
 split at hv
 . rename_i q;subst q;have hi:ka<out.length:=(W02.1 h3).1;rw[if_pos hi,W00]at hv;subst hv;obtain ⟨a1,a2,a3,a4⟩:=h.ok kb vb _ h4 h2;obtain ⟨b1,b2,b3,b4⟩:=h.ok ka va x h3 hx;rw[h1,W00]at hx;subst hx;refine ⟨by omega,by omega,.inr ?_,λq=>?_⟩
   . rcases a3 with a3|a3
     . omega
     . rw[show (vb+1).toNat=vb.toNat+1 by omega];exact ZgP.2 ⟨e,he,rfl,a3⟩
   . have:=b4 q;omega
 . exact h.ok i v x hv hx
theorem BfI.fin {E:List (Rf×Rf)} {l:List Rf} {y:Rf} {out:List Int} (h:BfI E l y out) (hE:E.length<=1000) (hl:∀ e∈E,e.1∈l/\e.2∈l) (hr:∀ e∈E,¬rlx l out e):out=l.map (diV E y):=by
 have low:∀ (m:Nat) (i:Nat) (v:Int) (x:Rf),out[i]? = some v->l[i]? = some x->pth E y m x=true->v<=m:=by
  intro m
  induction m with
  | zero =>
    intro i v x hv hx hp;have:x=y:=(by simpa [pth] using hp);have:=(h.ok i v x hv hx).2.2.2 this;omega
  | succ m ih =>
    intro i v x hv hx hp;obtain ⟨e,he,rfl,hp2⟩:=ZgP.1 hp;obtain ⟨kb,hkb,hb⟩:=W0k (hl e he).2;have hb':l[kb]? = some e.2:=(by rw[W07 hkb,hb]);have hkb2:kb<out.length:=(by rw[h.len];exact hkb);have h2:=ih kb _ _ (W07 hkb2) hb' hp2;rcases Int.lt_or_le (out[kb]+1) v with h3|h3
    . exact absurd ⟨i,kb,v,out[kb],hx,hb',hv,W07 hkb2,h3⟩ (hr e he)
    . omega
 refine List.ext_getElem? λi=>?_
 rw[W09];by_cases hi:i<l.length
 . have hi2:i<out.length:=(by rw[h.len];exact hi);rw[W07 hi2,W07 hi,W0m,W00];obtain ⟨a1,a2,a3,-⟩:=h.ok i _ _ (W07 hi2) (W07 hi);have hlow:=λm=>low m i _ _ (W07 hi2) (W07 hi)
   unfold diV
   cases q:diN E y l[i] with
   | none =>
     rcases a3 with a3|a3
     . exact a3
     . rw[ZgU.1 q]at a3;cases a3
   | some n =>
     have hm:=ZgT.1 q;have hle:=md_le hm;have h1:=hlow n hm.1;rcases a3 with a3|a3
     . omega
     . have h2:n<=out[i].toNat:=by
        rcases W0q out[i].toNat n with h2|h2
        . have:=hm.2 _ h2;rw[a3]at this;cases this
        . exact h2
       simp only;omega
 . rw[W26 (by rw[h.len];omega),W26 (by omega)];rfl
section
variable {G:Nat->Option (List AV)}
end
section
variable {r:List Iss}
end
def knLk (x:Rf):List (Rf×Int)->Option Int
 |[]=>none
 |p::r=>if x=p.1 then some p.2 else knLk x r
theorem ZgV {x a:Rf} {v:Int}:∀ {kn:List (Rf×Int)},knLk x (kn++[(a,v)])=match knLk x kn with
  |some w=>some w
  |none=>if x=a then some v else none
 |[]=>by simp[knLk]
 | p::r=>by
   simp only[W1e,knLk]
   split
   . rfl
   . exact ZgV
structure LnS where
 left:List Int
 kn:List (Rf×Int)
 nx:List Rf
 deriving Inhabited
def lnS (n:Int) (s:LnS) (i:Nat) (e:Rf×Rf):LnS :=
 if (i:Int)∈s.left then match knLk e.2 s.kn with
  | some k=>if n<=k then s else match knLk e.1 s.kn with
    |some _=>⟨s.left.erase i,s.kn,s.nx⟩
    |none=>⟨s.left.erase i,s.kn++[(e.1,n)],s.nx++[e.1]⟩
  |none=>s
 else s
structure LnV (E:List (Rf×Rf)) (y:Rf) (n:Nat) (s:LnS):Prop where
 a:∀ x d,knLk x s.kn=some d->∃ m:Nat,d=m/\md E y m x/\m<=n
 b:∀ x (m:Nat),md E y m x->m<=n->knLk x s.kn=some (m:Int)
 c:∀ i (h:i<E.length),(i:Int) ∉ s.left->knLk E[i].1 s.kn≠none
structure LnW (E:List (Rf×Rf)) (y:Rf) (n:Nat) (s0 s:LnS) (i:Nat):Prop where
 a:∀ x d,knLk x s.kn=some d->∃ m:Nat,d=m/\md E y m x/\m<=n+1
 b:∀ x (m:Nat),md E y m x->m<=n->knLk x s.kn=some (m:Int)
 c:∀ j (h:j<E.length),(j:Int) ∉ s.left->knLk E[j].1 s.kn≠none
 e:∀ j (h:j<E.length),j<i->∀ m:Nat,md E y m E[j].2->m<=n->knLk E[j].1 s.kn≠none
 f:s.kn=s0.kn++s.nx.map λx=>(x,(n:Int)+1)
 g:∀ x∈s.nx,md E y (n+1) x
section
variable {E:List (Rf×Rf)} {y:Rf} {n m:Nat} {s0 s:LnS} {i:Nat}
theorem ZgW {x a:Rf} {v:Int} {kn:List (Rf×Int)} (h:knLk x kn≠none):knLk x (kn++[(a,v)])≠none:=by
 rw[ZgV]
 cases q:knLk x kn with
 |none=>exact absurd q h
 |some w=>simp
theorem ZgX {l:List Int} {a b:Int} (h:a ∉ l.erase b):a ∉ l∨a=b:=by
 by_cases q:a=b
 . exact .inr q
 . exact .inl λhm=>h ((List.mem_erase_of_ne q).2 hm)
theorem LnW.step (h:LnW E y n s0 s i) (hi:i<E.length):LnW E y n s0 (lnS ((n:Int)+1) s i E[i]) (i+1):=by
 have lst:∀ {P:Nat->Prop},(∀ j,j<i->P j)->P i->∀ j,j<i+1->P j:=λh1 h2 j hj=>by
  rcases W0q j i with q|q
  . exact h1 j q
  . obtain rfl:j=i:=(by omega);exact h2
 unfold lnS;by_cases c1:(i:Int)∈s.left
 . rw [if_pos c1]
   cases q:knLk E[i].2 s.kn with
   | none =>
     refine ⟨h.a,h.b,h.c,λj hj hji m hm hmn=>?_,h.f,h.g⟩;rcases W0q j i with p|p
     . exact h.e j hj p m hm hmn
     . obtain rfl:j=i:=(by omega);rw[h.b _ m hm hmn]at q;cases q
   | some k =>
     simp only;obtain ⟨m,hm1,hm2,hm3⟩:=h.a _ _ q;by_cases c2:(n:Int)+1<=k
     . rw[if_pos c2];refine ⟨h.a,h.b,h.c,λj hj hji m' hm' hmn=>?_,h.f,h.g⟩;rcases W0q j i with p|p
       . exact h.e j hj p m' hm' hmn
       . obtain rfl:j=i:=(by omega);have:=ZgQ hm' hm2;omega
     . rw [if_neg c2]
       have c3:∀ j (h:j<E.length),(j:Int) ∉ s.left.erase (i:Int)->j≠i->knLk E[j].1 s.kn≠none:=λj hj hn hne=>by
        rcases ZgX hn with p|p
        . exact h.c j hj p
        . exact absurd (by omega) hne
       cases r:knLk E[i].1 s.kn with
       | some w =>
         refine ⟨h.a,h.b,λj hj hn=>?_,λj hj hji m' hm' hmn=>?_,h.f,h.g⟩
         . by_cases p:j=i
           . subst p;rw[r];simp
           . exact c3 j hj hn p
         . rcases W0q j i with p|p
           . exact h.e j hj p m' hm' hmn
           . obtain rfl:j=i:=(by omega);rw[r];simp
       | none =>
         have hp:pth E y (m+1) E[i].1=true:=ZgP.2 ⟨E[i],W0e hi,rfl,hm2.1⟩;obtain ⟨m1,g1,g2⟩:=md_of _ hp
         have g3:m1=n+1:=by
          rcases W0q n m1 with p|p
          . omega
          . rw[h.b _ m1 g2 p]at r;cases r
         subst g3;refine ⟨λx d hx=>?_,λx m' hm' hmn=>?_,λj hj hn=>?_,λj hj hji m' hm' hmn=>?_,?_,λx hx=>?_⟩
         . simp only at hx;rw[ZgV]at hx
           cases p:knLk x s.kn with
           |some w=>rw[p]at hx;simp only[W00]at hx;subst hx;exact h.a x _ p
           | none =>
             rw[p]at hx;simp only at hx
             split at hx
             . rename_i e1;subst e1;simp only[W00]at hx;exact ⟨n+1,by omega,g2,W0f _⟩
             . cases hx
         . simp only;rw[ZgV,h.b x m' hm' hmn]
         . simp only;by_cases p:j=i
           . subst p;rw[ZgV,r];simp
           . exact ZgW (c3 j hj hn p)
         . simp only;rcases W0q j i with p|p
           . exact ZgW (h.e j hj p m' hm' hmn)
           . obtain rfl:j=i:=(by omega);rw[ZgV,r];simp
         . simp only[W0r,W0F,W1d];rw[h.f,W0U]
         . simp only[W0h,W0B]at hx;rcases hx with hx|rfl
           . exact h.g x hx
           . exact g2
 . rw[if_neg c1];refine ⟨h.a,h.b,h.c,λj hj hji m hm hmn=>?_,h.f,h.g⟩;rcases W0q j i with p|p
   . exact h.e j hj p m hm hmn
   . obtain rfl:j=i:=(by omega);exact h.c j hj c1
theorem LnW.fin (h:LnW E y n s0 s E.length):LnV E y (n+1) s:=by
 refine ⟨h.a,λx m hm hmn=>?_,h.c⟩;rcases W0q m (n+1) with p|p
 . exact h.b x m hm (by omega)
 . obtain rfl:m=n+1:=(by omega);obtain ⟨e,he,rfl,h2⟩:=ZgR hm;obtain ⟨j,hj,rfl⟩:=W0k he;have h3:=h.e j hj hj n h2 (W0f _)
   cases q:knLk E[j].1 s.kn with
   |none=>exact absurd q h3
   | some d =>
     obtain ⟨m',h4,h5,h6⟩:=h.a _ _ q;have:=ZgQ hm h5;subst this;subst h4;rfl
end
section
variable {G:Nat->Option (List AV)}
end
section
variable {α:Type} {p:α->Bool} {l:List α} {j:Nat}
end
section
variable {G:Nat->Option (List AV)}
end
def IterG (P:Program) (G:Nat->Option (List AV)) (gf:Nat) (caps els:List AV):Prop :=
 entB P gf=true/\∀ (n l:Nat) (lb:Array Value) (J:Nat->(Nat->Prop)->World->Prop) (K:World->Prop) (M:Nat->Prop) (W:World),2<=n->(∀ k M A B,J k M A->Ext A B->J k M B)->(∀ A B,K A->Ext A B->K B) ->
  (∀ k M A,J k M A->∀ b,M b->b<A.heap.size)->(∀ k M A,J k M A->GR G M A)->CP M W caps lb ->
  (∀ (k:Nat) (x:AV) (u:Value) (M:Nat->Prop) (A:World),J k M A->els[k]? = some x->PV M A x u ->
   YieldAt Fence.wide (n-1) P l #[u] A λe A'=>(e = .returned (.bool true)/\∃ M',J (k+1) M' A'/\Since M A M' A')∨(e = .returned (.bool false)/\K A')) ->
  J 0 M W->CallsIn Fence.wide n P gf (#[.func (.yield l) #[] #[]]++lb) W λe W'=>(∃ v,e = .returned v)/\((∃ M,J els.length M W')∨K W')
theorem ZgY {n:Nat} {P:Program} {g:Operand} {p:Nat} {assign body:Code} {Q:Exit->Act->World->Prop} {a:Act} {w:World}
  {gf:Nat} {lb:Array Value} {caps els:List AV} (hg:a.eval g = .func (.func gf) #[] lb) {G:Nat->Option (List AV)} (hit:IterG P G gf caps els) (hn:3<=n)
  (I:Nat->(Nat->Prop)->World->Prop) (K:World->Prop) (M0:Nat->Prop) (hIe:∀ k M A B,I k M A->Ext A B->I k M B) (hKe:∀ A B,K A->Ext A B->K B)
  (hIo:∀ (k l:Nat) (M:Nat->Prop) (W:World) (r r':Loop),w.heap.size<=l->I k M W->W.heap[l]? = some (.loop r)->I k M (W.putObj l (.loop r')))
  (hKo:∀ (l:Nat) (W:World) (r r':Loop),w.heap.size<=l->K W->W.heap[l]? = some (.loop r)->K (W.putObj l (.loop r')))
  (hIM:∀ k M A,I k M A->(∀ b,M b->b<A.heap.size)/\∀ (b:Nat) (o:Obj),w.heap.size<=b->A.heap[b]? = some o->Odd o->¬M b)
  (hIG:∀ k M A,I k M A->GR G M A) (hcaps:CP M0 w caps lb) (h0:I 0 M0 w)
  (hround:∀ (l k m:Nat) (x:AV) (u:Value) (M:Nat->Prop) (W:World) (lr:Loop),w.heap.size<=l->I k M W->W.heap[l]? = some (.loop lr)->els[k]? = some x->PV M W x u ->
   assign.wpIn (FW (some l)) m P (Exit.then (λa1 W1=>(∀ (b:Nat) (o:Obj),W.heap[b]? = some o->Odd o->W1.heap[b]? = some o) /\
     body.wpIn (FW (some l)) m P (λe _ W'=>((∀ (b:Nat) (o:Obj),W.heap[b]? = some o->Odd o->b≠l->W'.heap[b]? = some o)/\W'.heap[l]? = some (.loop { lr with state:=.busy })) /\
      ((e = .normal/\∃ M',I (k+1) M' W'/\W.heap.size<=W'.heap.size/\∀ b,b<W.heap.size->¬M b->¬M' b/\(b≠l->W'.heap[b]? = W.heap[b]?))∨(e = .ret/\K W'))) a1 (W1.putObj l (.loop { lr with state:=.busy }))) (λ_ _ _=>False))
    { tmps:=a.tmps.setIfInBounds p u,defers:=[] } W)
  (hdone:∀ (D:Nat) (M:Nat->Prop) (W:World),w.heap.size<=D->I els.length M W->W.heap[D]? = some (.deferred (some []))->Q .normal { a with defers:=coll D::a.defers } W)
  (hstop:∀ (D:Nat) (W:World),w.heap.size<=D->K W->W.heap[D]? = some (.deferred (some []))->Q .ret { a with defers:=coll D::a.defers } W) :
  (Code.rangeFunc g #[p] assign body).wpIn (FW none) n P Q a w:=by
 refine wpIn_rangeFunc ?_;intro fn hfn;obtain ⟨rec,hrec⟩ : ∃ rec:LoopState->Option Code->Loop,rec=λst pe=>{ state:=st,pending:=pe,fn,tmps:=a.tmps,params:=#[p],assign,body,defers:=w.heap.size }:=⟨_,rfl⟩
 obtain ⟨W1,hW1⟩ : ∃ W1,(w.alloc (.deferred (some []))).alloc (.loop (rec .ready none))=W1:=⟨_,rfl⟩;have hE1:Ext w W1:=by rw[<- hW1];exact (Ext.refl w).al.al
 have hL1:W1.heap[w.heap.size+1]? = some (.loop (rec .ready none)):=by
  rw[<- hW1];have:=World.alloc_heap_new (w.alloc (.deferred (some []))) (.loop (rec .ready none));rwa [World.size_alloc]at this
 have hK1:W1.heap[w.heap.size]? = some (.deferred (some [])):=by
  rw[<- hW1];exact (Below.heap_alloc _ _ _ (by simp)).trans (World.alloc_heap_new w _)
 have hI1:I 0 M0 W1:=hIe _ _ _ _ h0 hE1;have hC1:CP M0 W1 caps lb:=⟨hcaps.1,λi x u hx hu=>(hcaps.2 i x u hx hu).mono (λb hb hM=>⟨hM,hE1.block b hb⟩) hE1.size⟩
 refine ⟨w.heap.size+1,[{ target:=.collected w.heap.size,args:=#[] }],W1,{ target:=.fn (.func gf) lb,args:=#[.func (.yield (w.heap.size+1)) #[] #[]] },W1,gf,
  #[.func (.yield (w.heap.size+1)) #[] #[]]++lb,W1,?_,?_,λ_ _=>trivial,?_,Z24,?_⟩
 . rw[<- hW1,hrec];exact run_enterLoop_outer _ _ _ _ _
 . simp only[resolve,hg];simp[go_sem]
 . simp[invoke,go_sem,Z1W hit.1]
 . have stay : ∀ {A B:World} {b:Nat} {o:Obj},Ext A B->A.heap[b]? = some o->B.heap[b]? = some o:=λh hb=>(h.block _ (W0c.1 hb).1).trans hb
   refine (hit.2 (n-1) (w.heap.size+1) lb
    (λk M W=>I k M W/\W.heap[w.heap.size+1]? = some (.loop (rec .ready none))/\W.heap[w.heap.size]? = some (.deferred (some [])))
    (λW=>K W/\W.heap[w.heap.size+1]? = some (.loop (rec .done (some .ret)))/\W.heap[w.heap.size]? = some (.deferred (some [])))
    M0 W1 (by omega) (λk M A B h e=>⟨hIe k M A B h.1 e,stay e h.2.1,stay e h.2.2⟩) (λA B h e=>⟨hKe A B h.1 e,stay e h.2.1,stay e h.2.2⟩) (λk M A h=>(hIM k M A h.1).1) (λk M A h=>hIG k M A h.1) hC1 ?_ ⟨hI1,hL1,hK1⟩).mono ?_
   . rintro k x u M W ⟨hi,hl,hk⟩ hr hus;have hls:w.heap.size+1<W.heap.size:=(W0c.1 hl).1;have hy:=run_yield (P:=P) (args:=#[u]) hl (by rw[hrec];rfl);rw[hrec]at hy
     have hfold:(#[p].zip #[u]).foldl (λt (x:Nat×Value)=>match x with|(p,v)=>t.setIfInBounds p v) a.tmps=a.tmps.setIfInBounds p u:=by
      rw[<- Array.foldl_toList,Array.toList_zip];rfl
     have hy:(Instr.yield (w.heap.size+1) #[u]).run P W = .ok (.round (w.heap.size+1) fn (a.tmps.setIfInBounds p u) assign body) W:=(by rw[<- hfold];exact hy);refine ⟨fn,_,assign,body,hy,roundIn_of_wpIn hfn (wpIn_mono (hround (w.heap.size+1) k _ x u M W _ (by omega) hi hl hr hus) ?_)⟩;rintro e a1 W2 hp
     cases e with
     | normal =>
       obtain ⟨hodd0,hp⟩:=hp;have hl2:=hodd0 _ _ hl trivial;have hk2:=hodd0 _ _ hk trivial;have hls2:w.heap.size+1<W2.heap.size:=(W0c.1 hl2).1;refine ⟨_,run_beginRound hl2 (by rw[hrec]),wpIn_mono hp ?_⟩;rintro e a3 W3 ⟨⟨hodd,hl3⟩,hp3⟩;have hd3:=hodd _ _ hk trivial (by omega);have hls3:=(W0c.1 hl3).1
       have fin:∀ jump:Option Code,(W3.putObj (w.heap.size+1) (.loop (rec (if jump.isNone then .ready else .done) jump))).heap[w.heap.size+1]? = some (.loop (rec (if jump.isNone then .ready else .done) jump)) /\
         (W3.putObj (w.heap.size+1) (.loop (rec (if jump.isNone then .ready else .done) jump))).heap[w.heap.size]? = some (.deferred (some [])):=λjump =>
        ⟨World.putObj_heap_same hls3,(World.putObj_heap_other (by omega)).trans hd3⟩
       rcases hp3 with ⟨rfl,M',hi3,hsz3,hs3⟩ | ⟨rfl,hk3⟩
       . have hr3:=run_endRound (P:=P) none hl3;have f1:=fin none;rw[hrec]at hr3 f1;refine ⟨_,_,hr3,.inl ⟨rfl,M',⟨hIo _ _ _ _ _ _ (by omega) hi3 hl3,?_,f1.2⟩,by simpa using hsz3,λb hb hM=>⟨(hs3 b hb hM).1,?_⟩⟩⟩
         . rw[hrec];exact f1.1
         . by_cases e:b=w.heap.size+1
           . subst e;rw[hl,hrec];exact f1.1
           . rw[World.putObj_heap_other e];exact (hs3 b hb hM).2 e
       . have hr3:=run_endRound (P:=P) (some .ret) hl3;have f1:=fin (some .ret);rw[hrec]at hr3 f1;refine ⟨_,_,hr3,.inr ⟨rfl,hKo _ _ _ _ (by omega) hk3 hl3,?_,f1.2⟩⟩;rw[hrec];exact f1.1
     |_=>exact hp.elim
   . rintro e W2 ⟨⟨v,rfl⟩,⟨M,hi,hl,hk⟩ | ⟨hi,hl,hk⟩⟩
     . exact ⟨none,_,by have:=run_endLoop (P:=P) hl (by rw[hrec];simp);rw[hrec]at this;exact this,hdone _ M _ (W0f _) (hIo _ _ _ _ _ _ (by omega) hi hl) ((World.putObj_heap_other (by omega)).trans hk)⟩
     . exact ⟨some .ret,_,by have:=run_endLoop (P:=P) hl (by rw[hrec];simp);rw[hrec]at this;exact this,wpIn_ret (hstop _ _ (W0f _) (hKo _ _ _ _ (by omega) hi hl) ((World.putObj_heap_other (by omega)).trans hk))⟩
section
variable {P:Program} {R:Run} {st:St} {a:Act} {W:World} {κ:Nat->Option (Nat×Nat)}
theorem ZgZ {g:RA} {p gf:Nat} {assign body:RCode} {Φ:Exit->St->Prop} {caps els:List AV} (hrd:R.Top) (hit:IterG P R.G gf caps els) (hg:evA R.G st g = .func (.func gf) [] caps) (hp:caps.all AV.pure=true)
  (ρ:Nat->Nat) (t0:List (Nat×AV)) (objs:Nat->List (Nat×AObj)) (keys:List Nat) (Iv:Nat->Prop) (hI0:Iv 0) (hkeys:∀ k,(objs k).map (·.1)=keys) (hK:∀ k∈keys,1000<=k) (hinj:(keys.map ρ).Nodup)
  (h0:Yl ρ (objs 0) st=st) (hin:∀ k,∀ q∈objs k,Yc (objs k) q.2=true)
  (ht0:∀ q∈t0,lk st.t q.1=some (q.2.ren ρ)/\q.1≠p/\∀ k∈q.2.keys,k∈keys)
  (hround:∀ (k:Nat) (x:AV),els[k]? = some x->Iv k->∀ R':Run,R'.G=R.G->R'.N=R.N->AR P R' assign ⟨(p,x)::t0,objs k⟩ λe s1=>e = .normal/\∀ R'':Run,R''.G=R.G->R''.N=R.N ->
   AR P R'' body s1 (RndB (λo=>o=objs (k+1)/\Iv (k+1)) λo=>o.map (·.1)=keys/\Φ .ret (Yl ρ o st)))
  (hdone:Iv els.length->Φ .normal (Yl ρ (objs els.length) st)):AR P R (.rngf g [p] assign body) st Φ:=by
 intro c hc m a W hs
 cases c <;> simp only[Z1A,W05,W01,W0A]at hc
 rename_i g' ps' ca cb;obtain ⟨⟨⟨⟨hcg,hps⟩,hpn⟩,hca⟩,hcb⟩:=hc;have hpn:p<R.N:=(by simpa using hpn);obtain rfl:ps' = #[p]:=(by rw[<- W16];exact hps);rw[hrd.1];refine wpFW.2 ((wpFW (n:=3)).1 ?_);obtain ⟨κ0,hs⟩:=hs;obtain ⟨S,hS⟩ : ∃ S:Nat->St,S=λk=>Yl ρ (objs k) st:=⟨_,rfl⟩
 have hSt:∀ k,(S k).t=st.t:=λk=>by rw[hS];exact Z53 ρ _ _
 have nod:∀ {o:List (Nat×AObj)},o.map (·.1)=keys->(o.map λp=>ρ p.1).Nodup:=λ{o} ho=>by
  have:o.map (λp=>ρ p.1)=(o.map (·.1)).map ρ:=(by simp[W10,W0y]);rw[this,ho];exact hinj
 have isk:∀ {o:List (Nat×AObj)},o.map (·.1)=keys->∀ k,isK o k=true↔k∈keys:=λ{o} ho k=>by rw[isK,Z56,ho]
 have hevg:∀ k,evA R.G (S k) g = .func (.func gf) [] caps:=λk=>by
  rw[<- hg]
  cases g <;> simp only[evA,St.tmp,hSt]
 have hv0:=hs.ev hcg;rw[hg]at hv0;obtain ⟨us0,lb,hav,hus0,hlb0⟩:=hv0.func_inv
 obtain rfl:us0 = #[]:=by
  have:=hus0.1;rw[<- W16];exact W0l.1 (by simpa using this)
 have hcaps:∀ k W κ,SK R (S k) a W κ->CP ((S k).env R.M κ).M W caps lb:=λk W κ h=>by
  have h1:=h.ev hcg;rw[hevg,hav]at h1;obtain ⟨us1,lb1,h2,-,h3⟩:=h1.func_inv;simp only[Value.func.injEq]at h2;obtain ⟨-,-,rfl⟩:=h2;exact ⟨by simpa using h3.1,λi x u hx hu=>(h3.2 i x u hx (by simpa using hu)).toPV (W03.1 hp x (W0d hx))⟩
 obtain ⟨cs0,e0,nd0,hc0,-⟩:=hs.defers
 have marks:∀ (D:Nat) (st1:St) (W1:World) (κ1:Nat->Option (Nat×Nat)),W.heap.size<=D->SK R st1 a W1 κ1->W1.heap[D]? = some (.deferred (some []))->SK R st1 { a with defers:=coll D::a.defers } W1 κ1:=λD st1 W1 κ1 hD h hd=>by
  obtain ⟨cs1,e1,nd1,hc1,-⟩:=h.defers;obtain rfl:cs1=cs0:=Z59 (List.append_cancel_right (e1.symm.trans e0));refine h.odd ⟨rfl,λb=>.inl rfl⟩ rfl rfl rfl (λb _=>rfl) rfl ⟨D::cs1,by simp[e1],W1z.2 ⟨λhm=>?_,nd1⟩,λc hm=>?_,λe=>by rw[hrd.2]at e;cases e⟩
  . have:=(W0c.1 (hc0 D hm).2).1;omega
  . rcases W0g.1 hm with rfl|hm
    . exact ⟨W0O hs.kp.size hD,hd⟩
    . exact hc1 c hm
 have put:∀ (l:Nat) (st1:St) (W1:World) (κ1:Nat->Option (Nat×Nat)) (r r':Loop),W.heap.size<=l->SK R st1 a W1 κ1->W1.heap[l]? = some (.loop r)->SK R st1 a (W1.putObj l (.loop r')) κ1:=λl st1 W1 κ1 r r' hl h hr=>by
  obtain ⟨cs1,e1,nd1,hc1,hz1⟩:=h.defers;have:=hs.kp.size;refine h.odd (.put hr trivial) rfl rfl rfl (λb hb=>World.putObj_heap_other (by omega)) rfl ⟨cs1,e1,nd1,λc hm=>⟨(hc1 c hm).1,?_⟩,hz1⟩;rw[World.putObj_heap_other (by rintro rfl;have:=(hc1 _ hm).2;rw[hr]at this;cases this)];exact (hc1 c hm).2
 have hs0:SK R (S 0) a W κ0:=by rw[hS];show SK R (Yl ρ (objs 0) st) a W κ0;rw[h0];exact hs
 refine ZgY (I:=λk M W'=>∃ κ,(M=((S k).env R.M κ).M/\Iv k)/\SK R (S k) a W' κ) (K:=λW'=>∃ s κ,Φ .ret s/\SK R s a W' κ) (M0:=((S 0).env R.M κ0).M) (caps:=caps) (els:=els) hav hit (by omega) (λk M A B h e=>h.imp λκ h=>⟨h.1,h.2.grow e⟩) (λA B ⟨s,κ,h1,h2⟩ e=>⟨s,κ,h1,h2.grow e⟩)
  (λk l M W' r r' hl ⟨κ,hM,h⟩ hr=>⟨κ,hM,put l _ _ _ r r' hl h hr⟩) (λl W' r r' hl ⟨s,κ,h1,h⟩ hr=>⟨s,κ,h1,put l _ _ _ r r' hl h hr⟩) (λk M A ⟨κ,⟨hM,_⟩,h⟩=>?_) (λk M A ⟨κ,⟨hM,_⟩,h⟩=>hM ▸ h.gr) (hcaps 0 W κ0 hs0) ⟨κ0,⟨rfl,hI0⟩,hs0⟩ ?_ ?_ ?_
 . subst hM;refine ⟨λb hb=>h.owned_lt hb,λb o hb ho hodd hM=>?_⟩;rcases hM with hM | ⟨q,s,hq⟩
   . have:=h.low b hM;have:=hs.kp.size;omega
   . exact h.notOdd hq ho hodd
 . intro l k m x u M W1 lr hl hI hlr hx hxu;obtain ⟨κ,⟨rfl,hIk⟩,h⟩:=hI;have hkk:∀ q,isK (objs k) q=true->q∈keys:=λq hq=>(isk (hkeys k) q).1 hq
   have enterAt:∀ W',SK R (S k) a W' κ->SK (rC (objs k) ρ R (S k) κ W') (obSt (objs k)) noAct W' (kC (objs k) ρ κ)/\∀ (x:AV) (v:Value),inK (objs k) x->VR ((S k).env R.M κ) W' (x.ren ρ) v->VR ((obSt (objs k)).env (mC (objs k) ρ R (S k) κ) (kC (objs k) ρ κ)) W' x v:=λW' h =>
    Z50 h (λq hq=>hK q (hkk q hq)) (λq q' h1 h2 e=>Z57 hinj (hkk q h1) (hkk q' h2) e) (λq o hq=>by rw[hS];exact Z55 ρ _ _ q o (nod (hkeys k)) hq)
     (λq o hq=>by
      have h2:=hin k (q,o) (Z4K hq);have kept:∀ x,Ya (objs k) x=true->inK (objs k) x:=λx hx k' hk'=>W03.1 hx k' hk'
      cases o with
      |box cells=>exact λx hx=>kept x (W03.1 h2 x hx)
      |row sz rows=>exact λr hr x hx=>kept x (W03.1 (W03.1 h2 r hr) x hx)
      | mp kvs =>
        intro p hp;have:=W03.1 h2 p hp;simp only[W01]at this;exact ⟨kept _ this.1,kept _ this.2⟩)
   obtain ⟨h1,conv⟩:=enterAt W1 h
   have hXo:∀ W',SK R (S k) a W' κ->∀ b,(rC (objs k) ρ R (S k) κ W').X b->∀ o,W'.heap[b]? = some o->¬Odd o:=λW' h b ⟨q,s,hq⟩ o ho hodd=>by
    simp only[kC]at hq
    split at hq
    . exact h.notOdd hq ho hodd
    . cases hq
   have hMM:∀ b,((obSt (objs k)).env (mC (objs k) ρ R (S k) κ) (kC (objs k) ρ κ)).M b->((S k).env R.M κ).M b:=λb hb=>by
    rcases hb with hb | ⟨q,s,hq⟩
    . exact hb.1
    . simp only[kC]at hq
      split at hq
      . exact .inr ⟨ρ q,s,hq⟩
      . cases hq
   let R1:Run:={ rC (objs k) ρ R (S k) κ W1 with N:=R.N,rd:=some l }
   have hN:R.N=a.tmps.size:=h.size.symm
   have start:SK R1 ⟨(p,x)::t0,objs k⟩ { tmps:=a.tmps.setIfInBounds p u,defers:=[] } W1 (kC (objs k) ρ κ):=by
    refine ⟨.nil _ _ _ _,by show (a.tmps.setIfInBounds p u).size=R.N;simp[hN],λn y hy=>?_,h1.obj,h1.dom,h1.inj,h1.low,h1.apart,h1.kp,h1.gr,h1.mono,h1.ent⟩;have hy:lk ((p,x)::t0) n=some y:=hy;show VR ((obSt (objs k)).env (mC (objs k) ρ R (S k) κ) (kC (objs k) ρ κ)) W1 y ((a.tmps.setIfInBounds p u).getD n Go.undef);simp only[lk]at hy
    split at hy
    . rename_i e;subst e;obtain rfl:x=y:=(by simpa using hy);have hlt:p<a.tmps.size:=(by rw[<- hN];exact hpn);have e:(a.tmps.setIfInBounds p u).getD p Go.undef=u:=(by simp[Array.getD,hlt]);rw[e];exact .pv (hxu.mono (λb _ hb=>⟨λhb'=>hb (hMM b hb'),rfl⟩) (W0f _))
    . rename_i e
      have e2:(a.tmps.setIfInBounds p u).getD n Go.undef=a.tmps.getD n Go.undef:=by
       simp only[W0a,W0p,if_neg e]
      rw[e2];obtain ⟨g1,g2,g3⟩:=ht0 (n,y) (Z4K hy);have g4:=h.tm n (y.ren ρ) (by show lk (S k).t n=_;rw[hSt];exact g1);exact conv y _ (λq hq=>(isk (hkeys k) q).2 (g3 q hq)) g4
   refine wpIn_mono (hround k x hx hIk R1 rfl rfl ca hca m _ W1 ⟨_,start⟩) ?_;rintro e a1 W2 ⟨s1,⟨rfl,hbody⟩,κ1,h2⟩;refine ⟨λb o hb ho=>h2.keepOdd (hXo W1 h) hb ho,?_⟩;have hl2:W2.heap[l]? = some (.loop lr):=h2.keepOdd (hXo W1 h) hlr trivial;have h3:=SK.both rfl h2 (o':=.loop { lr with state:=.busy }) hl2 hlr;have hb:=put l _ W1 κ lr { lr with state:=.busy } hl h hlr;refine wpIn_mono (hbody { R1 with W0:=W1.putObj l (.loop { lr with state:=.busy }) } rfl rfl cb hcb m _ _ ⟨_,h3⟩) ?_;rintro e a2 W3 ⟨s2,hrnd,hs2⟩
   have hodd:∀ κ2,SK { R1 with W0:=W1.putObj l (.loop { lr with state:=.busy }) } s2 a2 W3 κ2->(∀ (b:Nat) (o:Obj),W1.heap[b]? = some o->Odd o->b≠l->W3.heap[b]? = some o)/\W3.heap[l]? = some (.loop { lr with state:=.busy }):=λκ2 h4 =>
    ⟨λb o hb1 ho hne=>h4.keepOdd (hXo _ hb) ((World.putObj_heap_other hne).trans hb1) ho,
     h4.keepOdd (hXo _ hb) (o:=.loop { lr with state:=.busy }) (World.putObj_heap_same (W0c.1 hlr).1) trivial⟩
   have leave:∀ o':List (Nat×AObj),o'.map (·.1)=keys->(Yi newK s2).o=o'->∃ κ3,SK R (Yl ρ o' st) a W3 κ3/\Mono ((S k).env R.M κ) (W1.putObj l (.loop { lr with state:=.busy })) ((Yl ρ o' st).env R.M κ3) W3:=λo' hk' he=>by
    obtain ⟨κ2,h4⟩:=Ym.frz newK s2 (λk hk=>by simp[newK];omega) _ a2 W3 hs2;have g:=h4.sub (t':=[]) (λn x hx=>by simp[lk]at hx);have e:({ Yi newK s2 with t:=[] }:St)=obSt o':=(by subst he;rfl);rw[e]at g
    have g2:SK (rC (objs k) ρ R (S k) κ (W1.putObj l (.loop { lr with state:=.busy }))) (obSt o') noAct W3 κ2 :=
     ⟨.nil _ _ _ _,rfl,λn x hx=>by simp[obSt,St.tmp,lk]at hx,g.obj,g.dom,g.inj,g.low,g.apart,g.kp,g.gr,g.mono,g.ent⟩
    obtain ⟨κ3,h5,h6,-⟩:=Z51 hb (st1:=Yl ρ o' st) (λq q' h1 h2 e=>Z57 hinj (hkk q h1) (hkk q' h2) e) (λq o hq=>by rw[hS];exact Z55 ρ _ _ q o (nod (hkeys k)) hq)
     (λq=>by
      have h1:=isk hk' q;have h2:=isk (hkeys k) q
      cases e1:isK o' q <;> cases e2:isK (objs k) q <;> simp_all) g2 ((Z53 ρ _ _).trans (hSt k).symm) (λq o hq=>Z55 ρ _ _ q o (nod hk') hq)
     (λj hj=>by
      have out:∀ {o:List (Nat×AObj)},o.map (·.1)=keys->(Yl ρ o st).get j=st.get j:=λ{o} ho=>Z54 ρ j _ _ λq hq=>hj q.1 ((isk (hkeys k) q.1).2 (by rw[<- ho];exact W0i.2 ⟨q,hq,rfl⟩))
      rw[hS];exact (out hk').trans (out (hkeys k)).symm)
    exact ⟨κ3,h5,h6⟩
   obtain ⟨κ2,h4⟩:=id hs2;refine ⟨hodd κ2 h4,?_⟩
   cases e with
   | normal =>
     obtain ⟨κ3,h5,h6⟩:=leave (objs (k+1)) (hkeys _) hrnd.1;refine .inl ⟨rfl,_,⟨κ3,⟨rfl,hrnd.2⟩,by rw[hS];exact h5⟩,by have:=h6.size;simpa using this,λb hb1 hM=>?_⟩;obtain ⟨g1,g2⟩:=h6.imm b (by simpa using hb1) hM;exact ⟨by rw[hS];exact g1,λhne=>g2.trans (World.putObj_heap_other hne)⟩
   | ret =>
     obtain ⟨hk',hΦ⟩:=hrnd;obtain ⟨κ3,h5,-⟩:=leave _ hk' rfl;exact .inr ⟨rfl,_,κ3,hΦ,h5⟩
   |_=>exact hrnd.elim
 . rintro D M W1 hD ⟨κ,⟨-,hIk⟩,h⟩ hd;refine ⟨_,?_,κ,marks D _ _ _ hD h hd⟩;rw[hS];exact hdone hIk
 . rintro D W1 hD ⟨s,κ,h1,h⟩ hd;exact ⟨s,h1,κ,marks D _ _ _ hD h hd⟩
end
theorem Zh0 (ρ:Nat->Nat) (xs:List AV):(AObj.box xs).ren ρ = .box (xs.map (AV.ren ρ)):=rfl
section
variable {G:Nat->Option (List AV)}
end
section
variable {G:Nat->Option (List AV)}
end
def Zh1 (G:Nat->Option (List AV)) (M:Nat->Prop) (W:World) (N:Nat) (rd:Option Nat):Run :=
 { G:=G,M:=M,X:=λ_=>False,W0:=W,N:=N,E0:={ M:=M,loc:=λ_=>none,row:=λ_=>none },rd:=rd,nm:=true }
theorem Zh2 {G:Nat->Option (List AV)} {M:Nat->Prop} {W:World} {N:Nat} {rd:Option Nat} {t:List (Nat×AV)} {a:Act} (hgr:GR G M W) (hM:∀ b,M b->b<W.heap.size) (hd:a.defers=[]) (hN:a.tmps.size=N) (ht:TT' M W t a):SR (Zh1 G M W N rd) ⟨t,[]⟩ a W:=by
 have hGM:∀ b,b<W.heap.size->¬M b->¬((⟨t,[]⟩ : St).env M (λ_=>none)).M b/\W.heap[b]? = W.heap[b]?:=λb _ h1=>⟨(by rintro (h2 | ⟨k,s,h2⟩) <;> first|exact h1 h2|cases h2),rfl⟩
 refine ⟨λ_=>none,⟨[],by simp[hd,Zh1],.nil,by simp,λ_=>rfl⟩,hN,λn x hx=>.pv ((ht n x hx).mono hGM (W0f _)),(λk o ho=>by simp[St.get,lk]at ho),(λk p hk=>by cases hk),(λk k' b s s' hk=>by cases hk),hM,λ_ _ h=>h,Kp.refl _ _,(hgr.mono hGM (W0f _)),⟨W0f _,hGM,λk p hk=>(by cases hk),λk sz m hk=>(by cases hk)⟩,λ_ _=>⟨rfl,rfl⟩⟩
theorem endG {G:Nat->Option (List AV)} {M:Nat->Prop} {W W':World} {N:Nat} {rd:Option Nat} {st:St} {a:Act} (h:SR (Zh1 G M W N rd) st a W') {t:List (Nat×AV)} (hw:Ym st ⟨t,[]⟩) (hp:∀ q∈t,q.2.pure=true) :
  a.defers=[]/\a.tmps.size=N/\TT' M W' t a/\Ext W W':=by
 obtain ⟨κ,hk⟩:=hw _ _ _ h;obtain ⟨cs,e,-,-,hz⟩:=hk.defers
 have hκ:∀ k,κ k=none:=λk=>by
  cases e:κ k with
  |none=>rfl
  |some p=>obtain ⟨o,ho⟩:=hk.dom k p e;simp[St.get,lk]at ho
 refine ⟨by rw[e,hz rfl];rfl,hk.size,λn x hx=>?_,⟨hk.kp.os,hk.kp.tape,hk.kp.output,hk.kp.size,λi hi=>hk.kp.block i hi (λh=>h)⟩⟩;refine ((hk.tm n x hx).toPV (hp (n,x) (Z4K hx))).mono (λb _ hb=>⟨λh=>hb (.inl h),rfl⟩) (W0f _)
section
variable {G:Nat->Option (List AV)}
end
section
variable {G:Nat->Option (List AV)}
end
section
variable {G:Nat->Option (List AV)}
end
section
variable {G:Nat->Option (List AV)}
end
section
variable {G:Nat->Option (List AV)}
end
section
variable {G:Nat->Option (List AV)}
end
section
variable {G:Nat->Option (List AV)}
end
def sbN (U:List Int) (v:Nat):Nat->List Int
 |0=>[]
 |i+1=>if v / 2 ^ i % 2=1 then sbN U v i++[U.getD i 0] else sbN U v i
def sbT (U:List Int) (v:Nat):List Int:=sbN U v U.length
theorem Zh3 (U:List Int) (v:Nat):∀ i,(sbN U v i).length<=i
 |0=>W0f _
 | i+1=>by
   have:=Zh3 U v i;rw[sbN];split
   . simp;omega
   . omega
theorem Zh4 (l:List Nte):∀ i,i<=l.length->((opI l i).map λj=>(nAt l j).nu).Perm ((opN l i).map (·.nu))
 |0,_=>by simp[opI,opN]
 | i + 1,h=>by
   have ih:=Zh4 l i (by omega);have hi:i<l.length:=(by omega);have e:=Zd8 hi;have ea:=Zd7 hi;rw[e];unfold opI;rw[ea];by_cases c:l[i].sg=1
   . rw[if_pos c,if_pos c];have:=(ZdD (λj=>(nAt l j).nu) (opI l i) i).map λj=>(nAt l j).nu
     refine this.trans ?_;rw[W0F,W0r,W0F,W1d,ea];exact (List.Perm.cons _ ih).trans (List.perm_append_singleton _ _).symm
   . rw[if_neg c,if_neg c];exact ih
def opQ (l:List Nte):List Int:=sortI (opU l)
theorem Zh5 (l:List Nte):nuI l=opQ l:=by
 refine (Zdr (Zh4 l l.length (W0f _)) ?_).symm;have:=ZdI l l.length;exact W2p.2 this
theorem Zh6 {r:List Iss} {l:List Nte} (h:Zda r l=true):(opQ l).length<=5:=by
 simp only[Zda,W01,W0b]at h;rw[opQ,Zds,opU,W0N];exact h.2
theorem bitU {v i:Nat} (h:v<64) (hi:i<6):IntKind.i64.wrap ((((v:Int).fdiv (2 ^ (min i IntKind.i64.bits)) % 2 ^ IntKind.i64.bits).toNat &&& (1 % 2 ^ IntKind.i64.bits):Nat):Int)=if v / 2 ^ i % 2=1 then 1 else 0:=by
 have h1:∀ n:_root_.Fin 64,∀ k:_root_.Fin 6,IntKind.i64.wrap ((((n.val:Int).fdiv (2 ^ (min k.val IntKind.i64.bits)) % 2 ^ IntKind.i64.bits).toNat &&& (1 % 2 ^ IntKind.i64.bits):Nat):Int)=if n.val / 2 ^ k.val % 2=1 then 1 else 0:=by decide +kernel
 exact h1 ⟨v,h⟩ ⟨i,hi⟩
theorem shU {n:Nat} (h:n<6):IntKind.i64.wrap (2 ^ (min n IntKind.i64.bits))=((2 ^ n:Nat):Int):=by
 have h1:∀ k:_root_.Fin 6,IntKind.i64.wrap (2 ^ (min k.val IntKind.i64.bits))=((2 ^ k.val:Nat):Int):=(by decide +kernel);exact h1 ⟨n,h⟩
theorem pow5 {n:Nat} (h:n<=5):2 ^ n<=32:=by
 have:n=0∨n=1∨n=2∨n=3∨n=4∨n=5:=(by omega);rcases this with rfl|rfl|rfl|rfl|rfl|rfl <;> decide
theorem PC.out {P:Program} {G:Nat->Option (List AV)} {f:FuncId} {xs:List AV} {v w:AV} (h:PC P G f xs v) (hs:Nsub v w):PC P G f xs w :=
 ⟨h.1,λM W vs a b c d=>(h.2 M W vs a b c d).mono λ_ _ ⟨u,h1,h2,h3⟩=>⟨u,h1,hs _ _ _ h2,h3⟩⟩
def trR (U:List Int) (v:Nat):List AV:=[.vsl ((sbT U v).map ia)]
def trK (U:List Int) (v:Nat):List (List AV):=(List.range v).map (trR U)
theorem Zh7 (U:List Int) (v:Nat):trK U (v+1)=trK U v++[[.vsl ((sbT U v).map ia)]]:=by simp[trK,trR,W1y]
theorem Zh8 (U:List Int) (v:Nat):(trK U v).length=v:=by simp[trK]
theorem Zh9 (o:List (Nat×AObj)) (U:List Int) (v:Nat):Yc o (.row 1 (trK U v))=true:=by
 simp only[Yc,W03,trK,W0i];rintro x ⟨y,-,rfl⟩ w hw;simp only[trR,W0B]at hw;subst hw;simp[Ya,AV.keys]
theorem Zha (U:List Int) (v:Nat):(trK U v).all (λr=>r.all AV.pure)=true:=by simp[trK,trR,AV.pure,ia]
theorem Zhb (ok:Nat->Bool) (st:St) (U:List Int) (v:Nat):(trK U v).map (λr=>r.map (frzA ok st))=trK U v:=by
 simp only[trK,W10]
 congr 1
 funext w;simp[trR,frzA,frz,AV.keys]
def iaM (l:List Int):List (List AV):=l.map ia
theorem Zhc (l:List Int) (x:Int):iaM (l++[x])=iaM l++[[.int .i64 x]]:=by simp[iaM,ia]
theorem Zhd (l:List Int):(iaM l).length=l.length:=W0N _
theorem Zhe (o:List (Nat×AObj)) (l:List Int):Yc o (.row 1 (iaM l))=true:=Zfv o l
theorem Zhf (l:List Int):(iaM l).all (λr=>r.all AV.pure)=true:=by simp[iaM,ia,AV.pure]
def thT (V:AV) (v:Nat):List (Nat×AV):=[(5,.int .i64 v),(3,V),(1,.ptr 1 0)]
def thO (r:List Iss) (l:List Nte) (v:Nat):List (Nat×AObj):=if v=0 then [(1,.box [.vsl (r.map isa),.vsl (l.map na)])] else [(44,.row 1 (trK (opQ l) v)),(1,.box [.vsl (r.map isa),.vsl (l.map na)])]
def thL (v:Nat):AV:=if v=0 then .nils else .osl 44 v
def thS (r:List Iss) (l:List Nte) (V:AV) (v:Nat):St:=⟨(4,thL v)::thT V v,thO r l v⟩
def thI (r:List Iss) (l:List Nte) (V:AV) (v i:Nat):St:=⟨(7,.int .i64 i)::(6,.osl 17 (sbN (opQ l) v i).length)::(4,thL v)::thT V v,(17,.row 1 (iaM (sbN (opQ l) v i)))::thO r l v⟩
section
variable {G:Nat->Option (List AV)}
theorem Zhg (U:List Int) (v i:Nat):sbN U v (i+1)=if v / 2 ^ i % 2=1 then sbN U v i++[U.getD i 0] else sbN U v i:=rfl
set_option maxHeartbeats 2000000 in
theorem Zhh (r:List Iss) (l:List Nte) (h:Zda r l=true):PC Tryz.prog G 62 [.agg [.vsl (r.map isa),.vsl (l.map na)]] (.vsl (trK (opQ l) (2 ^ (opQ l).length))):=by
 have h12:=ZgJ h;have h5:=Zh6 h;have hO:=Zgt (G:=G) r l h12;have hp5:=pow5 h5;have eU:=Zh5 l;have lU:(opQ l).length=(opI l l.length).length:=(by rw[<- eU,Zgv]);have hlt:=ZdE l l.length;have sh:=shU (n:=(opQ l).length) (by omega);rw[lU]at sh hp5 h5 ⊢
 have eget:∀ i (hi:i<(opI l l.length).length),(opQ l).getD i 0=(nAt l (opI l l.length)[i]).nu:=λi hi=>by
  rw[<- eU,nuI,W0j,W09,W07 hi];rfl
 have eT:∀ v,sbT (opQ l) v=sbN (opQ l) v (opI l l.length).length:=λv=>by rw[sbT,lU]
 have hpos:0<2 ^ (opI l l.length).length:=Nat.pos_of_ne_zero (by simp);generalize hI:opI l l.length=I at *;have hO:=PC.out hO (.orNil _);generalize hKe:2 ^ I.length=K at *
 (refine Zgq rfl λR hG hrd=>Qga ?_;subst hG)
 simp -implicitDefEqProofs[Zgo,Zgp];refine Qco (hO) (by simp) ?_;simp -implicitDefEqProofs[];refine Za9 (thS r l (.vsl (I.map ja))) (λ_=>True) K ?_ trivial ?_ ?_
 . simp only[thS,thT,thL,thO,if_true]
   ((try simp only[ja]);refine Ym.sub (by simp[lk,Ya,AV.keys,ja]) ?_;simp only[ja,Wkl,and_true];(try simp[lk,Yc,Ya,AV.keys,ja]))
 . intro v hv _;have wv:IntKind.i64.wrap ((v:Int)+1)=(v:Int)+1:=Yf (by omega) (by omega);have tk:=Zh7 (opQ l) v;have tln:=Zh8 (opQ l) v;have eTv:=eT v;have hT1:thL (v+1) = .osl 44 (v+1):=rfl;have hO1:thO r l (v+1)=[(44,.row 1 (trK (opQ l) (v+1))),(1,.box [.vsl (r.map isa),.vsl (l.map na)])]:=rfl;refine Qga ?_;by_cases v0:v=0
   case' pos =>
    have hT:thL v = .nils:=(by simp[thL,v0]);have hO:thO r l v=[(1,.box [.vsl (r.map isa),.vsl (l.map na)])]:=(by simp[thO,v0]);have tk0:trK (opQ l) v=[]:=(by rw[v0];rfl);rw[tk0,W18]at tk;simp -implicitDefEqProofs[thS,thT,hT,hO,sh,hv]
   case' neg =>
    have hT:thL v = .osl 44 v:=(by simp[thL,v0]);have hO:thO r l v=[(44,.row 1 (trK (opQ l) v)),(1,.box [.vsl (r.map isa),.vsl (l.map na)])]:=(by simp[thO,v0]);simp -implicitDefEqProofs[thS,thT,hT,hO,sh,hv]
   all_goals
    refine Za9 (thI r l (.vsl (I.map ja)) v) (λ_=>True) I.length ?_ trivial ?_ ?_
    . have e0:sbN (opQ l) v 0=[]:=rfl;have e1:iaM []=[]:=rfl;simp only[thI,thT,hT,hO,e0,e1]
      ((try simp only[ja]);refine Ym.sub (by simp[lk,Ya,AV.keys,ja]) ?_;simp only[ja,Wkl,Zh9,and_true];(try simp[lk,Yc,Ya,AV.keys,ja]))
    . intro i hi _;have wi:IntKind.i64.wrap ((i:Int)+1)=(i:Int)+1:=Yf (by omega) (by omega);have bU:=bitU (v:=v) (i:=i) (by omega) (by omega);have sn:=Zhg (opQ l) v i;rw[eget i hi]at sn;have sl:=Zh3 (opQ l) v i;obtain ⟨hj,-⟩:=hlt I[i] (W0e hi);have hna:=Zd7 hj;have hnx:na l[I[i]]=[.int .i64 l[I[i]].nu,.int .i64 l[I[i]].dy,.int .u8 l[I[i]].sg,.int .i64 l[I[i]].dr,.int .i64 l[I[i]].lt,.int .i64 l[I[i]].fr,.int .i64 l[I[i]].tu,.int .i64 l[I[i]].ca,.bool l[I[i]].up,.int .u8 l[I[i]].wy]:=rfl;have bb:((sbN (opQ l) v i).length+1)*8<=70368744177664:=(by omega);have lnm:=Zhd (sbN (opQ l) v i);have em:=Zhc (sbN (opQ l) v i) l[I[i]].nu;rw[hna]at sn;refine Qga ?_;by_cases cb:v / 2 ^ i % 2=1
      . rw[if_pos cb]at sn bU;simp -implicitDefEqProofs[thI,thT,hT,hO,hi,bU,ja,wi,sn,hj,hnx,bb,lnm];refine ⟨rfl,?_⟩;rw[<- em]
        ((try simp only[ja]);refine Ym.sub (by simp[lk,Ya,AV.keys,ja]) ?_;simp only[ja,Wkl,Zh9,Zhe,and_true];(try simp[lk,Yc,Ya,AV.keys,ja]))
      . rw[if_neg cb]at sn bU;simp -implicitDefEqProofs[thI,thT,hT,hO,hi,bU,ja,wi,sn]
        ((try simp only[ja]);refine Ym.sub (by simp[lk,Ya,AV.keys,ja]) ?_;simp only[ja,Wkl,Zh9,Zhe,and_true];(try simp[lk,Yc,Ya,AV.keys,ja]))
    . intro _;have k5:=Zhf (sbN (opQ l) v I.length);have k6:=Zhd (sbN (opQ l) v I.length);have k7:(sbN (opQ l) v I.length).map ia=iaM (sbN (opQ l) v I.length):=rfl;rw[eTv,k7]at tk;have bb:(v+1)*24<=70368744177664:=(by omega);refine Qga ?_;simp -implicitDefEqProofs[thI,thT,hT,hO];refine Z2S mixed 2 ?_;simp -implicitDefEqProofs[];refine GO0 (Z2R (st':=⟨(6,.vsl (iaM (sbN (opQ l) v I.length)))::(4,thL v)::thT (.vsl (I.map ja)) v,thO r l v⟩) (Ym.trans (Ym.frz (λk=>k == 17) _) ?_) ?_)
      . simp only[thT,hT,hO]
        ((try simp only[Yi,frzA,frzO,frz,Yh,Yj,St.get,AV.pure,Zhf,Zhd,ja,k5,k6,Zhb]);refine Ym.sub (by simp[lk,Ya,AV.keys,Yi,frzA,frzO,frz,Yh,Yj,St.get,AV.pure,Zhf,Zhd,ja,k5,k6,Zhb]) ?_;simp only[Yi,frzA,frzO,frz,Yh,Yj,St.get,AV.pure,Zhf,Zhd,ja,k5,k6,Zhb,Wkl,Zh9,and_true];(try simp[lk,Yc,Ya,AV.keys,Yi,frzA,frzO,frz,Yh,Yj,St.get,AV.pure,Zhf,Zhd,ja,k5,k6,Zhb]))
      refine Qga ?_;simp -implicitDefEqProofs[thT,hT,hO,bb,tln];refine Qgr ?_;simp -implicitDefEqProofs[thS,thT,hT1,hO1,wv];rw[<- tk]
      ((try simp only[ja,v0]);refine Ym.sub (by simp[lk,Ya,AV.keys,ja,v0]) ?_;simp only[ja,v0,Wkl,Zh9,and_true];(try simp[lk,Yc,Ya,AV.keys,ja,v0]))
 . intro _;have k0:¬K=0:=(by omega);have hT:thL K = .osl 44 K:=(by simp[thL,k0]);have hO:thO r l K=[(44,.row 1 (trK (opQ l) K)),(1,.box [.vsl (r.map isa),.vsl (l.map na)])]:=(by simp[thO,k0]);have tp:=Zha (opQ l) K;have tl:=Zh8 (opQ l) K;refine Qga ?_;simp -implicitDefEqProofs[thS,thT,hT,hO,sh];refine Qgr ?_;simp -implicitDefEqProofs[tp,tl]
end
def zN1:Nte:=⟨0,0,0,0,1,0,0,0,false,0⟩
def byV (s:List Int) (m:Int) (l:List Nte) (d:Int):Nat->Nte
 |0=>zN1
 |i+1=>if (nAt l i).dr=d/\fB s [] m l i=true then nAt l i else byV s m l d i
def byK (s:List Int) (m:Int) (l:List Nte) (d:Int):Nat->List (Int×Bool)->List (Int×Bool)
 |0,K=>K
 |i+1,K=>if (nAt l i).dr=d then if fB s [] m l i=true then ifK s [] m l l.length i K else byK s m l d i (ifK s [] m l l.length i K) else byK s m l d i K
def z10:List AV:=[.int .i64 0,.int .i64 0,.int .u8 0,.int .i64 0,.int .i64 0,.int .i64 0,.int .i64 0,.int .i64 0,.bool false,.int .u8 0]
def byS (F sV:AV) (m d:Int) (x:Nat×List (Int×Bool)):St :=
 ⟨[(7,.int .i64 ((x.1:Int)-1)),(6,.ptr 6 0),(0,F),(1,.func (.func 162) [] fcC),(2,.int .i64 d)],(6,.box z10)::fcO F sV .nils m x.2⟩
section
variable {G:Nat->Option (List AV)}
set_option maxHeartbeats 2000000 in
theorem by_pb (r:List Iss) (l:List Nte) (s:List Int) (m d:Int) (K:List (Int×Bool)) (hl:l.length<=12) (hs:Sml s) (hK:OkK s [] m l K) :
  PB Tryz.prog G 113 (fcO (fileA r l) (.vsl (s.map ia)) .nils m K) [fileA r l,.func (.func 162) [] fcC,.int .i64 d] (.agg (na (byV s m l d l.length))) (fcO (fileA r l) (.vsl (s.map ia)) .nils m (byK s m l d l.length K)):=by
 have hI:=λi K hi hK=>is_pb (G:=G) r l false true s [] m hl hs (by simp[Sml]) l.length i K hi (by omega) hK
 have e1:liA false s = .vsl (s.map ia):=(by simp[liA]);have e2:liA true [] = .nils:=(by simp[liA]);rw[e1,e2]at hI;have hF:fileA r l = .vptr [.vsl (r.map isa),.vsl (l.map na),.vsl ((nums r).map ia),opA l] 0:=rfl;have fF:∀ ok st,frz ok st 6 (fileA r l)=some (fileA r l):=λok st=>by rw[hF];simp[frz,AV.keys]
 have kF:(fileA r l).keys=[]:=(by rw[hF];simp[AV.keys]);have rF:=λρ=>AV.ren_pure (ρ:=ρ) (fileA r l) (Zgi r l)
 simp only[hF]at hI fF kF rF ⊢;refine Z6T (W0C rfl) λR hG hrd=>?_
 subst hG;refine Qga ?_;have w0:IntKind.i64.wrap ((l.length:Int)-1)=(l.length:Int)-1:=Yf (by omega) (by omega);simp -implicitDefEqProofs[Z6R,Z6S,fcO,fcC,w0];refine Z1Q (byS (.vptr [.vsl (r.map isa),.vsl (l.map na),.vsl ((nums r).map ia),opA l] 0) (.vsl (s.map ia)) m d) (λx=>x.1<=l.length/\OkK s [] m l x.2/\byV s m l d x.1=byV s m l d l.length/\byK s m l d x.1 x.2=byK s m l d l.length K) (λx=>x.1) (l.length,K) ?_ ⟨W0f _,hK,rfl,rfl⟩ ?_
 . simp only[byS,z10,fcO,fcC]
   ((try simp only[ia]);refine Ym.sub (by simp[lk,Ya,AV.keys,ia]) ?_;simp only[ia,Wkl,Zg6,and_true];(try simp[lk,Yc,Ya,AV.keys,ia]))
 rintro ⟨i,K'⟩ ⟨h1,h2,h3,h4⟩;simp only at h1 h2 h3 h4
 cases i with
 | zero =>
   refine Qga ?_;simp -implicitDefEqProofs[byS,z10,fcO,fcC];refine Qgr ?_;rw[<- h3,<- h4];simp -implicitDefEqProofs[byV,byK,zN1,na];simp -implicitDefEqProofs[FinB,Yi,newK,Zg8,Zgd,frzA,frz,fF,tupV,Z29,Z6S]
 | succ i =>
   have hi:i<l.length:=h1;have hI:=hI i K' hi h2;have hx:=Zd7 hi;rw[byV]at h3;rw[byK]at h4;generalize hxx:nAt l i=x at *;have hlx:l[i]=x:=hx.symm;have hnx:na x=[.int .i64 x.nu,.int .i64 x.dy,.int .u8 x.sg,.int .i64 x.dr,.int .i64 x.lt,.int .i64 x.fr,.int .i64 x.tu,.int .i64 x.ca,.bool x.up,.int .u8 x.wy]:=rfl;have w1:IntKind.i64.wrap ((i:Int)-1)=(i:Int)-1:=Yf (by omega) (by omega);have w2:((i:Int)+1-1)=(i:Int):=(by omega);refine Qga ?_;by_cases c:x.dr=d
   . simp only[fcO]at hI;simp -implicitDefEqProofs[byS,z10,fcO,fcC,hi,hlx,hnx,c,w2];refine Yd.sem (Z1B.byref hI id (by simp) (by simp) (by simp[St.get,lk,AV.ren,AObj.ren,Zg7,ia,rF]) (by simp only[W0g,W0Q,or_false,W1N,forall_eq,Zg6,and_true];simp[lk,Yc,Ya,AV.keys]) (by simp[Ya,AV.keys,lk,fcC]) rfl (by simp[AV.ren,fcC]) rfl rfl) ?_;simp -implicitDefEqProofs[Yl,AV.ren,AObj.ren,Zg7,ia,rF]
     cases hb:fB s [] m l i
     . rw[if_pos c,hb,if_neg (by simp)]at h4;rw[if_neg (λh=>by rw[hb]at h;cases h.2)]at h3;simp -implicitDefEqProofs[w1];refine ⟨(i,ifK s [] m l l.length i K'),?_,⟨by omega,Zg2 _ _ h2,h3,h4⟩,W2w _⟩;simp only[byS,z10,fcO,fcC]
       (refine Ym.sub (by simp[lk,Ya,AV.keys]) ?_;simp only[Wkl,Zg6,and_true];(try simp[lk,Yc,Ya,AV.keys]))
     . rw[if_pos c,hb,if_pos rfl]at h4;rw[if_pos ⟨c,hb⟩]at h3;rw[<- h3,<- h4];have hnd:na x=[.int .i64 x.nu,.int .i64 x.dy,.int .u8 x.sg,.int .i64 d,.int .i64 x.lt,.int .i64 x.fr,.int .i64 x.tu,.int .i64 x.ca,.bool x.up,.int .u8 x.wy]:=(by rw[<- c];rfl);simp -implicitDefEqProofs[hnd];refine Qgr ?_;simp -implicitDefEqProofs[FinB,Yi,newK,Zg8,Zgd,frzA,frz,fF,tupV,Z29,Z6S]
   . rw[if_neg (λh=>c h.1)]at h3;rw[if_neg c]at h4;simp -implicitDefEqProofs[byS,z10,fcO,fcC,hi,hlx,hnx,c,w1,w2];refine ⟨(i,K'),?_,⟨by omega,h2,h3,h4⟩,W2w _⟩;simp only[byS,z10,fcO,fcC]
     ((try simp only[ia]);refine Ym.sub (by simp[lk,Ya,AV.keys,ia]) ?_;simp only[ia,Wkl,Zg6,and_true];(try simp[lk,Yc,Ya,AV.keys,ia]))
end
open Qq in
def Zhi:RCode :=
 .seq (r 0 [b 3 0,b 4 1,n 6 (.bool false)]) (.seq (r 1 [m 7 2,w 8 (.mkf (.func 174) [] [.t 3,.t 4]),c 9 85 [7,8],t 10 9,m 6 10]) .ret)
def Zhj:List RRes:=[.t 6]
theorem Zhk:PCt Tryz.prog 138 Tryz.f138 Zhi Zhj:=pcT Tryz.func138 rfl (by kernel_rfl) (by kernel_rfl) (by kernel_rfl)
open Qq in
def Zhl:RCode :=
 .seq (r 0 [n 4 (.bool false)]) (.seq (r 1 [m 5 0,l 6 1,o 7 .lss 5 6,m 8 7,g 8 false (m 9 0),g 8 false (l 10 2),g 8 false (o 11 .gtr 9 10),u 12 8 11,m 4 12]) .ret)
def Zhm:List RRes:=[.t 4]
theorem Zhn:PCt Tryz.prog 174 Tryz.f174 Zhl Zhm:=pcT Tryz.func174 rfl (by kernel_rfl) (by kernel_rfl) (by kernel_rfl)
open Qq in
def Zho:RCode :=
 .seq (r 0 [b 3 1,n 4 O]) (.seq (r 1 [m 5 0,w 6 (.nilck (.t 5)),f 7 0 6,f 8 2 7,l 9 8,w 10 (.mkf (.func 141) [] [.t 3]),c 11 140 [9,10],m 4 11]) .ret)
def Zhp:List RRes:=[.t 4]
theorem Zhq:PCt Tryz.prog 82 Tryz.f82 Zho Zhp:=pcT Tryz.func82 rfl (by kernel_rfl) (by kernel_rfl) (by kernel_rfl)
open Qq in
def Zhr:RCode :=
 .seq (r 0 [b 2 0,n 3 (.bool false)]) (.seq (r 1 [f 4 0 2,l 5 4,l 6 1,o 7 .eql 5 6,m 3 7]) .ret)
def Zhs:List RRes:=[.t 3]
theorem Zht:PCt Tryz.prog 141 Tryz.f141 Zhr Zhs:=pcT Tryz.func141 rfl (by kernel_rfl) (by kernel_rfl) (by kernel_rfl)
open Qq in
def Zhu:RCode :=
 .seq (r 0 [b 3 1,n 4 (.bool false)]) (.seq (r 1 [f 5 0 3,l 6 5,w 7 (.bsl false 1 1 [O] [(0,.t 6)]),w 8 (.call 138 [.c I,.c (.int .i64 9999),.t 7]),m 9 8,g 9 true (f 10 1 3),g 9 true (l 11 10),g 9 true (w 12 (.bsl false 1 1 [O] [(0,.t 11)])),g 9 true (w 13 (.call 138 [.c O,.c (.int .i64 14610),.t 12])),v 14 9 13,m 4 14]) .ret)
def Zhv:List RRes:=[.t 4]
theorem Zhw:PCt Tryz.prog 252 Tryz.f252 Zhu Zhv:=pcT Tryz.func252 rfl (by kernel_rfl) (by kernel_rfl) (by kernel_rfl)
open Qq in
def Zhx:RCode :=
 .seq (r 0 [b 3 1,n 4 (.bool false)]) (.seq (r 1 [m 5 0,f 6 2 3,l 7 6,c 8 82 [5,7],k 9 .geq 8 O,m 4 9]) .ret)
def Zhy:List RRes:=[.t 4]
theorem Zhz:PCt Tryz.prog 253 Tryz.f253 Zhx Zhy:=pcT Tryz.func253 rfl (by kernel_rfl) (by kernel_rfl) (by kernel_rfl)
open Qq in
def ZhA:RCode :=
 .seq (r 0 [b 3 1,n 4 (.bool false)]) (.seq (r 1 [m 5 0,w 6 (.nilck (.t 5)),f 7 0 6,f 8 0 7,f 9 0 8,f 10 0 9,l 11 10,w 12 (.mkf (.func 256) [] [.t 3]),c 13 255 [11,12],m 4 13]) .ret)
def ZhB:List RRes:=[.t 4]
theorem ZhC:PCt Tryz.prog 254 Tryz.f254 ZhA ZhB:=pcT Tryz.func254 rfl (by kernel_rfl) (by kernel_rfl) (by kernel_rfl)
open Qq in
def ZhD:RCode :=
 .seq (r 0 [b 2 0,n 3 (.bool false)]) (.seq (r 1 [f 4 3 1,L 5 2 4,f 6 0 2,l 7 6,f 8 1 2,l 9 8,w 10 (.build [O,O] [(0,1,.t 7),(1,1,.t 9)]),w 11 (.eqs false [.i,.i] (.t 5) (.t 10)),m 3 11]) .ret)
def ZhE:List RRes:=[.t 3]
theorem ZhF:PCt Tryz.prog 256 Tryz.f256 ZhD ZhE:=pcT Tryz.func256 rfl (by kernel_rfl) (by kernel_rfl) (by kernel_rfl)
open Qq in
def ZhG:RCode :=
 .seq (r 0 [b 3 1,n 4 (.bool false)]) (.seq (r 1 [f 5 6 3,l 6 5,k 7 .leq 6 (.int .u8 2),m 4 7]) .ret)
def ZhH:List RRes:=[.t 4]
theorem ZhI:PCt Tryz.prog 257 Tryz.f257 ZhG ZhH:=pcT Tryz.func257 rfl (by kernel_rfl) (by kernel_rfl) (by kernel_rfl)
open Qq in
def ZhJ:RCode :=
 .seq (r 0 [b 3 1,n 4 (.bool false)]) (.seq (r 1 [f 5 5 3,l 6 5,k 7 .eql 6 (.int .i64 (-1)),m 8 7,g 8 false (f 9 1 3),g 8 false (l 10 9),g 8 false (f 11 5 3),g 8 false (l 12 11),g 8 false (w 13 (.bsl false 1 1 [O] [(0,.t 12)])),g 8 false (w 14 (.call 138 [.t 10,.c (.int .i64 14610),.t 13])),g 8 false (m 15 14),g 15 true (f 16 6 3),g 15 true (l 17 16),g 15 true (k 18 .eql 17 (.int .u8 0)),g 8 false (v 19 15 18),u 20 8 19,m 4 20]) .ret)
def ZhK:List RRes:=[.t 4]
theorem ZhL:PCt Tryz.prog 258 Tryz.f258 ZhJ ZhK:=pcT Tryz.func258 rfl (by kernel_rfl) (by kernel_rfl) (by kernel_rfl)
open Qq in
def ZhM:RCode :=
 .seq (r 0 [n 2 (.bool false)]) (.scope (.seq (.seq (r 1 [m 12 0,w 13 (.nilck (.t 12)),f 14 0 13,f 15 2 14,l 16 15,e 17 16,k 18 .gtr 17 (.int .i64 6),m 19 18,g 19 false (m 20 0),g 19 false (w 21 (.nilck (.t 20))),g 19 false (f 22 0 21),g 19 false (f 23 3 22),g 19 false (l 24 23),g 19 false (e 25 24),g 19 false (k 26 .gtr 25 (.int .i64 30)),u 27 19 26]) (.cond (.t 27) (.seq (r 2 [n 2 (.bool false)]) .ret) .skip)) (.seq (.seq (r 3 [m 28 0,w 29 (.nilck (.t 28)),f 30 0 29,f 31 2 30,l 32 31,e 33 32,n 34 O]) (.block 0 (.loop (.seq (r 4 [o 35 .lss 34 33]) (.seq (.cond (.t 35) .skip (.exit 0)) (.seq (.block 1 (.seq (r 5 [m 36 34,i 37 4 32 34,L 38 4 37,w 4 (.alloc [O,O,O,.nils]),m 3 36,s 4 4 38]) (.seq (.seq (R 6 [f 39 0 4,a [0] (l 40 39),a [1] (w 41 (.bsl false 1 1 [O] [(0,.t 40)])),a [2] (w 42 (.call 138 [.c I,.c (.int .i64 9999),.t 41])),a [3] (t 43 42),a [4,3] (m 44 43),a [5] (g 44 false (m 45 3)),a [6,5] (g 44 false (k 46 .gtr 45 O)),a [7,5,5] (g 44 false (m 47 46)),a [8] (g 47 true (m 48 0)),a [9,8] (g 47 true (w 49 (.nilck (.t 48)))),a [10,8] (g 47 true (f 50 0 49)),a [11,8] (g 47 true (f 51 2 50)),a [12,8] (g 47 true (l 52 51)),a [8] (g 47 true (m 53 3)),a [14,8] (g 47 true (k 54 .sub 53 I)),a [13,15,8] (g 47 true (i 55 4 52 54)),a [16,8] (g 47 true (f 56 0 55)),a [17,8] (g 47 true (l 57 56)),a [8] (g 47 true (f 58 0 4)),a [19,8] (g 47 true (l 59 58)),a [18,20,8] (g 47 true (o 60 .geq 57 59)),a [8,21,5] (g 44 false (v 61 47 60)),a [5,22] (u 62 44 61),a [23,8] (m 63 62),a [24] (g 63 false (f 64 1 4)),a [25,24] (g 63 false (l 65 64)),a [24] (g 63 false (f 66 2 4)),a [27,24] (g 63 false (l 67 66)),a [26,28,24] (g 63 false (w 68 (.bsl false 1 2 [O,O] [(0,.t 65),(1,.t 67)]))),a [29,24,24] (g 63 false (w 69 (.call 138 [.c I,.c (.int .i64 999),.t 68]))),a [30,24] (g 63 false (t 70 69)),a [24,31] (u 71 63 70),a [32,30] (m 72 71),a [33] (g 72 false (f 73 1 4)),a [34,33] (g 72 false (l 74 73)),a [33] (g 72 false (f 75 2 4)),a [36,33] (g 72 false (l 76 75)),a [35,37,33] (g 72 false (o 77 .gtr 74 76)),a [33,38] (u 78 72 77),a [39,33] (m 79 78),a [40] (g 79 false (f 80 3 4)),a [41,40] (g 79 false (l 81 80)),a [42,40] (g 79 false (e 82 81)),a [43,40] (g 79 false (k 83 .gtr 82 (.int .i64 8))),a [40,44] (u 84 79 83)]) (.cond (.t 84) (.seq (r 7 [n 2 (.bool false)]) .ret) .skip)) (.seq (r 8 [f 85 3 4,l 86 85,e 87 86,n 88 O]) (.block 2 (.loop (.seq (r 9 [o 89 .lss 88 87]) (.seq (.cond (.t 89) .skip (.exit 2)) (.seq (.block 3 (.seq (r 10 [m 90 88,i 91 1 86 88,l 92 91,m 5 90,m 6 92]) (.seq (r 11 [m 93 0,w 94 (.nilck (.t 93)),f 95 4 94,l 96 95,m 97 6,c 98 87 [96,97],t 99 98,m 100 99,g 100 false (m 101 5),g 100 false (k 102 .gtr 101 O),g 100 false (m 103 102),g 103 true (f 104 3 4),g 103 true (l 105 104),g 103 true (m 106 5),g 103 true (k 107 .sub 106 I),g 103 true (i 108 1 105 107),g 103 true (l 109 108),g 103 true (m 110 6),g 103 true (o 111 .geq 109 110),g 100 false (v 112 103 111),u 113 100 112]) (.cond (.t 113) (.seq (r 12 [n 2 (.bool false)]) .ret) .skip)))) (r 13 [k 114 .add 88 I,m 88 114])))))))))) (r 14 [k 115 .add 34 I,m 34 115]))))))) (.seq (r 15 [n 7 (.bool true)]) (.seq (.label 0) (.seq (.seq (r 16 [m 116 0,w 117 (.nilck (.t 116)),f 118 0 117,f 119 3 118,l 120 119,e 121 120,n 122 O]) (.block 4 (.loop (.seq (r 17 [o 123 .lss 122 121]) (.seq (.cond (.t 123) .skip (.exit 4)) (.seq (.block 5 (.seq (r 18 [m 124 122,i 125 7 120 122,L 126 7 125,w 9 (.alloc [O,O,O,O,O,O,.int .u8 0]),m 8 124,s 7 9 126]) (.seq (.seq (R 19 [m 127 8,a [0] (k 128 .gtr 127 O),a [1] (m 129 128),a [2] (g 129 true (m 130 0)),a [3,2] (g 129 true (w 131 (.nilck (.t 130)))),a [4,2] (g 129 true (f 132 0 131)),a [5,2] (g 129 true (f 133 3 132)),a [6,2] (g 129 true (l 134 133)),a [2] (g 129 true (m 135 8)),a [8,2] (g 129 true (k 136 .sub 135 I)),a [7,9,2] (g 129 true (i 137 7 134 136)),a [10,2] (g 129 true (f 138 0 137)),a [11,2] (g 129 true (l 139 138)),a [2] (g 129 true (f 140 0 9)),a [13,2] (g 129 true (l 141 140)),a [12,14,2] (g 129 true (o 142 .geq 139 141)),a [2,15] (v 143 129 142)]) (.cond (.t 143) (.seq (r 20 [n 2 (.bool false)]) .ret) .skip)) (.seq (r 21 [w 144 (.load true 5 (.g 1)),n 145 O]) (.block 6 (.loop (.seq (r 22 [k 146 .lss 145 (.int .i64 5)]) (.seq (.cond (.t 146) .skip (.exit 6)) (.seq (.block 7 (.seq (r 23 [w 147 (.vop (.aidx true 5 1) [(.t 144),(.t 145)]),w 11 (.alloc [.nilf]),s 1 11 147]) (.seq (r 24 [f 148 0 11,l 149 148,m 150 0,L 151 7 9,w 152 (.callv (.t 149) [.t 150,.t 151]),m 7 152]) (.seq (r 25 [m 153 7,t 154 153]) (.cond (.t 154) (.exit 4) .skip))))) (r 26 [k 155 .add 145 I,m 145 155])))))))))) (r 27 [k 156 .add 122 I,m 122 156]))))))) (.seq (r 28 [m 157 7,m 2 157]) .ret)))))))
def ZhN:List RRes:=[.t 2]
theorem ZhO:PCt Tryz.prog 132 Tryz.f132 ZhM ZhN:=pcT Tryz.func132 rfl (by kernel_rfl) (by kernel_rfl) (by kernel_rfl)
open Qq in
def ZhP:RCode :=
 .seq (r 0 [b 1 0,n 2 .nilp,n 3 O]) (.seq (.seq (r 1 [f 6 0 1,L 7 2 6,c 8 130 [7],m 4 8]) (.seq (r 2 [m 9 4,k 10 .neq 9 O]) (.cond (.t 10) (.seq (r 3 [m 11 4,n 2 .nilp,m 3 11]) .ret) .skip))) (.seq (r 4 [L 12 4 1,w 13 (.build [.nils,.nils,.nils,.nils,.nils] [(0,4,.t 12)]),b 14 13,m 5 14]) (.seq (r 5 [m 16 5,f 17 0 1,f 18 0 17,L 19 1 18,c 20 131 [19],m 15 20,x 21 0 15,x 22 1 15,w 23 (.nilck (.t 16)),f 24 4 23,s 1 24 21]) (.seq (.seq (r 6 [m 25 5,c 26 132 [25],t 27 26]) (.cond (.t 27) (.seq (r 7 [n 2 .nilp,n 3 (.int .i64 70)]) .ret) .skip)) (.seq (r 8 [m 28 5,m 2 28,n 3 O]) .ret)))))
def ZhQ:List RRes:=[.t 2,.t 3]
theorem ZhR:PCt Tryz.prog 76 Tryz.f76 ZhP ZhQ:=pcT Tryz.func76 rfl (by kernel_rfl) (by kernel_rfl) (by kernel_rfl)
open Qq in
def ZhS:RCode :=
 .seq (r 0 [b 3 0,n 6 .nilp,n 7 O]) (.seq (r 1 [L 11 4 3,c 12 76 [11],m 10 12,x 13 0 10,x 14 1 10,m 8 13,m 9 14]) (.seq (.seq (r 2 [m 15 9,k 16 .neq 15 O]) (.cond (.t 16) (.seq (r 3 [m 17 9,n 6 .nilp,m 7 17]) .ret) .skip)) (.seq (.seq (r 4 [m 18 1,w 19 (.bsl false 1 1 [O] [(0,.t 18)]),w 20 (.call 138 [.c O,.c (.int .i64 14610),.t 19]),t 21 20,m 22 21,g 22 false (m 23 2),g 22 false (w 24 (.bsl false 1 1 [O] [(0,.t 23)])),g 22 false (w 25 (.call 138 [.c I,.c (.int .i64 999),.t 24])),g 22 false (t 26 25),u 27 22 26]) (.cond (.t 27) (.seq (r 5 [n 6 .nilp,n 7 (.int .i64 2)]) .ret) .skip)) (.seq (r 6 [m 28 8,m 6 28,n 7 O]) .ret))))
def ZhT:List RRes:=[.t 6,.t 7]
theorem ZhU:PCt Tryz.prog 89 Tryz.f89 ZhS ZhT:=pcT Tryz.func89 rfl (by kernel_rfl) (by kernel_rfl) (by kernel_rfl)
open Qq in
def ZhV:RCode :=
 .seq (r 0 [b 2 0,b 3 1,n 4 .nilf]) (.seq (r 1 [w 5 (.mkf (.func 128) [] [.t 2,.t 3]),m 4 5]) .ret)
def ZhW:List RRes:=[.t 4]
theorem ZhX:PCt Tryz.prog 70 Tryz.f70 ZhV ZhW:=pcT Tryz.func70 rfl (by kernel_rfl) (by kernel_rfl) (by kernel_rfl)
open Qq in
def ZhY:RCode :=
 .seq (r 0 [l 7 1,w 8 (.nilck (.t 7)),f 9 0 8,f 10 3 9,l 11 10,e 12 11,n 13 O]) (.block 0 (.loop (.seq (r 1 [o 14 .lss 13 12]) (.seq (.cond (.t 14) .skip (.exit 0)) (.seq (.block 1 (.seq (r 2 [m 15 13,i 16 7 11 13,L 17 7 16,w 5 (.alloc [O,O,O,O,O,O,.int .u8 0]),m 4 15,s 7 5 17]) (.seq (r 3 [f 18 5 5,l 19 18,k 20 .neq 19 (.int .i64 (-1)),m 21 20,g 21 true (f 22 5 5),g 21 true (l 23 22),g 21 true (l 24 2),g 21 true (o 25 .leq 23 24),v 26 21 25,m 6 26]) (.seq (r 4 [f 27 1 5,l 28 27,l 29 2,o 30 .leq 28 29,m 31 30,g 31 true (m 32 6),g 31 true (t 33 32),v 34 31 33,m 35 34,g 35 true (f 36 6 5),g 35 true (l 37 36),g 35 true (k 38 .neq 37 (.int .u8 2)),v 39 35 38,m 40 39,g 40 true (m 41 0),g 40 true (m 42 4),g 40 true (L 43 7 5),g 40 true (w 44 (.callv (.t 41) [.t 42,.t 43])),g 40 true (t 45 44),v 46 40 45]) (.cond (.t 46) .ret .skip))))) (r 5 [k 47 .add 13 I,m 13 47]))))))
open Qq in
def ZhZ:RCode :=
 .seq (r 0 [n 4 O]) (.seq (.seq (r 1 [m 6 0,e 7 6,n 8 O]) (.block 0 (.loop (.seq (r 2 [o 9 .lss 8 7]) (.seq (.cond (.t 9) .skip (.exit 0)) (.seq (.block 1 (.seq (r 3 [m 10 8,m 5 10]) (.seq (r 4 [m 11 1,m 12 0,m 13 5,i 14 4 12 13,L 15 4 14,w 16 (.callv (.t 11) [.t 15])]) (.cond (.t 16) (.seq (r 5 [m 17 5,m 4 17]) .ret) .skip)))) (r 6 [k 18 .add 8 I,m 8 18]))))))) (.seq (r 7 [n 4 (.int .i64 (-1))]) .ret))
def Zi0:List RRes:=[.t 4]
theorem Zi1:PCt Tryz.prog 140 Tryz.f140 ZhZ Zi0:=pcT Tryz.func140 rfl (by kernel_rfl) (by kernel_rfl) (by kernel_rfl)
open Qq in
def Zi2:RCode :=
 .seq (r 0 [n 4 O]) (.seq (.seq (r 1 [m 6 0,e 7 6,n 8 O]) (.block 0 (.loop (.seq (r 2 [o 9 .lss 8 7]) (.seq (.cond (.t 9) .skip (.exit 0)) (.seq (.block 1 (.seq (r 3 [m 10 8,m 5 10]) (.seq (r 4 [m 11 1,m 12 0,m 13 5,i 14 5 12 13,L 15 5 14,w 16 (.callv (.t 11) [.t 15])]) (.cond (.t 16) (.seq (r 5 [m 17 5,m 4 17]) .ret) .skip)))) (r 6 [k 18 .add 8 I,m 8 18]))))))) (.seq (r 7 [n 4 (.int .i64 (-1))]) .ret))
def Zi3:List RRes:=[.t 4]
theorem Zi4:PCt Tryz.prog 259 Tryz.f259 Zi2 Zi3:=pcT Tryz.func259 rfl (by kernel_rfl) (by kernel_rfl) (by kernel_rfl)
open Qq in
def Zi5:RCode :=
 .seq (r 0 [n 4 (.bool false)]) (.seq (r 1 [m 5 0,m 6 1,c 7 259 [5,6],k 8 .geq 7 O,m 4 8]) .ret)
def Zi6:List RRes:=[.t 4]
theorem Zi7:PCt Tryz.prog 255 Tryz.f255 Zi5 Zi6:=pcT Tryz.func255 rfl (by kernel_rfl) (by kernel_rfl) (by kernel_rfl)
open Qq in
def Zi8:RCode :=
 .seq (r 0 [n 2 .nils]) (.seq (.seq (r 1 [m 6 0,e 7 6,k 8 .lss 7 (.int .i64 2)]) (.cond (.t 8) (.seq (r 2 [m 9 0,m 2 9]) .ret) .skip)) (.seq (.seq (r 3 [n 3 I]) (.block 0 (.loop (.seq (.seq (r 4 [m 10 3,m 11 0,e 12 11,o 13 .lss 10 12]) (.cond (.t 13) .skip (.exit 0))) (.seq (.block 1 (.seq (R 6 [m 16 0,m 17 3,a [0,1] (i 18 1 16 17),a [2] (l 19 18),m 20 0,m 21 3,a [5] (k 22 .sub 21 I),a [4,6] (i 23 1 20 22),a [7] (l 24 23),a [3,8] (o 25 .eql 19 24)]) (.cond (.t 25) (.seq (r 7 [m 26 0,m 27 3,w 28 (.slc 1 (.t 26) (some (.t 27)) none),m 4 28]) (.seq (.seq (r 8 [n 5 I]) (.block 2 (.loop (.seq (.seq (r 9 [m 29 5,m 30 4,e 31 30,o 32 .lss 29 31]) (.cond (.t 32) .skip (.exit 2))) (.seq (.block 3 (.seq (R 11 [m 35 4,m 36 5,a [0,1] (i 37 1 35 36),a [2] (l 38 37),m 39 4,m 40 5,a [5] (k 41 .sub 40 I),a [4,6] (i 42 1 39 41),a [7] (l 43 42),a [3,8] (o 44 .neq 38 43)]) (.cond (.t 44) (.seq (r 12 [m 45 0,m 46 3,m 47 4,m 48 5,i 49 1 47 48,l 50 49,i 51 1 45 46,s 1 51 50]) (r 13 [m 52 3,k 53 .add 52 I,m 3 53])) .skip))) (r 10 [m 33 5,k 34 .add 33 I,m 5 34])))))) (.seq (r 14 [m 54 0,m 55 3,w 56 (.slc 1 (.t 54) (some (.t 55)) none),z (.clr 1 [O] (.t 56))]) (.seq (r 15 [m 57 0,m 58 3,w 59 (.slc 1 (.t 57) none (some (.t 58))),m 2 59]) .ret)))) .skip))) (r 5 [m 14 3,k 15 .add 14 I,m 3 15])))))) (.seq (r 16 [m 60 0,m 2 60]) .ret)))
def Zi9:List RRes:=[.t 2]
theorem Zia {G:Nat->Option (List AV)} {objs objs':List (Nat×AObj)} {args:List AV} {v:AV} (hn:args.length<=Tryz.f116.ntmps) (h:∀ R:Run,R.G=G->R.Top->AR Tryz.prog R Zi8 ⟨iniT 0 args,objs⟩ (FinB Zi9 v objs')):PB Tryz.prog G 116 objs args v objs' :=
 PB_of Tryz.func116 rfl (by kernel_rfl) (rc:=Zi8) (by kernel_rfl) (rs:=Zi9) (by kernel_rfl) hn (λR _ hG hr=>h R hG hr)
structure Hld where
 id:Int
 fr:Int
 to:Int
 ds:List Int
structure Prt where
 no:Int
 dy:Int
 ho:Int
 dw:Int
 lt:Int
 bk:Int
 lo:Int
deriving DecidableEq
def hoa (h:Hld):List AV:=[.int .i64 h.id,.int .i64 h.fr,.int .i64 h.to,.vsl (h.ds.map ia)]
def ptA (x:Prt):List AV:=[.int .i64 x.no,.int .i64 x.dy,.int .i64 x.ho,.int .i64 x.dw,.int .i64 x.lt,.int .i64 x.bk,.int .u8 x.lo]
def outB (x:Prt) (day:Int):Bool:=decide (x.dy<=day)&&(decide (x.bk = -1)||decide (day<x.bk)) && !decide (x.lo=2)
theorem Zib {a b:List Int} (ha:a.Pairwise (· < ·)) (hb:b.Pairwise (· < ·)) (h:∀ x,x∈a↔x∈b):a=b:=by
 have na:a.Nodup:=ha.imp λh=>Int.ne_of_lt h
 have nb:b.Nodup:=hb.imp λh=>Int.ne_of_lt h
 exact List.Perm.eq_of_pairwise (le:=λx y:Int=>x<y) (λx y _ _ h1 h2=>by omega) ha hb ((List.perm_ext_iff_of_nodup na nb).2 h)
def cmpG (p:Int):List Int->List Int
 |[]=>[]
 |x::t=>if x=p then cmpG p t else x::cmpG x t
def cmpI:List Int->List Int
 |[]=>[]
 |a::t=>a::cmpG a t
theorem Zic:∀ (l:List Int) (p:Int),SrtI (p::l)->(cmpG p l).Pairwise (· < ·)/\(∀ x∈cmpG p l,p<x)/\∀ x,x∈cmpG p l↔x∈l/\x≠p
 |[],p,_=>by simp[cmpG]
 | a :: t, p,h=>by
   have h1:SrtI (a::t):=(W1l.1 h).2;have h2:p<=a:=(W1l.1 h).1 a (W0H ..);unfold cmpG;by_cases e:a=p
   . rw[if_pos e];subst e;obtain ⟨g1,g2,g3⟩:=Zic t a h1;refine ⟨g1,g2,λx=>?_⟩;rw[g3]
     constructor
     . rintro ⟨q1,q2⟩;exact ⟨W0z _ q1,q2⟩
     . rintro ⟨q1,q2⟩;rcases W0g.1 q1 with q|q
       . exact absurd q q2
       . exact ⟨q,q2⟩
   . rw [if_neg e];obtain ⟨g1,g2,g3⟩:=Zic t a h1;have h3:p<a:=(by omega);refine ⟨W1l.2 ⟨λy hy=>g2 y hy,g1⟩,λx hx=>?_,λx=>?_⟩
     . rcases W0g.1 hx with rfl|hx
       . exact h3
       . have:=g2 x hx;omega
     . rw [W0g,W0g,g3]
       constructor
       . rintro (rfl | ⟨q1,q2⟩)
         . exact ⟨.inl rfl,e⟩
         . refine ⟨.inr q1,λq=>?_⟩;subst q;have:=(W1l.1 h1).1 x q1;omega
       . rintro ⟨q|q,q2⟩
         . exact .inl q
         . by_cases q3:x=a
           . exact .inl q3
           . exact .inr ⟨q,q3⟩
theorem Zid {l:List Int} (h:SrtI l):(cmpI l).Pairwise (· < ·):=by
 cases l with
 |nil=>exact .nil
 |cons a t=>exact W1l.2 ⟨(Zic t a h).2.1,(Zic t a h).1⟩
theorem Zie {l:List Int} (h:SrtI l) {x:Int}:x∈cmpI l↔x∈l:=by
 cases l with
 |nil=>rfl
 | cons a t =>
   show x∈a::cmpG a t↔_;rw[W0g,W0g,(Zic t a h).2.2];by_cases e:x=a <;> simp[e]
def setI (l:List Int):List Int:=cmpI (sortI l)
theorem Zif (l:List Int):(setI l).Pairwise (· < ·):=Zid (Zdp l)
theorem Zig {l:List Int} {x:Int}:x∈setI l↔x∈l:=(Zie (Zdp l)).trans Zdt
theorem Zih {l s:List Int} (hs:s.Pairwise (· < ·)) (h:∀ x,x∈s↔x∈l):setI l=s:=Zib (Zif l) hs λx=>Zig.trans (h x).symm
def r9:List Int:=[0,1,2,3,4,5,6,7,8]
def clP (x y:Prt):Bool:=decide (x.ho=y.ho)||decide (x.dw=y.dw)
def apD:List Prt->Nat->List Prt->Option (List Prt)
 |_,0,tk=>some tk
 |[],_+1,_=>none
 | x::t,m+1,tk=>if tk.any (clP x)=true then apD t (m+1) tk else match apD t m (tk++[x]) with
   |some o=>some o
   |none=>apD t (m+1) tk
def frP (x y:Prt):Prop:=clP x y=false
theorem Zii (x y:Prt):clP x y=clP y x:=by simp[clP,eq_comm]
def MfP (l:List Prt) (m:Nat) (tk M:List Prt):Prop:=M.Sublist l/\M.length=m/\M.Pairwise frP/\∀ x∈M,∀ y∈tk,frP x y
theorem Zij:∀ {l:List Prt} {m:Nat} {tk o:List Prt},apD l m tk=some o->∃ M,o=tk++M/\MfP l m tk M
 | l,0,tk,o,h=>by
   have h:some tk=some o:=by cases l <;> exact h
   cases h
   exact ⟨[],by simp,List.nil_sublist _,rfl,.nil,by simp⟩
 |[],m+1,tk,o,h=>by cases h
 | x :: t,m+1,tk,o,h=>by
   unfold apD at h;by_cases e:tk.any (clP x)=true
   . rw[if_pos e]at h;obtain ⟨M,h1,h2,h3⟩:=Zij h;exact ⟨M,h1,h2.cons _,h3⟩
   . rw [if_neg e]at h
     have free:∀ y∈tk,clP x y=false:=by
      intro y hy
      cases q:clP x y with
      |false=>rfl
      |true=>exact absurd (W14.2 ⟨y,hy,q⟩) e
     cases q:apD t m (tk++[x]) with
     | some o' =>
       rw[q]at h
       cases h
       obtain ⟨M,h1,h2,h3,h4,h5⟩:=Zij q;refine ⟨x::M,by rw[h1];simp,h2.cons_cons _,by simp[h3],W1l.2 ⟨λy hy=>?_,h4⟩,?_⟩
       . have:=h5 y hy x (by simp);exact (Zii x y).trans this
       . intro z hz y hy;rcases W0g.1 hz with rfl|hz
         . exact free y hy
         . exact h5 z hz y (W0h.2 (.inl hy))
     | none =>
       rw[q]at h;obtain ⟨M,h1,h2,h3⟩:=Zij h;exact ⟨M,h1,h2.cons _,h3⟩
def bitL (ids:List Int) (s:Nat):List Int:=((List.range ids.length).filter λi=>s.testBit i).map λi=>ids.getD i 0
def ndL (dl:List Int) (l:List Prt) (a:List Int):List Int:=dl.filter λd=>l.any λx=>decide (x.dw=d) && !a.contains x.ho
def plN (ids dl:List Int) (l:List Prt) (s:Nat):List Int×List Int:=(bitL ids s,ndL dl l (bitL ids s))
def lexB:List Int->List Int->Bool
 |a::s,b::t=>if a=b then lexB s t else decide (a<b)
 |_,_=>false
def bfr (a b:List Int):Bool:=if a.length=b.length then lexB a b else decide (a.length<b.length)
def szP (p:List Int×List Int):Nat:=p.1.length+p.2.length
def btB (p q:List Int×List Int):Bool:=decide (szP p<szP q)||(decide (szP p=szP q)&&bfr p.1 q.1)
def caN (ids dl:List Int) (l:List Prt):Nat->List Int×List Int
 |0=>plN ids dl l 0
 |s+1=>if btB (plN ids dl l (s+1)) (caN ids dl l s)=true then plN ids dl l (s+1) else caN ids dl l s
def caE (ids dl:List Int) (l:List Prt):List Int×List Int:=caN ids dl l (2 ^ ids.length-1)
theorem Zik (ids dl:List Int) (l:List Prt):∀ n,∃ s,s<=n/\caN ids dl l n=plN ids dl l s
 |0=>⟨0,W0f _,rfl⟩
 | n + 1=>by
   unfold caN
   split
   . exact ⟨n+1,W0f _,rfl⟩
   . obtain ⟨s,h1,h2⟩:=Zik ids dl l n;exact ⟨s,by omega,h2⟩
theorem Zil (ids dl:List Int) (l:List Prt):∃ s,s<2 ^ ids.length/\caE ids dl l=plN ids dl l s:=by
 obtain ⟨s,h1,h2⟩:=Zik ids dl l (2 ^ ids.length-1);have:=Nat.two_pow_pos ids.length;exact ⟨s,by omega,h2⟩
def ltV (l:List Nte) (d m:Int) (v:Nat):Int:=(byV (sbT (opQ l) v) m l d l.length).lt
def r8:List Int:=[1,2,3,4,5,6,7,8]
theorem Zim {x:Int}:x∈r8↔1<=x/\x<=8:=by simp[r8];omega
theorem r8_lt:r8.Pairwise (· < ·):=by decide
def posL (l:List Nte) (d m:Int):List Int:=r8.filter λx=>(List.range (2 ^ (opQ l).length)).any λv=>decide (ltV l d m v=x)
def mk1 (h:Hld) (x:Nte):List Int:=(if inR x.fr h.fr h.to=true then [x.fr] else [])++(if inR (x.tu+1) h.fr h.to=true then [x.tu+1] else [])
def mks (l:List Nte) (h:Hld):List Int:=h.fr::l.flatMap (mk1 h)
def ndsL (l:List Nte) (h:Hld) (d:Int):List Int:=if h.ds.contains d=true then r8.filter λx=>(mks l h).any λm=>(posL l d m).contains x else []
theorem Zin {n a b:Int}:inR n a b=true↔a<=n/\n<=b:=by simp[inR]
theorem Zio {l:List Nte} {h:Hld} {m:Int}:m∈mks l h↔m=h.fr∨∃ x∈l,(m=x.fr/\h.fr<=x.fr/\x.fr<=h.to)∨(m=x.tu+1/\h.fr<=x.tu+1/\x.tu+1<=h.to):=by
 unfold mks;rw[W0g,W0u]
 constructor
 . rintro (q | ⟨x,hx,q⟩)
   . exact .inl q
   . right
     refine ⟨x,hx,?_⟩;rcases W0h.1 q with q|q <;> split at q <;> rename_i e
     . exact .inl ⟨W0B.1 q,Zin.1 e⟩
     . cases q
     . exact .inr ⟨W0B.1 q,Zin.1 e⟩
     . cases q
 . rintro (q | ⟨x,hx,⟨q,q2⟩ | ⟨q,q2⟩⟩)
   . exact .inl q
   . right
     refine ⟨x,hx,W0h.2 (.inl ?_)⟩;rw[if_pos (Zin.2 q2)];exact W0B.2 q
   . right
     refine ⟨x,hx,W0h.2 (.inr ?_)⟩;rw[if_pos (Zin.2 q2)];exact W0B.2 q
theorem Zip (l:List Nte) (d m:Int):(posL l d m).Pairwise (· < ·):=r8_lt.filter _
theorem Ziq (l:List Nte) (h:Hld) (d:Int):(ndsL l h d).Pairwise (· < ·):=by
 unfold ndsL
 split
 . exact r8_lt.filter _
 . exact .nil
theorem Zir {l:List Nte} {d m x:Int}:x∈posL l d m↔(1<=x/\x<=8)/\∃ v,v<2 ^ (opQ l).length/\ltV l d m v=x:=by
 simp[posL,Zim]
theorem Zis {l:List Nte} {h:Hld} {d x:Int}:x∈ndsL l h d↔d∈h.ds/\∃ m∈mks l h,x∈posL l d m:=by
 unfold ndsL;by_cases e:d∈h.ds
 . rw[if_pos (by simpa using e)];simp only[W0G,W14,W0w,e,true_and]
   constructor
   . exact λq=>q.2
   . rintro ⟨m,h1,h2⟩;exact ⟨(Zir.1 h2).1 |> Zim.2,m,h1,h2⟩
 . rw[if_neg (by simpa using e)];simp[e]
theorem Zit {l:List Nte} {h:Hld} (h0:h.fr<=h.to) {m:Int} (hm:m∈mks l h):h.fr<=m/\m<=h.to:=by
 rcases Zio.1 hm with rfl | ⟨x,-,⟨rfl,q⟩ | ⟨rfl,q⟩⟩ <;> omega
theorem Ziu {l:List Nte} {d m:Int} (h:∀ v,1<=ltV l d m v/\ltV l d m v<=8):posL l d m≠[]:=by
 intro e;have:ltV l d m 0∈posL l d m:=Zir.2 ⟨h 0,0,Nat.two_pow_pos _,rfl⟩;rw[e]at this
 cases this
def hoF (hs:List Hld) (id:Int):Option Hld:=hs.find? λh=>decide (h.id=id)
def stB (l:List Nte) (hs:List Hld) (day:Int) (x:Prt):Bool:=outB x day&&match hoF hs x.ho with
 |some h=>h.ds.contains x.dw && !(ndsL l h x.dw).contains x.lt
 |none=>false
def staL (l:List Nte) (hs:List Hld) (ps:List Prt) (day:Int):List Prt:=ps.filter (stB l hs day)
section
variable {l:List Nte} {hs:List Hld} {ps:List Prt} {day:Int} {a b:List Int}
end
theorem Ziv {l:List Nte} {d m:Int} (h:∀ v,v<2 ^ (opQ l).length->1<=ltV l d m v/\ltV l d m v<=8):setI ((List.range (2 ^ (opQ l).length)).map (ltV l d m))=posL l d m:=by
 refine Zih (Zip l d m) λx=>?_
 rw[Zir,W0i]
 constructor
 . rintro ⟨-,v,hv,rfl⟩;exact ⟨v,W1u.2 hv,rfl⟩
 . rintro ⟨v,hv,rfl⟩;have hv:=W1u.1 hv;exact ⟨h v hv,v,hv,rfl⟩
theorem Ziw {l:List Nte} {h:Hld} {d:Int} (hd:h.ds.contains d=true):setI ((mks l h).flatMap λm=>posL l d m)=ndsL l h d:=by
 refine Zih (Ziq l h d) λx=>?_
 rw[Zis,W0u];exact ⟨λq=>q.2,λq=>⟨by simpa using hd,q⟩⟩
theorem Zix {dl:List Int} {L left:List Prt} {a:List Int} (hl:dl.Pairwise (· < ·)) (hd:∀ x∈L,x.dw∈dl) (hm:∀ x,x∈left↔x∈L/\a.contains x.ho=false):setI (left.map (·.dw))=ndL dl L a:=by
 refine Zih (hl.filter _) λd=>?_
 unfold ndL;rw[W0G,W0i,W14]
 constructor
 . rintro ⟨h1,x,hx,q⟩;simp only[W01,W0b,W1C]at q;exact ⟨x,(hm x).2 ⟨hx,q.2⟩,q.1⟩
 . rintro ⟨x,hx,rfl⟩;obtain ⟨h1,h2⟩:=(hm x).1 hx;exact ⟨hd x h1,x,h1,by rw[h2];simp⟩
theorem Ziy (ids:List Int) (s:Nat):∀ i,i<=ids.length->((List.range i).filter λj=>s.testBit j).map (λj=>ids.getD j 0)=sbN ids s i
 |0,_=>rfl
 | i+1,h=>by
   rw[W1y,W1a,W0r,Ziy ids s i (by omega),sbN]
   have e:s.testBit i=decide (s / 2 ^ i % 2=1):=by
    rw[Nat.testBit_eq_decide_div_mod_eq]
   by_cases c:s / 2 ^ i % 2=1
   . rw[if_pos c,W2k (by rw[e];simpa using c)];rfl
   . rw[if_neg c,W2l (by rw[e];simpa using c)];simp
theorem Ziz (ids:List Int) (s:Nat):bitL ids s=sbT ids s:=Ziy ids s ids.length (W0f _)
theorem ZiA {r:List Iss} (h:openV r=0):Zax r=true:=by
 unfold openV at h
 split at h
 . assumption
 . cases h
theorem ZiB {r:List Iss} {l:List Nte} (hr:openV r=0) (hB:Zda r l=true) {d:Int} (hd:d∈nums r) (m:Int) (v:Nat):(findN d (ltV l d m v) r).isSome=true:=by
 have hL:=ZiA hr
 have hone:(findN d 1 r).isSome=true:=by
  rw[Zd6 hL];obtain ⟨i,hi,e⟩:=ZaJ (ZaF hL) hd;have hm:=W0e hi;have hf:=Zd5 hL hm;have h1:inR r[i].l 1 (lastV r d)=true:=(Zd6 hL d r[i].l).1 (by rw[<- e,hf];rfl);have h2:=W0X h1;exact W0M (by omega)
 have hd0:d≠0:=by
  obtain ⟨i,hi,e⟩:=ZaJ (ZaF hL) hd;have hm:=W0e hi;have h1:Zax r=true:=hL;simp only[Zax,W01,W03]at h1;have h2:=h1.1.1.1.2 _ hm;simp only[issB,headB,W01]at h2;have h3:1<=r[i].d/\r[i].d<=9999:=(by simpa [inR] using h2.1.1.1.1.1);omega
 have key:∀ i,i<=l.length->(findN d (byV (sbT (opQ l) v) m l d i).lt r).isSome=true:=by
  intro i
  induction i with
  |zero=>intro _;exact hone
  | succ i ih =>
    intro hi;rw[byV]
    split
    . rename_i c;simp only[Zda,W01]at hB;have h1:=Zau.1 hB.1.2 i (by omega);simp only[noteB,W01]at h1;have h4:=h1.1.1.1.1.2;unfold cN4 at h4;rw[if_neg (by rw[c.1];intro q;exact hd0 q.1),c.1]at h4;exact h4
    . exact ih (by omega)
 exact key l.length (W0f _)
theorem ZiC {r:List Iss} {l:List Nte} (hr:openV r=0) (hB:Zda r l=true) {d:Int} (hd:d∈nums r) (m:Int) (v:Nat):1<=ltV l d m v/\ltV l d m v<=8:=by
 have hL:=ZiA hr;obtain ⟨x,hx⟩:=W0t.1 (ZiB hr hB hd m v);obtain ⟨h1,h2,h3⟩:=ZaX hx;have h4:=hL;simp only[Zax,W01,W03]at h4;have h5:=h4.1.1.1.2 _ h1;simp only[issB,headB,W01]at h5;have h6:1<=x.l/\x.l<=8:=(by simpa [inR] using h5.1.1.1.1.2);omega
theorem ZiD {r:List Iss} {l:List Nte} (hr:openV r=0) (hB:Zda r l=true) {h:Hld} {d:Int} (hd:d∈nums r) (hh:d∈h.ds):ndsL l h d≠[]:=by
 intro e;have:ltV l d h.fr 0∈ndsL l h d:=Zis.2 ⟨hh,h.fr,Zio.2 (.inl rfl),Zir.2 ⟨ZiC hr hB hd h.fr 0,0,Nat.two_pow_pos _,rfl⟩⟩;rw[e]at this
 cases this
def riP (ps:List Prt):Prop:=ps.Pairwise λx y=>x.no<y.no
instance:Inhabited Hld:=⟨⟨0,0,0,[]⟩⟩
instance:Inhabited Prt:=⟨⟨0,0,0,0,0,0,0⟩⟩
def hAt (hs:List Hld) (i:Nat):Hld:=hs.getD i default
def pAt (ps:List Prt) (i:Nat):Prt:=ps.getD i default
theorem ZiE {hs:List Hld} {i:Nat} (h:i<hs.length):hAt hs i=hs[i]:=by simp[hAt,W0j,h]
theorem ZiF {ps:List Prt} {i:Nat} (h:i<ps.length):pAt ps i=ps[i]:=by simp[pAt,W0j,h]
def wksB (D ds:List Int):Bool:=(List.range ds.length).all λk=>D.contains (ds.getD k 0)&&(k == 0||decide (ds.getD (k-1) 0<ds.getD k 0))
def hoB (D:List Int) (hs:List Hld) (i:Nat):Bool:=inR (hAt hs i).id 1 9999&&(i == 0||decide ((hAt hs (i-1)).id<(hAt hs i).id))&&inR (hAt hs i).fr 1 (hAt hs i).to&&decide ((hAt hs i).to<=999)&&decide ((hAt hs i).ds.length<=8)&&wksB D (hAt hs i).ds
def prB (r:List Iss) (hs:List Hld) (x:Prt):Bool:=inR x.no 1 9999&&inR x.dy 0 14610&&(hoF hs x.ho).isSome&&decide (x.lo<=2)&&(findN x.dw x.lt r).isSome&&(decide (x.bk = -1)||(inR x.bk x.dy 14610&&decide (x.lo=0)))
def shB (r:List Iss) (hs:List Hld) (ps:List Prt) (i:Nat):Bool:=(i == 0||decide ((pAt ps (i-1)).no<(pAt ps i).no))&&prB r hs (pAt ps i)
def ptsB (r:List Iss) (hs:List Hld) (ps:List Prt):Bool:=decide (hs.length<=6)&&decide (ps.length<=30)&&(List.range hs.length).all (hoB (nums r) hs)&&(List.range ps.length).all (shB r hs ps)
def ck7 (r:List Iss) (l:List Nte) (hs:List Hld) (ps:List Prt):Int:=if chN r l=0 then if ptsB r hs ps=true then 0 else 70 else chN r l
theorem ZiG {f:Nat->Int} {n:Nat} (h:∀ i,i+1<n->f i<f (i+1)):∀ i j,i<j->j<n->f i<f j:=by
 intro i j hij hj
 induction j with
 |zero=>omega
 | succ j ih =>
   by_cases c:i=j
   . subst c;exact h i hj
   . have:=ih (by omega) (by omega);have:=h j hj;omega
section
variable {r:List Iss} {hs:List Hld} {ps:List Prt}
theorem ZiH:ptsB r hs ps=true↔(hs.length<=6/\(List.range hs.length).all (hoB (nums r) hs)=true)/\ps.length<=30/\riP ps/\∀ x∈ps,prB r hs x=true:=by
 unfold ptsB;rw[W01,W01,W01,W0b,W0b,Zau (n:=ps.length)]
 constructor
 . rintro ⟨⟨⟨h1,h2⟩,h3⟩,h4⟩;refine ⟨⟨h1,h3⟩,h2,?_,λx hx=>?_⟩
   . unfold riP;rw[W0Y];intro i j hi hj hij
     have:=ZiG (f:=λk=>(pAt ps k).no) (n:=ps.length) (λk hk=>by
      have q:=h4 (k+1) hk;simp only[shB,W01,W0T,W0b]at q;simpa using q.1) i j hij hj
     simp only[ZiF hi,ZiF hj]at this;exact this
   . obtain ⟨i,hi,rfl⟩:=W0k hx;have:=h4 i hi;rw[shB,W01,ZiF hi]at this;exact this.2
 . rintro ⟨⟨h1,h3⟩,h2,h4,h5⟩;refine ⟨⟨⟨h1,h2⟩,h3⟩,λi hi=>?_⟩;rw[shB,W01,ZiF hi];refine ⟨?_,h5 _ (W0e hi)⟩
   cases i with
   |zero=>rfl
   | succ i =>
     have:=W0Y.1 h4 i (i+1) (by omega) hi (by omega);simp[ZiF (show i<ps.length by omega),this]
variable {l:List Nte} {day:Int} {a b:List Int}
end
def prA (r:List Iss) (l:List Nte) (hs:List Hld) (ps:List Prt):AV:=.agg [.vsl (r.map isa),.vsl (l.map na),.vsl (hs.map hoa),.vsl (ps.map ptA)]
def ofA (r:List Iss) (l:List Nte) (hs:List Hld) (ps:List Prt):AV:=.vptr [.vsl (r.map isa),.vsl (l.map na),.vsl (hs.map hoa),.vsl (ps.map ptA),.vsl ((nums r).map ia)] 0
theorem ZiI (r:List Iss) (l:List Nte) (hs:List Hld) (ps:List Prt):(ofA r l hs ps).pure=true:=by unfold ofA;simp[AV.pure,isa,na,hoa,ptA]
theorem ZiJ (r:List Iss) (l:List Nte) (hs:List Hld) (ps:List Prt):(ofA r l hs ps).keys=[]:=AV.pure_keys _ (ZiI r l hs ps)
def POk (x:Prt):Prop:=0<=x.lo/\x.lo<=255
def NOk7 (x:Nte):Prop:=0<=x.sg/\x.sg<=255/\0<=x.wy/\x.wy<=255
structure WfP (hs:List Hld) (ps:List Prt):Prop where
 hl:hs.length<=8
 pl:ps.length<=41
 dl:∀ h∈hs,h.ds.length<=20
 po:∀ x∈ps,POk x
def outI (ps:List Prt) (day:Int) (n:Nat):List Nat:=(List.range n).filter λi=>outB (pAt ps i) day
def outP (ps:List Prt) (day:Int):List Prt:=ps.filter λx=>outB x day
theorem ZiK {ps:List Prt} {day:Int} {n:Nat}:outI ps day (n+1)=if outB (pAt ps n) day=true then outI ps day n++[n] else outI ps day n:=by
 unfold outI;rw[W1y,W1a]
 split <;> simp_all
theorem ZiL {ps:List Prt} {day:Int}:∀ {n i:Nat},i<n->outB (pAt ps i) day=true->(outI ps day n)[(outI ps day i).length]? = some i
 |0,_,h,_=>by omega
 | n + 1,i,h,ho=>by
   rw[ZiK];by_cases e:i=n
   . subst e;rw[if_pos ho];simp
   . have ih:=ZiL (n:=n) (i:=i) (by omega) ho
     split
     . rw[W0E (W02.1 ih).1];exact ih
     . exact ih
theorem ZiM (ps:List Prt) (day:Int):∀ n,n<=ps.length->(outI ps day n).map (pAt ps)=(ps.take n).filter λx=>outB x day
 |0,_=>by simp[outI]
 | n+1,h=>by
   have hn:n<ps.length:=h;rw[ZiK,W08 hn,W1a,<- ZiM ps day n (by omega),ZiF hn];by_cases c:outB ps[n] day=true
   . rw[if_pos c];simp[c,ZiF hn]
   . rw[if_neg c];simp[c]
theorem ZiN (ps:List Prt) (day:Int):(outI ps day ps.length).map (pAt ps)=outP ps day:=by
 rw[ZiM ps day _ (W0f _),W0v];rfl
theorem ZiO (ps:List Prt) (day:Int):(outI ps day ps.length).length=(outP ps day).length:=by rw[<- ZiN,W0N]
def outE (ps:List Prt) (day:Int):List (AV×AV):=(outI ps day ps.length).map λ(i:Nat)=>(.int .i64 (i:Int),.agg (ptA (pAt ps i)))
theorem ZiP (ps:List Prt) (day:Int):(outE ps day).length=(outP ps day).length:=by unfold outE;rw[W0N,ZiO]
theorem ZiQ {ps:List Prt} {day:Int} {k:Nat} {x:AV×AV} (h:(outE ps day)[k]? = some x):∃ i:Nat,∃ hk:k<(outP ps day).length,x=(.int .i64 i,.agg (ptA (outP ps day)[k])):=by
 unfold outE at h;rw[W09]at h;obtain ⟨i,hi,rfl⟩:=W04.1 h;have h2:((outI ps day ps.length).map (pAt ps))[k]? = some (pAt ps i):=(by rw[W09,hi];rfl);rw[ZiN]at h2;obtain ⟨hk,h3⟩:=W02.1 h2;exact ⟨i,hk,by rw[h3]⟩
section
variable {G:Nat->Option (List AV)}
theorem ZiR (n lo hi:Int):PC Tryz.prog G 174 [.int .i64 n,.vptr [.int .i64 lo] 0,.vptr [.int .i64 hi] 0] (.bool (!inR n lo hi)):=by
 (refine Zhn rfl λR hG hrd=>Qga ?_;subst hG)
 by_cases h1:n<lo
 . have h2:¬lo<=n:=(by omega);simp -implicitDefEqProofs[Zhl,Zhm,h1,h2,inR]
 . have h2:lo<=n:=(by omega);by_cases h3:hi<n
   . have h4:¬n<=hi:=(by omega);simp -implicitDefEqProofs[Zhl,Zhm,h1,h2,h3,h4,inR]
   . have h4:n<=hi:=(by omega);simp -implicitDefEqProofs[Zhl,Zhm,h1,h2,h3,h4,inR]
theorem ZiS (lo hi:Int) (l:List Int) (hl:Sml l):PC Tryz.prog G 138 [.int .i64 lo,.int .i64 hi,.vsl (l.map ia)] (.bool (l.all λn=>inR n lo hi)):=by
 (refine Zhk rfl λR hG hrd=>Qga ?_;subst hG)
 simp -implicitDefEqProofs[Zhi,Zhj]
 (first|refine Yd.flat (Zb4 174 [.vptr [.int .i64 lo] 0,.vptr [.int .i64 hi] 0] (λn=>!inR n lo hi) l (by simp[AV.pure]) hl (λn _=>ZiR n lo hi)) (by simp[AV.flat]) (by simp) ?_|refine Ye.flat (Zb4 174 [.vptr [.int .i64 lo] 0,.vptr [.int .i64 hi] 0] (λn=>!inR n lo hi) l (by simp[AV.pure]) hl (λn _=>ZiR n lo hi)) (by simp[AV.flat]) (by simp) ?_)
 have e:(!l.any λn=>!inR n lo hi)=l.all λn=>inR n lo hi:=by simp[W2m]
 simp -implicitDefEqProofs[e]
theorem ZiT (lo hi n:Int):PC Tryz.prog G 138 [.int .i64 lo,.int .i64 hi,.vsl [[.int .i64 n]]] (.bool (inR n lo hi)):=by
 have h:=ZiS (G:=G) lo hi [n] (by simp[Sml]);simpa [ia] using h
theorem ZiU (lo hi n m:Int):PC Tryz.prog G 138 [.int .i64 lo,.int .i64 hi,.vsl [[.int .i64 n],[.int .i64 m]]] (.bool (inR n lo hi&&inR m lo hi)):=by
 have h:=ZiS (G:=G) lo hi [n,m] (by simp[Sml]);simpa [ia] using h
theorem ZiV (g:Nat) (caps:List AV) (p:Hld->Bool) (l:List Hld) (hc:caps.all AV.pure=true) (hl:Sml l)
  (hg:∀ x∈l,PC Tryz.prog G g (.agg (hoa x)::caps) (.bool (p x))) :
  PC Tryz.prog G 140 [.vsl (l.map hoa),.func (.func g) [] caps] (.int .i64 (fstOf p l)):=by
 (refine Zi1 rfl λR hG hrd=>Qga ?_;subst hG)
 unfold Sml at hl;have hc2:∀ x∈caps,x.pure=true:=W03.1 hc;simp -implicitDefEqProofs[ZhZ,Zi0];refine Za9 (λi=>⟨[(8,.int .i64 i),(7,.int .i64 l.length),(0,.vsl (l.map hoa)),(1,.func (.func g) [] caps)],[]⟩) (λi=>∀ j (h:j<l.length),j<i->p l[j]=false) l.length (by (first|exact Ym.tm (by simp[lk])|exact Ym.sub (by simp[lk,Ya,AV.keys]) (by simp[lk,Yc,Ya,AV.keys]))) (by simp) ?_ ?_
 . intro i hi he;refine Qga ?_;have w1:IntKind.i64.wrap ((i:Int)+1)=((i+1:Nat):Int):=Yf (by omega) (by omega);have hgi:=hg _ (W0e hi);have hln:(hoa l[i]).length=4:=rfl;have htk:(hoa l[i]).take 4=hoa l[i]:=rfl;simp -implicitDefEqProofs[hi,hln,htk];refine Yd.of hgi (by simpa [AV.pure,hoa] using hc2) ?_
   cases h3:p l[i]
   . simp -implicitDefEqProofs[w1];refine ⟨(by (first|exact Ym.tm (by simp[lk])|exact Ym.sub (by simp[lk,Ya,AV.keys]) (by simp[lk,Yc,Ya,AV.keys]))),λj q1 q2=>?_⟩;by_cases e:j=i
     . subst e;exact h3
     . exact he j q1 (by omega)
   . simp -implicitDefEqProofs;refine Qgr ?_;simp -implicitDefEqProofs[Zb0 hi h3 he]
 . intro he;refine Qga ?_;simp -implicitDefEqProofs[];refine Qgr ?_;simp -implicitDefEqProofs[Zb1 (p:=p) (l:=l) (λj hj=>he j hj hj)]
theorem ZiW (g:Nat) (caps:List AV) (p:Iss->Bool) (l:List Iss) (hc:caps.all AV.pure=true) (hl:Sml l)
  (hg:∀ x∈l,PC Tryz.prog G g (.agg (isa x)::caps) (.bool (p x))) :
  PC Tryz.prog G 259 [.vsl (l.map isa),.func (.func g) [] caps] (.int .i64 (fstOf p l)):=by
 (refine Zi4 rfl λR hG hrd=>Qga ?_;subst hG)
 unfold Sml at hl;have hc2:∀ x∈caps,x.pure=true:=W03.1 hc;simp -implicitDefEqProofs[Zi2,Zi3];refine Za9 (λi=>⟨[(8,.int .i64 i),(7,.int .i64 l.length),(0,.vsl (l.map isa)),(1,.func (.func g) [] caps)],[]⟩) (λi=>∀ j (h:j<l.length),j<i->p l[j]=false) l.length (by (first|exact Ym.tm (by simp[lk])|exact Ym.sub (by simp[lk,Ya,AV.keys]) (by simp[lk,Yc,Ya,AV.keys]))) (by simp) ?_ ?_
 . intro i hi he;refine Qga ?_;have w1:IntKind.i64.wrap ((i:Int)+1)=((i+1:Nat):Int):=Yf (by omega) (by omega);have hgi:=hg _ (W0e hi);have hln:(isa l[i]).length=5:=rfl;have htk:(isa l[i]).take 5=isa l[i]:=rfl;simp -implicitDefEqProofs[hi,hln,htk];refine Yd.of hgi (by simpa [AV.pure,isa] using hc2) ?_
   cases h3:p l[i]
   . simp -implicitDefEqProofs[w1];refine ⟨(by (first|exact Ym.tm (by simp[lk])|exact Ym.sub (by simp[lk,Ya,AV.keys]) (by simp[lk,Yc,Ya,AV.keys]))),λj q1 q2=>?_⟩;by_cases e:j=i
     . subst e;exact h3
     . exact he j q1 (by omega)
   . simp -implicitDefEqProofs;refine Qgr ?_;simp -implicitDefEqProofs[Zb0 hi h3 he]
 . intro he;refine Qga ?_;simp -implicitDefEqProofs[];refine Qgr ?_;simp -implicitDefEqProofs[Zb1 (p:=p) (l:=l) (λj hj=>he j hj hj)]
theorem ZiX (g:Nat) (caps:List AV) (p:Iss->Bool) (l:List Iss) (hc:caps.all AV.pure=true) (hl:Sml l)
  (hg:∀ x∈l,PC Tryz.prog G g (.agg (isa x)::caps) (.bool (p x))) :
  PC Tryz.prog G 255 [.vsl (l.map isa),.func (.func g) [] caps] (.bool (l.any p)):=by
 have hi:=ZiW (G:=G) g caps p l hc hl hg;have e:=Zb2 p l
 (refine Zi7 rfl λR hG hrd=>Qga ?_;subst hG)
 have hc2:∀ x∈caps,x.pure=true:=W03.1 hc;simp -implicitDefEqProofs[Zi5,Zi6];refine Yd.of hi (by simpa [AV.pure] using hc2) ?_;simp -implicitDefEqProofs[e]
def hoI (hs:List Hld) (id:Int):Int:=fstOf (λh=>decide (h.id=id)) hs
theorem ZiY (h:Hld) (id:Int):PC Tryz.prog G 141 [.agg (hoa h),.vptr [.int .i64 id] 0] (.bool (decide (h.id=id))):=by
 (refine Zht rfl λR hG hrd=>Qga ?_;subst hG)
 simp -implicitDefEqProofs[Zhr,Zhs,hoa]
theorem ZiZ (r:List Iss) (l:List Nte) (hs:List Hld) (ps:List Prt) (id:Int) (hh:Sml hs):PC Tryz.prog G 82 [ofA r l hs ps,.int .i64 id] (.int .i64 (hoI hs id)):=by
 have h:=ZiV (G:=G) 141 [.vptr [.int .i64 id] 0] (λh=>decide (h.id=id)) hs (by simp[AV.pure]) hh (λh _=>ZiY h id);have e:fstOf (λh=>decide (h.id=id)) hs=hoI hs id:=rfl;rw[e]at h;generalize hoI hs id=n at *;unfold ofA
 (refine Zhq rfl λR hG hrd=>Qga ?_;subst hG)
 simp -implicitDefEqProofs[Zho,Zhp]
 (first|refine Yd.flat (h) (by simp[AV.flat]) (by simp) ?_|refine Ye.flat (h) (by simp[AV.flat]) (by simp) ?_)
 simp -implicitDefEqProofs[]
theorem Zj0 (o:AV) (x:Prt):PC Tryz.prog G 252 [o,.agg (ptA x)] (.bool (inR x.no 1 9999&&inR x.dy 0 14610)):=by
 have h1:=ZiT (G:=G) 1 9999 x.no;have h2:=ZiT (G:=G) 0 14610 x.dy
 (refine Zhw rfl λR hG hrd=>Qga ?_;subst hG)
 simp -implicitDefEqProofs[Zhu,Zhv,ptA];refine Qco (h1) (by simp) ?_
 cases inR x.no 1 9999
 . simp -implicitDefEqProofs[]
 . simp -implicitDefEqProofs[];refine Qco (h2) (by simp) ?_;simp -implicitDefEqProofs[]
theorem Zj1 (r:List Iss) (l:List Nte) (hs:List Hld) (ps:List Prt) (x:Prt) (hh:Sml hs):PC Tryz.prog G 253 [ofA r l hs ps,.agg (ptA x)] (.bool (decide (0<=hoI hs x.ho))):=by
 have h:=ZiZ (G:=G) r l hs ps x.ho hh;have pO:=ZiI r l hs ps;generalize ofA r l hs ps=O at *
 (refine Zhz rfl λR hG hrd=>Qga ?_;subst hG)
 simp -implicitDefEqProofs[Zhx,Zhy,ptA];refine Yd.of h (by simp[pO,AV.pure]) ?_;simp -implicitDefEqProofs[]
theorem Zj2 (x:Prt) (y:Iss):PC Tryz.prog G 256 [.agg (isa y),.vptr (ptA x) 0] (.bool (rfp x.dw x.lt y)):=by
 (refine ZhF rfl λR hG hrd=>Qga ?_;subst hG)
 by_cases h1:x.dw=y.d
 . by_cases h2:x.lt=y.l
   . have e:rfp x.dw x.lt y=true:=(by simp[rfp,h1,h2]);rw[e];simp -implicitDefEqProofs[ZhD,ZhE,ptA,isa,h1,h2]
   . have e:rfp x.dw x.lt y=false:=(by simp[rfp,h1,Ne.symm h2]);rw[e];simp -implicitDefEqProofs[ZhD,ZhE,ptA,isa,h1,h2]
 . have e:rfp x.dw x.lt y=false:=(by simp[rfp,Ne.symm h1]);rw[e];simp -implicitDefEqProofs[ZhD,ZhE,ptA,isa,h1]
theorem Zj3 (r:List Iss) (l:List Nte) (hs:List Hld) (ps:List Prt) (x:Prt) (hr:Sml r):PC Tryz.prog G 254 [ofA r l hs ps,.agg (ptA x)] (.bool (findN x.dw x.lt r).isSome):=by
 have h:=ZiX (G:=G) 256 [.vptr (ptA x) 0] (rfp x.dw x.lt) r (by simp[AV.pure,ptA]) hr (λy _=>Zj2 x y);rw[ZgO];generalize r.any (rfp x.dw x.lt)=b at *;unfold ofA
 (refine ZhC rfl λR hG hrd=>Qga ?_;subst hG)
 simp -implicitDefEqProofs[ZhA,ZhB,ptA];unfold ptA at h
 (first|refine Yd.flat (h) (by simp[AV.flat]) (by simp) ?_|refine Ye.flat (h) (by simp[AV.flat]) (by simp) ?_)
 simp -implicitDefEqProofs[]
theorem Zj4 (o:AV) (x:Prt):PC Tryz.prog G 257 [o,.agg (ptA x)] (.bool (decide (x.lo<=2))):=by
 (refine ZhI rfl λR hG hrd=>Qga ?_;subst hG)
 simp -implicitDefEqProofs[ZhG,ZhH,ptA]
theorem Zj5 (o:AV) (x:Prt):PC Tryz.prog G 258 [o,.agg (ptA x)] (.bool (decide (x.bk = -1)||(inR x.bk x.dy 14610&&decide (x.lo=0)))):=by
 have h1:=ZiT (G:=G) x.dy 14610 x.bk
 (refine ZhL rfl λR hG hrd=>Qga ?_;subst hG)
 by_cases h0:x.bk = -1
 . simp -implicitDefEqProofs[ZhJ,ZhK,ptA,h0]
 . simp -implicitDefEqProofs[ZhJ,ZhK,ptA,h0];refine Qco (h1) (by simp) ?_
   cases inR x.bk x.dy 14610
   . simp -implicitDefEqProofs[]
   . simp -implicitDefEqProofs[]
end
def Zj6 (P:Program) (G:Nat->Option (List AV)) (gf:Nat) (caps:List AV) (els:List (AV×AV)):Prop :=
 entB P gf=true/\∀ (n l:Nat) (lb:Array Value) (J:Nat->(Nat->Prop)->World->Prop) (K:World->Prop) (M:Nat->Prop) (W:World),2<=n->(∀ k M A B,J k M A->Ext A B->J k M B)->(∀ A B,K A->Ext A B->K B) ->
  (∀ k M A,J k M A->∀ b,M b->b<A.heap.size)->(∀ k M A,J k M A->GR G M A)->CP M W caps lb ->
  (∀ (k:Nat) (x:AV×AV) (u v:Value) (M:Nat->Prop) (A:World),J k M A->els[k]? = some x->PV M A x.1 u->PV M A x.2 v ->
   YieldAt Fence.wide (n-1) P l #[u,v] A λe A'=>(e = .returned (.bool true)/\∃ M',J (k+1) M' A'/\Since M A M' A')∨(e = .returned (.bool false)/\K A')) ->
  J 0 M W->CallsIn Fence.wide n P gf (#[.func (.yield l) #[] #[]]++lb) W λe W'=>(∃ v,e = .returned v)/\((∃ M,J els.length M W')∨K W')
theorem Zj7 {n:Nat} {P:Program} {g:Operand} {p q:Nat} {assign body:Code} {Q:Exit->Act->World->Prop} {a:Act} {w:World}
  {gf:Nat} {lb:Array Value} {caps:List AV} {els:List (AV×AV)} (hg:a.eval g = .func (.func gf) #[] lb) {G:Nat->Option (List AV)} (hit:Zj6 P G gf caps els) (hn:3<=n)
  (I:Nat->(Nat->Prop)->World->Prop) (K:World->Prop) (M0:Nat->Prop) (hIe:∀ k M A B,I k M A->Ext A B->I k M B) (hKe:∀ A B,K A->Ext A B->K B)
  (hIo:∀ (k l:Nat) (M:Nat->Prop) (W:World) (r r':Loop),w.heap.size<=l->I k M W->W.heap[l]? = some (.loop r)->I k M (W.putObj l (.loop r')))
  (hKo:∀ (l:Nat) (W:World) (r r':Loop),w.heap.size<=l->K W->W.heap[l]? = some (.loop r)->K (W.putObj l (.loop r')))
  (hIM:∀ k M A,I k M A->(∀ b,M b->b<A.heap.size)/\∀ (b:Nat) (o:Obj),w.heap.size<=b->A.heap[b]? = some o->Odd o->¬M b)
  (hIG:∀ k M A,I k M A->GR G M A) (hcaps:CP M0 w caps lb) (h0:I 0 M0 w)
  (hround:∀ (l k m:Nat) (x:AV×AV) (u v:Value) (M:Nat->Prop) (W:World) (lr:Loop),w.heap.size<=l->I k M W->W.heap[l]? = some (.loop lr)->els[k]? = some x->PV M W x.1 u->PV M W x.2 v ->
   assign.wpIn (FW (some l)) m P (Exit.then (λa1 W1=>(∀ (b:Nat) (o:Obj),W.heap[b]? = some o->Odd o->W1.heap[b]? = some o) /\
     body.wpIn (FW (some l)) m P (λe _ W'=>((∀ (b:Nat) (o:Obj),W.heap[b]? = some o->Odd o->b≠l->W'.heap[b]? = some o)/\W'.heap[l]? = some (.loop { lr with state:=.busy })) /\
      ((e = .normal/\∃ M',I (k+1) M' W'/\W.heap.size<=W'.heap.size/\∀ b,b<W.heap.size->¬M b->¬M' b/\(b≠l->W'.heap[b]? = W.heap[b]?))∨(e = .ret/\K W'))) a1 (W1.putObj l (.loop { lr with state:=.busy }))) (λ_ _ _=>False))
    { tmps:=(a.tmps.setIfInBounds p u).setIfInBounds q v,defers:=[] } W)
  (hdone:∀ (D:Nat) (M:Nat->Prop) (W:World),w.heap.size<=D->I els.length M W->W.heap[D]? = some (.deferred (some []))->Q .normal { a with defers:=coll D::a.defers } W)
  (hstop:∀ (D:Nat) (W:World),w.heap.size<=D->K W->W.heap[D]? = some (.deferred (some []))->Q .ret { a with defers:=coll D::a.defers } W) :
  (Code.rangeFunc g #[p,q] assign body).wpIn (FW none) n P Q a w:=by
 refine wpIn_rangeFunc ?_;intro fn hfn;obtain ⟨rec,hrec⟩ : ∃ rec:LoopState->Option Code->Loop,rec=λst pe=>{ state:=st,pending:=pe,fn,tmps:=a.tmps,params:=#[p,q],assign,body,defers:=w.heap.size }:=⟨_,rfl⟩
 obtain ⟨W1,hW1⟩ : ∃ W1,(w.alloc (.deferred (some []))).alloc (.loop (rec .ready none))=W1:=⟨_,rfl⟩;have hE1:Ext w W1:=by rw[<- hW1];exact (Ext.refl w).al.al
 have hL1:W1.heap[w.heap.size+1]? = some (.loop (rec .ready none)):=by
  rw[<- hW1];have:=World.alloc_heap_new (w.alloc (.deferred (some []))) (.loop (rec .ready none));rwa [World.size_alloc]at this
 have hK1:W1.heap[w.heap.size]? = some (.deferred (some [])):=by
  rw[<- hW1];exact (Below.heap_alloc _ _ _ (by simp)).trans (World.alloc_heap_new w _)
 have hI1:I 0 M0 W1:=hIe _ _ _ _ h0 hE1;have hC1:CP M0 W1 caps lb:=⟨hcaps.1,λi x u hx hu=>(hcaps.2 i x u hx hu).mono (λb hb hM=>⟨hM,hE1.block b hb⟩) hE1.size⟩
 refine ⟨w.heap.size+1,[{ target:=.collected w.heap.size,args:=#[] }],W1,{ target:=.fn (.func gf) lb,args:=#[.func (.yield (w.heap.size+1)) #[] #[]] },W1,gf,
  #[.func (.yield (w.heap.size+1)) #[] #[]]++lb,W1,?_,?_,λ_ _=>trivial,?_,Z24,?_⟩
 . rw[<- hW1,hrec];exact run_enterLoop_outer _ _ _ _ _
 . simp only[resolve,hg];simp[go_sem]
 . simp[invoke,go_sem,Z1W hit.1]
 . have stay : ∀ {A B:World} {b:Nat} {o:Obj},Ext A B->A.heap[b]? = some o->B.heap[b]? = some o:=λh hb=>(h.block _ (W0c.1 hb).1).trans hb
   refine (hit.2 (n-1) (w.heap.size+1) lb
    (λk M W=>I k M W/\W.heap[w.heap.size+1]? = some (.loop (rec .ready none))/\W.heap[w.heap.size]? = some (.deferred (some [])))
    (λW=>K W/\W.heap[w.heap.size+1]? = some (.loop (rec .done (some .ret)))/\W.heap[w.heap.size]? = some (.deferred (some [])))
    M0 W1 (by omega) (λk M A B h e=>⟨hIe k M A B h.1 e,stay e h.2.1,stay e h.2.2⟩) (λA B h e=>⟨hKe A B h.1 e,stay e h.2.1,stay e h.2.2⟩) (λk M A h=>(hIM k M A h.1).1) (λk M A h=>hIG k M A h.1) hC1 ?_ ⟨hI1,hL1,hK1⟩).mono ?_
   . rintro k x u v M W ⟨hi,hl,hk⟩ hr hus hvs;have hls:w.heap.size+1<W.heap.size:=(W0c.1 hl).1;have hy:=run_yield (P:=P) (args:=#[u,v]) hl (by rw[hrec];rfl);rw[hrec]at hy
     have hfold:(#[p,q].zip #[u,v]).foldl (λt (x:Nat×Value)=>match x with|(p,v)=>t.setIfInBounds p v) a.tmps=(a.tmps.setIfInBounds p u).setIfInBounds q v:=by
      rw[<- Array.foldl_toList,Array.toList_zip];rfl
     have hy:(Instr.yield (w.heap.size+1) #[u,v]).run P W = .ok (.round (w.heap.size+1) fn ((a.tmps.setIfInBounds p u).setIfInBounds q v) assign body) W:=(by rw[<- hfold];exact hy);refine ⟨fn,_,assign,body,hy,roundIn_of_wpIn hfn (wpIn_mono (hround (w.heap.size+1) k _ x u v M W _ (by omega) hi hl hr hus hvs) ?_)⟩;rintro e a1 W2 hp
     cases e with
     | normal =>
       obtain ⟨hodd0,hp⟩:=hp;have hl2:=hodd0 _ _ hl trivial;have hk2:=hodd0 _ _ hk trivial;have hls2:w.heap.size+1<W2.heap.size:=(W0c.1 hl2).1;refine ⟨_,run_beginRound hl2 (by rw[hrec]),wpIn_mono hp ?_⟩;rintro e a3 W3 ⟨⟨hodd,hl3⟩,hp3⟩;have hd3:=hodd _ _ hk trivial (by omega);have hls3:=(W0c.1 hl3).1
       have fin:∀ jump:Option Code,(W3.putObj (w.heap.size+1) (.loop (rec (if jump.isNone then .ready else .done) jump))).heap[w.heap.size+1]? = some (.loop (rec (if jump.isNone then .ready else .done) jump)) /\
         (W3.putObj (w.heap.size+1) (.loop (rec (if jump.isNone then .ready else .done) jump))).heap[w.heap.size]? = some (.deferred (some [])):=λjump =>
        ⟨World.putObj_heap_same hls3,(World.putObj_heap_other (by omega)).trans hd3⟩
       rcases hp3 with ⟨rfl,M',hi3,hsz3,hs3⟩ | ⟨rfl,hk3⟩
       . have hr3:=run_endRound (P:=P) none hl3;have f1:=fin none;rw[hrec]at hr3 f1;refine ⟨_,_,hr3,.inl ⟨rfl,M',⟨hIo _ _ _ _ _ _ (by omega) hi3 hl3,?_,f1.2⟩,by simpa using hsz3,λb hb hM=>⟨(hs3 b hb hM).1,?_⟩⟩⟩
         . rw[hrec];exact f1.1
         . by_cases e:b=w.heap.size+1
           . subst e;rw[hl,hrec];exact f1.1
           . rw[World.putObj_heap_other e];exact (hs3 b hb hM).2 e
       . have hr3:=run_endRound (P:=P) (some .ret) hl3;have f1:=fin (some .ret);rw[hrec]at hr3 f1;refine ⟨_,_,hr3,.inr ⟨rfl,hKo _ _ _ _ (by omega) hk3 hl3,?_,f1.2⟩⟩;rw[hrec];exact f1.1
     |_=>exact hp.elim
   . rintro e W2 ⟨⟨v,rfl⟩,⟨M,hi,hl,hk⟩ | ⟨hi,hl,hk⟩⟩
     . exact ⟨none,_,by have:=run_endLoop (P:=P) hl (by rw[hrec];simp);rw[hrec]at this;exact this,hdone _ M _ (W0f _) (hIo _ _ _ _ _ _ (by omega) hi hl) ((World.putObj_heap_other (by omega)).trans hk)⟩
     . exact ⟨some .ret,_,by have:=run_endLoop (P:=P) hl (by rw[hrec];simp);rw[hrec]at this;exact this,wpIn_ret (hstop _ _ (W0f _) (hKo _ _ _ _ (by omega) hi hl) ((World.putObj_heap_other (by omega)).trans hk))⟩
section
variable {P:Program} {R:Run} {st:St} {a:Act} {W:World} {κ:Nat->Option (Nat×Nat)}
theorem Zj8 {g:RA} {p q gf:Nat} {assign body:RCode} {Φ:Exit->St->Prop} {caps:List AV} {els:List (AV×AV)} (hrd:R.Top) (hpq:p≠q) (hit:Zj6 P R.G gf caps els) (hg:evA R.G st g = .func (.func gf) [] caps) (hp:caps.all AV.pure=true)
  (ok:Nat->Bool) (hok:∀ k,ok k=true->k<1000) (ρ:Nat->Nat) (t0:List (Nat×AV)) (objs outs:Nat->List (Nat×AObj)) (Iv:Nat->Prop) (hI0:Iv 0) (hK:∀ k,∀ q∈objs k,1000<=q.1) (hinj:∀ k,((objs k).map λq=>ρ q.1).Nodup) (hinj2:∀ k,((outs k).map λq=>ρ q.1).Nodup)
  (hsub:∀ k,∀ q∈objs k,isK (outs k) q.1=true) (hnew:∀ k,∀ q∈outs k,isK (objs k) q.1=true∨(Yl ρ (objs k) st).get (ρ q.1)=none) (hnext:∀ k,Yl ρ (outs k) st=Yl ρ (objs (k+1)) st)
  (h0:Yl ρ (objs 0) st=st) (hin:∀ k,∀ q∈objs k,Yc (objs k) q.2=true)
  (ht0:∀ z∈t0,lk st.t z.1=some (z.2.ren ρ)/\z.1≠p/\z.1≠q/\∀ j,∀ k∈z.2.keys,isK (objs j) k=true)
  (hround:∀ (k:Nat) (x:AV×AV),els[k]? = some x->Iv k->∀ R':Run,R'.G=R.G->R'.N=R.N->AR P R' assign ⟨(p,x.1)::(q,x.2)::t0,objs k⟩ λe s1=>e = .normal/\∀ R'':Run,R''.G=R.G->R''.N=R.N ->
   AR P R'' body s1 (λe s2=>e = .normal/\(Yi ok s2).o=outs k/\Iv (k+1)))
  (hdone:Iv els.length->Φ .normal (Yl ρ (objs els.length) st)):AR P R (.rngf g [p,q] assign body) st Φ:=by
 intro c hc m a W hs
 cases c <;> simp only[Z1A,W05,W01,W0A]at hc
 rename_i g' ps' ca cb;obtain ⟨⟨⟨⟨hcg,hps⟩,hpn⟩,hca⟩,hcb⟩:=hc;have hpn2:p<R.N/\q<R.N:=(by simpa using hpn);have hpn:=hpn2.1;have hqn:=hpn2.2;obtain rfl:ps' = #[p,q]:=(by rw[<- W16];exact hps);rw[hrd.1];refine wpFW.2 ((wpFW (n:=3)).1 ?_);obtain ⟨κ0,hs⟩:=hs;obtain ⟨S,hS⟩ : ∃ S:Nat->St,S=λk=>Yl ρ (objs k) st:=⟨_,rfl⟩
 have hSt:∀ k,(S k).t=st.t:=λk=>by rw[hS];exact Z53 ρ _ _
 have nod:∀ k,((objs k).map λp=>ρ p.1).Nodup:=hinj
 have memK:∀ {o:List (Nat×AObj)} {q:Nat},isK o q=true->∃ x,(q,x)∈o:=λ{o q} h=>by
  obtain ⟨x,h1⟩:=W0t.1 h;exact ⟨x,Z4K h1⟩
 have injK:∀ {o:List (Nat×AObj)},(o.map λp=>ρ p.1).Nodup->∀ q q',isK o q=true->isK o q'=true->ρ q=ρ q'->q=q':=λ{o} hn q q' h1 h2 e=>by
  have m1:=Z56.1 h1;have m2:=Z56.1 h2;have:(o.map (·.1)).map ρ=o.map (λp=>ρ p.1):=(by simp[W10,W0y]);rw[<- this]at hn;exact Z57 hn m1 m2 e
 have hevg:∀ k,evA R.G (S k) g = .func (.func gf) [] caps:=λk=>by
  rw[<- hg]
  cases g <;> simp only[evA,St.tmp,hSt]
 have hv0:=hs.ev hcg;rw[hg]at hv0;obtain ⟨us0,lb,hav,hus0,hlb0⟩:=hv0.func_inv
 obtain rfl:us0 = #[]:=by
  have:=hus0.1;rw[<- W16];exact W0l.1 (by simpa using this)
 have hcaps:∀ k W κ,SK R (S k) a W κ->CP ((S k).env R.M κ).M W caps lb:=λk W κ h=>by
  have h1:=h.ev hcg;rw[hevg,hav]at h1;obtain ⟨us1,lb1,h2,-,h3⟩:=h1.func_inv;simp only[Value.func.injEq]at h2;obtain ⟨-,-,rfl⟩:=h2;exact ⟨by simpa using h3.1,λi x u hx hu=>(h3.2 i x u hx (by simpa using hu)).toPV (W03.1 hp x (W0d hx))⟩
 obtain ⟨cs0,e0,nd0,hc0,-⟩:=hs.defers
 have marks:∀ (D:Nat) (st1:St) (W1:World) (κ1:Nat->Option (Nat×Nat)),W.heap.size<=D->SK R st1 a W1 κ1->W1.heap[D]? = some (.deferred (some []))->SK R st1 { a with defers:=coll D::a.defers } W1 κ1:=λD st1 W1 κ1 hD h hd=>by
  obtain ⟨cs1,e1,nd1,hc1,-⟩:=h.defers;obtain rfl:cs1=cs0:=Z59 (List.append_cancel_right (e1.symm.trans e0));refine h.odd ⟨rfl,λb=>.inl rfl⟩ rfl rfl rfl (λb _=>rfl) rfl ⟨D::cs1,by simp[e1],W1z.2 ⟨λhm=>?_,nd1⟩,λc hm=>?_,λe=>by rw[hrd.2]at e;cases e⟩
  . have:=(W0c.1 (hc0 D hm).2).1;omega
  . rcases W0g.1 hm with rfl|hm
    . exact ⟨W0O hs.kp.size hD,hd⟩
    . exact hc1 c hm
 have put:∀ (l:Nat) (st1:St) (W1:World) (κ1:Nat->Option (Nat×Nat)) (r r':Loop),W.heap.size<=l->SK R st1 a W1 κ1->W1.heap[l]? = some (.loop r)->SK R st1 a (W1.putObj l (.loop r')) κ1:=λl st1 W1 κ1 r r' hl h hr=>by
  obtain ⟨cs1,e1,nd1,hc1,hz1⟩:=h.defers;have:=hs.kp.size;refine h.odd (.put hr trivial) rfl rfl rfl (λb hb=>World.putObj_heap_other (by omega)) rfl ⟨cs1,e1,nd1,λc hm=>⟨(hc1 c hm).1,?_⟩,hz1⟩;rw[World.putObj_heap_other (by rintro rfl;have:=(hc1 _ hm).2;rw[hr]at this;cases this)];exact (hc1 c hm).2
 have hs0:SK R (S 0) a W κ0:=by rw[hS];show SK R (Yl ρ (objs 0) st) a W κ0;rw[h0];exact hs
 refine Zj7 (I:=λk M W'=>∃ κ,(M=((S k).env R.M κ).M/\Iv k)/\SK R (S k) a W' κ) (K:=λW'=>∃ s κ,Φ .ret s/\SK R s a W' κ) (M0:=((S 0).env R.M κ0).M) (caps:=caps) (els:=els) hav hit (by omega) (λk M A B h e=>h.imp λκ h=>⟨h.1,h.2.grow e⟩) (λA B ⟨s,κ,h1,h2⟩ e=>⟨s,κ,h1,h2.grow e⟩)
  (λk l M W' r r' hl ⟨κ,hM,h⟩ hr=>⟨κ,hM,put l _ _ _ r r' hl h hr⟩) (λl W' r r' hl ⟨s,κ,h1,h⟩ hr=>⟨s,κ,h1,put l _ _ _ r r' hl h hr⟩) (λk M A ⟨κ,⟨hM,_⟩,h⟩=>?_) (λk M A ⟨κ,⟨hM,_⟩,h⟩=>hM ▸ h.gr) (hcaps 0 W κ0 hs0) ⟨κ0,⟨rfl,hI0⟩,hs0⟩ ?_ ?_ ?_
 . subst hM;refine ⟨λb hb=>h.owned_lt hb,λb o hb ho hodd hM=>?_⟩;rcases hM with hM | ⟨q,s,hq⟩
   . have:=h.low b hM;have:=hs.kp.size;omega
   . exact h.notOdd hq ho hodd
 . intro l k m x u v M W1 lr hl hI hlr hx hxu hxv;obtain ⟨κ,⟨rfl,hIk⟩,h⟩:=hI
   have enterAt:∀ W',SK R (S k) a W' κ->SK (rC (objs k) ρ R (S k) κ W') (obSt (objs k)) noAct W' (kC (objs k) ρ κ)/\∀ (x:AV) (v:Value),inK (objs k) x->VR ((S k).env R.M κ) W' (x.ren ρ) v->VR ((obSt (objs k)).env (mC (objs k) ρ R (S k) κ) (kC (objs k) ρ κ)) W' x v:=λW' h =>
    Z50 h (λq hq=>by obtain ⟨x,hx⟩:=memK hq;exact hK k _ hx) (injK (hinj k)) (λq o hq=>by rw[hS];exact Z55 ρ _ _ q o (nod k) hq)
     (λq o hq=>by
      have h2:=hin k (q,o) (Z4K hq);have kept:∀ x,Ya (objs k) x=true->inK (objs k) x:=λx hx k' hk'=>W03.1 hx k' hk'
      cases o with
      |box cells=>exact λx hx=>kept x (W03.1 h2 x hx)
      |row sz rows=>exact λr hr x hx=>kept x (W03.1 (W03.1 h2 r hr) x hx)
      | mp kvs =>
        intro p hp;have:=W03.1 h2 p hp;simp only[W01]at this;exact ⟨kept _ this.1,kept _ this.2⟩)
   obtain ⟨h1,conv⟩:=enterAt W1 h
   have hXo:∀ W',SK R (S k) a W' κ->∀ b,(rC (objs k) ρ R (S k) κ W').X b->∀ o,W'.heap[b]? = some o->¬Odd o:=λW' h b ⟨q,s,hq⟩ o ho hodd=>by
    simp only[kC]at hq
    split at hq
    . exact h.notOdd hq ho hodd
    . cases hq
   have hMM:∀ b,((obSt (objs k)).env (mC (objs k) ρ R (S k) κ) (kC (objs k) ρ κ)).M b->((S k).env R.M κ).M b:=λb hb=>by
    rcases hb with hb | ⟨q,s,hq⟩
    . exact hb.1
    . simp only[kC]at hq
      split at hq
      . exact .inr ⟨ρ q,s,hq⟩
      . cases hq
   let R1:Run:={ rC (objs k) ρ R (S k) κ W1 with N:=R.N,rd:=some l }
   have hN:R.N=a.tmps.size:=h.size.symm
   have start:SK R1 ⟨(p,x.1)::(q,x.2)::t0,objs k⟩ { tmps:=(a.tmps.setIfInBounds p u).setIfInBounds q v,defers:=[] } W1 (kC (objs k) ρ κ):=by
    refine ⟨.nil _ _ _ _,by show ((a.tmps.setIfInBounds p u).setIfInBounds q v).size=R.N;simp[hN],λn y hy=>?_,h1.obj,h1.dom,h1.inj,h1.low,h1.apart,h1.kp,h1.gr,h1.mono,h1.ent⟩;have hy:lk ((p,x.1)::(q,x.2)::t0) n=some y:=hy;show VR ((obSt (objs k)).env (mC (objs k) ρ R (S k) κ) (kC (objs k) ρ κ)) W1 y (((a.tmps.setIfInBounds p u).setIfInBounds q v).getD n Go.undef);have hlt:p<a.tmps.size:=(by rw[<- hN];exact hpn);have hlq:q<a.tmps.size:=(by rw[<- hN];exact hqn);simp only[lk]at hy
    split at hy
    . rename_i e;subst e;obtain rfl:x.1=y:=(by simpa using hy);have e:((a.tmps.setIfInBounds p u).setIfInBounds q v).getD p Go.undef=u:=(by simp[W0a,W0p,Ne.symm hpq,hlt]);rw[e];exact .pv (hxu.mono (λb _ hb=>⟨λhb'=>hb (hMM b hb'),rfl⟩) (W0f _))
    . rename_i e0
      split at hy
      . rename_i e;subst e;obtain rfl:x.2=y:=(by simpa [hpq] using hy);have e:((a.tmps.setIfInBounds p u).setIfInBounds q v).getD q Go.undef=v:=(by simp[W0a,W0p,hlq]);rw[e];exact .pv (hxv.mono (λb _ hb=>⟨λhb'=>hb (hMM b hb'),rfl⟩) (W0f _))
      . rename_i e
        have e2:((a.tmps.setIfInBounds p u).setIfInBounds q v).getD n Go.undef=a.tmps.getD n Go.undef:=by
         simp only[W0a,W0p,if_neg e,if_neg e0]
        rw[e2];obtain ⟨g1,g2,g3,g5⟩:=ht0 (n,y) (Z4K hy);have g4:=h.tm n (y.ren ρ) (by show lk (S k).t n=_;rw[hSt];exact g1);exact conv y _ (λq hq=>g5 k q hq) g4
   refine wpIn_mono (hround k x hx hIk R1 rfl rfl ca hca m _ W1 ⟨_,start⟩) ?_;rintro e a1 W2 ⟨s1,⟨rfl,hbody⟩,κ1,h2⟩;refine ⟨λb o hb ho=>h2.keepOdd (hXo W1 h) hb ho,?_⟩;have hl2:W2.heap[l]? = some (.loop lr):=h2.keepOdd (hXo W1 h) hlr trivial;have h3:=SK.both rfl h2 (o':=.loop { lr with state:=.busy }) hl2 hlr;have hb:=put l _ W1 κ lr { lr with state:=.busy } hl h hlr;refine wpIn_mono (hbody { R1 with W0:=W1.putObj l (.loop { lr with state:=.busy }) } rfl rfl cb hcb m _ _ ⟨_,h3⟩) ?_;rintro e a2 W3 ⟨s2,hrnd,hs2⟩
   have hodd:∀ κ2,SK { R1 with W0:=W1.putObj l (.loop { lr with state:=.busy }) } s2 a2 W3 κ2->(∀ (b:Nat) (o:Obj),W1.heap[b]? = some o->Odd o->b≠l->W3.heap[b]? = some o)/\W3.heap[l]? = some (.loop { lr with state:=.busy }):=λκ2 h4 =>
    ⟨λb o hb1 ho hne=>h4.keepOdd (hXo _ hb) ((World.putObj_heap_other hne).trans hb1) ho,
     h4.keepOdd (hXo _ hb) (o:=.loop { lr with state:=.busy }) (World.putObj_heap_same (W0c.1 hlr).1) trivial⟩
   have leave:(Yi ok s2).o=outs k->∃ κ3,SK R (Yl ρ (outs k) st) a W3 κ3/\Mono ((S k).env R.M κ) (W1.putObj l (.loop { lr with state:=.busy })) ((Yl ρ (outs k) st).env R.M κ3) W3:=λhe=>by
    obtain ⟨κ2,h4⟩:=Ym.frz ok s2 (λk hk=>by
     cases e:ok k
     . rfl
     . have:=hok k e;omega) _ a2 W3 hs2
    have g:=h4.sub (t':=[]) (λn x hx=>by simp[lk]at hx);have e:({ Yi ok s2 with t:=[] }:St)=obSt (outs k):=(by rw[<- he];rfl);rw[e]at g
    have g2:SK (rC (objs k) ρ R (S k) κ (W1.putObj l (.loop { lr with state:=.busy }))) (obSt (outs k)) noAct W3 κ2 :=
     ⟨.nil _ _ _ _,rfl,λn x hx=>by simp[obSt,St.tmp,lk]at hx,g.obj,g.dom,g.inj,g.low,g.apart,g.kp,g.gr,g.mono,g.ent⟩
    obtain ⟨κ3,h5,h6,-⟩:=Z5k hb (objs':=outs k) (st1:=Yl ρ (outs k) st) (injK (hinj2 k)) (λq o hq=>by rw[hS];exact Z55 ρ _ _ q o (nod k) hq)
     (λq hq=>by obtain ⟨x,hx⟩:=memK hq;exact hsub k _ hx)
     (λq h1 h2=>by
      obtain ⟨x,hx⟩:=memK h1;rcases hnew k _ hx with h3|h3
      . rw[h2]at h3;cases h3
      . rw[hS];exact h3) g2 ((Z53 ρ _ _).trans (hSt k).symm) (λq o hq=>Z55 ρ _ _ q o (hinj2 k) hq)
     (λj hj=>by
      have o1:(Yl ρ (outs k) st).get j=st.get j:=Z54 ρ j _ _ λq hq=>hj q.1 (Z56.2 (W0i.2 ⟨q,hq,rfl⟩))
      have o2:(Yl ρ (objs k) st).get j=st.get j:=Z54 ρ j _ _ λq hq=>hj q.1 (hsub k q hq)
      rw[hS];exact o1.trans o2.symm)
    exact ⟨κ3,h5,h6⟩
   obtain ⟨κ2,h4⟩:=id hs2;refine ⟨hodd κ2 h4,?_⟩;obtain ⟨rfl,hro,hri⟩:=hrnd;obtain ⟨κ3,h5,h6⟩:=leave hro;rw[hnext k]at h5 h6;refine .inl ⟨rfl,_,⟨κ3,⟨rfl,hri⟩,by rw[hS];exact h5⟩,by have:=h6.size;simpa using this,λb hb1 hM=>?_⟩;obtain ⟨g1,g2⟩:=h6.imm b (by simpa using hb1) hM;exact ⟨by rw[hS];exact g1,λhne=>g2.trans (World.putObj_heap_other hne)⟩
 . rintro D M W1 hD ⟨κ,⟨-,hIk⟩,h⟩ hd;refine ⟨_,?_,κ,marks D _ _ _ hD h hd⟩;rw[hS];exact hdone hIk
 . rintro D W1 hD ⟨s,κ,h1,h⟩ hd;exact ⟨s,h1,κ,marks D _ _ _ hD h hd⟩
end
structure ItH (G:Nat->Option (List AV)) (J:Nat->(Nat->Prop)->World->Prop) (K:World->Prop):Prop where
 je:∀ k M A B,J k M A->Ext A B->J k M B
 ke:∀ A B,K A->Ext A B->K B
 jm:∀ k M A,J k M A->∀ b,M b->b<A.heap.size
 jg:∀ k M A,J k M A->GR G M A
def ItS (G:Nat->Option (List AV)) (N:Nat) (J:Nat->(Nat->Prop)->World->Prop) (k:Nat) (st:St) (a:Act) (A:World):Prop:=∃ M A0,J k M A0/\SR (Zh1 G M A0 N none) st a A
def ItQ (G:Nat->Option (List AV)) (N:Nat) (J:Nat->(Nat->Prop)->World->Prop) (K:World->Prop) (Φ:Exit->Nat->St->Prop) (e:Exit) (a:Act) (A:World):Prop :=
 (∃ k st,Φ e k st/\ItS G N J k st a A)∨(e = .ret/\K A/\a.defers=[])
def ItW (P:Program) (G:Nat->Option (List AV)) (N n:Nat) (J:Nat->(Nat->Prop)->World->Prop) (K:World->Prop) (rc:RCode) (k:Nat) (st:St) (Φ:Exit->Nat->St->Prop):Prop :=
 ∀ c,Z1A P N c rc=true->∀ a A,ItS G N J k st a A->c.wpIn (FW none) n P (ItQ G N J K Φ) a A
def YOK (P:Program) (n l:Nat) (J:Nat->(Nat->Prop)->World->Prop) (K:World->Prop) (els:List (List AV)):Prop :=
 ∀ (k:Nat) (xs:List AV) (us:Array Value) (M:Nat->Prop) (A:World),J k M A->els[k]? = some xs->CP M A xs us ->
   YieldAt Fence.wide n P l us A λe A'=>(e = .returned (.bool true)/\∃ M',J (k+1) M' A'/\Since M A M' A')∨(e = .returned (.bool false)/\K A')
theorem PV.flatW {M M':Nat->Prop} {W W':World} {x:AV} {v:Value} (h:PV M W x v):x.flat=true->PV M' W' x v:=by
 induction h with
 |hole=>exact λ_=>.hole
 |int k n=>exact λ_=>.int k n
 |bool b=>exact λ_=>.bool b
 |abool b=>exact λ_=>.abool b
 |str s=>exact λ_=>.str s
 |nilp=>exact λ_=>.nilp
 |nils=>exact λ_=>.nils
 |nilm=>exact λ_=>.nilm
 |nilf=>exact λ_=>.nilf
 | agg xs us h1 hx ih =>
   intro h;simp only[AV.flat,W03,W0V,W1B,W1n]at h;exact .agg xs us h1 (λi x u hi hu=>ih i x u hi hu (h x (W0d hi)))
 | tup xs us h1 hx ih =>
   intro h;simp only[AV.flat,W03,W0V,W1B,W1n]at h;exact .tup xs us h1 (λi x u hi hu=>ih i x u hi hu (h x (W0d hi)))
 |_=>intro h;simp[AV.flat]at h
theorem Zj9 {P:Program} {R:Run} {st:St} {a:Act} {W:World} {κ:Nat->Option (Nat×Nat)} {rd:Option Nat} {m:Nat} {ops:Array Oper} {r:ROper} {j l:Nat} {o:Oper} {f:RA} {ys:List RA} {K:Act->World->Prop} {Q:Exit->Act->World->Prop}
  (hr:r.op = .callv f ys) (hf:evA R.G st f = .func (.yield l) [] []) (hw:wants st r.guard=some true) (ho:ops[j]? = some o) (hk:Z1z P R.N ops o r=true) (hκ:SK R st a W κ)
  (hc:∀ us:Array Value,us.size=ys.length->(∀ (i:Nat) (y:RA) (u:Value),ys[i]? = some y->us[i]? = some u->VR (st.env R.M κ) W (evA R.G st y) u)->YieldAt (FW rd) (m-1) P l us W fun
   |.returned v,W'=>K (a.put o.dst v) W'
   |.panicked ch,W'=>Q (.panic ch) a W'
   |.outgrown,_=>LetsOut Q):wpOpIn (FW rd) m P ops Q j K a W:=by
 simp only[Z1z,W01,W0b]at hk;obtain ⟨⟨⟨hd,hdn⟩,hop⟩,hg⟩:=hk;unfold wpOpIn;simp only[ho];rw[if_pos (Z20 hκ hg hw)];rw[hr]at hop;simp only[Z1y,if_true,Z1x]at hop
 split at hop <;> try (simp at hop;done)
 . simp_all
 . simp_all
 . rename_i r0 x xs ats y' ys e1 e2;simp only[W01]at hop;simp only[ROp.callv.injEq]at e2;obtain ⟨rfl,rfl⟩:=e2;have hx:=hκ.ev hop.1;rw[hf]at hx;obtain ⟨us,vs,hv1,hv2,hv3⟩:=hx.func_inv
   obtain rfl:us = #[]:=by
    have:=hv2.1;rw[<- W16];exact W0l.1 (by simpa using this)
   obtain rfl:vs = #[]:=by
    have:=hv3.1;rw[<- W16];exact W0l.1 (by simpa using this)
   obtain ⟨hl,ha⟩:=Zc hop.2
   obtain ⟨fn,tmps,assign,body,h1,h2⟩:=hc ((⟨xs⟩ : Array Operand).map a.eval) (by simpa using hl) (λi y u hy hu=>by
    have hi:i<xs.length:=by
     have:=(W0c.1 hu).1;simpa using this
    have hu2:u=a.eval xs[i]:=by
     have:=(W0c.1 hu).2;simpa using this.symm
    rw[hu2];exact hκ.ev (ha i _ y (W07 hi) hy))
   refine ⟨λ_ _=>trivial,?_⟩;rw[Oper.semAt_eq _ _ _ (λc e=>by rw[e1]at e;cases e)]
   have:(execOp a.eval o).run P W = .ok (.round l fn tmps assign body) W:=by
    rw[<- h1];simp[execOp,e1,resolve,hv1,Deferred.ofValue,invoke,Sem.run_bind]
   rw[this];exact ⟨Z24,h2⟩
section
variable {P:Program} {G:Nat->Option (List AV)} {N n l:Nat} {J:Nat->(Nat->Prop)->World->Prop} {K:World->Prop} {k:Nat} {st:St} {Φ Ψ:Exit->Nat->St->Prop} {rc:RCode}
theorem Zja (h:ItW P G N n J K rc k st Φ) (hm:∀ e k t,Φ e k t->Ψ e k t):ItW P G N n J K rc k st Ψ:=λc hc a A hs =>
 wpIn_mono (h c hc a A hs) λ_ _ _ q=>q.imp (λ⟨k,t,h1,h2⟩=>⟨k,t,hm _ _ _ h1,h2⟩) id
theorem Zjb (h:∀ M A,AR P (Zh1 G M A N none) rc st λe s=>∃ s',Φ e k s'/\Ym s s'):ItW P G N n J K rc k st Φ:=by
 rintro c hc a A ⟨M,A0,hJ,hs⟩;refine wpIn_mono (h M A0 c hc n a A hs) ?_;rintro e a' A' ⟨s,⟨s',hΦ,hw⟩,hs'⟩;exact .inl ⟨k,s',hΦ,M,A0,hJ,hw _ _ _ hs'⟩
theorem Zjc {a b:RCode} (h:ItW P G N n J K a k st λe k' t'=>match e with | .normal=>ItW P G N n J K b k' t' Φ|e=>Φ e k' t'):ItW P G N n J K (.seq a b) k st Φ:=by
 intro c hc x A hs;obtain ⟨c1,c2,rfl,h1,h2⟩:=Zbv hc;refine wpIn_seq (wpIn_mono (h c1 h1 x A hs) ?_);rintro e a' A' (⟨k',t',hΦ,hs'⟩ | ⟨rfl,hK,hd⟩)
 . cases e with
   |normal=>exact hΦ c2 h2 a' A' hs'
   |_=>exact .inl ⟨k',t',hΦ,hs'⟩
 . exact .inr ⟨rfl,hK,hd⟩
theorem Zjd {a b:RCode} (h:ItW P G N n J K a k st λe k' t'=>e = .normal/\ItW P G N n J K b k' t' Φ):ItW P G N n J K (.seq a b) k st Φ :=
 Zjc (Zja h λe k t ⟨he,h⟩=>by subst he;exact h)
theorem Zje {a b:RCode} (st':St) (h:∀ M A,AR P (Zh1 G M A N none) a st λe s=>e = .normal/\Ym s st') (hb:ItW P G N n J K b k st' Φ):ItW P G N n J K (.seq a b) k st Φ :=
 Zjd (Zjb λM A=>Z2I (h M A) λe s ⟨he,hw⟩=>⟨st',⟨he,hb⟩,hw⟩)
theorem Zjf {a:RCode} (e0:Exit) (st':St) (h:∀ M A,AR P (Zh1 G M A N none) a st λe s=>e=e0/\Ym s st') (hb:Φ e0 k st'):ItW P G N n J K a k st Φ :=
 Zjb λM A=>Z2I (h M A) λe s ⟨he,hw⟩=>⟨st',he ▸ hb,hw⟩
def ItBk (id:Nat) (Φ:Exit->Nat->St->Prop):Exit->Nat->St->Prop
 |.exit id',k,t=>if id'=id then Φ .normal k t else Φ (.exit id') k t
 |e,k,t=>Φ e k t
theorem Zjg {id:Nat} {a:RCode} (h:ItW P G N n J K a k st (ItBk id Φ)):ItW P G N n J K (.block id a) k st Φ:=by
 intro c hc x A hs;obtain ⟨c1,rfl,h1⟩:=Zbw hc;refine wpIn_block (wpIn_mono (h c1 h1 x A hs) ?_);rintro e a' A' (⟨k',t',hΦ,hs'⟩ | ⟨rfl,hK,hd⟩)
 . cases e
   case exit j =>
    simp only[ItBk,Exit.inBlock]at *
    split at hΦ
    . rename_i e;rw[if_pos e];exact .inl ⟨k',t',hΦ,hs'⟩
    . rename_i e;rw[if_neg e];exact .inl ⟨k',t',hΦ,hs'⟩
   all_goals exact .inl ⟨k',t',hΦ,hs'⟩
 . exact .inr ⟨rfl,hK,hd⟩
theorem Zjh {α:Type} {b:RCode} (kf:α->Nat) (tf:α->St) (I:α->Prop) (μ:α->Nat) (x0:α) (h0:kf x0=k) (ht:tf x0=st) (hi:I x0)
  (hr:∀ x,I x->ItW P G N n J K b (kf x) (tf x) λe k' t'=>match e with | .normal=>∃ y,kf y=k'/\tf y=t'/\I y/\μ y<μ x|e=>Φ e k' t'):ItW P G N n J K (.loop b) k st Φ:=by
 intro c hc x A hs;obtain ⟨c1,rfl,h1⟩:=Zbx hc;subst h0;subst ht;refine wpIn_loop_ghost (λm a A=>∃ x,I x/\m=μ x/\ItS G N J (kf x) (tf x) a A) (μ x0) ⟨x0,hi,rfl,hs⟩ ?_;rintro m a A ⟨x,hx,rfl,hs⟩;refine wpIn_mono (hr x hx c1 h1 a A hs) ?_;rintro e a' A' (⟨k',t',hΦ,hs'⟩ | ⟨rfl,hK,hd⟩)
 . cases e with
   | normal =>
     obtain ⟨y,rfl,rfl,hy,hm⟩:=hΦ;exact ⟨μ y,hm,y,hy,rfl,hs'⟩
   |_=>exact .inl ⟨k',t',hΦ,hs'⟩
 . exact .inr ⟨rfl,hK,hd⟩
theorem Zji (H:ItH G J K) {els:List (List AV)} (hY:YOK P (n-1) l J K els) {id d:Nat} {gd:Option (Nat×Bool)} {pre post:List ROper} {f:RA} {ys:List RA} {rest:RCode} {xs:List AV} {t1 tf tF:List (Nat×AV)} {st2:St}
  (hdN:d<N) (hx:els[k]? = some xs) (hpx:∀ x∈xs,x.pure=true) (hp1:∀ q∈t1,q.2.pure=true)
  (hpre:RW P G pre st λe s=>e = .normal/\Ym s ⟨t1,[]⟩) (hw:wants ⟨t1,[]⟩ gd=some true) (hf:evA G ⟨t1,[]⟩ f = .func (.yield l) [] []) (hy:ys.map (evA G ⟨t1,[]⟩)=xs)
  (hpost:RW P G post ⟨(d,.bool true)::t1,[]⟩ λe s=>e = .normal/\Ym s st2) (hrest:ItW P G N n J K rest (k+1) st2 Φ)
  (htf:∀ q∈tf,lk t1 q.1=some q.2/\q.2.flat=true) (hpostF:RW P (λ_=>none) post ⟨(d,.bool false)::tf,[]⟩ λe s=>e = .normal/\Ym s ⟨tF,[]⟩)
  (hrestF:∀ A,AR P (Zh1 (λ_=>none) (λ_=>False) A N none) rest ⟨tF,[]⟩ λe s=>e = .ret/\Ym s ⟨[],[]⟩) :
  ItW P G N n J K (.seq (.reg id false (pre++{ d:=some d,op:=.callv f ys,guard:=gd }::post)) rest) k st Φ:=by
 rintro c hc a A ⟨M,A0,hJ,hs0⟩;obtain ⟨c1,c2,rfl,hc1,hc2⟩:=Zbv hc;obtain ⟨ops,rfl,hops⟩:=Zby hc1;obtain ⟨hol,hoo⟩:=Zc hops
 have hol:ops.size=pre.length+(1+post.length):=by
  have:ops.toList.length=ops.size:=rfl;rw[<- this,hol];simp;omega
 refine wpIn_seq (wpIn_region ?_)
 have okAt:∀ (i:Nat) (r:ROper),(pre++{ d:=some d,op:=.callv f ys,guard:=gd }::post)[i]? = some r->∃ o,ops[i]? = some o/\Z1z P N ops o r=true:=λi r hi=>by
  have hlt:i<ops.size:=by
   have:=(W02.1 hi).1;rw[hol];simp at this;omega
  exact ⟨ops[i],by simp[hlt],hoo i _ r (by simp[hlt]) hi⟩
 have hrg:List.range ops.size=List.range pre.length++(pre.length::(List.range post.length).map (λi=>pre.length+1+i)):=by
  rw[hol,List.range_add,List.range_add];simp[W1y,W0y,W1v]
 rw[hrg];refine Zbz (R:=Zh1 G M A0 N none) _ _ pre st (λs=>Ym s ⟨t1,[]⟩) a A ?_ (by simp) ?_ hpre hs0
 . intro i r hi;have hlt:=(W02.1 hi).1;obtain ⟨o,h1,h2⟩:=okAt i r (by rw[W0E hlt];exact hi);exact ⟨i,o,by simp[hlt],h1,h2⟩
 intro s4 b4 B4 w4 hs4;obtain ⟨κ4,hk4⟩:=w4 _ _ _ hs4;obtain ⟨d4,n4,t4,e4⟩:=endG hs4 w4 hp1;obtain ⟨o2,ho2,hk2⟩:=okAt pre.length { d:=some d,op:=.callv f ys,guard:=gd } (by rw[W0o (W0f _)];simp);rw[wpOpsIn_cons];refine Zj9 (R:=Zh1 G M A0 N none) (l:=l) (f:=f) (ys:=ys) rfl hf hw ho2 hk2 hk4 λus hus hval=>?_
 have hcp:CP M B4 xs us:=by
  refine ⟨by rw[hus,<- hy,W0N],λi x u hi hu=>?_⟩
  have hlt:i<ys.length:=by
   have:=(W02.1 hi).1;rw[<- hy,W0N]at this;exact this
  have h1:=hval i ys[i] u (W07 hlt) hu
  have hxe:evA G ⟨t1,[]⟩ ys[i]=x:=by
   rw[<- hy,W09,W07 hlt]at hi;simpa using hi
  rw[show evA (Zh1 G M A0 N none).G ⟨t1,[]⟩ ys[i]=x from hxe]at h1;exact (h1.toPV (hpx x (W0d hi))).mono (λb _ hb=>⟨λh=>hb (.inl h),rfl⟩) (W0f _)
 have hdst:o2.dst=some d:=by
  simp only[Z1z,W01,W0b]at hk2;exact hk2.1.1.1
 have suffix:∀ (b:Bool) (T:List (Nat×AV)) (st2:St) (G':Nat->Option (List AV)) (M':Nat->Prop) (A':World),GR G' M' A'->(∀ x,M' x->x<A'.heap.size)->TT' M' A' T b4 ->
   RW P G' post ⟨(d,.bool b)::T,[]⟩ (λe s=>e = .normal/\Ym s st2)->∀ (Qx:Exit->Act->World->Prop),
    (∀ a5 A5,SR (Zh1 G' M' A' N none) st2 a5 A5->Qx .normal a5 A5)->wpOpsIn (FW none) n P ops Qx ((List.range post.length).map (λi=>pre.length+1+i)) (b4.put (some d) (.bool b)) A':=by
  intro b T st2 G' M' A' hGR hM' hT hrw Qx hQx
  have hsr:SR (Zh1 G' M' A' N none) ⟨(d,.bool b)::T,[]⟩ (b4.put (some d) (.bool b)) A':=by
   refine Zh2 hGR hM' d4 (by simpa [Act.put] using n4) λk x hx=>?_
   show PV M' A' x ((b4.tmps.setIfInBounds d (.bool b)).getD k Go.undef);simp only[lk]at hx
   split at hx
   . rename_i e;subst e
     cases hx
     have:(b4.tmps.setIfInBounds d (.bool b)).getD d Go.undef = .bool b:=(by simp[Array.getD,n4,hdN]);rw[this];exact .bool b
   . rename_i e
     have h3:(b4.tmps.setIfInBounds d (.bool b)).getD k Go.undef=b4.tmps.getD k Go.undef:=by
      simp only[W0a,W0p,if_neg e]
     rw[h3];exact hT k x hx
  refine Z27 (R:=Zh1 G' M' A' N none) _ post ⟨(d,.bool b)::T,[]⟩ (λe s=>e = .normal/\Ym s st2) Qx _ A' ?_ (by simp) ?_ hrw hsr
  . intro i r hi;have hlt:=(W02.1 hi).1
    obtain ⟨o,h1,h2⟩:=okAt (pre.length+1+i) r (by
     rw[W0o (by omega),show pre.length+1+i-pre.length=i+1 by omega];simpa using hi)
    exact ⟨pre.length+1+i,o,by simp[hlt],h1,h2⟩
  . rintro e s5 a5 A5 ⟨rfl,w5⟩ hs5;exact hQx a5 A5 (w5 _ _ _ hs5)
 obtain ⟨fn,tm,asg,bo,y1,y2⟩:=hY k xs us M B4 (H.je _ _ _ _ hJ e4) hx hcp;refine ⟨fn,tm,asg,bo,y1,y2.mono ?_⟩;rintro e A' (⟨rfl,M',hJ',hSi⟩ | ⟨rfl,hK'⟩)
 . show wpOpsIn (FW none) n P ops _ _ (b4.put o2.dst (.bool true)) A';rw[hdst];have hT':TT' M' A' t1 b4:=λk x hx=>(t4 k x hx).mono hSi.2 hSi.1
   exact suffix true t1 st2 G M' A' (H.jg _ _ _ hJ') (H.jm _ _ _ hJ') hT' hpost _ λa5 A5 h5=>hrest c2 hc2 a5 A5 ⟨M',A',hJ',h5⟩
 . show wpOpsIn (FW none) n P ops _ _ (b4.put o2.dst (.bool false)) A';rw[hdst]
   refine suffix false tf ⟨tF,[]⟩ (λ_=>none) (λ_=>False) A' (λg cs hg=>by cases hg) (λ_ h=>h.elim) (λk x hx=>by
    obtain ⟨g1,g2⟩:=htf (k,x) (Z4K hx);exact (t4 k x g1).flatW g2) hpostF _ λa5 A5 h5=>?_
   refine wpIn_mono (hrestF A' c2 hc2 n a5 A5 h5) ?_;rintro e b6 B6 ⟨s6,⟨rfl,w6⟩,hs6⟩;obtain ⟨d6,-,-,e6⟩:=endG hs6 w6 (by simp);exact .inr ⟨rfl,H.ke _ _ hK' e6,d6⟩
theorem Zjj (H:ItH G J K) {els:List (List AV)} (hY:YOK P (n-1) l J K els) {id d:Nat} {gd:Option (Nat×Bool)} {rs:List ROper} (i:Nat) {f:RA} {ys:List RA} (hri:rs[i]? = some { d:=some d,op:=.callv f ys,guard:=gd }) {rest:RCode} {xs:List AV} (t1:List (Nat×AV)) (st2:St) (tf tF:List (Nat×AV))
  (hdN:d<N) (hx:els[k]? = some xs) (hpx:∀ x∈xs,x.pure=true) (hp1:∀ q∈t1,q.2.pure=true)
  (hpre:RW P G (rs.take i) st λe s=>e = .normal/\Ym s ⟨t1,[]⟩) (hw:wants ⟨t1,[]⟩ gd=some true) (hf:evA G ⟨t1,[]⟩ f = .func (.yield l) [] []) (hy:ys.map (evA G ⟨t1,[]⟩)=xs)
  (hpost:RW P G (rs.drop (i+1)) ⟨(d,.bool true)::t1,[]⟩ λe s=>e = .normal/\Ym s st2) (hrest:ItW P G N n J K rest (k+1) st2 Φ)
  (htf:∀ q∈tf,lk t1 q.1=some q.2/\q.2.flat=true) (hpostF:RW P (λ_=>none) (rs.drop (i+1)) ⟨(d,.bool false)::tf,[]⟩ λe s=>e = .normal/\Ym s ⟨tF,[]⟩)
  (hrestF:∀ A,AR P (Zh1 (λ_=>none) (λ_=>False) A N none) rest ⟨tF,[]⟩ λe s=>e = .ret/\Ym s ⟨[],[]⟩):ItW P G N n J K (.seq (.reg id false rs) rest) k st Φ:=by
 have e:rs=rs.take i++{ d:=some d,op:=.callv f ys,guard:=gd }::rs.drop (i+1):=by
  obtain ⟨hi,h⟩:=W02.1 hri;rw[<- h,<- W0x hi,W11]
 rw[e];exact Zji H hY hdN hx hpx hp1 hpre hw hf hy hpost hrest htf hpostF hrestF
end
theorem Zjk {P:Program} {gf:Nat} {fn:Func} (hf:P.funcs[gf]? = some fn) (hE:entB P gf=true) {rc:RCode} (hb:(match fn.body with|some c=>Z1A P fn.ntmps c rc|none=>false)=true) (hr:fn.results = #[])
  {G:Nat->Option (List AV)} {caps:List AV} {els:List (List AV)} (hn:caps.length+1<=fn.ntmps)
  (h:∀ (n l:Nat) (J:Nat->(Nat->Prop)->World->Prop) (K:World->Prop),2<=n->ItH G J K->YOK P (n-1) l J K els ->
   ItW P G fn.ntmps n J K rc 0 ⟨iniT 0 (.func (.yield l) [] []::caps),[]⟩ λe k s=>(e = .ret∨e = .normal)/\k=els.length/\Ym s ⟨[],[]⟩) :
  entB P gf=true/\∀ (n l:Nat) (lb:Array Value) (J:Nat->(Nat->Prop)->World->Prop) (K:World->Prop) (M:Nat->Prop) (W:World),2<=n->ItH G J K->CP M W caps lb->YOK P (n-1) l J K els ->
   J 0 M W->CallsIn Fence.wide n P gf (#[.func (.yield l) #[] #[]]++lb) W λe W'=>(∃ v,e = .returned v)/\((∃ M,J els.length M W')∨K W'):=by
 refine ⟨hE,λn l lb J K M W hn2 H hC hY hJ0=>?_⟩
 obtain ⟨c,hc⟩ : ∃ c,fn.body=some c:=by
  cases e:fn.body with
  |none=>rw[e]at hb;cases hb
  |some c=>exact ⟨c,rfl⟩
 rw[hc]at hb;have hb:Z1A P fn.ntmps c rc=true:=hb;refine callsIn_of_wp (F:=Fence.wide) hf hc trivial ?_ rfl
 have hres:∀ (tm:Array Value) (W':World),(results fn tm).run P W' = .ok (.tuple #[]) W':=λtm W'=>by
  simp[results,hr,Sem.run_bind]
 have hwide:Fence.wide=FW none:=rfl;rw[hwide];have hsz:lb.size=caps.length:=hC.1
 have hs0:ItS G fn.ntmps J 0 ⟨iniT 0 (.func (.yield l) [] []::caps),[]⟩ { tmps:=(#[.func (.yield l) #[] #[]]++lb:Array Value)++Array.replicate (fn.ntmps-(#[.func (.yield l) #[] #[]]++lb:Array Value).size) Go.undef,defers:=[] } W:=by
  refine ⟨M,W,hJ0,Zh2 (H.jg _ _ _ hJ0) (H.jm _ _ _ hJ0) rfl (by simp;omega) λk x hx=>?_⟩
  have hini:∀ (xs:List AV) (m k:Nat) (x:AV),lk (iniT m xs) k=some x->m<=k/\xs[k-m]? = some x:=by
   intro xs
   induction xs with
   |nil=>intro m k x h;simp[iniT,lk]at h
   | cons y ys ih =>
     intro m k x h;simp only[iniT,lk]at h
     split at h
     . rename_i e;subst e;cases h;exact ⟨W0f _,by simp⟩
     . obtain ⟨h1,h2⟩:=ih (m+1) k x h;refine ⟨by omega,?_⟩;rw[show k-m=(k-(m+1))+1 by omega];simpa using h2
  obtain ⟨-,h2⟩:=hini _ 0 k x hx;rw[W1X]at h2
  cases k with
  | zero =>
    have h3:AV.func (.yield l) [] []=x:=(by simpa using h2);subst h3
    have g0:((#[.func (.yield l) #[] #[]]++lb:Array Value)++Array.replicate (fn.ntmps-(#[.func (.yield l) #[] #[]]++lb:Array Value).size) Go.undef).getD 0 Go.undef = .func (.yield l) #[] #[]:=by
     rw[W0a,W28 (by simp;omega),W28 (by simp)];rfl
    rw[g0];exact .func _ [] [] #[] #[] rfl rfl (by simp) (by simp)
  | succ k =>
    have h3:caps[k]? = some x:=(by simpa using h2);have hk:k<lb.size:=by rw[hsz];exact (W02.1 h3).1
    have g1:((#[.func (.yield l) #[] #[]]++lb:Array Value)++Array.replicate (fn.ntmps-(#[.func (.yield l) #[] #[]]++lb:Array Value).size) Go.undef).getD (k+1) Go.undef=lb[k]:=by
     rw[W0a,W28 (by simp;omega),Array.getElem?_append_right (by simp)];simp[hk]
    rw[g1];exact hC.2 k x lb[k] h3 (by simp[hk])
 refine wpIn_mono (h n l J K hn2 H hY c hb _ W hs0) ?_;rintro e a A (⟨k,t,⟨he,rfl,hw⟩,M',A',hJ',hs⟩ | ⟨rfl,hK,hd⟩)
 . obtain ⟨hd,-,-,e'⟩:=endG hs hw (by simp);rcases he with rfl|rfl
   . exact ⟨hd,_,hres _ _,⟨_,rfl⟩,.inl ⟨M',H.je _ _ _ _ hJ' e'⟩⟩
   . exact ⟨hd,_,hres _ _,⟨_,rfl⟩,.inl ⟨M',H.je _ _ _ _ hJ' e'⟩⟩
 . exact ⟨hd,_,hres _ _,⟨_,rfl⟩,.inr hK⟩
theorem Zjl {M:Nat->Prop} {W:World} {x:AV} {us:Array Value} (h:CP M W [x] us):∃ u,us = #[u]/\PV M W x u:=by
 obtain ⟨h1,h2⟩:=h
 match us,h1,h2 with
 | ⟨[u]⟩,_,h2=>exact ⟨u,rfl,h2 0 x u rfl rfl⟩
theorem Zjm {M:Nat->Prop} {W:World} {x y:AV} {us:Array Value} (h:CP M W [x,y] us):∃ u v,us = #[u,v]/\PV M W x u/\PV M W y v:=by
 obtain ⟨h1,h2⟩:=h
 match us,h1,h2 with
 | ⟨[u,v]⟩,_,h2=>exact ⟨u,v,rfl,h2 0 x u rfl rfl,h2 1 y v rfl rfl⟩
theorem Zjn {P:Program} {gf:Nat} {fn:Func} (hf:P.funcs[gf]? = some fn) (hE:entB P gf=true) {rc:RCode} (hb:(match fn.body with|some c=>Z1A P fn.ntmps c rc|none=>false)=true) (hr:fn.results = #[])
  {G:Nat->Option (List AV)} {caps els:List AV} (hn:caps.length+1<=fn.ntmps)
  (h:∀ (n l:Nat) (J:Nat->(Nat->Prop)->World->Prop) (K:World->Prop),2<=n->ItH G J K->YOK P (n-1) l J K (els.map λx=>[x]) ->
   ItW P G fn.ntmps n J K rc 0 ⟨iniT 0 (.func (.yield l) [] []::caps),[]⟩ λe k s=>(e = .ret∨e = .normal)/\k=els.length/\Ym s ⟨[],[]⟩):IterG P G gf caps els:=by
 obtain ⟨h1,h2⟩:=Zjk (els:=els.map λx=>[x]) hf hE hb hr hn (by simpa using h);refine ⟨h1,λn l lb J K M W hn2 je ke jm jg hC hY hJ0=>?_⟩
 have:=h2 n l lb J K M W hn2 ⟨je,ke,jm,jg⟩ hC (λk xs us M A hJ hx hc=>by
  rw[W09]at hx;obtain ⟨x,hx1,rfl⟩:=W04.1 hx;obtain ⟨u,rfl,hu⟩:=Zjl hc;exact hY k x u M A hJ hx1 hu) hJ0
 simpa using this
theorem Zjo {P:Program} {gf:Nat} {fn:Func} (hf:P.funcs[gf]? = some fn) (hE:entB P gf=true) {rc:RCode} (hb:(match fn.body with|some c=>Z1A P fn.ntmps c rc|none=>false)=true) (hr:fn.results = #[])
  {G:Nat->Option (List AV)} {caps:List AV} {els:List (AV×AV)} (hn:caps.length+1<=fn.ntmps)
  (h:∀ (n l:Nat) (J:Nat->(Nat->Prop)->World->Prop) (K:World->Prop),2<=n->ItH G J K->YOK P (n-1) l J K (els.map λx=>[x.1,x.2]) ->
   ItW P G fn.ntmps n J K rc 0 ⟨iniT 0 (.func (.yield l) [] []::caps),[]⟩ λe k s=>(e = .ret∨e = .normal)/\k=els.length/\Ym s ⟨[],[]⟩):Zj6 P G gf caps els:=by
 obtain ⟨h1,h2⟩:=Zjk (els:=els.map λx=>[x.1,x.2]) hf hE hb hr hn (by simpa using h);refine ⟨h1,λn l lb J K M W hn2 je ke jm jg hC hY hJ0=>?_⟩
 have:=h2 n l lb J K M W hn2 ⟨je,ke,jm,jg⟩ hC (λk xs us M A hJ hx hc=>by
  rw[W09]at hx;obtain ⟨x,hx1,rfl⟩:=W04.1 hx;obtain ⟨u,v,rfl,hu,hv⟩:=Zjm hc;exact hY k x u v M A hJ hx1 hu hv) hJ0
 simpa using this
def oiT (O:AV) (ps:List Prt) (day:Int) (l i:Nat):List (Nat×AV):=[(13,.int .i64 i),(12,.int .i64 ps.length),(11,.vsl (ps.map ptA)),(2,.vptr [.int .i64 day] 0),(1,.vptr [O] 0),(0,.func (.yield l) [] [])]
section
variable {G:Nat->Option (List AV)}
set_option maxHeartbeats 2000000 in
theorem outIt (r:List Iss) (l:List Nte) (hs:List Hld) (ps:List Prt) (day:Int) (hp:ps.length<=41) :
  Zj6 Tryz.prog G 128 [.vptr [ofA r l hs ps] 0,.vptr [.int .i64 day] 0] (outE ps day):=by
 have pO:=ZiI r l hs ps;have eO:ofA r l hs ps = .vptr [.vsl (r.map isa),.vsl (l.map na),.vsl (hs.map hoa),.vsl (ps.map ptA),.vsl ((nums r).map ia)] 0:=rfl;refine Zjo Tryz.func128 (by kernel_rfl) (rc:=ZhY) (by kernel_rfl) rfl (W0C rfl) λn l' J K hn H hY=>?_
 obtain ⟨O,hO⟩ : ∃ O,O=ofA r l hs ps:=⟨_,rfl⟩;rw[<- hO]at pO eO ⊢;clear hO
 have pT:∀ i,∀ q∈oiT O ps day l' i,q.2.pure=true:=λi q hq=>by
  simp only[oiT,W0g,W0Q,or_false]at hq;rcases hq with rfl|rfl|rfl|rfl|rfl|rfl <;> simp[AV.pure,ptA,pO]
 unfold ZhY;refine Zje ⟨oiT O ps day l' 0,[]⟩ (λM A=>?_) (Zjg (Zjh (λi=>(outI ps day i).length) (λi=>⟨oiT O ps day l' i,[]⟩) (λi=>i<=ps.length) (λi=>ps.length-i) 0 rfl rfl (W1f _) λi hi=>?_))
 . refine Qga ?_;simp -implicitDefEqProofs[iniT,eO,oiT]
   (refine Ym.sub (by simp[lk,Ya,AV.keys]) ?_;simp only[Wkl,and_true];(try simp[lk,Yc,Ya,AV.keys]))
 by_cases hlt:i<ps.length
 case neg =>
  obtain rfl:i=ps.length:=(by omega);refine Zje ⟨(14,.bool false)::oiT O ps day l' ps.length,[]⟩ (λM A=>?_) (Zjc (Zjf (.exit 0) ⟨[],[]⟩ (λM A=>?_) ?_))
  . refine Qga ?_;simp -implicitDefEqProofs[oiT];exact (by (first|exact Ym.tm (by simp[lk])|exact Ym.sub (by simp[lk,Ya,AV.keys]) (by simp[lk,Yc,Ya,AV.keys])))
  . refine Qga ?_;simp -implicitDefEqProofs[oiT];exact (by (first|exact Ym.tm (by simp[lk])|exact Ym.sub (by simp[lk,Ya,AV.keys]) (by simp[lk,Yc,Ya,AV.keys])))
  . simp only[ItBk,if_true];refine ⟨by simp,by simp[outE],λ_ _ _ h=>h⟩
 have wi:IntKind.i64.wrap ((i:Int)+1)=((i+1:Nat):Int):=Yf (by omega) (by omega);have hx:=ZiF hlt;have hsu:=ZiK (ps:=ps) (day:=day) (n:=i);have hgt:=ZiL (ps:=ps) (day:=day) (n:=ps.length) (i:=i) hlt;obtain ⟨x,hxe⟩ : ∃ x,x=ps[i]:=⟨_,rfl⟩;rw[<- hxe]at hx;rw[hx]at hsu hgt;have hlx:ps[i]=x:=hxe.symm;have hpt:ptA x=[.int .i64 x.no,.int .i64 x.dy,.int .i64 x.ho,.int .i64 x.dw,.int .i64 x.lt,.int .i64 x.bk,.int .u8 x.lo]:=rfl;refine Zje ⟨(14,.bool true)::oiT O ps day l' i,[]⟩ (λM A=>?_) (Zje ⟨oiT O ps day l' i,[]⟩ (λM A=>?_) (Zjd (Zjg ?_)))
 . refine Qga ?_;simp -implicitDefEqProofs[oiT,hlt];exact (by (first|exact Ym.tm (by simp[lk])|exact Ym.sub (by simp[lk,Ya,AV.keys]) (by simp[lk,Yc,Ya,AV.keys])))
 . refine Qga ?_;simp -implicitDefEqProofs[oiT];exact (by (first|exact Ym.tm (by simp[lk])|exact Ym.sub (by simp[lk,Ya,AV.keys]) (by simp[lk,Yc,Ya,AV.keys])))
 obtain ⟨bk,hbk⟩ : ∃ bk,bk=(!decide (x.bk = -1)&&decide (x.bk<=day)):=⟨_,rfl⟩;refine Zje ⟨(5,.ptr 5 0)::(4,.int .i64 i)::oiT O ps day l' i,[(5,.box (ptA x))]⟩ (λM A=>?_) (Zje ⟨(6,.bool bk)::(5,.ptr 5 0)::(4,.int .i64 i)::oiT O ps day l' i,[(5,.box (ptA x))]⟩ (λM A=>?_) ?_)
 . refine Qga ?_;simp -implicitDefEqProofs[oiT,hlt,hlx,hpt]
   (refine Ym.sub (by simp[lk,Ya,AV.keys]) ?_;simp only[Wkl,and_true];(try simp[lk,Yc,Ya,AV.keys]))
 . refine Qga ?_;by_cases c1:x.bk = -1
   . have e:bk=false:=(by rw[hbk];simp[c1]);simp -implicitDefEqProofs[oiT,hpt,c1,e]
     (refine Ym.sub (by simp[lk,Ya,AV.keys]) ?_;simp only[Wkl,and_true];(try simp[lk,Yc,Ya,AV.keys]))
   . by_cases c2:x.bk<=day
     . have e:bk=true:=(by rw[hbk];simp[c1,c2]);simp -implicitDefEqProofs[oiT,hpt,c1,c2,e]
       (refine Ym.sub (by simp[lk,Ya,AV.keys]) ?_;simp only[Wkl,and_true];(try simp[lk,Yc,Ya,AV.keys]))
     . have e:bk=false:=(by rw[hbk];simp[c2]);simp -implicitDefEqProofs[oiT,hpt,c1,c2,e]
       (refine Ym.sub (by simp[lk,Ya,AV.keys]) ?_;simp only[Wkl,and_true];(try simp[lk,Yc,Ya,AV.keys]))
 have hout:outB x day=(decide (x.dy<=day) && !bk && !decide (x.lo=2)):=by
  rw[hbk,outB];by_cases c1:x.bk = -1
  . simp only[c1,W1i,Bool.true_or,W17,W1L,W1F]
  . by_cases c2:x.bk<=day
    . have c3:¬day<x.bk:=(by omega);simp only[c1,c2,c3,W1i,W1x,W1F,W17,W1k,Bool.or_self]
    . have c3:day<x.bk:=(by omega);simp only[c1,c2,c3,W1i,W1x,W1F,W1k,Bool.or_true]
 clear hbk;by_cases ho:outB x day=true
 . rw [if_pos ho]at hsu;have hg:=hgt ho;rw[hout]at ho;simp only[W01,W1C,W0b,W1b]at ho;obtain ⟨⟨o1,rfl⟩,o3⟩:=ho
   refine Zjj H hY 17 (d:=44) (f:=.t 41) (ys:=[.t 42,.t 43]) (gd:=some (40,true)) rfl (xs:=[.int .i64 i,.agg (ptA x)])
    ((43,.agg (ptA x))::(42,.int .i64 i)::(41,.func (.yield l') [] [])::(40,.bool true)::oiT O ps day l' i) ⟨(46,.bool false)::oiT O ps day l' i,[]⟩ [(40,.bool true)] [(46,.bool true)] (W0C rfl) ?_ (by simp[AV.pure,ptA]) ?_ ?_ (by simp[wants,St.tmp,lk]) (by simp[evA,St.tmp,lk]) (by simp[evA,St.tmp,lk]) ?_ ?_ ?_ ?_ ?_
   . rw[outE,W10,W09,hg];simp[hx]
   . intro q hq;simp only[W0g]at hq;rcases hq with rfl|rfl|rfl|rfl|hq
     . simp[AV.pure,ptA]
     . simp[AV.pure]
     . simp[AV.pure]
     . simp[AV.pure]
     . exact pT i q hq
   . simp -implicitDefEqProofs[oiT,hpt,o1,o3]
     (refine Ym.sub (by simp[lk,Ya,AV.keys]) ?_;simp only[Wkl,and_true];(try simp[lk,Yc,Ya,AV.keys]))
   . simp -implicitDefEqProofs[oiT];exact (by (first|exact Ym.tm (by simp[lk])|exact Ym.sub (by simp[lk,Ya,AV.keys]) (by simp[lk,Yc,Ya,AV.keys])))
   . refine Zjf .normal ⟨oiT O ps day l' i,[]⟩ (λM A=>?_) ⟨rfl,Zjf .normal ⟨oiT O ps day l' (i+1),[]⟩ (λM A=>?_) ⟨i+1,by rw[hsu];simp,rfl,by omega,by omega⟩⟩
     . refine Qga ?_;simp -implicitDefEqProofs[oiT];exact (by (first|exact Ym.tm (by simp[lk])|exact Ym.sub (by simp[lk,Ya,AV.keys]) (by simp[lk,Yc,Ya,AV.keys])))
     . refine Qga ?_;simp -implicitDefEqProofs[oiT,wi];exact (by (first|exact Ym.tm (by simp[lk])|exact Ym.sub (by simp[lk,Ya,AV.keys]) (by simp[lk,Yc,Ya,AV.keys])))
   . intro q hq;simp at hq;subst hq;exact ⟨by simp[lk],by simp[AV.flat]⟩
   . simp -implicitDefEqProofs[];exact (by (first|exact Ym.tm (by simp[lk])|exact Ym.sub (by simp[lk,Ya,AV.keys]) (by simp[lk,Yc,Ya,AV.keys])))
   . intro A;refine Qga ?_;simp -implicitDefEqProofs[];exact (by (first|exact Ym.tm (by simp[lk])|exact Ym.sub (by simp[lk,Ya,AV.keys]) (by simp[lk,Yc,Ya,AV.keys])))
 . rw [if_neg ho]at hsu;rw[hout]at ho;refine Zje ⟨(46,.bool false)::oiT O ps day l' i,[]⟩ (λM A=>?_) (Zjf .normal ⟨oiT O ps day l' i,[]⟩ (λM A=>?_) ⟨rfl,Zjf .normal ⟨oiT O ps day l' (i+1),[]⟩ (λM A=>?_) ⟨i+1,by rw[hsu],rfl,by omega,by omega⟩⟩)
   . refine Qga ?_;by_cases o1:x.dy<=day
     . cases bk
       . by_cases o3:x.lo=2
         . simp -implicitDefEqProofs[oiT,hpt,o1,o3]
           (refine Ym.sub (by simp[lk,Ya,AV.keys]) ?_;simp only[Wkl,and_true];(try simp[lk,Yc,Ya,AV.keys]))
         . exact absurd (by simp[o1,o3]) ho
       . simp -implicitDefEqProofs[oiT,hpt,o1]
         (refine Ym.sub (by simp[lk,Ya,AV.keys]) ?_;simp only[Wkl,and_true];(try simp[lk,Yc,Ya,AV.keys]))
     . simp -implicitDefEqProofs[oiT,hpt,o1]
       (refine Ym.sub (by simp[lk,Ya,AV.keys]) ?_;simp only[Wkl,and_true];(try simp[lk,Yc,Ya,AV.keys]))
   . refine Qga ?_;simp -implicitDefEqProofs[oiT];exact (by (first|exact Ym.tm (by simp[lk])|exact Ym.sub (by simp[lk,Ya,AV.keys]) (by simp[lk,Yc,Ya,AV.keys])))
   . refine Qga ?_;simp -implicitDefEqProofs[oiT,wi];exact (by (first|exact Ym.tm (by simp[lk])|exact Ym.sub (by simp[lk,Ya,AV.keys]) (by simp[lk,Yc,Ya,AV.keys])))
end
def K5p:List AV:=[.func (.func 252) [] [],.func (.func 253) [] [],.func (.func 254) [] [],.func (.func 257) [] [],.func (.func 258) [] []]
def GP (G:Nat->Option (List AV)):Prop:=G 1=some K5p
def ckP (r:List Iss) (hs:List Hld) (x:Prt):Nat->Bool
 |0=>inR x.no 1 9999&&inR x.dy 0 14610
 |1=>decide (0<=hoI hs x.ho)
 |2=>(findN x.dw x.lt r).isSome
 |3=>decide (x.lo<=2)
 |_=>decide (x.bk = -1)||(inR x.bk x.dy 14610&&decide (x.lo=0))
theorem hoF_I (hs:List Hld) (id:Int):decide (0<=hoI hs id)=(hoF hs id).isSome:=by
 unfold hoI hoF;rw[Zb2,W2i,W14,List.find?_isSome]
theorem Zjp {r:List Iss} {hs:List Hld} {x:Prt}:prB r hs x=true↔∀ j,j<5->ckP r hs x j=true:=by
 simp only[prB,W01];rw[<- hoF_I]
 constructor
 . rintro ⟨⟨⟨⟨⟨h1,h2⟩,h3⟩,h4⟩,h5⟩,h6⟩ j hj
   match j,hj with
   |0,_=>simp only[ckP,h1,h2,Bool.and_self]
   |1,_=>exact h3
   |2,_=>exact h5
   |3,_=>exact h4
   |4,_=>exact h6
 . intro h;have h1:=h 0 (by omega);simp only[ckP,W01]at h1;exact ⟨⟨⟨⟨h1,h 1 (by omega)⟩,h 3 (by omega)⟩,h 2 (by omega)⟩,h 4 (by omega)⟩
theorem Zjq {r:List Iss} {hs:List Hld} {ps:List Prt} {i:Nat} (hi:i<hs.length) (h:hoB (nums r) hs i=false):ptsB r hs ps=false:=by
 cases q:ptsB r hs ps
 . rfl
 . simp only[ptsB,W01]at q;have:=Zau.1 q.1.2 i hi;rw[h]at this;cases this
theorem Zjr {r:List Iss} {hs:List Hld} {ps:List Prt} {i:Nat} (hi:i<ps.length) (h:shB r hs ps i=false):ptsB r hs ps=false:=by
 cases q:ptsB r hs ps
 . rfl
 . simp only[ptsB,W01]at q;have:=Zau.1 q.2 i hi;rw[h]at this;cases this
def hoC (hs:List Hld) (i:Nat):Bool:=inR (hAt hs i).id 1 9999&&(i == 0||decide ((hAt hs (i-1)).id<(hAt hs i).id))&&inR (hAt hs i).fr 1 (hAt hs i).to&&decide ((hAt hs i).to<=999)&&decide ((hAt hs i).ds.length<=8)
def wkC (D ds:List Int) (k:Nat):Bool:=D.contains (ds.getD k 0)&&(k == 0||decide (ds.getD (k-1) 0<ds.getD k 0))
theorem Zjs (D:List Int) (hs:List Hld) (i:Nat):hoB D hs i=(hoC hs i&&(List.range (hAt hs i).ds.length).all (wkC D (hAt hs i).ds)):=rfl
def rgT (r:List Iss) (l:List Nte) (hs:List Hld) (ps:List Prt) (i:Nat):List (Nat×AV):=[(34,.int .i64 i),(33,.int .i64 hs.length),(32,.vsl (hs.map hoa)),(0,ofA r l hs ps)]
def rgD (r:List Iss) (l:List Nte) (hs:List Hld) (ps:List Prt) (h:Hld) (i k:Nat):St:=⟨(88,.int .i64 k)::(87,.int .i64 h.ds.length)::(86,.vsl (h.ds.map ia))::(4,.ptr 4 0)::(3,.int .i64 i)::rgT r l hs ps i,[(4,.box (hoa h))]⟩
def rgP (r:List Iss) (l:List Nte) (hs:List Hld) (ps:List Prt) (i:Nat):List (Nat×AV):=[(122,.int .i64 i),(121,.int .i64 ps.length),(120,.vsl (ps.map ptA)),(7,.bool true),(0,ofA r l hs ps)]
def rgK (r:List Iss) (l:List Nte) (hs:List Hld) (ps:List Prt) (x:Prt) (i j:Nat):St:=⟨(145,.int .i64 j)::(144,.agg K5p)::(9,.ptr 9 0)::(8,.int .i64 i)::rgP r l hs ps i,[(9,.box (ptA x))]⟩
section
variable {G:Nat->Option (List AV)}
theorem kPall {r:List Iss} {l:List Nte} {hs:List Hld} {ps:List Prt} (x:Prt) (hr:Sml r) (hh:Sml hs) (j:Nat) (hj:j<5) :
  ∃ f,(K5p.drop j).take 1=[.func (.func f) [] []]/\PC Tryz.prog G f [ofA r l hs ps,.agg (ptA x)] (.bool (ckP r hs x j)):=by
 match j,hj with
 |0,_=>exact ⟨_,rfl,Zj0 _ x⟩
 |1,_=>exact ⟨_,rfl,Zj1 r l hs ps x hh⟩
 |2,_=>exact ⟨_,rfl,Zj3 r l hs ps x hr⟩
 |3,_=>exact ⟨_,rfl,Zj4 _ x⟩
 |4,_=>exact ⟨_,rfl,Zj5 _ x⟩
set_option maxHeartbeats 4000000 in
theorem Zjt (hP:GP G) (r:List Iss) (l:List Nte) (hs:List Hld) (ps:List Prt) (hr:Sml r) (hd:Sml (nums r)) (hw:WfP hs ps):PC Tryz.prog G 132 [ofA r l hs ps] (.bool (ptsB r hs ps)):=by
 have hh:Sml hs:=(by have:=hw.hl;unfold Sml;omega);have hl:=hw.hl;have hp:=hw.pl;have hk2:=λx j hj=>kPall (G:=G) (r:=r) (l:=l) (hs:=hs) (ps:=ps) x hr hh j hj
 have pO:=ZiI r l hs ps;have kO:=ZiJ r l hs ps;have eO:ofA r l hs ps = .vptr [.vsl (r.map isa),.vsl (l.map na),.vsl (hs.map hoa),.vsl (ps.map ptA),.vsl ((nums r).map ia)] 0:=rfl;have hC:=λn=>Zgf (G:=G) false (nums r) n hd
 have eC:liA false (nums r) = .vsl ((nums r).map ia):=(by simp[liA]);rw[eC]at hC;unfold GP at hP;refine ZhO rfl λR hG hrd=>?_
 subst hG;refine Qga ?_;by_cases h6:6<hs.length
 . have h6':(6:Int)<hs.length:=by omega
   have e:ptsB r hs ps=false:=by
    have:¬hs.length<=6:=(by omega);simp[ptsB,this]
   simp -implicitDefEqProofs[ZhM,ZhN,eO,h6',e]
 have h6':¬(6:Int)<hs.length:=(by omega);by_cases h30:30<ps.length
 . have h30':(30:Int)<ps.length:=by omega
   have e:ptsB r hs ps=false:=by
    have:¬ps.length<=30:=(by omega);simp[ptsB,this]
   simp -implicitDefEqProofs[ZhM,ZhN,eO,h6',h30',e]
 have h30':¬(30:Int)<ps.length:=(by omega);simp -implicitDefEqProofs[ZhM,ZhN,eO,h6',h30'];refine Za9 (λi=>⟨rgT r l hs ps i,[]⟩) (λi=>∀ j,j<i->hoB (nums r) hs j=true) hs.length ?_ (by simp) ?_ ?_
 . simp only[rgT,eO]
   (refine Ym.sub (by simp[lk,Ya,AV.keys]) ?_;simp only[Wkl,and_true];(try simp[lk,Yc,Ya,AV.keys]))
 . intro i hi he;have hno:hoB (nums r) hs i=false->ptsB r hs ps=false:=Zjq hi;have hx:=ZiE hi;have hds:=hw.dl _ (W0e hi);have heq:=Zjs (nums r) hs i;have wi:IntKind.i64.wrap ((i:Int)+1)=(i:Int)+1:=Yf (by omega) (by omega);obtain ⟨h,hhe⟩ : ∃ h,h=hs[i]:=⟨_,rfl⟩;rw[<- hhe]at hx hds;have hlx:hs[i]=h:=hhe.symm;have hho:hoa h=[.int .i64 h.id,.int .i64 h.fr,.int .i64 h.to,.vsl (h.ds.map ia)]:=rfl;have c1:=ZiT (G:=R.G) 1 9999 h.id;have c2:=ZiU (G:=R.G) 1 999 h.fr h.to;have hC0:hoC hs i=(inR h.id 1 9999&&(i == 0||decide ((hAt hs (i-1)).id<h.id))&&inR h.fr 1 h.to&&decide (h.to<=999)&&decide (h.ds.length<=8)):=by unfold hoC;rw[hx]
   have hfin:inR h.id 1 9999=true->(i == 0||decide ((hAt hs (i-1)).id<h.id))=true->hoC hs i=(inR h.fr 1 999&&inR h.to 1 999 && !decide (h.to<h.fr) && !decide (8<h.ds.length)):=λq1 q2=>by
    rw[hC0,q1,q2,W2i];simp only[W1k,W01,Zin,W0b,W1C,W1b];omega
   have hno2:hoC hs i=false->ptsB r hs ps=false:=λq=>hno (by rw[heq,q];rfl)
   have hst:∀ k:Nat,k<=h.ds.length->(∀ j,j<k->wkC (nums r) h.ds j=true)->k=h.ds.length->hoC hs i=true->∀ j,j<i+1->hoB (nums r) hs j=true:=λk _ hk1 hk2 hc j hj=>by
    rcases W0q j i with h1|h1
    . exact he j h1
    . obtain rfl:j=i:=(by omega);rw[heq,hc,hx,W1k];exact Zau.2 (by rw[<- hk2];exact hk1)
   refine Qga ?_
   cases q1:inR h.id 1 9999
   . have e:=hno2 (by rw[hC0,q1];rfl);rw[q1]at c1
     cases i
     case' zero=>simp -implicitDefEqProofs[rgT,hi,hlx,hho]
     case' succ k =>
      have k1:(k:Int)+1<hs.length:=(by omega);have k2:((k:Int)+1).toNat=k+1:=(by omega);have k3:(0:Int)<=(k:Int)+1:=(by omega);simp -implicitDefEqProofs[rgT,k1,k2,k3,hi,hlx,hho]
     all_goals
      refine Qco (c1) (by simp) ?_;simp -implicitDefEqProofs[];refine ⟨rfl,?_⟩;refine Qgr ?_;simp -implicitDefEqProofs[e]
      done
   rw[q1]at c1;obtain ⟨I,hIe⟩ : ∃ I,I=i:=⟨_,rfl⟩
   cases i
   case' zero =>
    have q2:=hfin q1 rfl;simp -implicitDefEqProofs[rgT,hi,hlx,hho];refine Qco (c1) (by simp) ?_;simp -implicitDefEqProofs[]
   case' succ k =>
    have hk:k<hs.length:=(by omega);have w0:IntKind.i64.wrap ((k:Int)+1-1)=(k:Int):=(by rw[Yf (by omega) (by omega)];omega);have w2:IntKind.i64.wrap (k:Int)=(k:Int):=Yf (by omega) (by omega);have g0:(0:Int)<(k:Int)+1:=(by omega);have k1:(k:Int)+1<hs.length:=(by omega);have k2:((k:Int)+1).toNat=k+1:=(by omega);have k3:(0:Int)<=(k:Int)+1:=(by omega);have hhk:hoa hs[k]=[.int .i64 hs[k].id,.int .i64 hs[k].fr,.int .i64 hs[k].to,.vsl (hs[k].ds.map ia)]:=rfl;simp -implicitDefEqProofs[rgT,k1,k2,k3,hi,hlx,hho];refine Qco (c1) (by simp) ?_;by_cases hp:hs[k].id<h.id
    case' neg =>
     have e:=hno2 (by rw[hC0,W19,ZiE hk,W0S hp];simp);have hp2:h.id<=hs[k].id:=(by omega);simp -implicitDefEqProofs[hk,w0,w2,g0,hhk,hp2,eO,hho];refine ⟨rfl,?_⟩;refine Qgr ?_;simp -implicitDefEqProofs[e]
     done
    have hp2:¬h.id<=hs[k].id:=(by omega);have q2:=hfin q1 (by rw[W19,ZiE hk,W0M hp];simp);simp -implicitDefEqProofs[hk,w0,w2,g0,hhk,hp2,eO,hho]
   all_goals
    refine Qco (c2) (by simp) ?_
    cases q3:(inR h.fr 1 999&&inR h.to 1 999)
    case false =>
     have e:=hno2 (by rw[q2,q3];rfl);simp -implicitDefEqProofs[];refine ⟨rfl,?_⟩;refine Qgr ?_;simp -implicitDefEqProofs[e]
    by_cases q4:h.to<h.fr
    case pos =>
     have e:=hno2 (by rw[q2,q3,W0M q4];rfl);simp -implicitDefEqProofs[hho,q4];refine ⟨rfl,?_⟩;refine Qgr ?_;simp -implicitDefEqProofs[e]
    by_cases q5:8<h.ds.length
    case pos =>
     have q5':(8:Int)<h.ds.length:=(by omega);have e:=hno2 (by rw[q2,W0M q5];simp);simp -implicitDefEqProofs[hho,q4,q5'];refine ⟨rfl,?_⟩;refine Qgr ?_;simp -implicitDefEqProofs[e]
    have q5':¬(8:Int)<h.ds.length:=(by omega);rw[q3,W0S q4,W0S q5]at q2;simp -implicitDefEqProofs[hho,q4,q5'];refine ⟨rfl,?_⟩;refine Za9 (rgD r l hs ps h I) (λk=>∀ j,j<k->wkC (nums r) h.ds j=true) h.ds.length ?_ (by simp) ?_ ?_
    . simp only[rgD,rgT,eO,hIe]
      ((try simp only[hho]);refine Ym.sub (by simp[lk,Ya,AV.keys,hho]) ?_;simp only[hho,Wkl,and_true];(try simp[lk,Yc,Ya,AV.keys,hho]))
    . intro k hk hK
      have hwf:wkC (nums r) h.ds k=false->ptsB r hs ps=false:=λq=>hno (by
       rw[heq,q2,hx,W1k]
       cases q6:(List.range h.ds.length).all (wkC (nums r) h.ds)
       . rfl
       . have:=Zau.1 q6 k hk;rw[q]at this;cases this)
      have wk:IntKind.i64.wrap ((k:Int)+1)=(k:Int)+1:=Yf (by omega) (by omega);have hcd:=hC h.ds[k];have gd:h.ds.getD k 0=h.ds[k]:=(by simp[W0j,hk]);refine Qga ?_;by_cases m1:h.ds[k]∈nums r
      case neg =>
       have e:=hwf (by rw[wkC,gd];simp[m1]);rw[W0S m1]at hcd;simp -implicitDefEqProofs[rgD,rgT,hk,ia,eO];refine Qco (hcd) (by simp) ?_;simp -implicitDefEqProofs[];refine Qgr ?_;simp -implicitDefEqProofs[];refine Qgr ?_;simp -implicitDefEqProofs[e]
      rw[W0M m1]at hcd
      cases k with
      | zero =>
        have e:wkC (nums r) h.ds 0=true:=(by rw[wkC,gd];simp[m1]);have w1:IntKind.i64.wrap 1=1:=rfl;simp -implicitDefEqProofs[rgD,rgT,hk,ia,eO];refine Qco (hcd) (by simp) ?_;simp -implicitDefEqProofs[w1];refine ⟨?_,e⟩;simp only[rgD,rgT,eO]
        ((try simp only[hho]);refine Ym.sub (by simp[lk,Ya,AV.keys,hho]) ?_;simp only[hho,Wkl,and_true];(try simp[lk,Yc,Ya,AV.keys,hho]))
      | succ p =>
        have hp:p<h.ds.length:=(by omega);have g2:h.ds.getD p 0=h.ds[p]:=(by simp[W0j,hp]);have w0:IntKind.i64.wrap ((p:Int)+1-1)=(p:Int):=(by rw[Yf (by omega) (by omega)];omega);have w2:IntKind.i64.wrap (p:Int)=(p:Int):=Yf (by omega) (by omega);have g0:(0:Int)<(p:Int)+1:=(by omega);have k1:(p:Int)+1<h.ds.length:=(by omega);have k2:((p:Int)+1).toNat=p+1:=(by omega);have k3:(0:Int)<=(p:Int)+1:=(by omega);have wk2:IntKind.i64.wrap ((p:Int)+1+1)=(p:Int)+1+1:=Yf (by omega) (by omega);by_cases m2:h.ds[p]<h.ds[p+1]
        . have e:wkC (nums r) h.ds (p+1)=true:=(by rw[wkC,gd,W19,g2];simp[m1,m2]);have m3:¬h.ds[p+1]<=h.ds[p]:=(by omega);simp -implicitDefEqProofs[rgD,rgT,k1,k2,k3,hk,ia,eO];refine Qco (hcd) (by simp) ?_;simp -implicitDefEqProofs[hp,w0,w2,g0,hho,ia,m3,wk2];refine ⟨?_,λj hj=>?_⟩
          . simp only[rgD,rgT,eO]
            ((try simp only[hho]);refine Ym.sub (by simp[lk,Ya,AV.keys,hho]) ?_;simp only[hho,Wkl,and_true];(try simp[lk,Yc,Ya,AV.keys,hho]))
          . rcases W0q j (p+1) with h4|h4
            . exact hK j h4
            . obtain rfl:j=p+1:=(by omega);exact e
        . have e:=hwf (by rw[wkC,gd,W19,g2];simp[m2]);have m3:h.ds[p+1]<=h.ds[p]:=(by omega);simp -implicitDefEqProofs[rgD,rgT,k1,k2,k3,hk,ia,eO];refine Qco (hcd) (by simp) ?_;simp -implicitDefEqProofs[hp,w0,w2,g0,hho,ia,m3];refine Qgr ?_;simp -implicitDefEqProofs[];refine Qgr ?_;simp -implicitDefEqProofs[e]
    . intro hK;have hst2:=hst h.ds.length (W0f _) hK rfl q2;refine Qga ?_;have wI:IntKind.i64.wrap ((I:Int)+1)=(I:Int)+1:=Yf (by omega) (by omega);simp -implicitDefEqProofs[rgD,rgT];refine Qgr ?_;simp -implicitDefEqProofs[wI];refine ⟨?_,by first|exact hst2|exact hst2 0 (by omega)⟩;simp only[rgT,eO]
      ((try simp only[hIe]);refine Ym.sub (by simp[lk,Ya,AV.keys,hIe]) ?_;simp only[hIe,Wkl,and_true];(try simp[lk,Yc,Ya,AV.keys,hIe]))
 . intro he;refine Qga ?_;simp -implicitDefEqProofs[rgT,eO];refine Qgr ?_;simp -implicitDefEqProofs[];refine Za9 (λi=>⟨rgP r l hs ps i,[]⟩) (λi=>∀ j,j<i->shB r hs ps j=true) ps.length ?_ (by simp) ?_ ?_
   . simp only[rgP,eO]
     (refine Ym.sub (by simp[lk,Ya,AV.keys]) ?_;simp only[Wkl,and_true];(try simp[lk,Yc,Ya,AV.keys]))
   . intro i hi hE;have hno:shB r hs ps i=false->ptsB r hs ps=false:=Zjr hi;have hx:=ZiF hi;have wi:IntKind.i64.wrap ((i:Int)+1)=(i:Int)+1:=Yf (by omega) (by omega);obtain ⟨x,hxe⟩ : ∃ x,x=ps[i]:=⟨_,rfl⟩;rw[<- hxe]at hx;have hlx:ps[i]=x:=hxe.symm;have hpt:ptA x=[.int .i64 x.no,.int .i64 x.dy,.int .i64 x.ho,.int .i64 x.dw,.int .i64 x.lt,.int .i64 x.bk,.int .u8 x.lo]:=rfl;have hsh:shB r hs ps i=((i == 0||decide ((pAt ps (i-1)).no<x.no))&&prB r hs x):=(by unfold shB;rw[hx]);have t5:K5p.take 5=K5p:=rfl;have l5:K5p.length=5:=rfl;obtain ⟨I,hIe⟩ : ∃ I,I=i:=⟨_,rfl⟩;refine Qga ?_
     cases i
     case' zero =>
      have q2:shB r hs ps 0=prB r hs x:=(by rw[hsh];rfl);simp -implicitDefEqProofs[rgP,hi,hlx,hpt]
     case' succ k =>
      have hk:k<ps.length:=(by omega);have w0:IntKind.i64.wrap ((k:Int)+1-1)=(k:Int):=(by rw[Yf (by omega) (by omega)];omega);have w2:IntKind.i64.wrap (k:Int)=(k:Int):=Yf (by omega) (by omega);have g0:(0:Int)<(k:Int)+1:=(by omega);have k1:(k:Int)+1<ps.length:=(by omega);have k2:((k:Int)+1).toNat=k+1:=(by omega);have k3:(0:Int)<=(k:Int)+1:=(by omega);have hpk:ptA ps[k]=[.int .i64 ps[k].no,.int .i64 ps[k].dy,.int .i64 ps[k].ho,.int .i64 ps[k].dw,.int .i64 ps[k].lt,.int .i64 ps[k].bk,.int .u8 ps[k].lo]:=rfl;by_cases hp:ps[k].no<x.no
      case' neg =>
       have e:=hno (by rw[hsh,W19,ZiF hk,W0S hp];simp);have hp2:x.no<=ps[k].no:=(by omega);simp -implicitDefEqProofs[rgP,k1,k2,k3,hi,hlx,hpt,hk,w0,w2,g0,hpk,hp2,eO];refine ⟨rfl,?_⟩;refine Qgr ?_;simp -implicitDefEqProofs[e]
       done
      have hp2:¬x.no<=ps[k].no:=(by omega);have q2:shB r hs ps (k+1)=prB r hs x:=(by rw[hsh,W19,ZiF hk,W0M hp];simp);simp -implicitDefEqProofs[rgP,k1,k2,k3,hi,hlx,hpt,hk,w0,w2,g0,hpk,hp2,eO]
     all_goals
      refine ⟨rfl,?_⟩;simp -implicitDefEqProofs[hP,t5,l5];refine Za9 (rgK r l hs ps x I) (λj=>∀ k,k<j->ckP r hs x k=true) 5 ?_ (by simp) ?_ ?_
      . simp only[rgK,rgP,eO,hIe]
        ((try simp only[hpt,K5p]);refine Ym.sub (by simp[lk,Ya,AV.keys,hpt,K5p]) ?_;simp only[hpt,K5p,Wkl,and_true];(try simp[lk,Yc,Ya,AV.keys,hpt,K5p]))
      . intro j hj hJ;refine Qga ?_;obtain ⟨f,hf1,hf2⟩:=hk2 x j hj;have wj:IntKind.i64.wrap ((j:Int)+1)=(j:Int)+1:=Yf (by omega) (by omega);have j1:(j:Int)<5:=(by omega);have j2:j+1<=5:=(by omega);have j3:j<=4:=(by omega);simp -implicitDefEqProofs[rgK,rgP,j1,j2,j3,l5,hf1,hj,hpt];rw[hpt]at hf2;refine Yd.of hf2 (by simp[pO,AV.pure]) ?_
        cases hb:ckP r hs x j
        . have e:=hno (by
           rw[q2]
           cases q:prB r hs x
           . rfl
           . have:=Zjp.1 q j hj;rw[hb]at this;cases this)
          simp -implicitDefEqProofs[];refine Qgr ?_;simp -implicitDefEqProofs[];refine Qgr ?_;simp -implicitDefEqProofs[e]
        . simp -implicitDefEqProofs[wj];refine ⟨?_,λk hk=>?_⟩
          . simp only[rgK,rgP,eO]
            ((try simp only[hpt,K5p]);refine Ym.sub (by simp[lk,Ya,AV.keys,hpt,K5p]) ?_;simp only[hpt,K5p,Wkl,and_true];(try simp[lk,Yc,Ya,AV.keys,hpt,K5p]))
          . rcases W0q k j with h1|h1
            . exact hJ k h1
            . obtain rfl:k=j:=(by omega);exact hb
      . intro hJ;rw[Zjp.2 hJ]at q2
        have hE2:∀ j,j<I+1->shB r hs ps j=true:=λj hj=>by
         rcases W0q j I with h1|h1
         . exact hE j (by omega)
         . obtain rfl:j=I:=(by omega);rw[hIe];exact q2
        have wI:IntKind.i64.wrap ((I:Int)+1)=(I:Int)+1:=Yf (by omega) (by omega);refine Qga ?_;simp -implicitDefEqProofs[rgK,rgP];refine Qgr ?_;simp -implicitDefEqProofs[wI];refine ⟨?_,by first|exact q2|exact λj hj=>hE2 j (by omega)⟩;simp only[rgP,eO]
        ((try simp only[hIe]);refine Ym.sub (by simp[lk,Ya,AV.keys,hIe]) ?_;simp only[hIe,Wkl,and_true];(try simp[lk,Yc,Ya,AV.keys,hIe]))
   . intro hE
     have e:ptsB r hs ps=true:=by
      simp only[ptsB,W01,W0b];exact ⟨⟨⟨by omega,by omega⟩,Zau.2 he⟩,Zau.2 hE⟩
     refine Qga ?_;simp -implicitDefEqProofs[rgP];refine Qgr ?_;simp -implicitDefEqProofs[e]
end
end Go.Proofs.YtcdlimgkliklhaaGreatDoor
