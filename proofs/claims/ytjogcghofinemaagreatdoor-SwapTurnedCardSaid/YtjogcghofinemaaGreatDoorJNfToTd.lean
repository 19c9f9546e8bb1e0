/-
  The library's sort of few numbers, by the abstract machine.
-/
import Derived.Test.YtjogcghofinemaaGreatDoorJEdToNd
import Derived.Test.YtjogcghofinemaaGreatDoorJRcWToEc
import Derived.Test.YtjogcghofinemaaGreatDoorJAmLToAmR
set_option linter.all false
set_option linter.unusedSimpArgs false
set_option linter.unusedVariables false
set_option linter.unusedSectionVars false
namespace Go.Proofs.YtjogcghofinemaaGreatDoor
open Go.RowKit
theorem ZgU (ok:Nat->Bool) (st:St) (l:List Int):frzO ok st (.row 1 (l.map ia)) = .row 1 (l.map ia):=by
 simp only[frzO,List.map_map]
 congr 2
 funext p;simp[ia,frzA,frz,AV.keys]
theorem ZgV (ρ:Nat->Nat) (l:List Int):AObj.ren ρ (.row 1 (l.map ia)) = .row 1 (l.map ia):=by
 simp only[AObj.ren,List.map_map]
 congr 2
 funext p;simp[ia,AV.ren]
theorem ZgW (o:List (Nat×AObj)) (l:List Int):Yd o (.row 1 (l.map ia))=true:=by
 simp only[Yd,List.all_eq_true,List.mem_map];rintro x ⟨y,-,rfl⟩ v hv;simp only[ia,List.mem_singleton]at hv;subst hv;simp[Ya,AV.keys]
def ZgX (S:ByteArray):RCode:=.seq (.reg 0 false [{ d:=some 2,op:=.mov (.c (.int .i64 0)) }]) (.seq (.seq (.reg 1 false [{ d:=some 3,op:=.mov (.t 0) },{ d:=some 4,op:=.bin .geq (.t 3) (.c (.int .u64 4294967296)) }]) (.cond (.t 4) (.seq (.reg 2 false [{ d:=some 5,op:=.mov (.t 0) },{ d:=some 6,op:=.vop (.sh false) [(.t 5),(.c (.int .u64 32))] },{ d:=some 0,op:=.mov (.t 6) }]) (.reg 3 false [{ d:=some 2,op:=.mov (.c (.int .i64 32)) }])) (.skip))) (.seq (.seq (.reg 4 false [{ d:=some 7,op:=.mov (.t 0) },{ d:=some 8,op:=.bin .geq (.t 7) (.c (.int .u64 65536)) }]) (.cond (.t 8) (.seq (.reg 5 false [{ d:=some 9,op:=.mov (.t 0) },{ d:=some 10,op:=.vop (.sh false) [(.t 9),(.c (.int .u64 16))] },{ d:=some 0,op:=.mov (.t 10) }]) (.reg 6 false [{ d:=some 11,op:=.mov (.t 2) },{ d:=some 12,op:=.bin .add (.t 11) (.c (.int .i64 16)) },{ d:=some 2,op:=.mov (.t 12) }])) (.skip))) (.seq (.seq (.reg 7 false [{ d:=some 13,op:=.mov (.t 0) },{ d:=some 14,op:=.bin .geq (.t 13) (.c (.int .u64 256)) }]) (.cond (.t 14) (.seq (.reg 8 false [{ d:=some 15,op:=.mov (.t 0) },{ d:=some 16,op:=.vop (.sh false) [(.t 15),(.c (.int .u64 8))] },{ d:=some 0,op:=.mov (.t 16) }]) (.reg 9 false [{ d:=some 17,op:=.mov (.t 2) },{ d:=some 18,op:=.bin .add (.t 17) (.c (.int .i64 8)) },{ d:=some 2,op:=.mov (.t 18) }])) (.skip))) (.seq (.reg 10 false [{ d:=some 19,op:=.mov (.t 2) },{ d:=some 20,op:=.mov (.t 0) },{ d:=some 21,op:=.conv .u8 (.t 20) },{ d:=some 22,op:=.vop .sidx [(.c (.str S)),(.t 21)] },{ d:=some 23,op:=.conv .i64 (.t 22) },{ d:=some 24,op:=.bin .add (.t 19) (.t 23) },{ d:=some 2,op:=.mov (.t 24) }]) (.ret))))) 
section
variable {G:Nat->Option (List AV)}
set_option maxHeartbeats 1000000 in
theorem ZgY (l:List Int) (a b:Nat) (h1:a<=b) (h2:b<=l.length) (h3:l.length<=1000) :
  PB Tryz.prog G 124 [(1000,.row 1 (l.map ia))] [.osl 1000 l.length,.int .i64 a,.int .i64 b] (.tup []) [(1000,.row 1 ((srtI l a b).map ia))]:=by
 (refine Zgr (Nat.le_of_ble_eq_true rfl) λR hG hrd=>Qga ?_;subst hG)
 have w1:IntKind.i64.wrap ((a:Int)+1)=a+1:=Yg (by omega) (by omega);simp -implicitDefEqProofs[Zgo,Zgp,w1];refine Zba (λi=>⟨[(6,.int .i64 ((a:Int)+1+i)),(0,.osl 1000 l.length),(1,.int .i64 a),(2,.int .i64 b)],[(1000,.row 1 ((srtI l a (a+1+i)).map ia))]⟩) (λi=>True) (b-(a+1)) ?_ trivial ?_ ?_
 . rw[Zed (by omega) (by omega)]
   (refine Yn.sub (by simp[lk,Ya,AV.keys]) ?_;simp only[Wkl,ZgW,and_true];(try simp[lk,Yd,Ya,AV.keys]))
 . intro i hi _;refine Qga ?_;have k1:(a:Int)+1+i<b:=(by omega);simp -implicitDefEqProofs[k1];have hI:a+1+i<l.length:=(by omega);have z:=Zef (l:=l) (a:=a) (i:=a+1+i) (by omega) hI;have z0:a+1+i-a=i+1:=(by omega);rw[z0]at z;rw[z];have hat:=λp (hp:p+1<=a+1+i-a)=>Zei (l:=l) (a:=a) (i:=a+1+i) (p:=p) (by omega) hI hp
   have hend:=λp=>Zej (l:=l) (a:=a) (i:=a+1+i) (p:=p) (by omega) hI
   have hln:=λp (hp:p<=a+1+i-a)=>Zeg (l:=l) (a:=a) (i:=a+1+i) (p:=p) (by omega) hI hp
   have hsl:=Zee (l:=l) (a:=a) (i:=a+1+i) (by omega);generalize hsg:sortI ((l.take (a+1+i)).drop a)=s at *;generalize hxx:l[a+1+i]=x at *
   refine Z1Q (λp:Nat=>⟨[(7,.int .i64 ((a:Int)+p)),(6,.int .i64 ((a:Int)+1+i)),(0,.osl 1000 l.length),(1,.int .i64 a),(2,.int .i64 b)],[(1000,.row 1 ((mvI l a (a+1+i) p).map ia))]⟩)
    (λp=>p<=i+1/\∀ y∈s.drop p,x<y) (λp=>p) (i+1) ?_ ⟨Nat.le_refl _,λy hy=>by rw[List.drop_of_length_le (by omega)]at hy;cases hy⟩ ?_
   . have e9:(a:Int)+1+i=(a:Int)+(i+1:Nat):=(by omega);rw[e9]
     (refine Yn.sub (by simp[lk,Ya,AV.keys]) ?_;simp only[Wkl,ZgW,and_true];(try simp[lk,Yd,Ya,AV.keys]))
   . rintro p ⟨hp,hd⟩;refine Qga ?_
     cases p with
     | zero =>
       have k2:¬(a:Int)<a:=(by omega);simp -implicitDefEqProofs[];refine ⟨rfl,?_⟩;refine Qgr ?_;have w3:IntKind.i64.wrap ((a:Int)+1+i+1)=(a:Int)+1+(i+1):=(by rw[Yg (by omega) (by omega)];omega);have he:=hend 0 (Nat.zero_le _) hd (λq hq=>by omega);have he2:a+1+i+1=a+1+(i+1):=(by omega);rw[he2]at he;rw[he];simp -implicitDefEqProofs[w3]
       (refine Yn.sub (by simp[lk,Ya,AV.keys]) ?_;simp only[Wkl,ZgW,and_true];(try simp[lk,Yd,Ya,AV.keys]))
     | succ p =>
       obtain ⟨y,hy0,hy1,hy2,hy3,hy4⟩:=hat p (by omega);have hl2:=hln (p+1) (by omega);have k2:(a:Int)<(a:Int)+(p+1):=(by omega);have k3:((a:Int)+(p+1)).toNat=a+p+1:=(by omega);have w2:IntKind.i64.wrap ((a:Int)+(p+1)-1)=(a:Int)+p:=(by rw[Yg (by omega) (by omega)];omega);have k4:((a:Int)+p).toNat=a+p:=(by omega);have k5:a+p+1<l.length:=(by omega);have k6:a+p<l.length:=(by omega);have k7:(0:Int)<=(a:Int)+(p+1):=(by omega);have k8:(0:Int)<=(a:Int)+p:=(by omega);have he:=hend (p+1) (by omega) hd;generalize mvI l a (a+1+i) (p+1)=Q at *;obtain ⟨q1,g1⟩:=List.getElem?_eq_some_iff.1 hy1;obtain ⟨q2,g2⟩:=List.getElem?_eq_some_iff.1 hy2;have hls:=Zcq (G:=R.G) x y;simp -implicitDefEqProofs[k2,k3,w2,k4,k5,k6,k7,k8,g1,g2,hl2,ia];refine Qco (hls) (by simp) ?_;by_cases hlt:x<y
       . simp -implicitDefEqProofs[hlt,k3,w2,k4,k5,k6,k7,k8,g1,g2,hl2,ia];refine ⟨rfl,rfl,p,?_,⟨by omega,λu hu=>?_⟩,Nat.lt_succ_self _⟩
         . have e1:∀ z:Int,[AV.int .i64 z]=ia z:=λ_=>rfl
           rw[e1,e1,<- List.map_set,<- List.map_set,hy3]
           (refine Yn.sub (by simp[lk,Ya,AV.keys]) ?_;simp only[Wkl,ZgW,and_true];(try simp[lk,Yd,Ya,AV.keys]))
         . obtain ⟨hps,gs⟩:=List.getElem?_eq_some_iff.1 hy0;rw[List.drop_eq_getElem_cons hps,gs]at hu;rcases List.mem_cons.1 hu with rfl|hu
           . exact hlt
           . exact hd u hu
       . simp -implicitDefEqProofs[hlt];refine ⟨rfl,?_⟩;refine Qgr ?_;have w3:IntKind.i64.wrap ((a:Int)+1+i+1)=(a:Int)+1+(i+1):=by rw[Yg (by omega) (by omega)];omega
         have he:=he (λq hq u hu hk=>by
          have:q=p:=(by omega);subst this;rw[hy0]at hu
          cases hu
          exact hlt hk)
         have he2:a+1+i+1=a+1+(i+1):=(by omega);rw[he2]at he;rw[he];simp -implicitDefEqProofs[w3]
         (refine Yn.sub (by simp[lk,Ya,AV.keys]) ?_;simp only[Wkl,ZgW,and_true];(try simp[lk,Yd,Ya,AV.keys]))
 . intro _;refine Qga ?_;have k1:¬(a:Int)+1+(b-(a+1):Nat)<b:=by omega
   have e:srtI l a (a+1+(b-(a+1)))=srtI l a b:=by
    rcases Nat.lt_or_ge a b with h|h
    . congr 1;omega
    . rw[Zed (by omega) (by omega),Zed (by omega) (by omega)]
   rw[e];simp -implicitDefEqProofs[k1];refine Qgr ?_;simp -implicitDefEqProofs[];refine ⟨[],rfl,rfl,?_⟩;simp[Yj,newK,ZgU]
theorem ZgZ (l:List Int):srtI l 0 l.length=sortI l:=by simp[srtI]
theorem Zh0 (l:List Int) (m:Int) (h3:l.length<=12) :
  PB Tryz.prog G 102 [(1000,.row 1 (l.map ia))] [.osl 1000 l.length,.int .i64 0,.int .i64 l.length,.int .i64 m] (.tup []) [(1000,.row 1 ((sortI l).map ia))]:=by
 have hp:=ZgY (G:=G) l 0 l.length (Nat.zero_le _) (Nat.le_refl _) (by omega);rw[ZgZ]at hp
 (refine Zgn (Nat.le_of_ble_eq_true rfl) λR hG hrd=>Qga ?_;subst hG)
 have w1:IntKind.i64.wrap (l.length:Int)=(l.length:Int):=Yg (by omega) (by omega);have k1:(l.length:Int)<=12:=(by omega);simp -implicitDefEqProofs[Zgk,Zgl];refine Z1Q (λ_:Unit=>⟨[(0,.osl 1000 l.length),(1,.int .i64 0),(2,.int .i64 l.length)],[(1000,.row 1 (l.map ia))]⟩) (λ_=>True) (λ_=>0) () ?_ trivial ?_
 . (refine Yn.sub (by simp[lk,Ya,AV.keys]) ?_;simp only[Wkl,ZgW,and_true];(try simp[lk,Yd,Ya,AV.keys]))
 rintro ⟨⟩ -;refine Qga ?_;simp -implicitDefEqProofs[w1,k1,h3];refine Ye.sem (Z1B.byref hp id (by simp) (by simp) (by simp[St.get,lk,ZgV]) (by simp[ZgW]) (by simp[Ya,AV.keys,lk]) rfl (by simp[AV.ren]) rfl rfl) ?_;simp -implicitDefEqProofs[Ym,ZgV];refine Qgr ?_;simp -implicitDefEqProofs[];refine ⟨[],rfl,rfl,?_⟩;simp[Yj,newK,ZgU]
set_option maxRecDepth 100000 in
theorem Zh1 (n:Nat) (h:n<=12):∃ v:Int,PC Tryz.prog G 134 [.int .u64 n] (.int .i64 v):=by
 have k1:¬(4294967296:Int)<=n:=(by omega);have k2:¬(65536:Int)<=n:=(by omega);have k3:¬(256:Int)<=n:=(by omega);obtain ⟨S,hS,hz⟩ : ∃ S,Zgy=ZgX S/\S.size=256:=⟨_,rfl,rfl⟩;have hn:n<S.size:=(by omega);obtain ⟨c,hc⟩ : ∃ c,S[n]? = some c:=⟨S[n],getElem?_pos S n hn⟩
 have w1:IntKind.u8.wrap (n:Int)=(n:Int):=by
  match n,h with
  |0,_=>rfl
  |1,_=>rfl
  |2,_=>rfl
  |3,_=>rfl
  |4,_=>rfl
  |5,_=>rfl
  |6,_=>rfl
  |7,_=>rfl
  |8,_=>rfl
  |9,_=>rfl
  |10,_=>rfl
  |11,_=>rfl
  |12,_=>rfl
 refine ⟨IntKind.i64.wrap (0+IntKind.i64.wrap (c.toNat:Int)),?_⟩;refine ZgA rfl λR hG hrd=>?_
 rw[hS];refine Qga ?_;simp -implicitDefEqProofs[ZgX,Zgz,k1,k2,k3,w1,hc]
theorem Zh2 (n:Nat) (h:n<=12):∃ v:Int,PC Tryz.prog G 103 [.int .u64 n] (.int .i64 v):=by
 obtain ⟨v,hv⟩:=Zh1 (G:=G) n h;refine ⟨v,?_⟩
 (refine Zgx rfl λR hG hrd=>Qga ?_;subst hG)
 simp -implicitDefEqProofs[Zgv,Zgw];refine Qco (hv) (by simp) ?_;simp -implicitDefEqProofs[]
theorem Zh3 (l:List Int) (h3:l.length<=12) :
  PB Tryz.prog G 73 [(1000,.row 1 (l.map ia))] [.osl 1000 l.length] (.tup []) [(1000,.row 1 ((sortI l).map ia))]:=by
 obtain ⟨v,hv⟩:=Zh2 (G:=G) l.length h3;have hp:=Zh0 (G:=G) l v h3
 (refine Zgj (Nat.le_of_ble_eq_true rfl) λR hG hrd=>Qga ?_;subst hG)
 have w1:IntKind.u64.wrap (l.length:Int)=(l.length:Int):=IntWalk.u64_in _ ⟨by omega,by omega⟩;simp -implicitDefEqProofs[Zgg,Zgh,w1];refine Qco (hv) (by simp) ?_;simp -implicitDefEqProofs[];refine Ye.sem (Z1B.byref hp id (by simp) (by simp) (by simp[St.get,lk,ZgV]) (by simp[ZgW]) (by simp[Ya,AV.keys,lk]) rfl (by simp[AV.ren]) rfl rfl) ?_;simp -implicitDefEqProofs[Ym,ZgV];refine ⟨[],rfl,rfl,?_⟩;simp[Yj,newK,ZgU]
theorem Zh4:PC Tryz.prog G 124 [.nils,.int .i64 0,.int .i64 0] (.tup []):=by
 (refine Zgq rfl λR hG hrd=>Qga ?_;subst hG)
 have w1:IntKind.i64.wrap 1=1:=rfl;simp -implicitDefEqProofs[Zgo,Zgp,w1];refine Z1Q (λ_:Unit=>⟨[(6,.int .i64 1),(2,.int .i64 0)],[]⟩) (λ_=>True) (λ_=>0) () (by (first|exact Yn.tm (by simp[lk])|exact Yn.sub (by simp[lk,Ya,AV.keys]) (by simp[lk,Yd,Ya,AV.keys]))) trivial ?_;rintro ⟨⟩ -;refine Qga ?_;simp -implicitDefEqProofs[];refine Qgr ?_;simp -implicitDefEqProofs[]
theorem Zh5 (m:Int):PC Tryz.prog G 102 [.nils,.int .i64 0,.int .i64 0,.int .i64 m] (.tup []):=by
 (refine Zgm rfl λR hG hrd=>Qga ?_;subst hG)
 have w1:IntKind.i64.wrap 0=0:=rfl;simp -implicitDefEqProofs[Zgk,Zgl];refine Z1Q (λ_:Unit=>⟨[(0,.nils),(1,.int .i64 0),(2,.int .i64 0)],[]⟩) (λ_=>True) (λ_=>0) () (by (first|exact Yn.tm (by simp[lk])|exact Yn.sub (by simp[lk,Ya,AV.keys]) (by simp[lk,Yd,Ya,AV.keys]))) trivial ?_;rintro ⟨⟩ -;refine Qga ?_;simp -implicitDefEqProofs[w1];refine Qco (Zh4) (by simp) ?_;simp -implicitDefEqProofs[];refine Qgr ?_;simp -implicitDefEqProofs[]
theorem Zh6:PC Tryz.prog G 73 [.nils] (.tup []):=by
 obtain ⟨v,hv⟩:=Zh2 (G:=G) 0 (by omega);have w1:IntKind.u64.wrap 0=0:=rfl
 (refine Zgi rfl λR hG hrd=>Qga ?_;subst hG)
 simp -implicitDefEqProofs[Zgg,Zgh,w1];refine Qco (hv) (by simp) ?_;simp -implicitDefEqProofs[];refine Qco (Zh5 v) (by simp) ?_;simp -implicitDefEqProofs[]
end
def K8n:List AV:=[.func (.func 184) [] [],.func (.func 185) [] [],.func (.func 186) [] [],.func (.func 187) [] [],.func (.func 189) [] [],.func (.func 190) [] [],.func (.func 193) [] [],.func (.func 195) [] []]
def GN (G:Nat->Option (List AV)):Prop:=G 1=some K8n
def ckK (r:List Iss) (l:List Nte) (i:Nat):Nat->Bool
 |0=>cN1 (nAt l i)
 |1=>cN2 (nAt l i)
 |2=>cN3 (nAt l i)
 |3=>cN4 r (nAt l i)
 |4=>cN5 (nAt l i)
 |5=>cN6 l i (nAt l i)
 |6=>cN7 l i (nAt l i)
 |_=>cN8 l i (nAt l i)
theorem Zh7 {r:List Iss} {l:List Nte} {i:Nat}:noteB r l i=true↔∀ j,j<8->ckK r l i j=true:=by
 simp only[noteB,Bool.and_eq_true]
 constructor
 . rintro ⟨⟨⟨⟨⟨⟨⟨h1,h2⟩,h3⟩,h4⟩,h5⟩,h6⟩,h7⟩,h8⟩ j hj
   match j,hj with
   |0,_=>exact h1
   |1,_=>exact h2
   |2,_=>exact h3
   |3,_=>exact h4
   |4,_=>exact h5
   |5,_=>exact h6
   |6,_=>exact h7
   |7,_=>exact h8
 . intro h;exact ⟨⟨⟨⟨⟨⟨⟨h 0 (by omega),h 1 (by omega)⟩,h 2 (by omega)⟩,h 3 (by omega)⟩,h 4 (by omega)⟩,h 5 (by omega)⟩,h 6 (by omega)⟩,h 7 (by omega)⟩
def opA (l:List Nte):AV:=if opU l=[] then .nils else .vsl ((sortI (opU l)).map ia)
def fileA (r:List Iss) (l:List Nte):AV:=.vptr [.vsl (r.map isa),.vsl (l.map na),.vsl ((nums r).map ia),opA l] 0
def opdA (r:List Iss) (l:List Nte):AV:=.tup [if chN r l=0 then fileA r l else .nilp,.int .i64 (chN r l)]
def onu (l:List Nte) (i:Nat):List Int:=(opN l i).map (·.nu)
theorem Zh8 {l:List Nte} {i:Nat} (h:i<l.length):onu l (i+1)=if l[i].sg=1 then onu l i++[l[i].nu] else onu l i:=by
 unfold onu;rw[ZdX h];split
 . rw[List.map_append];rfl
 . rfl
theorem Zh9 (l:List Nte) (i:Nat):(onu l i).length<=i:=by unfold onu;rw[List.length_map];exact ZdY l i
def opdT (l:List Nte):List (Nat×AV):=[(31,.int .i64 l.length),(30,.vsl (l.map na)),(6,.ptr 28 0),(7,.bool false),(1,.ptr 1 0)]
def opdO (r:List Iss) (l:List Nte) (i:Nat):List (Nat×AObj):=if onu l i=[] then [(1,.box [.vsl (r.map isa),.vsl (l.map na)]),(28,.box [.vsl (r.map isa),.vsl (l.map na),.vsl ((nums r).map ia),.nils])]
 else [(1,.box [.vsl (r.map isa),.vsl (l.map na)]),(28,.box [.vsl (r.map isa),.vsl (l.map na),.vsl ((nums r).map ia),.osl 59 (onu l i).length]),(59,.row 1 ((onu l i).map ia))]
def opdS (r:List Iss) (l:List Nte) (i:Nat):St:=⟨(32,.int .i64 i)::opdT l,opdO r l i⟩
def opdI (r:List Iss) (l:List Nte) (i:Nat) (x:Nte) (j:Nat):St:=⟨(38,.int .i64 j)::(37,.agg K8n)::(8,.int .i64 i)::(9,.ptr 9 0)::(32,.int .i64 i)::opdT l,(9,.box (na x))::opdO r l i⟩
section
variable {G:Nat->Option (List AV)}
theorem kNall (hG:GC G) {r:List Iss} {l:List Nte} {i:Nat} (hi:i<l.length) (hw:WfN l) (hr:Wf r) (ho:openV r=0) (j:Nat) (hj:j<8) :
  ∃ f,(K8n.drop j).take 1=[.func (.func f) [] []]/\PC Tryz.prog G f [.agg [.vsl (r.map isa),.vsl (l.map na)],.int .i64 i] (.bool (ckK r l i j)):=by
 match j,hj with
 |0,_=>exact ⟨_,rfl,ZgL r l i hi hw hr⟩
 |1,_=>exact ⟨_,rfl,ZgM r l i hi hw hr⟩
 |2,_=>exact ⟨_,rfl,ZgN r l i hi hw hr⟩
 |3,_=>exact ⟨_,rfl,ZgO hG r l i hi hw hr ho⟩
 |4,_=>exact ⟨_,rfl,ZgP r l i hi hw hr⟩
 |5,_=>exact ⟨_,rfl,ZgQ r l i hi hw hr⟩
 |6,_=>exact ⟨_,rfl,ZgT r l i hi hw hr⟩
 |7,_=>exact ⟨_,rfl,ZgR r l i hi hw hr⟩
set_option maxHeartbeats 4000000 in
theorem Zha (hG:GC G) (hN:GN G) (r:List Iss) (l:List Nte) (hw:WfN l) (hr:Wf r):PC Tryz.prog G 74 [.agg [.vsl (r.map isa),.vsl (l.map na)]] (opdA r l):=by
 have hl:=hw.1;unfold Sml at hl;have hd:=Zdu hG r hr;rw[rega]at hd;unfold GN at hN
 (refine ZfM rfl λR hG hrd=>Qga ?_;subst hG)
 by_cases ho:openV r=0
 case neg =>
  have e:chN r l=openV r:=(by rw[chN,if_neg ho]);simp -implicitDefEqProofs[ZfK,ZfL];refine Qco (hd) (by simp) ?_;simp -implicitDefEqProofs[ho,opdA,e]
 rw[if_pos ho,ho]at hd;by_cases h12:12<l.length
 . have h12':(12:Int)<l.length:=by omega
   have hB:ZdZ r l=false:=by
    have:¬l.length<=12:=(by omega);simp[ZdZ,this]
   have e:chN r l=30:=(by rw[chN,if_pos ho,hB];rfl);simp -implicitDefEqProofs[ZfK,ZfL];refine Qco (hd) (by simp) ?_;simp -implicitDefEqProofs[opdA,e,h12,h12']
 have h12':¬(12:Int)<l.length:=(by omega);simp -implicitDefEqProofs[ZfK,ZfL];refine Qco (hd) (by simp) ?_;simp -implicitDefEqProofs[h12,h12'];refine Zba (opdS r l) (λi=>∀ j,j<i->noteB r l j=true) l.length ?_ (by simp) ?_ ?_
 . have e0:onu l 0=[]:=rfl;simp only[opdS,opdO,opdT,e0,if_true]
   (refine Yn.sub (by simp[lk,Ya,AV.keys]) ?_;simp only[Wkl,and_true];(try simp[lk,Yd,Ya,AV.keys]))
 . intro i hi he;refine Qga ?_;obtain ⟨x,hxx⟩ : ∃ x,x=l[i]:=⟨_,rfl⟩;have hlx:l[i]=x:=hxx.symm;have hna:na x=[.int .i64 x.nu,.int .i64 x.dy,.int .u8 x.sg,.int .i64 x.dr,.int .i64 x.lt,.int .i64 x.fr,.int .i64 x.tu,.int .i64 x.ca,.bool x.up,.int .u8 x.wy]:=rfl;have hk:=kNall hG hi hw hr ho;have wi:IntKind.i64.wrap ((i:Int)+1)=(i:Int)+1:=Yg (by omega) (by omega);have sc:=Zh8 hi;have ol:=Zh9 l i;rw[hlx]at sc;have t8:K8n.take 8=K8n:=rfl;have l8:K8n.length=8:=rfl;by_cases c:onu l i=[]
   case' pos =>
    simp -implicitDefEqProofs[opdS,opdO,opdT,c,hi,hlx,hna,hN,t8,l8]
   case' neg =>
    simp -implicitDefEqProofs[opdS,opdO,opdT,c,hi,hlx,hna,hN,t8,l8]
   all_goals
    refine Zba (opdI r l i x) (λj=>∀ k,k<j->ckK r l i k=true) 8 ?_ (by simp) ?_ ?_
    . simp only[opdI,opdO,opdT,c,if_true,if_false]
      ((try simp only[hna,K8n]);refine Yn.sub (by simp[lk,Ya,AV.keys,hna,K8n]) ?_;simp only[hna,K8n,Wkl,ZgW,and_true];(try simp[lk,Yd,Ya,AV.keys,hna,K8n]))
    . intro j hj hJ;refine Qga ?_;obtain ⟨f,hf1,hf2⟩:=hk j hj;have wj:IntKind.i64.wrap ((j:Int)+1)=(j:Int)+1:=Yg (by omega) (by omega);have j1:(j:Int)<8:=(by omega);have j2:j+1<=8:=(by omega);have j3:j<=7:=(by omega);simp -implicitDefEqProofs[opdI,opdO,opdT,c,j1,j2,j3,l8,hf1,hj];refine Qco (hf2) (by simp) ?_
      cases hb:ckK r l i j
      . have hB:ZdZ r l=false:=by
         cases q:ZdZ r l
         . rfl
         . simp only[ZdZ,Bool.and_eq_true]at q;have h1:=Zbs.1 q.1.2 i hi;have h2:=Zh7.1 h1 j hj;rw[hb]at h2;cases h2
        have e:chN r l=30:=(by rw[chN,if_pos ho,hB];rfl);simp -implicitDefEqProofs[];refine Qgr ?_;simp -implicitDefEqProofs[];refine Qgr ?_;simp -implicitDefEqProofs[opdA,e]
      . simp -implicitDefEqProofs[wj];refine ⟨?_,λk hk=>?_⟩
        . simp only[opdI,opdO,opdT,c,if_true,if_false]
          ((try simp only[hna,K8n]);refine Yn.sub (by simp[lk,Ya,AV.keys,hna,K8n]) ?_;simp only[hna,K8n,Wkl,ZgW,and_true];(try simp[lk,Yd,Ya,AV.keys,hna,K8n]))
        . rcases Nat.lt_or_ge k j with h1|h1
          . exact hJ k h1
          . obtain rfl:k=j:=(by omega);exact hb
    . intro hJ;refine Qga ?_;have hnb:noteB r l i=true:=Zh7.2 hJ
      have he2:∀ j,j<i+1->noteB r l j=true:=λj hj=>by
       rcases Nat.lt_or_ge j i with h1|h1
       . exact he j h1
       . obtain rfl:j=i:=(by omega);exact hnb
      have bb:((onu l i).length+1)*8<=70368744177664:=(by omega);simp -implicitDefEqProofs[opdI,opdO,opdT,c];refine Qgr ?_;by_cases q:x.sg=1
      . rw[if_pos q]at sc;have hne:onu l (i+1)≠[]:=(by rw[sc];simp);simp -implicitDefEqProofs[hna,q,bb,wi];refine ⟨rfl,?_,he2⟩;simp only[opdS,opdO,opdT,hne,if_false];have e1:(onu l (i+1)).map ia=(onu l i).map ia++[[AV.int .i64 x.nu]]:=(by rw[sc,List.map_append];rfl);have e2:(onu l (i+1)).length=(onu l i).length+1:=by rw[sc];simp
        first
         |(rw[c,List.nil_append]at sc;rw[sc];((try simp only[ia]);refine Yn.sub (by simp[lk,Ya,AV.keys,ia]) ?_;simp only[ia,Wkl,and_true];(try simp[lk,Yd,Ya,AV.keys,ia]));done)
         |(rw[<- e1,e2];(refine Yn.sub (by simp[lk,Ya,AV.keys]) ?_;simp only[Wkl,ZgW,and_true];(try simp[lk,Yd,Ya,AV.keys]));done)
      . rw[if_neg q]at sc;simp -implicitDefEqProofs[hna,q,wi];refine ⟨?_,he2⟩;simp only[opdS,opdO,opdT,sc,c,if_true,if_false]
        (refine Yn.sub (by simp[lk,Ya,AV.keys]) ?_;simp only[Wkl,ZgW,and_true];(try simp[lk,Yd,Ya,AV.keys]))
 . intro he;refine Qga ?_;have hall:(List.range l.length).all (noteB r l)=true:=Zbs.2 he;have hu:onu l l.length=opU l:=rfl;have hul:=Zh9 l l.length;have hln:(onu l l.length).length=(opN l l.length).length:=by simp[onu]
   have hB:ZdZ r l=decide ((opN l l.length).length<=5):=by
    have h2:l.length<=12:=(by omega);simp[ZdZ,hall,h2]
   rw[<- hln]at hB;by_cases c:onu l l.length=[]
   . have hB2:ZdZ r l=true:=(by rw[hB,c];rfl);have e:chN r l=0:=(by rw[chN,if_pos ho,hB2];rfl);have ea:opA l = .nils:=(by rw[opA,<- hu,if_pos c]);simp -implicitDefEqProofs[opdS,opdO,opdT,c];refine Qgr ?_;simp -implicitDefEqProofs[];refine Qco (Zh6) (by simp) ?_;simp -implicitDefEqProofs[opdA,e,fileA,ea]
   . by_cases h5:5<(onu l l.length).length
     . have h5':(5:Int)<(onu l l.length).length:=(by omega);have hB2:ZdZ r l=false:=(by rw[hB];exact decide_eq_false (by omega));have e:chN r l=30:=(by rw[chN,if_pos ho,hB2];rfl);simp -implicitDefEqProofs[opdS,opdO,opdT,c];refine Qgr ?_;simp -implicitDefEqProofs[h5,h5',opdA,e]
     . have h5':¬(5:Int)<(onu l l.length).length:=(by omega);have hB2:ZdZ r l=true:=(by rw[hB];exact decide_eq_true (by omega));have e:chN r l=0:=(by rw[chN,if_pos ho,hB2];rfl);have ea:opA l = .vsl ((sortI (opU l)).map ia):=(by rw[opA,<- hu,if_neg c]);have hsp:=Zh3 (G:=R.G) (onu l l.length) (by omega);have pu:((sortI (opU l)).map ia).all (λr=>r.all AV.pure)=true:=(by simp[ia,AV.pure]);have sl:(sortI (opU l)).length=(onu l l.length).length:=(by rw[Zeb,<- hu]);simp -implicitDefEqProofs[opdS,opdO,opdT,c];refine Qgr ?_;simp -implicitDefEqProofs[h5,h5'];refine Ye.sem (Z1B.byref hsp (λ_=>59) (by simp) (by simp) (by simp[St.get,lk,ZgV]) (by simp[ZgW]) (by simp[Ya,AV.keys,lk]) rfl (by simp[AV.ren]) rfl rfl) ?_;rw[hu];rw[hu]at sl;simp -implicitDefEqProofs[Ym,ZgV,opdA,e,fileA,ea,pu,sl]
end
def lfS (U s:List Int) (i:Nat):List Int:=U.filter λn=>!decide (n∈s.take i)
theorem Zhb {U s:List Int} {i:Nat} (hi:i<s.length) (hU:U.Nodup):(lfS U s i).erase s[i]=lfS U s (i+1):=by
 have hn:(lfS U s i).Nodup:=hU.filter _;rw[hn.erase_eq_filter];unfold lfS;rw[List.filter_filter];refine List.filter_congr λn _=>?_
 have hm:n∈s.take (i+1)↔(n∈s.take i∨n=s[i]):=(by rw[List.take_succ_eq_append_getElem hi,List.mem_append,List.mem_singleton]);by_cases e:n=s[i]
 . rw[decide_eq_true (hm.2 (.inr e)),bne_eq_false_iff_eq.2 e];rfl
 . by_cases e2:n∈s.take i
   . rw[decide_eq_true (hm.2 (.inl e2)),decide_eq_true e2];simp
   . rw[decide_eq_false (λh=>(hm.1 h).elim e2 e),decide_eq_false e2];simp[e]
def truI (l:List Nte) (s:List Int) (i:Nat):Prop:=∀ j,j<i->s.getD j 0∈opU l/\(0<j->s.getD (j-1) 0<s.getD j 0)
theorem Zhc {l:List Nte} {s:List Int} {i:Nat} (h:truI l s i):∀ a b,a<b->b<i->s.getD a 0<s.getD b 0
 |a,0,h1,_=>by omega
 | a,b+1,h1,h2=>by
   have h3:=(h (b+1) h2).2 (by omega);rw[Nat.add_sub_cancel]at h3;rcases Nat.lt_or_ge a b with h4|h4
   . have:=Zhc h a b h4 (by omega);omega
   . obtain rfl:a=b:=(by omega);exact h3
theorem Zhd {l:List Nte} {U s:List Int} {i:Nat} (hU:∀ n,n∈U↔n∈opU l) (hi:i<s.length) (h:truI l s i):(s[i]∈lfS U s i/\(0<i->s.getD (i-1) 0<=s[i]))↔truI l s (i+1):=by
 have eg:∀ j,∀ hj:j<s.length,s.getD j 0=s[j]:=λj hj=>by simp[List.getD_eq_getElem?_getD,hj]
 unfold lfS;rw[List.mem_filter,hU]
 constructor
 . rintro ⟨⟨h1,h2⟩,h3⟩ j hj;rcases Nat.lt_or_ge j i with h4|h4
   . exact h j h4
   . obtain rfl:j=i:=(by omega);rw[eg j hi];refine ⟨h1,λh0=>?_⟩;have h5:=h3 h0;have hj1:j-1<s.length:=by omega
     have h6:s.getD (j-1) 0≠s[j]:=λe=>by
      have:s[j]∈s.take j:=(by rw[<- e,eg _ hj1];rw[List.mem_take_iff_getElem];exact ⟨j-1,by omega,rfl⟩);simp[this]at h2
     omega
 . intro h1;have h2:=h1 i (by omega);rw[eg i hi]at h2;refine ⟨⟨h2.1,?_⟩,λh0=>Int.le_of_lt (h2.2 h0)⟩
   have:s[i] ∉ s.take i:=λhm=>by
    obtain ⟨j,hj,e⟩:=List.mem_take_iff_getElem.1 hm;have:=Zhc h1 j i (by omega) (by omega);rw[eg i hi,eg j (by omega)]at this;omega
   simp[this]
theorem Zhe {l:List Nte} {s:List Int}:truB l s=true↔truI l s s.length:=by
 unfold truB truI;rw[Zbs];refine forall_congr' λj=>forall_congr' λhj=>?_
 rw[Bool.and_eq_true,decide_eq_true_eq];refine and_congr_right λ_=>?_
 cases j with
 |zero=>simp
 |succ j=>simp
section
variable {G:Nat->Option (List AV)}
theorem Zhf (l:List Int) (n:Int) (h:Sml l):PC Tryz.prog G 104 [.vsl (l.map ia),.int .i64 n] (.int .i64 (idx l n)):=by
 (refine Zgf rfl λR hG hrd=>Qga ?_;subst hG)
 unfold Sml at h;simp -implicitDefEqProofs[Zgd,Zge];refine Zba (λi=>⟨[(8,.int .i64 i),(7,.int .i64 l.length),(0,.vsl (l.map ia)),(1,.int .i64 n)],[]⟩) (λi=>n ∉ l.take i) l.length (by (first|exact Yn.tm (by simp[lk])|exact Yn.sub (by simp[lk,Ya,AV.keys]) (by simp[lk,Yd,Ya,AV.keys]))) (by simp) ?_ ?_
 . intro i hi he;refine Qga ?_;have w1:IntKind.i64.wrap ((i:Int)+1)=(i:Int)+1:=Yg (by omega) (by omega);by_cases e:n=l[i]
   . have hm:n∈l:=e ▸ List.getElem_mem hi
     have hix:l.idxOf n=i:=by
      have hs:=List.take_append_drop i l;rw[List.drop_eq_getElem_cons hi]at hs;rw[<- hs,List.idxOf_append,if_neg he,List.idxOf_cons];simp[e];omega
     have e2:idx l n=i:=(by rw[idx,if_pos hm,hix]);simp -implicitDefEqProofs[hi,ia,e];refine Qgr ?_;rw[e]at e2;simp -implicitDefEqProofs[e2]
   . simp -implicitDefEqProofs[hi,ia,e,w1];refine ⟨by (first|exact Yn.tm (by simp[lk])|exact Yn.sub (by simp[lk,Ya,AV.keys]) (by simp[lk,Yd,Ya,AV.keys])),?_⟩;rw[List.take_succ_eq_append_getElem hi,List.mem_append,List.mem_singleton];exact λh=>h.elim he e
 . intro he;rw[List.take_length]at he;refine Qga ?_;have e2:idx l n = -1:=(by rw[idx,if_neg he]);simp -implicitDefEqProofs[];refine Qgr ?_;simp -implicitDefEqProofs[e2]
theorem Zhg (l:List Int) (n:Int) (h:Sml l):PC Tryz.prog G 75 [.vsl (l.map ia),.int .i64 n] (.bool (decide (n∈l))):=by
 have hc:=Zhf (G:=G) l n h
 have e:decide (0<=idx l n)=decide (n∈l):=by
  have:=Zbz (l:=l) (n:=n);by_cases h:n∈l
  . rw[decide_eq_true h,decide_eq_true];have:¬idx l n<0:=λh2=>(this.1 h2) h
    omega
  . rw[decide_eq_false h,decide_eq_false];have:=this.2 h;omega
 (refine Zgc rfl λR hG hrd=>Qga ?_;subst hG)
 simp -implicitDefEqProofs[Zga,Zgb];refine Qco (hc) (by simp) ?_;simp -implicitDefEqProofs[e]
theorem Zhh (o:List (Nat×AObj)) (l:List Int):Yd o (.mp (lfA l))=true:=by
 simp only[Yd,List.all_eq_true,lfA,List.mem_map];rintro _ ⟨y,-,rfl⟩;simp[Ya,AV.keys]
set_option maxHeartbeats 1000000 in
theorem Zhi (r:List Iss) (l:List Nte) (s:List Int) (hs:Sml s) (hU:(opU l).Nodup) (hl:(opU l).length<=12):PC Tryz.prog G 93 [fileA r l,.vsl (s.map ia)] (.int .i64 (if truB l s=true then 0 else 31)):=by
 unfold Sml at hs;have hUs:(sortI (opU l)).Nodup:=(Ze7 _).symm.nodup hU;have hsl:=Zeb (opU l);obtain ⟨S,hS⟩ : ∃ S,S=sortI (opU l):=⟨_,rfl⟩;have hSm:∀ n,n∈S↔n∈opU l:=λn=>by rw[hS];exact Zec
 rw[<- hS]at hUs hsl
 have hO:(S=[]/\opA l = .nils)∨(S≠[]/\opA l = .vsl (S.map ia)):=by
  by_cases c:opU l=[]
  . exact .inl ⟨List.length_eq_zero_iff.1 (by rw[hsl,c];rfl),by rw[opA,if_pos c]⟩
  . exact .inr ⟨λe=>c (List.length_eq_zero_iff.1 (by rw[<- hsl,e];rfl)),by rw[opA,if_neg c,hS]⟩
 have key : ∀ R:Run,R.G=G->R.Top->∀ (rc:RCode),rc=dropZ 3 ZfQ->AR Tryz.prog R rc ⟨[(5,.mp 10),(1,.vsl (s.map ia))],[(10,.mp (lfA S))]⟩ (Fin ZfR (.int .i64 (if truB l s=true then 0 else 31))):=λR _ _ rc hrc=>by
  subst hrc;refine Qga ?_;simp -implicitDefEqProofs[dropZ,ZfQ];refine Zba (λi=>⟨[(25,.int .i64 i),(24,.int .i64 s.length),(23,.vsl (s.map ia)),(5,.mp 10),(1,.vsl (s.map ia))],[(10,.mp (lfA (lfS S s i)))]⟩) (λi=>truI l s i) s.length ?_ (λj hj=>by omega) ?_ ?_
  . have e0:lfS S s 0=S:=by unfold lfS;simp
    ((try simp only[e0]);refine Yn.sub (by simp[lk,Ya,AV.keys,e0]) ?_;simp only[e0,Wkl,Zhh,and_true];(try simp[lk,Yd,Ya,AV.keys,e0]))
  . intro i hi hI;refine Qga ?_;have wi:IntKind.i64.wrap ((i:Int)+1)=(i:Int)+1:=Yg (by omega) (by omega);have gl:=ZcT s[i] (lfS S s i);have st:=Zhd hSm hi hI;have le:=Zhb (s:=s) hi hUs
    have no:¬truI l s (i+1)->truB l s=false:=λh=>by
     cases q:truB l s
     . rfl
     . exact absurd (λj hj=>Zhe.1 q j (by omega)) h
    by_cases hm:s[i]∈lfS S s i
    . rw [if_pos hm]at gl;have dl:=ZcW hm;rw[le]at dl
      cases i with
      | zero =>
        have w1:IntKind.i64.wrap 1=1:=rfl;have h1:=st.1 ⟨hm,λh=>by omega⟩;simp -implicitDefEqProofs[hi,ia,gl,dl,w1];refine ⟨?_,h1⟩
        (refine Yn.sub (by simp[lk,Ya,AV.keys]) ?_;simp only[Wkl,Zhh,and_true];(try simp[lk,Yd,Ya,AV.keys]))
      | succ k =>
        have hk:k<s.length:=(by omega);have k1:(k:Int)+1<s.length:=(by omega);have k2:((k:Int)+1).toNat=k+1:=(by omega);have k3:(0:Int)<=(k:Int)+1:=(by omega);have k4:(0:Int)<(k:Int)+1:=(by omega);have wk:IntKind.i64.wrap ((k:Int)+1-1)=(k:Int):=(by rw[Yg (by omega) (by omega)];omega);have wk2:IntKind.i64.wrap (k:Int)=(k:Int):=Yg (by omega) (by omega);have wk3:IntKind.i64.wrap ((k:Int)+1+1)=(k:Int)+1+1:=Yg (by omega) (by omega);have eg:s.getD (k+1-1) 0=s[k]:=(by simp[List.getD_eq_getElem?_getD,hk]);rw[eg]at st;by_cases hlt:s[k+1]<s[k]
        . have hB:=no λh=>by have:=(st.2 h).2 (by omega);omega
          simp -implicitDefEqProofs[hi,hk,ia,gl,k1,k2,k3,k4,wk,wk2,hlt];refine Qgr ?_;simp -implicitDefEqProofs[hB,ZfR]
        . have h1:=st.1 ⟨hm,λ_=>by omega⟩;simp -implicitDefEqProofs[hi,hk,ia,gl,k1,k2,k3,k4,wk,wk2,wk3,hlt,dl];refine ⟨?_,h1⟩
          (refine Yn.sub (by simp[lk,Ya,AV.keys]) ?_;simp only[Wkl,Zhh,and_true];(try simp[lk,Yd,Ya,AV.keys]))
    . rw[if_neg hm]at gl;have hB:=no λh=>hm (st.2 h).1
      simp -implicitDefEqProofs[hi,ia,gl];refine Qgr ?_;simp -implicitDefEqProofs[hB,ZfR]
  . intro hI;have hB:=Zhe.2 hI;refine Qga ?_;simp -implicitDefEqProofs[];refine Qgr ?_;simp -implicitDefEqProofs[hB,ZfR]
 refine ZfS rfl λR hG hrd=>?_
 have key:=key R hG hrd _ rfl;rcases hO with ⟨h1,h2⟩ | ⟨h1,h2⟩
 . refine Qga ?_;simp -implicitDefEqProofs[ZfQ,fileA,h2];refine Zba (λi=>⟨[(16,.int .i64 i),(15,.int .i64 0),(5,.mp 10),(1,.vsl (s.map ia))],[(10,.mp (lfA S))]⟩) (λ_=>True) 0 ?_ trivial (λi hi=>by omega) ?_
   . have e0:lfA []=[]:=rfl
     ((try simp only[h1,e0]);refine Yn.sub (by simp[lk,Ya,AV.keys,h1,e0]) ?_;simp only[h1,e0,Wkl,Zhh,and_true];(try simp[lk,Yd,Ya,AV.keys,h1,e0]))
   . intro _;refine Qga ?_;simp -implicitDefEqProofs[];refine Z2M Yb 2 ?_;simp -implicitDefEqProofs[];refine GOz (Z2L ?_ key)
     (refine Yn.sub (by simp[lk,Ya,AV.keys]) ?_;simp only[Wkl,Zhh,and_true];(try simp[lk,Yd,Ya,AV.keys]))
 . refine Qga ?_;simp -implicitDefEqProofs[ZfQ,fileA,h2];refine Zba (λi=>⟨[(16,.int .i64 i),(15,.int .i64 S.length),(14,.vsl (S.map ia)),(5,.mp 10),(1,.vsl (s.map ia))],[(10,.mp (lfA (S.take i)))]⟩) (λ_=>True) S.length ?_ trivial ?_ ?_
   . have e0:lfA []=[]:=rfl
     ((try simp only[List.take_zero,e0]);refine Yn.sub (by simp[lk,Ya,AV.keys,List.take_zero,e0]) ?_;simp only[List.take_zero,e0,Wkl,Zhh,and_true];(try simp[lk,Yd,Ya,AV.keys,List.take_zero,e0]))
   . intro i hi _;refine Qga ?_;have wi:IntKind.i64.wrap ((i:Int)+1)=(i:Int)+1:=Yg (by omega) (by omega)
     have hni:S[i] ∉ S.take i:=λhm=>by
      obtain ⟨j,hj,e⟩:=List.mem_take_iff_getElem.1 hm;have:=(List.nodup_iff_pairwise_ne.1 hUs);have:=List.pairwise_iff_getElem.1 this j i (by omega) hi (by omega);exact this e
     have pl:=ZcU hni;have e1:S.take i++[S[i]]=S.take (i+1):=(List.take_succ_eq_append_getElem hi).symm;rw[e1]at pl;simp -implicitDefEqProofs[hi,ia,pl,wi]
     (refine Yn.sub (by simp[lk,Ya,AV.keys]) ?_;simp only[Wkl,Zhh,and_true];(try simp[lk,Yd,Ya,AV.keys]))
   . intro _;refine Qga ?_;simp -implicitDefEqProofs[];refine Z2M Yb 2 ?_;simp -implicitDefEqProofs[];refine GOz (Z2L ?_ key)
     ((try simp only[List.take_length]);refine Yn.sub (by simp[lk,Ya,AV.keys,List.take_length]) ?_;simp only[List.take_length,Wkl,Zhh,and_true];(try simp[lk,Yd,Ya,AV.keys,List.take_length]))
end
section
variable {G:Nat->Option (List AV)}
end
section
variable {G:Nat->Option (List AV)}
end
theorem Zhj (o:List (Nat×AObj)) (l:List Int):Yd o (.mp (lfA l))=true:=by
 simp only[Yd,List.all_eq_true,lfA,List.mem_map];rintro x ⟨y,-,rfl⟩;simp[Ya,AV.keys]
section
variable {G:Nat->Option (List AV)}
end
def mpP {α:Type} (n:Int) (v:α):List (Int×α)->List (Int×α)
 |[]=>[(n,v)]
 |p::l=>if n=p.1 then (n,v)::l else p::mpP n v l
theorem Zhk {α:Type} (n:Int) (v:α):∀ (l:List (Int×α)) (m:Int),mlk m (mpP n v l)=if m=n then some v else mlk m l
 |[],m=>by simp[mpP,mlk]
 | p :: l,m=>by
   have ih:=Zhk n v l m;simp only[mpP];by_cases e:n=p.1
   . rw[if_pos e];simp only[mlk];by_cases e2:m=n
     . rw[if_pos e2,if_pos e2]
     . rw[if_neg e2,if_neg e2,if_neg (by rw[<- e];exact e2)]
   . rw[if_neg e];simp only[mlk];by_cases e2:m=p.1
     . rw[if_pos e2,if_pos e2,if_neg (by rintro rfl;exact e e2)]
     . rw[if_neg e2,if_neg e2];exact ih
theorem Zhl {α:Type} (f:α->AV) (n:Int) (v:α):∀ l:List (Int×α),∃ o:Option Nat,(KK.i .i64).find (.int .i64 n) (mpA f l)=some o/\match o with
  |some j=>mpP n v l=l.set j (n,v)
  |none=>mpP n v l=l++[(n,v)]
 |[]=>⟨none,rfl,rfl⟩
 | p :: r=>by
   obtain ⟨o,h1,h2⟩:=Zhl f n v r;by_cases e:n=p.1
   . exact ⟨some 0,by simp[mpA,KK.find,KK.eq,e],by simp[mpP,e]⟩
   . refine ⟨o.map (· + 1),?_,?_⟩
     . simp only[mpA,List.map_cons,KK.find,KK.eq,and_self,if_true,e,decide_false];rw[show r.map (λp=>(AV.int .i64 p.1,f p.2))=mpA f r from rfl,h1];rfl
     . cases o with
       |none=>simp only[Option.map_none,mpP,if_neg e,h2];rfl
       |some j=>simp only[Option.map_some,mpP,if_neg e,h2];rfl
theorem Zhm {α:Type} (f:α->AV) (n:Int) (v:α) (l:List (Int×α)):(KK.i .i64).put (.int .i64 n) (f v) (mpA f l)=some (mpA f (mpP n v l)):=by
 obtain ⟨o,h1,h2⟩:=Zhl f n v l;have hi:(KK.i .i64).is (.int .i64 n)=true:=(by simp[KK.is]);unfold KK.put;rw[if_pos hi,h1]
 cases o with
 |none=>simp only[h2];simp[mpA]
 |some j=>rw[h2];simp[mpA,List.map_set]
section
variable {G:Nat->Option (List AV)}
end
def ifK (s w:List Int) (m:Int) (l:List Nte):Nat->Nat->List (Int×Bool)->List (Int×Bool)
 |0,_,K=>K
 |n+1,i,K=>if (mlk (i:Int) K).isSome=true then K else mpP (i:Int) (fB s w m l i) ((List.range (l.length-(i+1))).foldl (λK j=>if (gwB (bsF s w m) (λx y=>decide (y.ca=x.nu)) l (nAt l i) i (i+1+j)&&decide ((nAt l (i+1+j)).ca=(nAt l i).nu))=true then ifK s w m l n (i+1+j) K else K) K)
def stK (s w:List Int) (m:Int) (l:List Nte) (n i:Nat) (K:List (Int×Bool)) (j:Nat):List (Int×Bool):=if (gwB (bsF s w m) (λx y=>decide (y.ca=x.nu)) l (nAt l i) i (i+1+j)&&decide ((nAt l (i+1+j)).ca=(nAt l i).nu))=true then ifK s w m l n (i+1+j) K else K
def lpK (s w:List Int) (m:Int) (l:List Nte) (n i:Nat) (K:List (Int×Bool)) (j:Nat):List (Int×Bool):=(List.range j).foldl (stK s w m l n i) K
theorem Zhn {s w:List Int} {m:Int} {l:List Nte} {n i:Nat} {K:List (Int×Bool)}:ifK s w m l (n+1) i K=if (mlk (i:Int) K).isSome=true then K else mpP (i:Int) (fB s w m l i) (lpK s w m l n i K (l.length-(i+1))):=rfl
theorem Zho {s w:List Int} {m:Int} {l:List Nte} {n i j:Nat} {K:List (Int×Bool)}:lpK s w m l n i K (j+1)=stK s w m l n i (lpK s w m l n i K j) j:=by rw[lpK,List.range_succ,List.foldl_append];rfl
def OkK (s w:List Int) (m:Int) (l:List Nte) (K:List (Int×Bool)):Prop:=∀ (i:Nat) (b:Bool),mlk (i:Int) K=some b->b=fB s w m l i
theorem Zhp {s w:List Int} {m:Int} {l:List Nte}:∀ (n i:Nat) {K:List (Int×Bool)},OkK s w m l K->OkK s w m l (ifK s w m l n i K)
 |0,_,_,h=>h
 | n + 1,i,K,h=>by
   rw[Zhn]
   split
   . exact h
   . have key:∀ j,OkK s w m l (lpK s w m l n i K j):=by
      intro j
      induction j with
      |zero=>exact h
      | succ j ih =>
        rw[Zho,stK]
        split
        . exact Zhp n _ ih
        . exact ih
     intro k b hb;rw[Zhk]at hb
     split at hb
     . rename_i e;have e:k=i:=(by omega);subst e;exact (Option.some.inj hb).symm
     . exact key _ k b hb
theorem Zhq {s w:List Int} {m:Int} {l:List Nte} {n i:Nat} {K:List (Int×Bool)} (h:OkK s w m l K):∀ j,OkK s w m l (lpK s w m l n i K j)
 |0=>h
 | j+1=>by
   rw[Zho,stK]
   split
   . exact Zhp n _ (Zhq h j)
   . exact Zhq h j
theorem Zhr {α:Type} {p:α->Bool} {h:α->α->Bool} {l:List α} {x:α} {i:Nat}:∀ {k j:Nat},i<k->k<=j->j<=l.length->gwB p h l x i k=false->gwB p h l x i j=false
 |k,0,h1,h2,_,_=>by omega
 | k,j+1,h1,h2,h3,h4=>by
   rcases Nat.lt_or_ge k (j+1) with h5|h5
   . rw[Ze4 (by omega) (by omega),Zhr h1 (by omega:k<=j) (by omega) h4];rfl
   . obtain rfl:k=j+1:=(by omega);exact h4
theorem Zhs {s w:List Int} {m:Int} {l:List Nte} {n i:Nat} {K:List (Int×Bool)} {j:Nat} (hj:gwB (bsF s w m) (λx y=>decide (y.ca=x.nu)) l (nAt l i) i (i+1+j)=false):∀ j',j<=j'->i+1+j'<=l.length->lpK s w m l n i K j'=lpK s w m l n i K j
 | 0, h, _ => by obtain rfl:j=0:=by omega
                 rfl
 | j'+1,h,h2=>by
   rcases Nat.lt_or_ge j (j'+1) with h5|h5
   . rw[Zho,stK,Zhr (by omega) (by omega:i+1+j<=i+1+j') (by omega) hj];exact Zhs hj j' (by omega) (by omega)
   . obtain rfl:j=j'+1:=(by omega);rfl
theorem Zht (o:List (Nat×AObj)) (l:List (Int×Bool)):Yd o (.mp (mpA AV.bool l))=true:=by
 simp only[Yd,List.all_eq_true,mpA,List.mem_map];rintro _ ⟨y,-,rfl⟩;simp[Ya,AV.keys]
theorem Zhu (ρ:Nat->Nat) (l:List (Int×Bool)):(mpA AV.bool l).map (λp=>(p.1.ren ρ,p.2.ren ρ))=mpA AV.bool l:=by
 simp[mpA,Function.comp_def,AV.ren]
theorem Zhv (ok:Nat->Bool) (st:St) (l:List (Int×Bool)):frzO ok st (.mp (mpA AV.bool l)) = .mp (mpA AV.bool l):=by
 simp only[frzO,mpA,List.map_map]
 congr 1
 refine List.map_congr_left λp _=>?_
 simp[frzA,frz,AV.keys]
def fcO (F sV wV:AV) (m:Int) (K:List (Int×Bool)):List (Nat×AObj) :=
 [(1009,.box [.mp 1011]),(1004,.box [F]),(1005,.box [sV]),(1006,.box [wV]),(1007,.box [.int .i64 m]),(1010,.box [.func (.func 95) [] [.ptr 1009 0,.ptr 1004 0,.ptr 1005 0,.ptr 1006 0,.ptr 1007 0,.ptr 1010 0]]),(1011,.mp (mpA AV.bool K))]
def fcC:List AV:=[.ptr 1009 0,.ptr 1004 0,.ptr 1005 0,.ptr 1006 0,.ptr 1007 0,.ptr 1010 0]
section
variable {G:Nat->Option (List AV)}
def liA (nl:Bool) (s:List Int):AV:=if nl=true/\s=[] then .nils else .vsl (s.map ia)
theorem Zhw (nl:Bool) (s:List Int):(liA nl s).pure=true:=by unfold liA;split <;> simp[AV.pure,ia]
theorem Zhx (nl:Bool) (s:List Int):(liA nl s).keys=[]:=by unfold liA;split <;> simp[AV.keys]
theorem Zhy (ok:Nat->Bool) (st:St) (nl:Bool) (s:List Int):frz ok st 6 (liA nl s)=some (liA nl s):=by unfold liA;split <;> simp[frz,AV.keys]
theorem Zhz (ρ:Nat->Nat) (nl:Bool) (s:List Int):(liA nl s).ren ρ=liA nl s:=by unfold liA;split <;> simp[AV.ren]
theorem ZhA (ok:Nat->Bool) (st:St) (xs:List AV):frzO ok st (.box xs) = .box (xs.map (frzA ok st)):=rfl
theorem ZhB (n:Int):PC Tryz.prog G 75 [.nils,.int .i64 n] (.bool false):=by
 have hi:PC Tryz.prog G 104 [.nils,.int .i64 n] (.int .i64 (-1)):=by
  (refine Zgf rfl λR hG hrd=>Qga ?_;subst hG)
  simp -implicitDefEqProofs[Zgd,Zge];refine Zba (λi=>⟨[(8,.int .i64 i),(7,.int .i64 0)],[]⟩) (λi=>True) 0 (by (first|exact Yn.tm (by simp[lk])|exact Yn.sub (by simp[lk,Ya,AV.keys]) (by simp[lk,Yd,Ya,AV.keys]))) trivial (λi hi=>by omega) ?_;intro _;refine Qga ?_;simp -implicitDefEqProofs[];refine Qgr ?_;simp -implicitDefEqProofs[]
 (refine Zgc rfl λR hG hrd=>Qga ?_;subst hG)
 simp -implicitDefEqProofs[Zga,Zgb];refine Qco (hi) (by simp) ?_;simp -implicitDefEqProofs[]
theorem ZhC (nl:Bool) (s:List Int) (n:Int) (h:Sml s):PC Tryz.prog G 75 [liA nl s,.int .i64 n] (.bool (decide (n∈s))):=by
 unfold liA
 split
 . rename_i e;rw[e.2];exact ZhB n
 . exact Zhg s n h
set_option maxHeartbeats 4000000 in
theorem is_pb (r:List Iss) (l:List Nte) (ns nw:Bool) (s w:List Int) (m:Int) (hl:l.length<=12) (hs:Sml s) (hw:Sml w):∀ (n i:Nat) (K:List (Int×Bool)),i<l.length->l.length-i<=n->OkK s w m l K ->
  PB Tryz.prog G 95 (fcO (fileA r l) (liA ns s) (liA nw w) m K) (.int .i64 i::fcC) (.bool (fB s w m l i)) (fcO (fileA r l) (liA ns s) (liA nw w) m (ifK s w m l n i K))
 |0,i,K,hi,hn,_=>by omega
 | n + 1, i, K,hi,hn,hK=>by
   have hrec:=λk K h1 h2 h3=>is_pb r l ns nw s w m hl hs hw n k K h1 h2 h3
   have gK:=Zf2 AV.bool (i:Int) K;have hx:=ZdW hi;have c1:=ZhC (G:=G) ns s (nAt l i).nu hs;have c2:=ZhC (G:=G) nw w (nAt l i).nu hw;have c3:=ZgF (G:=G) (nAt l i).fr (nAt l i).tu m;have fe:=Ze2 (p:=bsF s w m) (h:=λx y:Nte=>decide (y.ca=x.nu)) hi;have k1:=Zhx ns s;have k2:=Zhx nw w;have p1:=Zhw ns s;have p2:=Zhw nw w;have r1:=λρ=>Zhz ρ ns s
   have r2:=λρ=>Zhz ρ nw w
   have f1:=λok st=>Zhy ok st ns s
   have f2:=λok st=>Zhy ok st nw w
   rw[Zhn];generalize liA ns s=sV at *;generalize liA nw w=wV at *;have hF:fileA r l = .vptr [.vsl (r.map isa),.vsl (l.map na),.vsl ((nums r).map ia),opA l] 0:=rfl;have fF:∀ ok st,frz ok st 6 (fileA r l)=some (fileA r l):=λok st=>by rw[hF];simp[frz,AV.keys]
   have kF:(fileA r l).keys=[]:=(by rw[hF];simp[AV.keys]);refine Zg0 (Nat.le_of_ble_eq_true rfl) λR hG hrd=>?_
   subst hG
   cases q:mlk (i:Int) K with
   | some b =>
     have eb:=hK i b q;rw[q]at gK;refine Qga ?_;simp -implicitDefEqProofs[ZfY,ZfZ,fcO,fcC,gK,eb];simp -implicitDefEqProofs[FinB,Yj,newK,Zhv,ZhA,frzA,frz,fF,f1,f2,tupV,Z29,ZfZ]
   | none =>
     rw[q]at gK;have hna:na (nAt l i)=[.int .i64 (nAt l i).nu,.int .i64 (nAt l i).dy,.int .u8 (nAt l i).sg,.int .i64 (nAt l i).dr,.int .i64 (nAt l i).lt,.int .i64 (nAt l i).fr,.int .i64 (nAt l i).tu,.int .i64 (nAt l i).ca,.bool (nAt l i).up,.int .u8 (nAt l i).wy]:=rfl;rw[<- hx]at fe;have lok:=λj=>Zhq (n:=n) (i:=i) hK j
     have lsu:=λj=>Zho (s:=s) (w:=w) (m:=m) (l:=l) (n:=n) (i:=i) (j:=j) (K:=K)
     have lst:=λj=>Zhs (s:=s) (w:=w) (m:=m) (l:=l) (n:=n) (i:=i) (K:=K) (j:=j)
     unfold stK at lsu;have gb:=Ze3 (p:=bsF s w m) (h:=λx y:Nte=>decide (y.ca=x.nu)) (l:=l) (x:=nAt l i) (i:=i);have gs:=λk=>Ze4 (p:=bsF s w m) (h:=λx y:Nte=>decide (y.ca=x.nu)) (l:=l) (x:=nAt l i) (i:=i) (k:=k)
     have gst:=λk j (h1:i<k) (h2:k<=j) (h3:j<=l.length)=>Zhr (p:=bsF s w m) (h:=λx y:Nte=>decide (y.ca=x.nu)) (l:=l) (x:=nAt l i) h1 h2 h3
     have fbs:fB s w m l i=gwB (bsF s w m) (λx y=>decide (y.ca=x.nu)) l (nAt l i) i l.length:=fe;rw[fbs];have pm:=λb K=>Zhm AV.bool (i:Int) b K
     generalize hxx:nAt l i=x at *;have hlx:l[i]=x:=hx.symm;unfold ZfY;refine ZeL (S:=⟨[(0,.int .i64 i),(1,.ptr 1009 0),(2,.ptr 1004 0),(3,.ptr 1005 0),(4,.ptr 1006 0),(5,.ptr 1007 0),(6,.ptr 1010 0)],fcO (.vptr [.vsl (r.map isa),.vsl (l.map na),.vsl ((nums r).map ia),opA l] 0) sV wV m K⟩) (Qga ?_) ?_
     . simp -implicitDefEqProofs[fcO,fcC,hF]
       ((try simp only[Zht,k1,k2]);refine Yn.sub (by simp[lk,Ya,AV.keys,Zht,k1,k2]) ?_;simp only[Zht,k1,k2,Wkl,and_true];(try simp[lk,Yd,Ya,AV.keys,Zht,k1,k2]))
     refine ZeL (S:=⟨[(0,.int .i64 i),(1,.ptr 1009 0),(2,.ptr 1004 0),(3,.ptr 1005 0),(4,.ptr 1006 0),(5,.ptr 1007 0),(6,.ptr 1010 0)],fcO (.vptr [.vsl (r.map isa),.vsl (l.map na),.vsl ((nums r).map ia),opA l] 0) sV wV m K⟩) (Qga ?_) ?_
     . simp -implicitDefEqProofs[fcO,gK]
       ((try simp only[Zht,k1,k2]);refine Yn.sub (by simp[lk,Ya,AV.keys,Zht,k1,k2]) ?_;simp only[Zht,k1,k2,Wkl,and_true];(try simp[lk,Yd,Ya,AV.keys,Zht,k1,k2]))
     refine ZeL (S:=⟨[(0,.int .i64 i),(1,.ptr 1009 0),(2,.ptr 1004 0),(3,.ptr 1005 0),(4,.ptr 1006 0),(5,.ptr 1007 0),(6,.ptr 1010 0),(11,.ptr 11 0)],(11,.box (na x))::fcO (.vptr [.vsl (r.map isa),.vsl (l.map na),.vsl ((nums r).map ia),opA l] 0) sV wV m K⟩) (Qga ?_) ?_
     . simp -implicitDefEqProofs[fcO,hi,hlx,hna]
       ((try simp only[Zht,k1,k2,hna]);refine Yn.sub (by simp[lk,Ya,AV.keys,Zht,k1,k2,hna]) ?_;simp only[Zht,k1,k2,hna,Wkl,and_true];(try simp[lk,Yd,Ya,AV.keys,Zht,k1,k2,hna]))
     refine ZeL (S:=⟨[(0,.int .i64 i),(1,.ptr 1009 0),(2,.ptr 1004 0),(3,.ptr 1005 0),(4,.ptr 1006 0),(5,.ptr 1007 0),(6,.ptr 1010 0),(11,.ptr 11 0),(12,.bool (bsF s w m x))],(11,.box (na x))::fcO (.vptr [.vsl (r.map isa),.vsl (l.map na),.vsl ((nums r).map ia),opA l] 0) sV wV m K⟩) (Qga ?_) ?_
     . unfold bsF;have go3:∀ b:Bool,(decide (x.sg=2)||decide (x.nu∈s))=b->True:=λ_ _=>trivial
       by_cases e1:x.sg=2
       . simp -implicitDefEqProofs[fcO,hna,e1,p1,p2];refine Ye.of c2 (by simp[p2,AV.pure]) ?_;by_cases e2:x.nu∈w
         . simp -implicitDefEqProofs[e2,p1,p2]
           ((try simp only[Zht,k1,k2,fcO]);refine Yn.sub (by simp[lk,Ya,AV.keys,Zht,k1,k2,fcO]) ?_;simp only[Zht,k1,k2,fcO,Wkl,and_true];(try simp[lk,Yd,Ya,AV.keys,Zht,k1,k2,fcO]))
         . simp -implicitDefEqProofs[e2,p1,p2];refine Qco (c3) (by simp) ?_;simp -implicitDefEqProofs[]
           ((try simp only[Zht,k1,k2,fcO]);refine Yn.sub (by simp[lk,Ya,AV.keys,Zht,k1,k2,fcO]) ?_;simp only[Zht,k1,k2,fcO,Wkl,and_true];(try simp[lk,Yd,Ya,AV.keys,Zht,k1,k2,fcO]))
       . simp -implicitDefEqProofs[fcO,hna,e1,p1,p2];refine Ye.of c1 (by simp[p1,AV.pure]) ?_;by_cases e3:x.nu∈s
         . simp -implicitDefEqProofs[e3,p1,p2];refine Ye.of c2 (by simp[p2,AV.pure]) ?_;by_cases e2:x.nu∈w
           . simp -implicitDefEqProofs[e2,p1,p2]
             ((try simp only[Zht,k1,k2,fcO]);refine Yn.sub (by simp[lk,Ya,AV.keys,Zht,k1,k2,fcO]) ?_;simp only[Zht,k1,k2,fcO,Wkl,and_true];(try simp[lk,Yd,Ya,AV.keys,Zht,k1,k2,fcO]))
           . simp -implicitDefEqProofs[e2,p1,p2];refine Qco (c3) (by simp) ?_;simp -implicitDefEqProofs[]
             ((try simp only[Zht,k1,k2,fcO]);refine Yn.sub (by simp[lk,Ya,AV.keys,Zht,k1,k2,fcO]) ?_;simp only[Zht,k1,k2,fcO,Wkl,and_true];(try simp[lk,Yd,Ya,AV.keys,Zht,k1,k2,fcO]))
         . simp -implicitDefEqProofs[e3,p1,p2]
           ((try simp only[Zht,k1,k2,fcO]);refine Yn.sub (by simp[lk,Ya,AV.keys,Zht,k1,k2,fcO]) ?_;simp only[Zht,k1,k2,fcO,Wkl,and_true];(try simp[lk,Yd,Ya,AV.keys,Zht,k1,k2,fcO]))
     rw[<- gb];have w1:IntKind.i64.wrap ((i:Int)+1)=((i+1:Nat):Int):=Yg (by omega) (by omega);refine ZeL (S:=⟨[(0,.int .i64 i),(1,.ptr 1009 0),(12,.bool (gwB (bsF s w m) (λx y=>decide (y.ca=x.nu)) l x i l.length))],fcO (.vptr [.vsl (r.map isa),.vsl (l.map na),.vsl ((nums r).map ia),opA l] 0) sV wV m (lpK s w m l n i K (l.length-(i+1)))⟩) (Qga ?_) ?_
     . simp -implicitDefEqProofs[w1];refine Z1Q (λk=>⟨[(0,.int .i64 i),(1,.ptr 1009 0),(2,.ptr 1004 0),(3,.ptr 1005 0),(4,.ptr 1006 0),(5,.ptr 1007 0),(6,.ptr 1010 0),(11,.ptr 11 0),(12,.bool (gwB (bsF s w m) (λx y=>decide (y.ca=x.nu)) l x i k)),(13,.int .i64 (k:Int))],(11,.box (na x))::fcO (.vptr [.vsl (r.map isa),.vsl (l.map na),.vsl ((nums r).map ia),opA l] 0) sV wV m (lpK s w m l n i K (k-(i+1)))⟩) (λk=>i+1<=k/\k<=l.length) (λk=>l.length-k) (i+1) (by ((try simp only[Zht,k1,k2,fcO,lpK,List.range_zero,List.foldl_nil,hna,Nat.sub_self]);refine Yn.sub (by simp[lk,Ya,AV.keys,Zht,k1,k2,fcO,lpK,List.range_zero,List.foldl_nil,hna,Nat.sub_self]) ?_;simp only[Zht,k1,k2,fcO,lpK,List.range_zero,List.foldl_nil,hna,Nat.sub_self,Wkl,and_true];(try simp[lk,Yd,Ya,AV.keys,Zht,k1,k2,fcO,lpK,List.range_zero,List.foldl_nil,hna,Nat.sub_self]))) ⟨by omega,by omega⟩ ?_;rintro k ⟨hk1,hk2⟩;have gst':=gst k l.length hk1 hk2 (Nat.le_refl _);have lst':=lst (k-(i+1)) ;rw[show i+1+(k-(i+1))=k by omega]at lst';by_cases hb:gwB (bsF s w m) (λx y=>decide (y.ca=x.nu)) l x i k=true
       . rcases Nat.lt_or_ge k l.length with h5|h5
         . have w2:IntKind.i64.wrap ((k:Int)+1)=(((k+1:Nat)):Int):=(by rw[Yg (by omega) (by omega)];omega);have hnj:na (nAt l k)=[.int .i64 (nAt l k).nu,.int .i64 (nAt l k).dy,.int .u8 (nAt l k).sg,.int .i64 (nAt l k).dr,.int .i64 (nAt l k).lt,.int .i64 (nAt l k).fr,.int .i64 (nAt l k).tu,.int .i64 (nAt l k).ca,.bool (nAt l k).up,.int .u8 (nAt l k).wy]:=rfl;have hy:=ZdW h5;have hg:=gs k (by omega) h5;have hr:=hrec k (lpK s w m l n i K (k-(i+1))) h5 (by omega) (lok _);have hls:=lsu (k-(i+1));rw[show i+1+(k-(i+1))=k by omega,show k-(i+1)+1=k+1-(i+1) by omega]at hls;rw[hb,Bool.true_and]at hg hls;rw[<- hy]at hg;change _ = !(fB s w m l k&&_) at hg;generalize hyy:nAt l k=y at *;have hly:l[k]=y:=hy.symm;by_cases h6:y.ca=x.nu
           . simp only[h6,decide_true,Bool.and_true,if_true]at hg hls;rw[fcO,hF]at hr;refine Yc Yb 9 ?_;simp -implicitDefEqProofs[hb,h5,hna,h6,fcO,hly,hnj];refine GO0 (Z5i Yb 15 (by decide) ?_);simp -implicitDefEqProofs[hb,h5,hna,h6,fcO,hly,hnj];refine ⟨rfl,Ye.sem (Z1B.byref hr id (by simp) (by simp) (by simp[St.get,lk,AV.ren,AObj.ren,Zhu,r1,r2]) (by simp only[List.mem_cons,List.not_mem_nil,or_false,forall_eq_or_imp,forall_eq,Zht,and_true];simp[lk,Yd,Ya,AV.keys,k1,k2]) (by simp[Ya,AV.keys,lk,rega,fcC]) rfl (by simp[AV.ren,rega,fcC]) rfl rfl) ?_⟩;simp -implicitDefEqProofs[Ym,fcO,AV.ren,AObj.ren,Zhu,r1,r2];refine Qgr ?_;simp -implicitDefEqProofs[w2];refine ⟨k+1,?_,⟨by omega,by omega⟩,(by show l.length-(k+1)<l.length-k;omega)⟩;simp only[hg,hls]
             ((try simp only[Zht,k1,k2,hna]);refine Yn.sub (by simp[lk,Ya,AV.keys,Zht,k1,k2,hna]) ?_;simp only[Zht,k1,k2,hna,Wkl,and_true];(try simp[lk,Yd,Ya,AV.keys,Zht,k1,k2,hna]))
           . simp only[h6,decide_false,Bool.and_false,Bool.not_false,Bool.false_eq_true,if_false]at hg hls;refine Qga ?_;simp -implicitDefEqProofs[hb,h5,hna,h6,fcO,hly,hnj,w2];refine ⟨rfl,k+1,?_,⟨by omega,by omega⟩,(by show l.length-(k+1)<l.length-k;omega)⟩;simp only[hg,hls]
             ((try simp only[Zht,k1,k2,hna]);refine Yn.sub (by simp[lk,Ya,AV.keys,Zht,k1,k2,hna]) ?_;simp only[Zht,k1,k2,hna,Wkl,and_true];(try simp[lk,Yd,Ya,AV.keys,Zht,k1,k2,hna]))
         . obtain rfl:k=l.length:=(by omega);refine Qga ?_;simp -implicitDefEqProofs[hb,fcO];refine Qgr ?_;simp -implicitDefEqProofs[]
           ((try simp only[Zht,k1,k2,hna]);refine Yn.sub (by simp[lk,Ya,AV.keys,Zht,k1,k2,hna]) ?_;simp only[Zht,k1,k2,hna,Wkl,and_true];(try simp[lk,Yd,Ya,AV.keys,Zht,k1,k2,hna]))
       . have hb:gwB (bsF s w m) (λx y=>decide (y.ca=x.nu)) l x i k=false:=(by simpa using hb);have e1:=lst' hb (l.length-(i+1)) (by omega) (by omega);rw[e1,gst' hb];refine Qga ?_;simp -implicitDefEqProofs[hb,fcO];refine Qgr ?_;simp -implicitDefEqProofs[]
         ((try simp only[Zht,k1,k2,hna]);refine Yn.sub (by simp[lk,Ya,AV.keys,Zht,k1,k2,hna]) ?_;simp only[Zht,k1,k2,hna,Wkl,and_true];(try simp[lk,Yd,Ya,AV.keys,Zht,k1,k2,hna]))
     refine Qga ?_;have pm':=pm (gwB (bsF s w m) (λx y=>decide (y.ca=x.nu)) l x i l.length) (lpK s w m l n i K (l.length-(i+1)));simp -implicitDefEqProofs[fcO,pm'];simp -implicitDefEqProofs[FinB,Yj,newK,Zhv,ZhA,frzA,frz,hF,f1,f2,tupV,Z29,ZfZ]
end
theorem ZhD {r:List Iss} {l:List Nte} (h:ZdZ r l=true):(l.map (·.nu)).Nodup:=by
 simp only[ZdZ,Bool.and_eq_true]at h;have h1:=Zbs.1 h.1.2;rw[List.nodup_iff_pairwise_ne,List.pairwise_map,List.pairwise_iff_getElem];intro i j hi hj hij e;have h2:=h1 j hj;simp only[noteB,Bool.and_eq_true]at h2;have h3:=h2.1.2;simp only[cN7,Bool.not_eq_true',List.any_eq_false]at h3;refine h3 l[i] (List.mem_take_iff_getElem.2 ⟨i,by omega,rfl⟩) ?_;rw[ZdW hj];simpa using e
theorem ZhE {r:List Iss} {l:List Nte} (h:ZdZ r l=true):(opU l).Nodup/\(opU l).length<=12:=by
 refine ⟨?_,?_⟩
 . exact List.Sublist.nodup (by unfold opU opN;rw[List.take_length];exact (List.filter_sublist).map _) (ZhD h)
 . simp only[ZdZ,Bool.and_eq_true,decide_eq_true_eq]at h;have:=h.2;unfold opU;rw[List.length_map];omega
section
variable {G:Nat->Option (List AV)}
theorem ZhF (r:List Iss) (l:List Nte):(fileA r l).pure=true:=by unfold fileA opA;split <;> simp[AV.pure,isa,na]
theorem ZhG (ok:Nat->Bool) (st:St) (r:List Iss) (l:List Nte):Yi ok st 6 (fileA r l)=some (fileA r l):=by
 have h:=ZhF r l;unfold fileA at *;simp[Yi,h]
theorem ZhH (r:List Iss) (l:List Nte):(fileA r l).one=true:=by unfold fileA;simp[AV.one,AV.known]
theorem ZhI (hG:GC G) (hN:GN G) (r:List Iss) (l:List Nte) (hw:WfN l) (hr:Wf r):PC Tryz.prog G 89 [.agg [.vsl (r.map isa),.vsl (l.map na)]] (.int .i64 (chN r l)):=by
 have ho:=Zha hG hN r l hw hr;unfold opdA at ho
 (refine ZfP rfl λR hG hrd=>Qga ?_;subst hG)
 simp -implicitDefEqProofs[ZfN,ZfO];refine Qco (ho) (by simp) ?_;simp -implicitDefEqProofs[]
def askA (r:List Iss) (l:List Nte) (s:List Int) (m:Int):AV:=.tup [if asN r l s m=0 then fileA r l else .nilp,.int .i64 (asN r l s m)]
theorem ZhJ (hG:GC G) (hN:GN G) (r:List Iss) (l:List Nte) (s:List Int) (m:Int) (hw:WfN l) (hr:Wf r) (hs:Sml s):PC Tryz.prog G 64 [.agg [.vsl (r.map isa),.vsl (l.map na)],.vsl (s.map ia),.int .i64 m] (askA r l s m):=by
 have ho:=Zha hG hN r l hw hr;have hi:=ZgF (G:=G) 1 999 m;unfold opdA at ho
 (refine ZfV rfl λR hG hrd=>Qga ?_;subst hG)
 unfold askA asN;by_cases h0:chN r l=0
 . have hB:ZdZ r l=true:=by
    unfold chN at h0
    split at h0
    . cases q:ZdZ r l
      . rw[q]at h0;cases h0
      . rfl
    . rename_i e;exact absurd h0 e
   have hU:=ZhE hB;have ht:=Zhi (G:=R.G) r l s hs hU.1 hU.2;have hp:=ZhF r l;have sn:=λok st=>ZhG ok st r l
   have h1:=ZhH r l;rw[if_pos h0,h0]at ho;generalize fileA r l=F at *;simp -implicitDefEqProofs[ZfT,ZfU];refine Qco (ho) (by simp) ?_;simp -implicitDefEqProofs[h0];refine Ye.of ht (by simp[hp,AV.pure]) ?_
   cases q:truB l s
   . simp -implicitDefEqProofs[q]
   . simp -implicitDefEqProofs[q];refine Qco (hi) (by simp) ?_
     cases q2:inR m 1 999
     . simp -implicitDefEqProofs[q2]
     . simp -implicitDefEqProofs[q2,hp,sn]
 . rw[if_neg h0]at ho;simp -implicitDefEqProofs[ZfT,ZfU];refine Qco (ho) (by simp) ?_;simp -implicitDefEqProofs[h0]
def ffC:AV:=.func (.func 95) [] [.ptr 9 0,.ptr 4 0,.ptr 5 0,.ptr 6 0,.ptr 7 0,.ptr 10 0]
def ffO (F sV wV:AV) (m:Int):List (Nat×AObj):=[(4,.box [F]),(5,.box [sV]),(6,.box [wV]),(7,.box [.int .i64 m]),(11,.mp []),(9,.box [.mp 11]),(10,.box [ffC])]
def ffK (k:Nat):Bool:=decide (k<1000) && !(k == 4||k == 5||k == 6||k == 7||k == 9||k == 10||k == 11)
theorem ZhK (r:List Iss) (l:List Nte) (ns nw:Bool) (s w:List Int) (m:Int):PB Tryz.prog G 65 [] [fileA r l,liA ns s,liA nw w,.int .i64 m] ffC (ffO (fileA r l) (liA ns s) (liA nw w) m):=by
 have hF:fileA r l = .vptr [.vsl (r.map isa),.vsl (l.map na),.vsl ((nums r).map ia),opA l] 0:=rfl;have hc:∀ (b:Bool) (s:List Int),liA b s = .nils∨liA b s = .vsl (s.map ia):=λb s=>by unfold liA;split;exact .inl rfl;exact .inr rfl
 refine Z5d ffK (by intro k hk;simp[ffK]at hk;omega) Tryz.func65 rfl (by kernel_rfl) (rc:=ZfW) (by kernel_rfl) (rs:=ZfX) (by kernel_rfl) (Nat.le_of_ble_eq_true rfl) λR _ hG hrd=>Qga ?_
 rw[hF];rcases hc ns s with h1|h1 <;> rcases hc nw w with h2|h2 <;> rw[h1,h2]
 . simp -implicitDefEqProofs[ZfW,ZfX];simp -implicitDefEqProofs[FinO,Yj,ffK,ZhA,frzO,frzA,frz,Yk,AV.keys,tupV,Z29,ffC,ffO]
 . simp -implicitDefEqProofs[ZfW,ZfX];simp -implicitDefEqProofs[FinO,Yj,ffK,ZhA,frzO,frzA,frz,Yk,AV.keys,tupV,Z29,ffC,ffO]
 . simp -implicitDefEqProofs[ZfW,ZfX];simp -implicitDefEqProofs[FinO,Yj,ffK,ZhA,frzO,frzA,frz,Yk,AV.keys,tupV,Z29,ffC,ffO]
 . simp -implicitDefEqProofs[ZfW,ZfX];simp -implicitDefEqProofs[FinO,Yj,ffK,ZhA,frzO,frzA,frz,Yk,AV.keys,tupV,Z29,ffC,ffO]
def frK (s w:List Int) (m:Int) (l:List Nte) (i:Nat):List (Int×Bool):=(List.range i).foldl (λK j=>ifK s w m l l.length j K) []
theorem ZhL {s w:List Int} {m:Int} {l:List Nte} {i:Nat}:frK s w m l (i+1)=ifK s w m l l.length i (frK s w m l i):=by rw[frK,List.range_succ,List.foldl_append];rfl
theorem ZhM {s w:List Int} {m:Int} {l:List Nte}:∀ i,OkK s w m l (frK s w m l i)
 |0=>λ_ _ h=>by cases h
 |i+1=>by rw[ZhL];exact Zhp _ _ (ZhM i)
def fcQ (F sV wV:AV) (m:Int) (K:List (Int×Bool)):List (Nat×AObj) :=
 [(204,.box [F]),(205,.box [sV]),(206,.box [wV]),(207,.box [.int .i64 m]),(211,.mp (mpA AV.bool K)),(209,.box [.mp 211]),(210,.box [.func (.func 95) [] [.ptr 209 0,.ptr 204 0,.ptr 205 0,.ptr 206 0,.ptr 207 0,.ptr 210 0]])]
def fcS (r:List Iss) (l:List Nte) (s:List Int) (m:Int) (i:Nat):St :=
 if fcN s [] m l i=[] then ⟨[(30,.int .i64 i),(29,.int .i64 l.length),(3,.ptr 3 0),(10,.func (.func 95) [] [.ptr 209 0,.ptr 204 0,.ptr 205 0,.ptr 206 0,.ptr 207 0,.ptr 210 0]),(11,.nils)],(3,.box [.vsl (r.map isa),.vsl (l.map na)])::fcQ (fileA r l) (.vsl (s.map ia)) .nils m (frK s [] m l i)⟩
 else ⟨[(30,.int .i64 i),(29,.int .i64 l.length),(3,.ptr 3 0),(10,.func (.func 95) [] [.ptr 209 0,.ptr 204 0,.ptr 205 0,.ptr 206 0,.ptr 207 0,.ptr 210 0]),(11,.osl 44 (fcN s [] m l i).length)],(44,.row 1 ((fcN s [] m l i).map ia))::(3,.box [.vsl (r.map isa),.vsl (l.map na)])::fcQ (fileA r l) (.vsl (s.map ia)) .nils m (frK s [] m l i)⟩
def fcA (r:List Iss) (l:List Nte) (s:List Int) (m:Int):AV:=.tup [Yh ((fcE r l s m).1.map ia),.int .i64 (fcE r l s m).2]
set_option maxHeartbeats 1000000 in
theorem ZhN (hG:GC G) (hN:GN G) (r:List Iss) (l:List Nte) (s:List Int) (m:Int) (hw:WfN l) (hr:Wf r) (hs:Sml s):PC Tryz.prog G 22 [.agg [.vsl (r.map isa),.vsl (l.map na)],.vsl (s.map ia),.int .i64 m] (fcA r l s m):=by
 have ha:=ZhJ hG hN r l s m hw hr hs;have hl:=hw.1;unfold Sml at hl;unfold askA at ha;refine Zg3 rfl λR hG hrd=>?_
 subst hG;refine Qga ?_;unfold fcA fcE;by_cases h0:asN r l s m=0
 . have hB:ZdZ r l=true:=by
    unfold asN at h0
    split at h0
    . rename_i h1;unfold chN at h1
      split at h1
      . cases q:ZdZ r l
        . rw[q]at h1;cases h1
        . rfl
      . rename_i e;exact absurd h1 e
    . rename_i e;exact absurd h0 e
   have hl12:l.length<=12:=(by simp only[ZdZ,Bool.and_eq_true,decide_eq_true_eq]at hB;exact hB.1.1);have hf:=ZhK (G:=R.G) r l false true s [] m;have hI:=λi hi=>is_pb (G:=R.G) r l false true s [] m hl12 hs (by simp[Sml]) l.length i (frK s [] m l i) hi (by omega) (ZhM i)
   have e1:liA false s = .vsl (s.map ia):=(by simp[liA]);have e2:liA true [] = .nils:=(by simp[liA]);rw[e1,e2]at hf hI;rw[if_pos h0,h0]at ha;rw[if_pos h0];have hp:=ZhF r l;have kF:(fileA r l).keys=[]:=AV.pure_keys _ hp;have rF:=λρ=>AV.ren_pure (ρ:=ρ) (fileA r l) hp
   simp -implicitDefEqProofs[Zg1,Zg2];refine Qco (ha) (by simp) ?_;simp -implicitDefEqProofs[h0];refine Ye.sem (Z1B.objs hf (λk=>k+200) (by simp[ffO]) (by simp[ffO,St.get,lk]) (by simp[hp,AV.pure]) rfl rfl) ?_;simp -implicitDefEqProofs[Ym,ffO,ffC,AV.ren,AObj.ren,rF];refine Zba (fcS r l s m) (λ_=>True) l.length ?_ trivial ?_ ?_
   . have e0:fcN s [] m l 0=[]:=(by simp[fcN]);have e3:frK s [] m l 0=[]:=rfl;have e4:mpA AV.bool []=[]:=rfl;simp only[fcS,fcQ,e0,e3,e4,if_true]
     ((try simp only[kF]);refine Yn.sub (by simp[lk,Ya,AV.keys,kF]) ?_;simp only[kF,Wkl,and_true];(try simp[lk,Yd,Ya,AV.keys,kF]))
   . intro i hi _;have hI:=hI i hi;rw[<- ZhL]at hI;unfold fcO at hI;have hx:=ZdW hi;have hnx:na (nAt l i)=[.int .i64 (nAt l i).nu,.int .i64 (nAt l i).dy,.int .u8 (nAt l i).sg,.int .i64 (nAt l i).dr,.int .i64 (nAt l i).lt,.int .i64 (nAt l i).fr,.int .i64 (nAt l i).tu,.int .i64 (nAt l i).ca,.bool (nAt l i).up,.int .u8 (nAt l i).wy]:=rfl;have sc:=Ze5 (s:=s) (w:=[]) (m:=m) hi;have bb:((fcN s [] m l i).length+1)*8<=70368744177664:=(by have:=Ze6 s [] m l i;omega);have wi:IntKind.i64.wrap ((i:Int)+1)=(i:Int)+1:=Yg (by omega) (by omega);rw[<- hx]at sc;generalize hxx:nAt l i=x at *;have hlx:l[i]=x:=hx.symm;have e5:=λK=>Zhu (λk=>k-800) K
     have fin:∀ (b:Bool),b=fB s [] m l i->(b=true->fcN s [] m l (i+1)=fcN s [] m l i++[x.nu])/\(b=false->fcN s [] m l (i+1)=fcN s [] m l i):=λb hb=>by
      subst hb;exact ⟨λh=>by rw[sc,if_pos h],λh=>by rw[sc,h];rfl⟩
     refine Qga ?_;by_cases c:fcN s [] m l i=[]
     case' pos=>simp -implicitDefEqProofs[fcS,fcQ,c,hi]
     case' neg=>simp -implicitDefEqProofs[fcS,fcQ,c,hi]
     all_goals
      refine Ye.sem (Z1B.byref hI (λk=>k-800) (by simp) (by simp) (by simp[St.get,lk,AV.ren,AObj.ren,Zhu,rF,ia]) (by simp only[List.mem_cons,List.not_mem_nil,or_false,forall_eq_or_imp,forall_eq,Zht,and_true];simp[lk,Yd,Ya,AV.keys,kF]) (by simp[Ya,AV.keys,lk,rega,fcC]) rfl (by simp[AV.ren,rega,fcC]) rfl rfl) ?_;simp -implicitDefEqProofs[Ym,AV.ren,AObj.ren,Zhu,rF]
      cases hb:fB s [] m l i
      . have e:=(fin false hb.symm).2 rfl;simp -implicitDefEqProofs[wi];simp only[fcS,fcQ,e,c,if_true,if_false]
        ((try simp only[kF]);refine Yn.sub (by simp[lk,Ya,AV.keys,kF]) ?_;simp only[kF,Wkl,Zht,ZgW,and_true];(try simp[lk,Yd,Ya,AV.keys,kF]))
      . have e:=(fin true hb.symm).1 rfl;have hne:fcN s [] m l (i+1)≠[]:=(by rw[e];simp);simp -implicitDefEqProofs[hi,hlx,hnx,bb,wi];simp only[fcS,fcQ,hne,if_false];have e1:(fcN s [] m l (i+1)).map ia=(fcN s [] m l i).map ia++[[AV.int .i64 x.nu]]:=(by rw[e,List.map_append];rfl);have e2:(fcN s [] m l (i+1)).length=(fcN s [] m l i).length+1:=by rw[e];simp
        first
         |(rw[c,List.nil_append]at e;rw[e];((try simp only[ia,kF]);refine Yn.sub (by simp[lk,Ya,AV.keys,ia,kF]) ?_;simp only[ia,kF,Wkl,Zht,and_true];(try simp[lk,Yd,Ya,AV.keys,ia,kF]));done)
         |(rw[<- e1,e2];((try simp only[kF]);refine Yn.sub (by simp[lk,Ya,AV.keys,kF]) ?_;simp only[kF,Wkl,ZgW,Zht,and_true];(try simp[lk,Yd,Ya,AV.keys,kF]));done)
   . intro _;refine Qga ?_;by_cases c:fcN s [] m l l.length=[]
     . simp -implicitDefEqProofs[fcS,fcQ,c];refine Qgr ?_;simp -implicitDefEqProofs[Yh]
     . simp -implicitDefEqProofs[fcS,fcQ,c];refine Qgr ?_;simp -implicitDefEqProofs[Yh,c,ia]
 . rw[if_neg h0]at ha;rw[if_neg h0];simp -implicitDefEqProofs[Zg1,Zg2];refine Qco (ha) (by simp) ?_;simp -implicitDefEqProofs[h0,Yh]
end
def nuI (l:List Nte):List Int:=(opI l l.length).map λj=>(nAt l j).nu
theorem ZhO (l:List Nte):(nuI l).length=(opI l l.length).length:=List.length_map _
section
variable {G:Nat->Option (List AV)}
end
theorem ZhP {r:List Iss} {l:List Nte} (h:chN r l=0):ZdZ r l=true:=by
 unfold chN at h
 split at h
 . cases q:ZdZ r l
   . rw[q]at h;cases h
   . rfl
 . rename_i e;exact absurd h e
theorem ZhQ {r:List Iss} {l:List Nte} (h:ZdZ r l=true):l.length<=12:=by simp only[ZdZ,Bool.and_eq_true,decide_eq_true_eq]at h;exact h.1.1
section
variable {G:Nat->Option (List AV)}
end
section
variable {G:Nat->Option (List AV)}
theorem ZhR (n lo hi:Int):PC Tryz.prog G 138 [.int .i64 n,.int .i64 lo,.int .i64 hi] (.bool (inR n lo hi)):=by
 (refine Z8p rfl λR hG hrd=>Qga ?_;subst hG)
 by_cases h1:lo<=n <;> by_cases h2:n<=hi <;> simp -implicitDefEqProofs[Z8n,Z8o,inR,h1,h2]
theorem ZhS (r:List Iss) (d l:Int) (hr:Sml r):PC Tryz.prog G 139 [.agg [.vsl (r.map isa)],.agg [.int .i64 d,.int .i64 l]] (.bool (knB r d l)):=by
 have hf:=Zbr (G:=G) r d l hr;rw[rega]at hf;unfold knB
 (refine Z8s rfl λR hG hrd=>Qga ?_;subst hG)
 cases q:findN d l r with
 | some y =>
   rw[q]at hf;simp -implicitDefEqProofs[Z8q,Z8r];refine Qco (hf) (by simp) ?_;simp -implicitDefEqProofs[fndA,isa]
 | none =>
   rw[q]at hf;simp -implicitDefEqProofs[Z8q,Z8r];refine Qco (hf) (by simp) ?_;simp -implicitDefEqProofs[fndA,noIs]
theorem ZhT {x y:Stq} (h:x≠y):(!decide (x.fd=y.fd)||(!decide (x.fl=y.fl)||(!decide (x.td=y.td)||(!decide (x.tl=y.tl)||(!decide (x.nu=y.nu) || !(x.nt == y.nt))))))=true:=by
 cases q:(!decide (x.fd=y.fd)||(!decide (x.fl=y.fl)||(!decide (x.td=y.td)||(!decide (x.tl=y.tl)||(!decide (x.nu=y.nu) || !(x.nt == y.nt))))))
 . refine absurd ?_ h;simp at q
   cases x;cases y;simp_all
 . rfl
theorem ZhU (q p:List Stq) (hq:Sml q):PC Tryz.prog G 25 [.vsl (q.map sa),.vsl (p.map sa)] (.bool (decide (q=p))):=by
 unfold Sml at hq
 (refine Z8E rfl λR hG hrd=>Qga ?_;subst hG)
 by_cases h2:q.length=p.length
 . have h2':(q.length:Int)=p.length:=(by omega);simp -implicitDefEqProofs[Z8C,Z8D,h2'];refine Zba (λi=>⟨[(5,.int .i64 i),(0,.vsl (q.map sa)),(1,.vsl (p.map sa))],[]⟩) (λi=>∀ j (h:j<q.length),j<i->q[j]=p[j]) q.length (by (first|exact Yn.tm (by simp[lk])|exact Yn.sub (by simp[lk,Ya,AV.keys]) (by simp[lk,Yd,Ya,AV.keys]))) (by simp) ?_ ?_
   . intro i hi he;have hi2:i<p.length:=(by omega);have w1:IntKind.i64.wrap ((i:Int)+1)=(i:Int)+1:=Yg (by omega) (by omega);refine Qga ?_;by_cases h2:q[i]=p[i]
     . simp -implicitDefEqProofs[hi,hi2,sa,w1,h2];refine ⟨rfl,by (first|exact Yn.tm (by simp[lk])|exact Yn.sub (by simp[lk,Ya,AV.keys]) (by simp[lk,Yd,Ya,AV.keys])),λj h1 h3=>?_⟩;by_cases e:j=i
       . subst e;exact h2
       . exact he j h1 (by omega)
     . have h3:¬q=p:=λe=>h2 (by subst e;rfl)
       have ne:=ZhT h2;simp -implicitDefEqProofs[hi,hi2,sa,w1,ne];refine ⟨rfl,?_⟩;refine Qgr ?_;simp -implicitDefEqProofs[h3]
   . intro he;have h3:q=p:=List.ext_getElem h2 λj h1 h2=>he j h1 h1
     refine Qga ?_;simp -implicitDefEqProofs[];refine Qgr ?_;simp -implicitDefEqProofs[h3]
 . have h2':¬(q.length:Int)=p.length:=(by omega);have h3:¬q=p:=λe=>h2 (by rw[e])
   simp -implicitDefEqProofs[Z8C,Z8D,h2',h3]
end
section
variable {G:Nat->Option (List AV)}
set_option maxHeartbeats 2000000 in
theorem ZhV (r:List Iss) (l:List Nte) (q:List Rul) (i:Nat) (hi:i<q.length) (hq:Sml q) (hr:Sml r):PC Tryz.prog G 108 [swa r l q,.int .i64 i] (.bool (ruleB r q i)):=by
 unfold Sml at hq;have hx:=Zek hi;obtain ⟨x,hxx⟩ : ∃ x,x=q[i]:=⟨_,rfl⟩;rw[<- hxx]at hx;have hlx:q[i]=x:=hxx.symm;have hra:ra x=[.int .i64 x.nu,.int .i64 x.dy,.int .i64 x.fd,.int .i64 x.fl,.int .i64 x.td,.int .i64 x.tl,.bool x.bo,.int .i64 x.br]:=rfl;have hk1:=ZhS (G:=G) r x.fd x.fl hr;have hk2:=ZhS (G:=G) r x.td x.tl hr;refine Z8v rfl λR hG hrd=>?_
 subst hG;unfold Z8t swa;refine ZeL (S:=⟨[(1,.int .i64 i),(2,.ptr 2 0)],[(2,.box [.vsl (r.map isa),.vsl (l.map na),.vsl (q.map ra)])]⟩) (Qga ?_) ?_
 . simp -implicitDefEqProofs[]
   (refine Yn.sub (by simp[lk,Ya,AV.keys]) ?_;simp only[Wkl,and_true];(try simp[lk,Yd,Ya,AV.keys]))
 refine ZeL (S:=⟨[(1,.int .i64 i),(2,.ptr 2 0),(5,.ptr 5 0)],[(2,.box [.vsl (r.map isa),.vsl (l.map na),.vsl (q.map ra)]),(5,.box (ra x))]⟩) (Qga ?_) ?_
 . simp -implicitDefEqProofs[hi,hlx,hra]
   ((try simp only[hra]);refine Yn.sub (by simp[lk,Ya,AV.keys,hra]) ?_;simp only[hra,Wkl,and_true];(try simp[lk,Yd,Ya,AV.keys,hra]))
 refine ZeM (S:=⟨[(1,.int .i64 i),(2,.ptr 2 0),(5,.ptr 5 0)],[(2,.box [.vsl (r.map isa),.vsl (l.map na),.vsl (q.map ra)]),(5,.box (ra x))]⟩) (Q:=cR1 x=true) (Qga ?_) ?_
 . simp -implicitDefEqProofs[hra];refine Qco (ZhR x.nu 1 9999) (by simp) ?_
   cases h1:inR x.nu 1 9999
   . have e:ruleB r q i=false:=(by simp[ruleB,hx,cR1,h1]);simp -implicitDefEqProofs[e,Z8u]
   simp -implicitDefEqProofs[];refine Qco (ZhR x.dy 0 14610) (by simp) ?_
   cases h2:inR x.dy 0 14610
   . have e:ruleB r q i=false:=(by simp[ruleB,hx,cR1,h2]);simp -implicitDefEqProofs[e,Z8u]
   simp -implicitDefEqProofs[];refine ⟨?_,by rw[cR1,h1,h2];rfl⟩
   ((try simp only[hra]);refine Yn.sub (by simp[lk,Ya,AV.keys,hra]) ?_;simp only[hra,Wkl,and_true];(try simp[lk,Yd,Ya,AV.keys,hra]))
 intro k1;refine ZeL (S:=⟨[(1,.int .i64 i),(2,.ptr 2 0),(5,.ptr 5 0),(6,.ptr 6 0)],[(2,.box [.vsl (r.map isa),.vsl (l.map na),.vsl (q.map ra)]),(5,.box (ra x)),(6,.box [.int .i64 0,.int .i64 0])]⟩) (Qga ?_) ?_
 . simp -implicitDefEqProofs[]
   ((try simp only[hra]);refine Yn.sub (by simp[lk,Ya,AV.keys,hra]) ?_;simp only[hra,Wkl,and_true];(try simp[lk,Yd,Ya,AV.keys,hra]))
 refine ZeM (S:=⟨[(1,.int .i64 i),(2,.ptr 2 0),(5,.ptr 5 0)],[(2,.box [.vsl (r.map isa),.vsl (l.map na),.vsl (q.map ra)]),(5,.box (ra x))]⟩) (Q:=cR2 r x=true) (Qga ?_) ?_
 . by_cases hz:x.fd=0/\x.fl=0/\x.td=0/\x.tl=0
   . obtain ⟨z1,z2,z3,z4⟩:=hz;have e2:cR2 r x=(!x.bo && !decide (x.br=0)):=by rw[cR2,if_pos ⟨z1,z2,z3,z4⟩]
     cases hb:x.bo
     . by_cases hc:x.br=0
       . have e:ruleB r q i=false:=(by simp[ruleB,hx,e2,hc]);simp -implicitDefEqProofs[hra,z1,z2,z3,z4,hb,hc,e,Z8u]
       . simp -implicitDefEqProofs[hra,z1,z2,z3,z4,hb,hc];refine ⟨?_,by simp[e2,hb,hc]⟩
         ((try simp only[hra,z1,z2,z3,z4,hb]);refine Yn.sub (by simp[lk,Ya,AV.keys,hra,z1,z2,z3,z4,hb]) ?_;simp only[hra,z1,z2,z3,z4,hb,Wkl,and_true];(try simp[lk,Yd,Ya,AV.keys,hra,z1,z2,z3,z4,hb]))
     . have e:ruleB r q i=false:=(by simp[ruleB,hx,e2,hb]);simp -implicitDefEqProofs[hra,z1,z2,z3,z4,hb,e,Z8u]
   . have e2 : cR2 r x=(!decide (x.fd=x.td/\x.fl=x.tl)&&knB r x.fd x.fl&&knB r x.td x.tl):=(by rw[cR2,if_neg hz]);have e2f:cR2 r x=false->ruleB r q i=false:=λh=>by simp[ruleB,hx,h]
     have nb:∀ (p1 p2:Prop) [Decidable p1] [Decidable p2],¬(p1/\p2)->(decide p1&&decide p2)=false/\(!decide p1 || !decide p2)=true:=λp1 p2 _ _ h=>by
      by_cases a:p1
      . have b:¬p2:=λb=>h ⟨a,b⟩
        simp[a,b]
      . simp[a]
     by_cases f1:x.fd=0/\x.fl=0
     . have f0:¬(x.td=0/\x.tl=0):=λh=>hz ⟨f1.1,f1.2,h.1,h.2⟩
       have f2:=nb _ _ f0;have f3:=nb (0=x.td) (0=x.tl) λh=>f0 ⟨h.1.symm,h.2.symm⟩
       have f5:decide (x.fd=x.td/\x.fl=x.tl)=false:=decide_eq_false λh=>f0 ⟨h.1.symm.trans f1.1,h.2.symm.trans f1.2⟩
       rw[f5,Bool.not_false,Bool.true_and]at e2;rw[f1.1,f1.2]at hk1 e2;simp -implicitDefEqProofs[hra,f1.1,f1.2,f2.1,f2.2,f3.1,f3.2];refine Qco (hk1) (by simp) ?_
       cases h1:knB r 0 0
       . have e:=e2f (by rw[e2,h1];rfl);simp -implicitDefEqProofs[e,Z8u]
       . simp -implicitDefEqProofs[hra,f1.1,f1.2];refine Qco (hk2) (by simp) ?_
         cases h2:knB r x.td x.tl
         . have e:=e2f (by rw[e2,h2,Bool.and_false]);simp -implicitDefEqProofs[e,Z8u]
         . simp -implicitDefEqProofs[];refine ⟨?_,by rw[e2,h1,h2];rfl⟩
           ((try simp only[hra,f1.1,f1.2]);refine Yn.sub (by simp[lk,Ya,AV.keys,hra,f1.1,f1.2]) ?_;simp only[hra,f1.1,f1.2,Wkl,and_true];(try simp[lk,Yd,Ya,AV.keys,hra,f1.1,f1.2]))
     . have f2:=nb _ _ f1;by_cases f4:x.fd=x.td/\x.fl=x.tl
       . have e:=e2f (by rw[e2,decide_eq_true f4];rfl);simp -implicitDefEqProofs[hra,f2.1,f2.2];rw[<- f4.1,<- f4.2];simp -implicitDefEqProofs[e,Z8u]
       . have f5:=nb _ _ f4;rw[decide_eq_false f4,Bool.not_false,Bool.true_and]at e2;simp -implicitDefEqProofs[hra,f2.1,f2.2,f5.1,f5.2];refine Qco (hk1) (by simp) ?_
         cases h1:knB r x.fd x.fl
         . have e:=e2f (by rw[e2,h1];rfl);simp -implicitDefEqProofs[e,Z8u]
         . simp -implicitDefEqProofs[hra];refine Qco (hk2) (by simp) ?_
           cases h2:knB r x.td x.tl
           . have e:=e2f (by rw[e2,h2,Bool.and_false]);simp -implicitDefEqProofs[e,Z8u]
           . simp -implicitDefEqProofs[];refine ⟨?_,by rw[e2,h1,h2];rfl⟩
             ((try simp only[hra]);refine Yn.sub (by simp[lk,Ya,AV.keys,hra]) ?_;simp only[hra,Wkl,and_true];(try simp[lk,Yd,Ya,AV.keys,hra]))
 intro k2;have en:ruleB r q i=(cR3 q i x&&cR4 q i x&&cR5 q i x):=(by rw[ruleB,hx,k1,k2];rfl);rw[en];refine Qga ?_;simp -implicitDefEqProofs[hra]
 refine Zba (λk=>⟨[(8,.int .i64 k),(7,.bool (decide (x.br=0)||(q.take k).any λy=>decide (y.nu=x.br))),(1,.int .i64 i),(2,.ptr 2 0),(5,.ptr 5 0)],[(2,.box [.vsl (r.map isa),.vsl (l.map na),.vsl (q.map ra)]),(5,.box (ra x))]⟩)
  (λk=>((q.take k).any λy=>decide (y.nu=x.nu))=false) i ?_ (by simp) ?_ ?_
 . ((try simp only[hra,List.take_zero,List.any_nil,Bool.or_false]);refine Yn.sub (by simp[lk,Ya,AV.keys,hra,List.take_zero,List.any_nil,Bool.or_false]) ?_;simp only[hra,List.take_zero,List.any_nil,Bool.or_false,Wkl,and_true];(try simp[lk,Yd,Ya,AV.keys,hra,List.take_zero,List.any_nil,Bool.or_false]))
 . intro k hk hI;refine Qga ?_;have hkl:k<q.length:=(by omega);have wk:IntKind.i64.wrap ((k:Int)+1)=(k:Int)+1:=Yg (by omega) (by omega);have a1:=ZeI hkl λy=>decide (y.nu=x.nu)
   have a2:=ZeI hkl λy=>decide (y.nu=x.br)
   have hnk:ra q[k]=[.int .i64 q[k].nu,.int .i64 q[k].dy,.int .i64 q[k].fd,.int .i64 q[k].fl,.int .i64 q[k].td,.int .i64 q[k].tl,.bool q[k].bo,.int .i64 q[k].br]:=rfl;by_cases e:q[k].nu=x.nu
   . have h7:cR3 q i x=false:=by
      have:((q.take i).any λy=>decide (y.nu=x.nu))=true:=List.any_eq_true.2 ⟨q[k],by rw[List.mem_take_iff_getElem];exact ⟨k,by omega,rfl⟩,by simp[e]⟩;rw[cR3,this];rfl
     simp -implicitDefEqProofs[hk,hkl,hra,hnk,e];refine ⟨rfl,?_⟩;refine Qgr ?_;simp -implicitDefEqProofs[h7,Z8u]
   . have hI2:((q.take (k+1)).any λy=>decide (y.nu=x.nu))=false:=by rw[a1,hI];simp[e]
     cases hB:(decide (x.br=0)||(q.take k).any λy=>decide (y.nu=x.br))
     . have hB2:(decide (x.br=0)||(q.take (k+1)).any λy=>decide (y.nu=x.br))=decide (q[k].nu=x.br):=(by rw[a2,<- Bool.or_assoc,hB];simp);simp -implicitDefEqProofs[hk,hkl,hra,hnk,e,hB,wk];refine ⟨rfl,rfl,?_,by simpa using hI2⟩
       ((try simp only[hra,hB2]);refine Yn.sub (by simp[lk,Ya,AV.keys,hra,hB2]) ?_;simp only[hra,hB2,Wkl,and_true];(try simp[lk,Yd,Ya,AV.keys,hra,hB2]))
     . have hB2:(decide (x.br=0)||(q.take (k+1)).any λy=>decide (y.nu=x.br))=true:=(by rw[a2,<- Bool.or_assoc,hB];rfl);simp -implicitDefEqProofs[hk,hkl,hra,hnk,e,hB,wk];refine ⟨rfl,rfl,?_,by simpa using hI2⟩
       ((try simp only[hra,hB2]);refine Yn.sub (by simp[lk,Ya,AV.keys,hra,hB2]) ?_;simp only[hra,hB2,Wkl,and_true];(try simp[lk,Yd,Ya,AV.keys,hra,hB2]))
 . intro hI;refine Qga ?_;have h7:cR3 q i x=true:=(by rw[cR3,hI];rfl);have h6:(decide (x.br=0)||(q.take i).any λy=>decide (y.nu=x.br))=cR4 q i x:=rfl;rw[h6]
   cases i with
   | zero =>
     simp -implicitDefEqProofs[hra];refine Qgr ?_;simp -implicitDefEqProofs[h7,cR5,Z8u]
   | succ k =>
     have hkl:k<q.length:=(by omega);have w1:IntKind.i64.wrap ((k:Int)+1-1)=(k:Int):=(by rw[Yg (by omega) (by omega)];omega);have w2:IntKind.i64.wrap (k:Int)=(k:Int):=Yg (by omega) (by omega);have i0:¬(k:Int)+1=0:=(by omega);have ek:=Zek hkl;have hnk:ra q[k]=[.int .i64 q[k].nu,.int .i64 q[k].dy,.int .i64 q[k].fd,.int .i64 q[k].fl,.int .i64 q[k].td,.int .i64 q[k].tl,.bool q[k].bo,.int .i64 q[k].br]:=rfl;have e8:cR5 q (k+1) x=(decide (q[k].dy<x.dy)||(decide (q[k].dy=x.dy)&&decide (q[k].nu<x.nu))):=(by rw[cR5,ek]);rw[e8]
     cases h6:cR4 q (k+1) x
     . simp -implicitDefEqProofs[hra];refine Qgr ?_;simp -implicitDefEqProofs[h7,i0,w1,w2,hkl,hnk,hra,h6,Z8u]
     by_cases q1:q[k].dy<x.dy
     . simp -implicitDefEqProofs[hra];refine Qgr ?_;simp -implicitDefEqProofs[h7,i0,w1,w2,hkl,hnk,hra,q1,h6,Z8u]
     by_cases q2:q[k].dy=x.dy
     . have q1':¬x.dy<x.dy:=(by omega);simp -implicitDefEqProofs[hra];refine Qgr ?_;simp -implicitDefEqProofs[h7,i0,w1,w2,hkl,hnk,hra,q2,h6,Z8u]
     . simp -implicitDefEqProofs[hra];refine Qgr ?_;simp -implicitDefEqProofs[h7,i0,w1,w2,hkl,hnk,hra,q1,q2,h6,Z8u]
end
section
variable {G:Nat->Option (List AV)}
theorem ZhW (r:List Iss) (l:List Nte) (q:List Rul) (hq:Sml q) (hr:Sml r):PC Tryz.prog G 83 [swa r l q] (.bool (Zel r q)):=by
 (refine Z8y rfl λR hG hrd=>Qga ?_;subst hG)
 by_cases h0:16<q.length
 . have h0':(16:Int)<q.length:=by omega
   have e:Zel r q=false:=by
    have:¬q.length<=16:=(by omega);simp[Zel,this]
   simp -implicitDefEqProofs[Z8w,Z8x,swa,h0',e]
 . have h0':¬(16:Int)<q.length:=(by omega);have h16:q.length<=16:=(by omega);simp -implicitDefEqProofs[Z8w,Z8x,swa,h0'];refine Zba (λi=>⟨[(3,.int .i64 i),(1,.ptr 1 0)],[(1,.box [.vsl (r.map isa),.vsl (l.map na),.vsl (q.map ra)])]⟩) (λi=>∀ j,j<i->ruleB r q j=true) q.length (by (first|exact Yn.tm (by simp[lk])|exact Yn.sub (by simp[lk,Ya,AV.keys]) (by simp[lk,Yd,Ya,AV.keys]))) (λj hj=>by omega) ?_ ?_
   . intro i hi he;have w1:IntKind.i64.wrap ((i:Int)+1)=(i:Int)+1:=Yg (by omega) (by omega);have hc:=ZhV (G:=R.G) r l q i hi hq hr;unfold swa at hc;refine Qga ?_;simp -implicitDefEqProofs[hi];refine Qco (hc) (by simp) ?_
     cases h:ruleB r q i
     . have e:Zel r q=false:=by
        cases h2:Zel r q
        . rfl
        . simp only[Zel,Bool.and_eq_true]at h2;have:=Zbs.1 h2.2 i hi;rw[h]at this;cases this
       simp -implicitDefEqProofs[];refine Qgr ?_;simp -implicitDefEqProofs[e]
     . simp -implicitDefEqProofs[w1];refine ⟨by (first|exact Yn.tm (by simp[lk])|exact Yn.sub (by simp[lk,Ya,AV.keys]) (by simp[lk,Yd,Ya,AV.keys])),λj hj=>?_⟩;rcases Nat.lt_or_ge j i with h4|h4
       . exact he j h4
       . obtain rfl:j=i:=(by omega);exact h
   . intro he
     have e:Zel r q=true:=by
      simp only[Zel,Bool.and_eq_true,decide_eq_true_eq];exact ⟨h16,Zbs.2 he⟩
     refine Qga ?_;simp -implicitDefEqProofs[];refine Qgr ?_;simp -implicitDefEqProofs[e]
theorem ZhX (r:List Iss) (l:List Nte) (q:List Rul) (hw:WfN l) (hr:Wf r) (hq:Sml q):PC Tryz.prog G 50 [swa r l q] (.int .i64 (chS r l q)):=by
 have hc:=ZeX (G:=G) r l hw hr;have hS:=ZhW (G:=G) r l q hq hr.1.1;unfold swa at hS
 (refine Z8B rfl λR hG hrd=>Qga ?_;subst hG)
 unfold chS;by_cases h0:chN r l=0
 . rw[h0]at hc;simp -implicitDefEqProofs[Z8z,Z8A,swa];refine Qco (hc) (by simp) ?_;simp -implicitDefEqProofs[];refine Qco (hS) (by simp) ?_
   cases h1:Zel r q
   . simp -implicitDefEqProofs[h0]
   . simp -implicitDefEqProofs[h0]
 . simp -implicitDefEqProofs[Z8z,Z8A,swa];refine Qco (hc) (by simp) ?_;simp -implicitDefEqProofs[h0]
theorem ZhY {r:List Iss} {l:List Nte} {q:List Rul} (h:chS r l q=0):chN r l=0/\Zel r q=true:=by
 unfold chS at h
 split at h
 . rename_i h1
   cases q2:Zel r q
   . rw[q2]at h;cases h
   . exact ⟨h1,rfl⟩
 . rename_i e;exact absurd h e
theorem ZhZ {r:List Iss} {q:List Rul} (h:Zel r q=true):q.length<=16:=by simp only[Zel,Bool.and_eq_true,decide_eq_true_eq]at h;exact h.1
def ruA (r:List Iss) (l:List Nte) (q:List Rul) (day:Int):AV:=.tup [Yh ((ruE r l q day).1.map ia),.int .i64 (ruE r l q day).2]
end
theorem Zi0 (day:Int) (l:List Nte):(dyN day l).length<=l.length:=List.length_filter_le _ _
theorem Zi1 (o:List (Nat×AObj)) (l:List Nte):Yd o (.row 10 (l.map na))=true:=by
 simp only[Yd,List.all_eq_true,List.mem_map];rintro x ⟨y,-,rfl⟩ v hv;simp only[na,List.mem_cons,List.not_mem_nil,or_false]at hv;rcases hv with rfl|rfl|rfl|rfl|rfl|rfl|rfl|rfl|rfl|rfl <;> simp[Ya,AV.keys]
section
variable {G:Nat->Option (List AV)}
end
def Nsub (x y:AV):Prop:=∀ (M:Nat->Prop) (W:World) (u:Value),PV M W x u->PV M W y u
theorem Nsub.rfl' {x:AV}:Nsub x x:=λ_ _ _ h=>h
theorem Nsub.nils:Nsub .nils (.vsl []):=λ_ _ _ h=>by
 cases h
 exact .vsl [] none 0 1 0 0 (λ_ _=>undef) (Nat.le_refl _) (Nat.zero_le _) (λh=>absurd rfl h) (λ_=>⟨rfl,rfl⟩) (by simp) (by simp) (by simp)
theorem Nsub.orNil (l:List (List AV)):Nsub (Yh l) (.vsl l):=by
 unfold Go.Proofs.YtjogcghofinemaaGreatDoor.Yh
 split
 . rename_i e;rw[e];exact .nils
 . exact .rfl'
def NsubL:List AV->List AV->Prop
 |[],[]=>True
 |x::xs,y::ys=>Nsub x y/\NsubL xs ys
 |_,_=>False
theorem NsubL.len:∀ {xs ys:List AV},NsubL xs ys->xs.length=ys.length
 |[],[],_=>rfl
 |_::_,_::_,h=>by simp only[List.length_cons,NsubL.len h.2]
 |[],_::_,h=>h.elim
 |_::_,[],h=>h.elim
theorem NsubL.at:∀ {xs ys:List AV},NsubL xs ys->∀ (i:Nat) (y:AV),ys[i]? = some y->∃ x,xs[i]? = some x/\Nsub x y
 |[],[],_,i,y,h=>by simp at h
 | x::xs,y::ys,h,0,z,e=>by
   simp only[List.getElem?_cons_zero,Option.some.injEq]at e;subst e;exact ⟨x,rfl,h.1⟩
 | x::xs,y::ys,h,i+1,z,e=>by
   simp only[List.getElem?_cons_succ]at e;obtain ⟨w,h1,h2⟩:=NsubL.at h.2 i z e;exact ⟨w,by simpa using h1,h2⟩
 |[],_::_,h,_,_,_=>h.elim
 |_::_,[],h,_,_,_=>h.elim
theorem Nsub.agg {xs ys:List AV} (h:NsubL xs ys):Nsub (.agg xs) (.agg ys):=λM W u hu=>by
 cases hu with
 | agg _ us h1 hx =>
   refine .agg ys us (by rw[h1,h.len]) λi y u hy hu=>?_
   obtain ⟨x,h2,h3⟩:=h.at i y hy;exact h3 _ _ _ (hx i x u h2 hu)
theorem PC.sub {P:Program} {G:Nat->Option (List AV)} {f:FuncId} {xs ys:List AV} {v:AV} (h:PC P G f ys v) (hs:NsubL xs ys):PC P G f xs v :=
 ⟨h.1,λM W vs hM hG hz hv=>h.2 M W vs hM hG (hz.trans hs.len) λi y u hi hu=>by
  obtain ⟨x,h2,h3⟩:=hs.at i y hi;exact h3 _ _ _ (hv i x u h2 hu)⟩
def aqN (r:List Iss) (l:List Nte) (q:List Rul) (s:List Int) (m d e:Int):Int:=if chS r l q=0 then if truB l s=true then if (inR m 1 999&&inR d 0 14610&&inR e 0 14610)=true then 0 else 2 else 31 else chS r l q
def ntR (F:List Int) (x:Nte):List Stq:=if x.nu∈F/\¬x.dr=0/\¬x.lt<2 then
    (if x.wy % 2=1 then [⟨x.dr,IntKind.i64.wrap (x.lt-1),x.dr,x.lt,x.nu,true⟩] else [])++(if 2<=x.wy % 4 then [⟨x.dr,x.lt,x.dr,IntKind.i64.wrap (x.lt-1),x.nu,true⟩] else [])
 else []
def rlR (b:Bool) (x:Rul):List Stq:=if b=true/\¬(x.fd=0/\x.fl=0) then
    [⟨x.fd,x.fl,x.td,x.tl,x.nu,false⟩]++(if x.bo=true then [⟨x.td,x.tl,x.fd,x.fl,x.nu,false⟩] else [])
 else []
def stF (r:List Iss) (l:List Nte) (s:List Int) (m day:Int):List Int:=(fcE r (dyN day l) (dyT (dyN day l) s) m).1
def nsR (F:List Int) (D:List Nte) (i:Nat):List Stq:=(D.take i).flatMap (ntR F)
def rsR (day:Int) (q:List Rul) (i:Nat):List Stq:=((List.range q.length).take i).flatMap λj=>rlR (sB day q j) (rAt q j)
def st5 (r:List Iss) (l:List Nte) (q:List Rul) (s:List Int) (m day:Int):List Stq:=nsR (stF r l s m day) (dyN day l) (dyN day l).length++rsR day q q.length
theorem Zi2 {F:List Int} {D:List Nte} {i:Nat} (h:i<D.length):nsR F D (i+1)=nsR F D i++ntR F D[i]:=by
 unfold nsR;rw[List.take_succ_eq_append_getElem h,List.flatMap_append];simp
theorem Zi3 {day:Int} {q:List Rul} {i:Nat} (h:i<q.length):rsR day q (i+1)=rsR day q i++rlR (sB day q i) q[i]:=by
 have h1:i<(List.range q.length).length:=(by simpa using h);unfold rsR;rw[List.take_succ_eq_append_getElem h1,List.flatMap_append,List.getElem_range];simp[Zek h]
theorem Zi4 (F:List Int) (x:Nte):(ntR F x).length<=2:=by unfold ntR;split <;> (try split) <;> (try split) <;> simp
theorem Zi5 (b:Bool) (x:Rul):(rlR b x).length<=2:=by unfold rlR;split <;> (try split) <;> simp
theorem Zi6 (F:List Int) (D:List Nte):∀ i,i<=D.length->(nsR F D i).length<=2*i
 |0,_=>by simp[nsR]
 |i+1,h=>by rw[Zi2 h,List.length_append];have:=Zi6 F D i (by omega);have:=Zi4 F D[i];omega
theorem Zi7 (day:Int) (q:List Rul):∀ i,i<=q.length->(rsR day q i).length<=2*i
 |0,_=>by simp[rsR]
 |i+1,h=>by rw[Zi3 h,List.length_append];have:=Zi7 day q i (by omega);have:=Zi5 (sB day q i) q[i];omega
theorem Zi8 (o:List (Nat×AObj)) (l:List Stq):Yd o (.row 6 (l.map sa))=true:=by
 simp only[Yd,List.all_eq_true,List.mem_map];rintro x ⟨y,-,rfl⟩ v hv;simp only[sa,List.mem_cons,List.not_mem_nil,or_false]at hv;rcases hv with rfl|rfl|rfl|rfl|rfl|rfl <;> simp[Ya,AV.keys]
def sqT (κ:Nat) (L:List Stq):AV:=if κ=0 then .nils else .osl κ L.length
def sqO (κ:Nat) (L:List Stq):List (Nat×AObj):=if κ=0 then [] else [(κ,.row 6 (L.map sa))]
section
variable {G:Nat->Option (List AV)}
theorem sixB (n:Nat) (h:n<=200):(n+1)*48<=70368744177664:=by omega
theorem sixC (n:Nat) (h:n<=200):(n+1+1)*48<=70368744177664:=by omega
def KeyOk (ks:List Nat) (κ:Nat) (L:List Stq):Prop:=(κ=0/\L=[])∨(κ∈ks/\L≠[])
end
theorem bit1 {w:Int} (h0:0<=w) (h1:w<=255):IntKind.u8.wrap (((w % 2 ^ IntKind.u8.bits).toNat &&& 1 % 2 ^ IntKind.u8.bits:Nat):Int)=if w % 2=1 then 1 else 0:=by
 have h:∀ n:_root_.Fin 256,IntKind.u8.wrap ((((n.val:Int) % 2 ^ IntKind.u8.bits).toNat &&& 1 % 2 ^ IntKind.u8.bits:Nat):Int)=if (n.val:Int) % 2=1 then 1 else 0:=by decide +kernel
 have:=h ⟨w.toNat,by omega⟩
 rwa [show ((w.toNat:Nat):Int)=w by omega]at this
theorem bit2 {w:Int} (h0:0<=w) (h1:w<=255):IntKind.u8.wrap (((w % 2 ^ IntKind.u8.bits).toNat &&& 2 % 2 ^ IntKind.u8.bits:Nat):Int)=if 2<=w % 4 then 2 else 0:=by
 have h:∀ n:_root_.Fin 256,IntKind.u8.wrap ((((n.val:Int) % 2 ^ IntKind.u8.bits).toNat &&& 2 % 2 ^ IntKind.u8.bits:Nat):Int)=if 2<=(n.val:Int) % 4 then 2 else 0:=by decide +kernel
 have:=h ⟨w.toNat,by omega⟩
 rwa [show ((w.toNat:Nat):Int)=w by omega]at this
section
variable {G:Nat->Option (List AV)}
def stE (r:List Iss) (l:List Nte) (q:List Rul) (s:List Int) (m day:Int):List Stq×Int:=if aqN r l q s m day day=0 then (st5 r l q s m day,0) else ([],aqN r l q s m day day)
def stA (r:List Iss) (l:List Nte) (q:List Rul) (s:List Int) (m day:Int):AV:=.tup [Yh ((stE r l q s m day).1.map sa),.int .i64 (stE r l q s m day).2]
theorem Zi9 {r:List Iss} {l:List Nte} {q:List Rul} {s:List Int} {m d e:Int} (h:aqN r l q s m d e=0):chS r l q=0/\truB l s=true/\inR m 1 999=true/\inR d 0 14610=true/\inR e 0 14610=true:=by
 unfold aqN at h
 split at h
 . rename_i h1
   split at h
   . rename_i h2
     split at h
     . rename_i h3;simp only[Bool.and_eq_true]at h3;exact ⟨h1,h2,h3.1.1,h3.1.2,h3.2⟩
     . cases h
   . cases h
 . rename_i e;exact absurd h e
end
def rfa (x:Iss):List AV:=[.int .i64 x.d,.int .i64 x.l]
def rfA (r:List Iss):AV:=if r=[] then .nils else .vsl (r.map rfa)
def Yl (r:List Iss) (l:List Nte) (q:List Rul):AV:=.vptr [.vsl (r.map isa),.vsl (l.map na),.vsl (q.map ra),rfA r] 0
section
variable {G:Nat->Option (List AV)}
theorem Zia (n lo hi:Int):PC Tryz.prog G 92 [.int .i64 n,.vptr [.int .i64 lo] 0,.vptr [.int .i64 hi] 0] (.bool (!inR n lo hi)):=by
 (refine Z7t rfl λR hG hrd=>Qga ?_;subst hG)
 by_cases h1:n<lo
 . have h2:¬lo<=n:=(by omega);simp -implicitDefEqProofs[Z7r,Z7s,h1,h2,inR]
 . have h2:lo<=n:=(by omega);by_cases h3:hi<n
   . have h4:¬n<=hi:=(by omega);simp -implicitDefEqProofs[Z7r,Z7s,h1,h2,h3,h4,inR]
   . have h4:n<=hi:=(by omega);simp -implicitDefEqProofs[Z7r,Z7s,h1,h2,h3,h4,inR]
theorem Zib (lo hi:Int) (l:List Int) (hl:Sml l):PC Tryz.prog G 62 [.int .i64 lo,.int .i64 hi,.vsl (l.map ia)] (.bool (l.all λn=>inR n lo hi)):=by
 (refine Z7q rfl λR hG hrd=>Qga ?_;subst hG)
 simp -implicitDefEqProofs[Z7o,Z7p]
 (first|refine Ye.flat (Zc2 92 [.vptr [.int .i64 lo] 0,.vptr [.int .i64 hi] 0] (λn=>!inR n lo hi) l (by simp[AV.pure]) hl (λn _=>Zia n lo hi)) (by simp[AV.flat]) (by simp) ?_|refine Yf.flat (Zc2 92 [.vptr [.int .i64 lo] 0,.vptr [.int .i64 hi] 0] (λn=>!inR n lo hi) l (by simp[AV.pure]) hl (λn _=>Zia n lo hi)) (by simp[AV.flat]) (by simp) ?_)
 have e:(!l.any λn=>!inR n lo hi)=l.all λn=>inR n lo hi:=by simp[List.all_eq_not_any_not]
 simp -implicitDefEqProofs[e]
theorem Zic (lo hi n:Int):PC Tryz.prog G 62 [.int .i64 lo,.int .i64 hi,.vsl [[.int .i64 n]]] (.bool (inR n lo hi)):=by
 have h:=Zib (G:=G) lo hi [n] (by simp[Sml]);simpa [ia] using h
theorem Zid (lo hi n m:Int):PC Tryz.prog G 62 [.int .i64 lo,.int .i64 hi,.vsl [[.int .i64 n],[.int .i64 m]]] (.bool (inR n lo hi&&inR m lo hi)):=by
 have h:=Zib (G:=G) lo hi [n,m] (by simp[Sml]);simpa [ia] using h
theorem Zie (g:Nat) (caps:List AV) (p:Rul->Bool) (l:List Rul) (hc:caps.all AV.pure=true) (hl:Sml l)
  (hg:∀ x∈l,PC Tryz.prog G g (.agg (ra x)::caps) (.bool (p x))) :
  PC Tryz.prog G 141 [.vsl (l.map ra),.func (.func g) [] caps] (.int .i64 (fstOf p l)):=by
 (refine Z7w rfl λR hG hrd=>Qga ?_;subst hG)
 unfold Sml at hl;have hc2:∀ x∈caps,x.pure=true:=List.all_eq_true.1 hc;simp -implicitDefEqProofs[Z7u,Z7v];refine Zba (λi=>⟨[(8,.int .i64 i),(7,.int .i64 l.length),(0,.vsl (l.map ra)),(1,.func (.func g) [] caps)],[]⟩) (λi=>∀ j (h:j<l.length),j<i->p l[j]=false) l.length (by (first|exact Yn.tm (by simp[lk])|exact Yn.sub (by simp[lk,Ya,AV.keys]) (by simp[lk,Yd,Ya,AV.keys]))) (by simp) ?_ ?_
 . intro i hi he;refine Qga ?_;have w1:IntKind.i64.wrap ((i:Int)+1)=((i+1:Nat):Int):=Yg (by omega) (by omega);have hgi:=hg _ (List.getElem_mem hi);have hln:(ra l[i]).length=8:=rfl;have htk:(ra l[i]).take 8=ra l[i]:=rfl;simp -implicitDefEqProofs[hi,hln,htk];refine Ye.of hgi (by simpa [AV.pure,ra] using hc2) ?_
   cases h3:p l[i]
   . simp -implicitDefEqProofs[w1];refine ⟨(by (first|exact Yn.tm (by simp[lk])|exact Yn.sub (by simp[lk,Ya,AV.keys]) (by simp[lk,Yd,Ya,AV.keys]))),λj q1 q2=>?_⟩;by_cases e:j=i
     . subst e;exact h3
     . exact he j q1 (by omega)
   . simp -implicitDefEqProofs;refine Qgr ?_;simp -implicitDefEqProofs[ZbY hi h3 he]
 . intro he;refine Qga ?_;simp -implicitDefEqProofs[];refine Qgr ?_;simp -implicitDefEqProofs[ZbZ (p:=p) (l:=l) (λj hj=>he j hj hj)]
theorem Zif (g:Nat) (caps:List AV) (p:Rul->Bool) (l:List Rul) (hc:caps.all AV.pure=true) (hl:Sml l)
  (hg:∀ x∈l,PC Tryz.prog G g (.agg (ra x)::caps) (.bool (p x))) :
  PC Tryz.prog G 110 [.vsl (l.map ra),.func (.func g) [] caps] (.int .i64 (fstOf p l)):=by
 (refine Z7z rfl λR hG hrd=>Qga ?_;subst hG)
 simp -implicitDefEqProofs[Z7x,Z7y];have hc2:∀ x∈caps,x.pure=true:=List.all_eq_true.1 hc;refine Ye.of (Zie g caps p l hc hl hg) (by simpa [AV.pure] using hc2) ?_;simp -implicitDefEqProofs[]
theorem Zig (x y:Rul):PC Tryz.prog G 111 [.agg (ra y),.vptr (ra x) 0] (.bool (decide (y.nu=x.nu))):=by
 (refine Z7F rfl λR hG hrd=>Qga ?_;subst hG)
 simp -implicitDefEqProofs[Z7D,Z7E,ra]
theorem Zih (x y:Rul):PC Tryz.prog G 112 [.agg (ra y),.vptr (ra x) 0] (.bool (decide (y.nu=x.br))):=by
 (refine Z7I rfl λR hG hrd=>Qga ?_;subst hG)
 simp -implicitDefEqProofs[Z7G,Z7H,ra]
def rfp (d l:Int) (x:Iss):Bool:=decide (x.d=d/\x.l=l)
theorem Zii {r:List Iss} {d l:Int}:(findN d l r).isSome=r.any (rfp d l):=by
 induction r with
 |nil=>rfl
 | cons x r ih =>
   simp only[findN,List.any_cons]
   split
   . rename_i h;simp[rfp,h]
   . rename_i h;have:rfp d l x=false:=decide_eq_false h;rw[ih,this,Bool.false_or]
theorem Zij (r:List Iss) (d l:Int) (hr:Sml r):PC Tryz.prog G 140 [.vsl (r.map rfa),.agg [.int .i64 d,.int .i64 l]] (.int .i64 (fstOf (rfp d l) r)):=by
 (refine Z8a rfl λR hG hrd=>Qga ?_;subst hG)
 unfold Sml at hr;simp -implicitDefEqProofs[Z88,Z89];refine Zba (λi=>⟨[(8,.int .i64 i),(7,.int .i64 r.length),(6,.vsl (r.map rfa)),(0,.vsl (r.map rfa)),(3,.ptr 3 0)],[(3,.box [.int .i64 d,.int .i64 l])]⟩) (λi=>∀ j (h:j<r.length),j<i->rfp d l r[j]=false) r.length (by (first|exact Yn.tm (by simp[lk])|exact Yn.sub (by simp[lk,Ya,AV.keys]) (by simp[lk,Yd,Ya,AV.keys]))) (by simp) ?_ ?_
 . intro i hi he;refine Qga ?_;have w1:IntKind.i64.wrap ((i:Int)+1)=(i:Int)+1:=Yg (by omega) (by omega);by_cases h:r[i].d=d/\r[i].l=l
   . have hf:=ZbY (p:=rfp d l) hi (by simpa [rfp] using h) he;simp -implicitDefEqProofs[hi,rfa,h.1,h.2];refine ⟨rfl,?_⟩;refine Qgr ?_;simp -implicitDefEqProofs[hf]
   . have h1:(decide (d=r[i].d)&&decide (l=r[i].l))=false:=by
      cases hh:(decide (d=r[i].d)&&decide (l=r[i].l))
      . rfl
      . simp at hh;exact absurd ⟨hh.1.symm,hh.2.symm⟩ h
     simp -implicitDefEqProofs[hi,rfa,h1,w1];refine ⟨rfl,by (first|exact Yn.tm (by simp[lk])|exact Yn.sub (by simp[lk,Ya,AV.keys]) (by simp[lk,Yd,Ya,AV.keys])),λj q1 q2=>?_⟩;by_cases e:j=i
     . subst e;simpa [rfp] using h
     . exact he j q1 (by omega)
 . intro he;refine Qga ?_;have hf:=ZbZ (p:=rfp d l) (l:=r) (λj hj=>he j hj hj);simp -implicitDefEqProofs[];refine Qgr ?_;simp -implicitDefEqProofs[hf]
theorem Zik (r:List Iss) (d l:Int) (hr:Sml r):PC Tryz.prog G 109 [.vsl (r.map rfa),.agg [.int .i64 d,.int .i64 l]] (.bool (knB r d l)):=by
 have hi:=Zij (G:=G) r d l hr;have e:=Zc0 (rfp d l) r;have e2:knB r d l=r.any (rfp d l):=Zii;rw[e2]
 (refine Z87 rfl λR hG hrd=>Qga ?_;subst hG)
 simp -implicitDefEqProofs[Z85,Z86];refine Qco (hi) (by simp) ?_;simp -implicitDefEqProofs[e]
theorem Zil (r:List Iss):Nsub (rfA r) (.vsl (r.map rfa)):=by
 unfold rfA
 split
 . rename_i e;rw[e];exact .nils
 . exact .rfl'
theorem Zim (r:List Iss) (l:List Nte) (q:List Rul) (d e:Int) (hr:Sml r):PC Tryz.prog G 84 [Yl r l q,.agg [.int .i64 d,.int .i64 e]] (.bool (knB r d e)):=by
 have hc:=PC.sub (Zik (G:=G) r d e hr) (xs:=[rfA r,.agg [.int .i64 d,.int .i64 e]]) ⟨Zil r,.rfl',trivial⟩;have pf:(rfA r).pure=true:=(by unfold rfA;split <;> simp[AV.pure,rfa]);have kf:(rfA r).keys=[]:=by unfold rfA;split <;> simp[AV.keys]
 (refine Z7L rfl λR hG hrd=>Qga ?_;subst hG)
 simp -implicitDefEqProofs[Z7J,Z7K,Yl];refine Yf.of hc (by simp[pf,AV.pure]) ?_;simp -implicitDefEqProofs[kf];rfl
end
section
variable {G:Nat->Option (List AV)}
set_option maxHeartbeats 2000000 in
theorem Zin (r:List Iss) (l:List Nte) (q:List Rul) (i:Nat) (hi:i<q.length) (hq:Sml q) (hr:Sml r):PC Tryz.prog G 90 [Yl r l q,.int .i64 i] (.bool (ruleB r q i)):=by
 unfold Sml at hq;have hx:=Zek hi;obtain ⟨x,hxx⟩ : ∃ x,x=q[i]:=⟨_,rfl⟩;rw[<- hxx]at hx;have hlx:q[i]=x:=hxx.symm;have hra:ra x=[.int .i64 x.nu,.int .i64 x.dy,.int .i64 x.fd,.int .i64 x.fl,.int .i64 x.td,.int .i64 x.tl,.bool x.bo,.int .i64 x.br]:=rfl;have hk1:=Zim (G:=G) r l q x.fd x.fl hr;have hk2:=Zim (G:=G) r l q x.td x.tl hr;refine Z7C rfl λR hG hrd=>?_
 subst hG;have pS:(Yl r l q).pure=true:=(by unfold Yl rfA;split <;> simp[AV.pure,isa,na,ra,rfa]);have kS:(Yl r l q).keys=[]:=(by unfold Yl;simp[AV.keys]);have eS:Yl r l q = .vptr [.vsl (r.map isa),.vsl (l.map na),.vsl (q.map ra),rfA r] 0:=rfl;unfold Z7A;refine ZeL (S:=⟨[(0,Yl r l q),(1,.int .i64 i)],[]⟩) (Qga ?_) ?_
 . simp -implicitDefEqProofs[]
   ((try simp only[kS]);refine Yn.sub (by simp[lk,Ya,AV.keys,kS]) ?_;simp only[kS,Wkl,and_true];(try simp[lk,Yd,Ya,AV.keys,kS]))
 refine ZeL (S:=⟨[(0,Yl r l q),(1,.int .i64 i),(5,.ptr 5 0)],[(5,.box (ra x))]⟩) (Qga ?_) ?_
 . simp -implicitDefEqProofs[eS,hi,hlx,hra]
   ((try simp only[hra,kS]);refine Yn.sub (by simp[lk,Ya,AV.keys,hra,kS]) ?_;simp only[hra,kS,Wkl,and_true];(try simp[lk,Yd,Ya,AV.keys,hra,kS]))
 refine ZeM (S:=⟨[(0,Yl r l q),(1,.int .i64 i),(5,.ptr 5 0)],[(5,.box (ra x))]⟩) (Q:=cR1 x=true) (Qga ?_) ?_
 . simp -implicitDefEqProofs[hra];refine Qco (Zic 1 9999 x.nu) (by simp) ?_
   cases h1:inR x.nu 1 9999
   . have e:ruleB r q i=false:=(by simp[ruleB,hx,cR1,h1]);simp -implicitDefEqProofs[e,Z7B]
   simp -implicitDefEqProofs[];refine Qco (Zic 0 14610 x.dy) (by simp) ?_
   cases h2:inR x.dy 0 14610
   . have e:ruleB r q i=false:=(by simp[ruleB,hx,cR1,h2]);simp -implicitDefEqProofs[e,Z7B]
   simp -implicitDefEqProofs[];refine ⟨?_,by rw[cR1,h1,h2];rfl⟩
   ((try simp only[hra,kS]);refine Yn.sub (by simp[lk,Ya,AV.keys,hra,kS]) ?_;simp only[hra,kS,Wkl,and_true];(try simp[lk,Yd,Ya,AV.keys,hra,kS]))
 intro k1;refine ZeM (S:=⟨[(0,Yl r l q),(1,.int .i64 i),(5,.ptr 5 0)],[(5,.box (ra x))]⟩) (Q:=cR2 r x=true) (Qga ?_) ?_
 . by_cases hz:x.fd=0/\x.fl=0/\x.td=0/\x.tl=0
   . obtain ⟨z1,z2,z3,z4⟩:=hz;have e2:cR2 r x=(!x.bo && !decide (x.br=0)):=by rw[cR2,if_pos ⟨z1,z2,z3,z4⟩]
     cases hb:x.bo
     . by_cases hc:x.br=0
       . have e:ruleB r q i=false:=(by simp[ruleB,hx,e2,hc]);simp -implicitDefEqProofs[hra,z1,z2,z3,z4,hb,hc,e,Z7B]
       . simp -implicitDefEqProofs[hra,z1,z2,z3,z4,hb,hc];refine ⟨?_,by simp[e2,hb,hc]⟩
         ((try simp only[kS,hra,z1,z2,z3,z4,hb]);refine Yn.sub (by simp[lk,Ya,AV.keys,kS,hra,z1,z2,z3,z4,hb]) ?_;simp only[kS,hra,z1,z2,z3,z4,hb,Wkl,and_true];(try simp[lk,Yd,Ya,AV.keys,kS,hra,z1,z2,z3,z4,hb]))
     . have e:ruleB r q i=false:=(by simp[ruleB,hx,e2,hb]);simp -implicitDefEqProofs[hra,z1,z2,z3,z4,hb,e,Z7B]
   . have e2 : cR2 r x=(!decide (x.fd=x.td/\x.fl=x.tl)&&knB r x.fd x.fl&&knB r x.td x.tl):=(by rw[cR2,if_neg hz]);have e2f:cR2 r x=false->ruleB r q i=false:=λh=>by simp[ruleB,hx,h]
     have nb:∀ (p1 p2:Prop) [Decidable p1] [Decidable p2],¬(p1/\p2)->(decide p1&&decide p2)=false/\(!decide p1 || !decide p2)=true:=λp1 p2 _ _ h=>by
      by_cases a:p1
      . have b:¬p2:=λb=>h ⟨a,b⟩
        simp[a,b]
      . simp[a]
     by_cases f1:x.fd=0/\x.fl=0
     . have f0:¬(x.td=0/\x.tl=0):=λh=>hz ⟨f1.1,f1.2,h.1,h.2⟩
       have f2:=nb _ _ f0;have f3:=nb (0=x.td) (0=x.tl) λh=>f0 ⟨h.1.symm,h.2.symm⟩
       have f5:decide (x.fd=x.td/\x.fl=x.tl)=false:=decide_eq_false λh=>f0 ⟨h.1.symm.trans f1.1,h.2.symm.trans f1.2⟩
       rw[f5,Bool.not_false,Bool.true_and]at e2;rw[f1.1,f1.2]at hk1 e2;simp -implicitDefEqProofs[hra,f1.1,f1.2,f2.1,f2.2,f3.1,f3.2];refine Ye.of hk1 (by simp[pS,AV.pure]) ?_
       cases h1:knB r 0 0
       . have e:=e2f (by rw[e2,h1];rfl);simp -implicitDefEqProofs[e,Z7B]
       . simp -implicitDefEqProofs[hra,f1.1,f1.2];refine Ye.of hk2 (by simp[pS,AV.pure]) ?_
         cases h2:knB r x.td x.tl
         . have e:=e2f (by rw[e2,h2,Bool.and_false]);simp -implicitDefEqProofs[e,Z7B]
         . simp -implicitDefEqProofs[];refine ⟨?_,by rw[e2,h1,h2];rfl⟩
           ((try simp only[kS,hra,f1.1,f1.2]);refine Yn.sub (by simp[lk,Ya,AV.keys,kS,hra,f1.1,f1.2]) ?_;simp only[kS,hra,f1.1,f1.2,Wkl,and_true];(try simp[lk,Yd,Ya,AV.keys,kS,hra,f1.1,f1.2]))
     . have f2:=nb _ _ f1;by_cases f4:x.fd=x.td/\x.fl=x.tl
       . have e:=e2f (by rw[e2,decide_eq_true f4];rfl);simp -implicitDefEqProofs[hra,f2.1,f2.2];rw[<- f4.1,<- f4.2];simp -implicitDefEqProofs[e,Z7B]
       . have f5:=nb _ _ f4;rw[decide_eq_false f4,Bool.not_false,Bool.true_and]at e2;simp -implicitDefEqProofs[hra,f2.1,f2.2,f5.1,f5.2];refine Ye.of hk1 (by simp[pS,AV.pure]) ?_
         cases h1:knB r x.fd x.fl
         . have e:=e2f (by rw[e2,h1];rfl);simp -implicitDefEqProofs[e,Z7B]
         . simp -implicitDefEqProofs[hra];refine Ye.of hk2 (by simp[pS,AV.pure]) ?_
           cases h2:knB r x.td x.tl
           . have e:=e2f (by rw[e2,h2,Bool.and_false]);simp -implicitDefEqProofs[e,Z7B]
           . simp -implicitDefEqProofs[];refine ⟨?_,by rw[e2,h1,h2];rfl⟩
             ((try simp only[hra,kS]);refine Yn.sub (by simp[lk,Ya,AV.keys,hra,kS]) ?_;simp only[hra,kS,Wkl,and_true];(try simp[lk,Yd,Ya,AV.keys,hra,kS]))
 intro k2;have en:ruleB r q i=(cR3 q i x&&cR4 q i x&&cR5 q i x):=(by rw[ruleB,hx,k1,k2];rfl);rw[en];have i1:i<=q.length:=(by omega);have bl:∀ x:Rul,(ra x).length=8:=λ_=>rfl
 have hc1:=Zif (G:=R.G) 111 [.vptr (ra x) 0] (λy=>decide (y.nu=x.nu)) (q.take i) (by simp[AV.pure,ra]) (by unfold Sml;simp;omega) (λy _=>Zig x y);have hc2:=Zif (G:=R.G) 112 [.vptr (ra x) 0] (λy=>decide (y.nu=x.br)) (q.take i) (by simp[AV.pure,ra]) (by unfold Sml;simp;omega) (λy _=>Zih x y);have a1:=Zc0 (λy:Rul=>decide (y.nu=x.nu)) (q.take i);have a2:=Zc0 (λy:Rul=>decide (y.nu=x.br)) (q.take i);have e3:cR3 q i x = !(q.take i).any λy=>decide (y.nu=x.nu):=rfl
 have e4:cR4 q i x=(decide (x.br=0)||(q.take i).any λy=>decide (y.nu=x.br)):=rfl;rw[<- a1]at e3;rw[<- a2]at e4
 have pu:∀ x∈List.take i (List.map ra q),∀ y∈x,y.pure=true:=λx hx y hy=>by
  obtain ⟨z,-,rfl⟩:=List.mem_map.1 (List.mem_of_mem_take hx);simp only[ra,List.mem_cons,List.not_mem_nil,or_false]at hy;rcases hy with rfl|rfl|rfl|rfl|rfl|rfl|rfl|rfl <;> simp[AV.pure]
 rw[List.map_take]at hc1 hc2;generalize fstOf (λy:Rul=>decide (y.nu=x.nu)) (q.take i)=n1 at *;generalize fstOf (λy:Rul=>decide (y.nu=x.br)) (q.take i)=n2 at *;refine ZeL (S:=⟨[(0,Yl r l q),(1,.int .i64 i),(5,.ptr 5 0),(7,.vsl ((q.map ra).take i))],[(5,.box (ra x))]⟩) (Qga ?_) ?_
 . simp -implicitDefEqProofs[eS,i1,bl]
   ((try simp only[hra,kS]);refine Yn.sub (by simp[lk,Ya,AV.keys,hra,kS]) ?_;simp only[hra,kS,Wkl,and_true];(try simp[lk,Yd,Ya,AV.keys,hra,kS]))
 refine ZeM (S:=⟨[(0,Yl r l q),(1,.int .i64 i),(5,.ptr 5 0)],[(5,.box (ra x))]⟩) (Q:=cR3 q i x=true/\cR4 q i x=true) (Qga ?_) ?_
 . rw [hra]at hc1 hc2;simp -implicitDefEqProofs[hra];refine Ye.flat hc1 (by simp[AV.flat]) (by simp) ?_;by_cases h1:0<=n1
   . have e:cR3 q i x=false:=(by rw[e3,decide_eq_true h1];rfl);simp -implicitDefEqProofs[h1,e,Z7B]
   . have q3:cR3 q i x=true:=(by rw[e3,decide_eq_false h1];rfl);by_cases h2:x.br=0
     . have q4:cR4 q i x=true:=(by rw[e4,decide_eq_true h2];rfl);simp -implicitDefEqProofs[h1,hra,h2];refine ⟨?_,q3,q4⟩
       ((try simp only[kS,hra,h2]);refine Yn.sub (by simp[lk,Ya,AV.keys,kS,hra,h2]) ?_;simp only[kS,hra,h2,Wkl,and_true];(try simp[lk,Yd,Ya,AV.keys,kS,hra,h2]))
     . simp -implicitDefEqProofs[h1,hra,h2];refine Ye.flat hc2 (by simp[AV.flat]) (by simp) ?_;by_cases h3:n2<0
       . have e:cR4 q i x=false:=(by rw[e4,decide_eq_false h2,decide_eq_false (show ¬0<=n2 by omega)];rfl);simp -implicitDefEqProofs[h3,e,Z7B]
       . have q4:cR4 q i x=true:=(by rw[e4,decide_eq_true (show 0<=n2 by omega),Bool.or_true]);simp -implicitDefEqProofs[h3];refine ⟨?_,q3,q4⟩
         ((try simp only[kS,hra]);refine Yn.sub (by simp[lk,Ya,AV.keys,kS,hra]) ?_;simp only[kS,hra,Wkl,and_true];(try simp[lk,Yd,Ya,AV.keys,kS,hra]))
 rintro ⟨q3,q4⟩;rw[q3,q4,Bool.true_and,Bool.true_and]
 cases i with
 | zero =>
   refine Qga ?_;simp -implicitDefEqProofs[cR5,Z7B];rfl
 | succ k =>
   have hk:k<q.length:=(by omega);have w1:IntKind.i64.wrap ((k:Int)+1-1)=(k:Int):=(by rw[Yg (by omega) (by omega)];omega);have w2:IntKind.i64.wrap (k:Int)=(k:Int):=Yg (by omega) (by omega);have i0:¬(k:Int)+1=0:=(by omega);have e8:cR5 q (k+1) x=(decide (q[k].dy<x.dy)||(decide (q[k].dy=x.dy)&&decide (q[k].nu<x.nu))):=(by rw[cR5,Zek hk]);have hd1:=ZcE (G:=R.G) q[k].dy x.dy;have hd2:=ZcE (G:=R.G) q[k].nu x.nu;have hR:∀ a b:AV,(List.range 2).map (λi=>List.take 1 (List.drop i [a,b]))=[[a],[b]]:=λ_ _=>rfl
   have hrk:ra q[k]=[.int .i64 q[k].nu,.int .i64 q[k].dy,.int .i64 q[k].fd,.int .i64 q[k].fl,.int .i64 q[k].td,.int .i64 q[k].tl,.bool q[k].bo,.int .i64 q[k].br]:=rfl
   obtain ⟨a,b,ha,hb,hv⟩ : ∃ a b:Int,(if q[k].dy<x.dy then (-1:Int) else if x.dy<q[k].dy then 1 else 0)=a/\(if q[k].nu<x.nu then (-1:Int) else if x.nu<q[k].nu then 1 else 0)=b/\decide ((if a=0 then b else a)<0)=(decide (q[k].dy<x.dy)||(decide (q[k].dy=x.dy)&&decide (q[k].nu<x.nu))):=by
    refine ⟨_,_,rfl,rfl,?_⟩;rcases Int.lt_trichotomy q[k].dy x.dy with q1|q1|q1
    . simp[q1]
    . rw[q1];rcases Int.lt_trichotomy q[k].nu x.nu with q2|q2|q2
      . simp[q2]
      . rw[q2];simp
      . have:¬q[k].nu<x.nu:=(by omega);simp[q2,this]
    . have h1:¬q[k].dy<x.dy:=(by omega);have h2:¬q[k].dy=x.dy:=(by omega);simp[q1,h1,h2]
   rw[ha]at hd1;rw[hb]at hd2;have ho:=ZgJ (G:=R.G) a b;rw[e8,<- hv];clear hv;generalize (if a=0 then b else a)=c at *;refine Qga ?_;simp -implicitDefEqProofs[eS,hk,w1,w2,i0,hra,hrk];refine Qco (hd1) (by simp) ?_;simp -implicitDefEqProofs[eS,hk,w1,w2,i0,hra,hrk];refine Qco (hd2) (by simp) ?_;simp -implicitDefEqProofs[hR];refine Qco (ho) (by simp) ?_;simp -implicitDefEqProofs[Z7B];rfl
set_option maxHeartbeats 1000000 in
theorem Zio (r:List Iss) (l:List Nte) (q:List Rul) (day:Int) (hq:q.length<=16):∀ (n i:Nat),i<q.length->q.length-i<=n->PC Tryz.prog G 63 [Yl r l q,.int .i64 i,.int .i64 day] (.bool (sB day q i))
 |0,i,hi,hn=>by omega
 | n + 1, i, hi,hn=>by
   have ih:=λk h1 h2=>Zio r l q day hq n k h1 h2
   have hx:=Zek hi;have hra:ra (rAt q i)=[.int .i64 (rAt q i).nu,.int .i64 (rAt q i).dy,.int .i64 (rAt q i).fd,.int .i64 (rAt q i).fl,.int .i64 (rAt q i).td,.int .i64 (rAt q i).tl,.bool (rAt q i).bo,.int .i64 (rAt q i).br]:=rfl;have fe:=Ze2 (p:=λx:Rul=>decide (x.dy<=day)) (h:=λx y:Rul=>decide (y.br=x.nu)) hi;rw[<- hx]at fe;have gb:gwB (λx:Rul=>decide (x.dy<=day)) (λx y:Rul=>decide (y.br=x.nu)) q (rAt q i) i (i+1)=decide ((rAt q i).dy<=day):=Ze3;have gs:=λj=>Ze4 (p:=λx:Rul=>decide (x.dy<=day)) (h:=λx y:Rul=>decide (y.br=x.nu)) (l:=q) (x:=rAt q i) (i:=i) (k:=j)
   have gst:=λk (h1:i<k) (h2:k<=q.length)=>Zhr (p:=λx:Rul=>decide (x.dy<=day)) (h:=λx y:Rul=>decide (y.br=x.nu)) (l:=q) (x:=rAt q i) h1 h2 (Nat.le_refl _)
   have fbs:sB day q i=gwB (λx:Rul=>decide (x.dy<=day)) (λx y=>decide (y.br=x.nu)) q (rAt q i) i q.length:=fe;rw[fbs];have eS:Yl r l q = .vptr [.vsl (r.map isa),.vsl (l.map na),.vsl (q.map ra),rfA r] 0:=rfl;have pS:(Yl r l q).pure=true:=(by unfold Yl rfA;split <;> simp[AV.pure,isa,na,ra,rfa]);have kS:(Yl r l q).keys=[]:=(by unfold Yl;simp[AV.keys]);generalize hxx:rAt q i=x at *;have hlx:q[i]=x:=hx.symm;have w1:IntKind.i64.wrap ((i:Int)+1)=((i+1:Nat):Int):=Yg (by omega) (by omega)
   (refine Z7O rfl λR hG hrd=>Qga ?_;subst hG)
   by_cases h0:day<x.dy
   . have e:=gst (i+1) (by omega) hi (by rw[gb];exact decide_eq_false (by omega));rw[e];simp -implicitDefEqProofs[Z7M,Z7N,eS,hi,hlx,hra,h0]
   . have g0 : gwB (λx:Rul=>decide (x.dy<=day)) (λx y=>decide (y.br=x.nu)) q x i (i+1)=true:=(by rw[gb];exact decide_eq_true (by omega));simp -implicitDefEqProofs[Z7M,Z7N,eS,hi,hlx,hra,h0,w1];refine Z1Q (λp:Nat=>⟨[(7,.int .i64 (p:Int)),(0,.vptr [.vsl (r.map isa),.vsl (l.map na),.vsl (q.map ra),rfA r] 0),(1,.int .i64 i),(2,.int .i64 day)],[]⟩) (λp=>i+1<=p/\p<=q.length/\gwB (λx:Rul=>decide (x.dy<=day)) (λx y=>decide (y.br=x.nu)) q x i p=true) (λp=>q.length-p) (i+1) ?_ ⟨Nat.le_refl _,hi,g0⟩ ?_
     . (refine Yn.sub (by simp[lk,Ya,AV.keys]) ?_;simp only[Wkl,and_true];(try simp[lk,Yd,Ya,AV.keys]))
     . rintro p ⟨hp1,hp2,hg0⟩;refine Qga ?_;rcases Nat.lt_or_ge p q.length with h5|h5
       . have hg:=gs p (by omega) h5;have hy:=Zek h5;have hny:ra (rAt q p)=[.int .i64 (rAt q p).nu,.int .i64 (rAt q p).dy,.int .i64 (rAt q p).fd,.int .i64 (rAt q p).fl,.int .i64 (rAt q p).td,.int .i64 (rAt q p).tl,.bool (rAt q p).bo,.int .i64 (rAt q p).br]:=rfl;have w2:IntKind.i64.wrap ((p:Int)+1)=(p:Int)+1:=Yg (by omega) (by omega);have ihp:=ih p h5 (by omega);rw[<- hy]at hg;replace hg:_=(_ && !(sB day q p&&_)):=hg;have gsp:=gst (p+1) (by omega) h5;generalize hyy:rAt q p=y at *;have hly:q[p]=y:=hy.symm;rw[hg0,Bool.true_and]at hg;by_cases h6:y.br=x.nu
         . rw[decide_eq_true h6,Bool.and_true]at hg;rw[eS]at ihp pS;simp -implicitDefEqProofs[h5,hi,hlx,hra,hly,hny,h6];refine Yf.of ihp (by simp[AV.pure]at pS ⊢;try simp[pS]) ?_
           cases hb:sB day q p
           . rw[hb]at hg;simp -implicitDefEqProofs[w2];refine ⟨rfl,p+1,?_,⟨by omega,h5,hg⟩,(by show q.length-(p+1)<q.length-p;omega)⟩
             (refine Yn.sub (by simp[lk,Ya,AV.keys]) ?_;simp only[Wkl,and_true];(try simp[lk,Yd,Ya,AV.keys]))
           . rw[hb]at hg;have e:=gsp hg;rw[e];simp -implicitDefEqProofs[];refine ⟨rfl,?_⟩;refine Qgr ?_;simp -implicitDefEqProofs[]
         . rw[decide_eq_false h6,Bool.and_false]at hg;simp -implicitDefEqProofs[h5,hi,hlx,hra,hly,hny,h6,w2];refine ⟨rfl,p+1,?_,⟨by omega,h5,hg⟩,(by show q.length-(p+1)<q.length-p;omega)⟩
           (refine Yn.sub (by simp[lk,Ya,AV.keys]) ?_;simp only[Wkl,and_true];(try simp[lk,Yd,Ya,AV.keys]))
       . obtain rfl:p=q.length:=(by omega);rw[hg0];simp -implicitDefEqProofs[];refine Qgr ?_;simp -implicitDefEqProofs[]
end
def rkT (r:List Iss) (i:Nat):List (List AV):=(r.take i).map rfa
theorem Zip {r:List Iss} {i:Nat} (h:i<=r.length):(rkT r i).length=i:=by simp[rkT];omega
theorem Ziq {r:List Iss} {i:Nat} (h:i<r.length):rkT r (i+1)=rkT r i++[rfa r[i]]:=by unfold rkT;rw[List.take_succ_eq_append_getElem h,List.map_append];rfl
theorem Zir (o:List (Nat×AObj)) (r:List Iss) (i:Nat):Yd o (.row 2 (rkT r i))=true:=by
 simp only[Yd,List.all_eq_true,rkT,List.mem_map];rintro x ⟨y,-,rfl⟩ v hv;simp only[rfa,List.mem_cons,List.not_mem_nil,or_false]at hv;rcases hv with rfl|rfl <;> simp[Ya,AV.keys]
def opR (r:List Iss) (l:List Nte) (q:List Rul) (i:Nat):St :=
 if i=0 then ⟨[(28,.int .i64 i),(27,.int .i64 r.length),(26,.vsl (r.map isa)),(5,.ptr 22 0),(1,.ptr 1 0)],[(22,.box [.vsl (r.map isa),.vsl (l.map na),.vsl (q.map ra),.nils]),(1,.box [.vsl (r.map isa),.vsl (l.map na),.vsl (q.map ra)])]⟩
 else ⟨[(28,.int .i64 i),(27,.int .i64 r.length),(26,.vsl (r.map isa)),(5,.ptr 22 0),(1,.ptr 1 0)],[(22,.box [.vsl (r.map isa),.vsl (l.map na),.vsl (q.map ra),.osl 43 i]),(43,.row 2 (rkT r i)),(1,.box [.vsl (r.map isa),.vsl (l.map na),.vsl (q.map ra)])]⟩
def opnA (r:List Iss) (l:List Nte) (q:List Rul):AV:=.tup [if chS r l q=0 then Yl r l q else .nilp,.int .i64 (chS r l q)]
section
variable {G:Nat->Option (List AV)}
set_option maxHeartbeats 1000000 in
theorem Zis (hG:GC G) (hN:GN G) (r:List Iss) (l:List Nte) (q:List Rul) (hw:WfN l) (hr:Wf r) (hq:Sml q):PC Tryz.prog G 61 [swa r l q] (opnA r l q):=by
 have hc:=ZhI hG hN r l hw hr;have hrl:=hr.1.1;unfold Sml at hq hrl;refine Z7R rfl λR hG hrd=>?_
 subst hG;have pS:(Yl r l q).pure=true:=(by unfold Yl rfA;split <;> simp[AV.pure,isa,na,ra,rfa]);have kS:(Yl r l q).keys=[]:=by unfold Yl;simp[AV.keys]
 have sS:∀ ok st,Yi ok st 6 (Yl r l q)=some (Yl r l q):=λok st=>by
  have h:=pS;unfold Yl at *;simp[Yi,h]
 have eS:Yl r l q = .vptr [.vsl (r.map isa),.vsl (l.map na),.vsl (q.map ra),rfA r] 0:=rfl;unfold opnA;by_cases h0:chN r l=0
 . by_cases h1:16<q.length
   . have h1':(16:Int)<q.length:=by omega
     have e:chS r l q=50:=by
      have:¬q.length<=16:=(by omega);simp[chS,h0,Zel,this]
     rw[h0]at hc;rw[e];refine Qga ?_;simp -implicitDefEqProofs[Z7P,Z7Q,swa];refine Qco (hc) (by simp) ?_;simp -implicitDefEqProofs[h1']
   have h1':¬(16:Int)<q.length:=(by omega);rw[h0]at hc;refine Qga ?_;simp -implicitDefEqProofs[Z7P,Z7Q,swa];refine Qco (hc) (by simp) ?_;simp -implicitDefEqProofs[h1'];refine Zba (opR r l q) (λ_=>True) r.length ?_ trivial ?_ ?_
   . simp only[opR,if_true]
     (refine Yn.sub (by simp[lk,Ya,AV.keys]) ?_;simp only[Wkl,and_true];(try simp[lk,Yd,Ya,AV.keys]))
   . intro i hi _;have tk:=Ziq hi;have tl:=Zip (r:=r) (i:=i) (by omega);have bb:(i+1)*16<=70368744177664:=(by omega);have hri:rfa r[i]=[.int .i64 r[i].d,.int .i64 r[i].l]:=rfl;rw[hri]at tk;refine Qga ?_
     cases i with
     | zero =>
       have e0:rkT r 0=[]:=rfl;have w1:IntKind.i64.wrap 1=1:=rfl;rw[e0,List.nil_append]at tk;simp -implicitDefEqProofs[opR,hi,isa,w1];refine ⟨rfl,?_⟩;rw[tk]
       (refine Yn.sub (by simp[lk,Ya,AV.keys]) ?_;simp only[Wkl,and_true];(try simp[lk,Yd,Ya,AV.keys]))
     | succ i =>
       have k1:(i:Int)+1<r.length:=(by omega);have k2:((i:Int)+1).toNat=i+1:=(by omega);have k3:(0:Int)<=(i:Int)+1:=(by omega);have w1:IntKind.i64.wrap ((i:Int)+1+1)=(i:Int)+1+1:=Yg (by omega) (by omega);simp -implicitDefEqProofs[opR,hi,isa,w1,k1,k2,k3,tl,bb];refine ⟨rfl,?_⟩;rw[<- tk]
       (refine Yn.sub (by simp[lk,Ya,AV.keys]) ?_;simp only[Wkl,Zir,and_true];(try simp[lk,Yd,Ya,AV.keys]))
   . intro _;have hrt:=λi hi=>Zin (G:=R.G) r l q i hi hq hr.1.1
     refine Qga ?_;by_cases hl0:r.length=0
     case' pos =>
      have er:r=[]:=List.length_eq_zero_iff.1 hl0;have eA:rfA r = .nils:=(by rw[er];rfl);simp -implicitDefEqProofs[opR,hl0];refine Z2M Yb 2 ?_;simp -implicitDefEqProofs[]
     case' neg =>
      have er:¬r=[]:=λh=>hl0 (by rw[h];rfl)
      have eT:rkT r r.length=r.map rfa:=(by unfold rkT;rw[List.take_length]);have eA:rfA r = .vsl (r.map rfa):=(by unfold rfA;rw[if_neg er]);simp -implicitDefEqProofs[opR,hl0,eT];refine Z2M Yb 2 ?_;simp -implicitDefEqProofs[]
     all_goals
      refine GO0 (Z2L (st':=⟨[(5,Yl r l q),(1,.ptr 1 0)],[(1,.box [.vsl (r.map isa),.vsl (l.map na),.vsl (q.map ra)])]⟩) (Yn.trans (Yn.frz (λk=>k == 22||k == 43) _) ?_) ?_)
      . rw[eS,eA]
        ((try simp only[Yj,frzA,frzO,frz,Yi,Yk,St.get,AV.pure,rfa]);refine Yn.sub (by simp[lk,Ya,AV.keys,Yj,frzA,frzO,frz,Yi,Yk,St.get,AV.pure,rfa]) ?_;simp only[Yj,frzA,frzO,frz,Yi,Yk,St.get,AV.pure,rfa,Wkl,and_true];(try simp[lk,Yd,Ya,AV.keys,Yj,frzA,frzO,frz,Yi,Yk,St.get,AV.pure,rfa]))
      refine Qga ?_;simp -implicitDefEqProofs[];refine Zba (λi=>⟨[(50,.int .i64 i),(49,.int .i64 q.length),(8,.int .i64 0),(5,Yl r l q),(1,.ptr 1 0)],[(1,.box [.vsl (r.map isa),.vsl (l.map na),.vsl (q.map ra)])]⟩) (λi=>∀ j,j<i->ruleB r q j=true) q.length ?_ (λj hj=>by omega) ?_ ?_
      . ((try simp only[kS]);refine Yn.sub (by simp[lk,Ya,AV.keys,kS]) ?_;simp only[kS,Wkl,and_true];(try simp[lk,Yd,Ya,AV.keys,kS]))
      . intro i hi he;have hrti:=hrt i hi;have w1:IntKind.i64.wrap ((i:Int)+1)=(i:Int)+1:=Yg (by omega) (by omega);refine Qga ?_;simp -implicitDefEqProofs[hi];refine Ye.of hrti (by simp[pS,AV.pure]) ?_
        cases h:ruleB r q i
        . have e:Zel r q=false:=by
           cases h2:Zel r q
           . rfl
           . simp only[Zel,Bool.and_eq_true]at h2;have:=Zbs.1 h2.2 i hi;rw[h]at this;cases this
          have e2:chS r l q=50:=(by simp[chS,h0,e]);simp -implicitDefEqProofs[];refine Qgr ?_;simp -implicitDefEqProofs[e2];refine Qgr ?_;simp -implicitDefEqProofs[]
        . simp -implicitDefEqProofs[w1];refine ⟨?_,λj hj=>?_⟩
          . ((try simp only[kS]);refine Yn.sub (by simp[lk,Ya,AV.keys,kS]) ?_;simp only[kS,Wkl,and_true];(try simp[lk,Yd,Ya,AV.keys,kS]))
          . rcases Nat.lt_or_ge j i with h4|h4
            . exact he j h4
            . obtain rfl:j=i:=(by omega);exact h
      . intro he
        have e:Zel r q=true:=by
         simp only[Zel,Bool.and_eq_true,decide_eq_true_eq];exact ⟨by omega,Zbs.2 he⟩
        have e2:chS r l q=0:=(by simp[chS,h0,e]);rw[e2,if_pos rfl];refine Qga ?_;simp -implicitDefEqProofs[];refine Qgr ?_;simp -implicitDefEqProofs[];refine Qgr ?_;simp -implicitDefEqProofs[sS]
 . have e:chS r l q=chN r l:=(by simp[chS,h0]);rw[e];refine Qga ?_;simp -implicitDefEqProofs[Z7P,Z7Q,swa];refine Qco (hc) (by simp) ?_;simp -implicitDefEqProofs[h0]
def rwS (S:AV) (r:List Iss) (l:List Nte) (q:List Rul) (day:Int) (i:Nat):St :=
 if ruN day q i=[] then ⟨[(25,.int .i64 i),(24,.int .i64 q.length),(8,.nils),(6,S),(1,.int .i64 day),(2,.ptr 2 0)],[(2,.box [.vsl (r.map isa),.vsl (l.map na),.vsl (q.map ra)])]⟩
 else ⟨[(25,.int .i64 i),(24,.int .i64 q.length),(8,.osl 40 (ruN day q i).length),(6,S),(1,.int .i64 day),(2,.ptr 2 0)],[(40,.row 1 ((ruN day q i).map ia)),(2,.box [.vsl (r.map isa),.vsl (l.map na),.vsl (q.map ra)])]⟩
set_option maxHeartbeats 1000000 in
theorem Zit (hG:GC G) (hN:GN G) (r:List Iss) (l:List Nte) (q:List Rul) (day:Int) (hw:WfN l) (hr:Wf r) (hq:Sml q):PC Tryz.prog G 20 [swa r l q,.int .i64 day] (ruA r l q day):=by
 have ho:=Zis hG hN r l q hw hr hq;have hd:=Zic (G:=G) 0 14610 day;have pS:(Yl r l q).pure=true:=(by unfold Yl rfA;split <;> simp[AV.pure,isa,na,ra,rfa]);have kS:(Yl r l q).keys=[]:=(by unfold Yl;simp[AV.keys]);unfold swa opnA at ho;refine Z7U rfl λR hG hrd=>?_
 subst hG;refine Qga ?_;unfold ruA ruE;by_cases h0:chS r l q=0
 . have h16:=ZhZ (ZhY h0).2;have hs:=λi hi=>Zio (G:=R.G) r l q day h16 q.length i hi (by omega)
   rw[if_pos h0,h0]at ho;rw[if_pos h0];generalize Yl r l q=S at *
   cases h1:inR day 0 14610
   . rw[h1]at hd;simp -implicitDefEqProofs[Z7S,Z7T,swa];refine Qco (ho) (by simp) ?_;simp -implicitDefEqProofs[];refine Qco (hd) (by simp) ?_;simp -implicitDefEqProofs[Yh]
   rw[h1]at hd;rw[if_pos rfl];simp -implicitDefEqProofs[Z7S,Z7T,swa];refine Qco (ho) (by simp) ?_;simp -implicitDefEqProofs[];refine Qco (hd) (by simp) ?_;simp -implicitDefEqProofs[];refine Zba (rwS S r l q day) (λ_=>True) q.length ?_ trivial ?_ ?_
   . have e0:ruN day q 0=[]:=(by simp[ruN]);simp only[rwS,e0,if_true]
     ((try simp only[kS]);refine Yn.sub (by simp[lk,Ya,AV.keys,kS]) ?_;simp only[kS,Wkl,and_true];(try simp[lk,Yd,Ya,AV.keys,kS]))
   . intro i hi _;have hsi:=hs i hi;have hx:=Zek hi;have hnx:ra (rAt q i)=[.int .i64 (rAt q i).nu,.int .i64 (rAt q i).dy,.int .i64 (rAt q i).fd,.int .i64 (rAt q i).fl,.int .i64 (rAt q i).td,.int .i64 (rAt q i).tl,.bool (rAt q i).bo,.int .i64 (rAt q i).br]:=rfl;have sc:=Zem (day:=day) hi;have bb:((ruN day q i).length+1)*8<=70368744177664:=(by have:=Zen day q i;omega);have wi:IntKind.i64.wrap ((i:Int)+1)=(i:Int)+1:=Yg (by omega) (by omega);rw[<- hx]at sc;have hlx:q[i]=rAt q i:=hx.symm
     cases hb:sB day q i
     . rw[hb]at sc hsi;have e:ruN day q (i+1)=ruN day q i:=sc;by_cases c:ruN day q i=[]
       all_goals
        refine Qga ?_;simp only[rwS,c,if_true,if_false];simp -implicitDefEqProofs[hi];refine Ye.of hsi (by simp[pS,AV.pure]) ?_;simp -implicitDefEqProofs[wi];simp only[rwS,e,c,if_true,if_false]
        ((try simp only[kS]);refine Yn.sub (by simp[lk,Ya,AV.keys,kS]) ?_;simp only[kS,Wkl,ZgW,and_true];(try simp[lk,Yd,Ya,AV.keys,kS]))
     . rw[hb]at sc hsi;have e:ruN day q (i+1)=ruN day q i++[(rAt q i).nu]:=sc;have hne:ruN day q (i+1)≠[]:=(by rw[e];simp);by_cases c:ruN day q i=[]
       all_goals
        refine Qga ?_;simp only[rwS,c,if_true,if_false];simp -implicitDefEqProofs[hi];refine Ye.of hsi (by simp[pS,AV.pure]) ?_;simp -implicitDefEqProofs[hi,wi,hlx,hnx,bb];simp only[rwS,hne,if_false];have e1:(ruN day q (i+1)).map ia=(ruN day q i).map ia++[[AV.int .i64 (rAt q i).nu]]:=(by rw[e,List.map_append];rfl);have e2:(ruN day q (i+1)).length=(ruN day q i).length+1:=by rw[e];simp
        first
         |(rw[c,List.nil_append]at e;rw[e];((try simp only[ia,kS]);refine Yn.sub (by simp[lk,Ya,AV.keys,ia,kS]) ?_;simp only[ia,kS,Wkl,and_true];(try simp[lk,Yd,Ya,AV.keys,ia,kS]));done)
         |(rw[<- e1,e2];((try simp only[kS]);refine Yn.sub (by simp[lk,Ya,AV.keys,kS]) ?_;simp only[kS,Wkl,ZgW,and_true];(try simp[lk,Yd,Ya,AV.keys,kS]));done)
   . intro _;refine Qga ?_;by_cases c:ruN day q q.length=[]
     . simp -implicitDefEqProofs[rwS,c];refine Qgr ?_;simp -implicitDefEqProofs[Yh]
     . simp -implicitDefEqProofs[rwS,c];refine Qgr ?_;simp -implicitDefEqProofs[Yh,c,ia]
 . rw[if_neg h0]at ho;rw[if_neg h0];simp -implicitDefEqProofs[Z7S,Z7T,swa];refine Qco (ho) (by simp) ?_;simp -implicitDefEqProofs[h0,Yh]
end
def ntP (F:List Int) (x:Nte):List Stq:=if x.nu∈F then
    (if x.wy % 2=1 then [⟨x.dr,IntKind.i64.wrap (x.lt-1),x.dr,x.lt,x.nu,true⟩] else [])++(if 2<=x.wy % 4 then [⟨x.dr,x.lt,x.dr,IntKind.i64.wrap (x.lt-1),x.nu,true⟩] else [])
 else []
def nsP (F:List Int) (D:List Nte) (i:Nat):List Stq:=(D.take i).flatMap (ntP F)
theorem Ziu {F:List Int} {D:List Nte} {i:Nat} (h:i<D.length):nsP F D (i+1)=nsP F D i++ntP F D[i]:=by
 unfold nsP;rw[List.take_succ_eq_append_getElem h,List.flatMap_append];simp
theorem Ziv (F:List Int) (x:Nte):(ntP F x).length<=2:=by unfold ntP;split <;> (try split) <;> (try split) <;> simp
theorem Ziw (F:List Int) (D:List Nte):∀ i,i<=D.length->(nsP F D i).length<=2*i
 |0,_=>by simp[nsP]
 |i+1,h=>by rw[Ziu h,List.length_append];have:=Ziw F D i (by omega);have:=Ziv F D[i];omega
section
variable {G:Nat->Option (List AV)}
def bnS (F:List Int) (fV:AV) (D:List Nte) (x:Nat×Nat):St :=
 ⟨[(68,.int .i64 x.1),(67,.int .i64 D.length),(66,.vsl (D.map na)),(7,fV),(9,sqT x.2 (nsP F D x.1))],sqO x.2 (nsP F D x.1)⟩
set_option maxHeartbeats 4000000 in
theorem Zix (r:List Iss) (F:List Int) (er:Int) (D:List Nte) (T:List Int) (cells:List AV) (m:Int) (hD:D.length<=16) (hw:WfN D) (hF:F.length<=16) (R:Run) (hrd:R.Top) (hm:cells[2]? = some (.int .i64 m)) (hlen:cells.length=4) (hpc:∀ x∈cells,x.keys=[])
  (hf:PC Tryz.prog R.G 22 [.agg [.vsl (r.map isa),Yh (D.map na)],Yh (T.map ia),.int .i64 m] (.tup [Yh (F.map ia),.int .i64 er])) :
  AR Tryz.prog R (dropZ 5 Z7V) ⟨[(1,.ptr 1 0),(3,.vptr [.vsl (r.map isa),Yh (D.map na)] 0),(4,Yh (T.map ia))],[(1,.box cells)]⟩ (Fin Z7W (Yh ((nsP F D D.length).map sa))):=by
 have hh:=λn=>PC.sub (Zhg (G:=R.G) F n (by unfold Sml;omega)) (xs:=[Yh (F.map ia),.int .i64 n]) ⟨.orNil _,.rfl',trivial⟩
 have pF:=Zf4 (l:=F.map ia) (by simp[ia,AV.pure]);have kF:=Zf5 (F.map ia);have sF:=λok st n=>Zf6 (F.map ia) ok st n
 have pD:=Zf4 (l:=D.map na) (by simp[na,AV.pure]);have pT:=Zf4 (l:=T.map ia) (by simp[ia,AV.pure]);generalize Yh (F.map ia)=fV at *;generalize Yh (T.map ia)=tV at *;refine ZeL (S:=⟨[(3,.vptr [.vsl (r.map isa),Yh (D.map na)] 0),(7,fV)],[]⟩) (Qga ?_) ?_
 . match cells,hlen,hm,hpc with
   | [a,b,c,d],_,hm,hpc =>
     simp only[List.getElem?_cons_succ,List.getElem?_cons_zero,Option.some.injEq]at hm;subst hm;generalize Yh (D.map na)=dV at *;simp -implicitDefEqProofs[];refine Ye.of hf (by simp[AV.pure,pD,pT]) ?_;simp -implicitDefEqProofs[]
     ((try simp only[kF]);refine Yn.sub (by simp[lk,Ya,AV.keys,kF]) ?_;simp only[kF,Wkl,and_true];(try simp[lk,Yd,Ya,AV.keys,kF]))
 refine ZeL (S:=⟨[(3,.vptr [.vsl (r.map isa),Yh (D.map na)] 0),(7,fV),(9,.nils)],[]⟩) (Qga ?_) ?_
 . simp -implicitDefEqProofs[]
   ((try simp only[kF]);refine Yn.sub (by simp[lk,Ya,AV.keys,kF]) ?_;simp only[kF,Wkl,and_true];(try simp[lk,Yd,Ya,AV.keys,kF]))
 by_cases c:D=[]
 . have ec:Yh (D.map na) = .nils:=(by rw[c];rfl);have en:nsP F D D.length=[]:=(by rw[c];rfl);rw[ec,en];refine Qga ?_;simp -implicitDefEqProofs[];refine Zba (λi=>⟨[(68,.int .i64 i),(67,.int .i64 0),(9,.nils)],[]⟩) (λ_=>True) 0 ?_ trivial (λi hi=>by omega) ?_
   . ((try simp only[kF]);refine Yn.sub (by simp[lk,Ya,AV.keys,kF]) ?_;simp only[kF,Wkl,and_true];(try simp[lk,Yd,Ya,AV.keys,kF]))
   . intro _;refine Qga ?_;simp -implicitDefEqProofs[];refine Qgr ?_;simp -implicitDefEqProofs[Yh,Z7W]
 have cm:¬D.map na=[]:=λh=>c (List.map_eq_nil_iff.1 h)
 have ev:Yh (D.map na) = .vsl (D.map na):=(by simp[Yh,cm]);rw[ev];refine Qga ?_;simp -implicitDefEqProofs[];refine Z1Q (bnS F fV D) (λx=>x.1<=D.length/\KeyOk [102,116] x.2 (nsP F D x.1)) (λx=>D.length-x.1) (0,0) ?_ ⟨Nat.zero_le _,.inl ⟨rfl,rfl⟩⟩ ?_
 . simp only[bnS,sqT,sqO,if_true]
   ((try simp only[kF]);refine Yn.sub (by simp[lk,Ya,AV.keys,kF]) ?_;simp only[kF,Wkl,and_true];(try simp[lk,Yd,Ya,AV.keys,kF]))
 . rintro ⟨i,κ⟩ ⟨hi0,hK⟩;simp only[bnS]at hi0 hK ⊢;have bl:=Ziw F D i hi0;rcases Nat.lt_or_ge i D.length with hi|hi
   . have sc:=Ziu (F:=F) hi;have wi:IntKind.i64.wrap ((i:Int)+1)=((i+1:Nat):Int):=(by rw[Yg (by omega) (by omega)];omega);have hwx:=hw.2 D[i] (List.getElem_mem hi);obtain ⟨x,hxx⟩ : ∃ x,x=D[i]:=⟨_,rfl⟩;have hlx:D[i]=x:=hxx.symm;rw[hlx]at sc hwx;have hh:=hh x.nu;have v1:=bit1 hwx.2.2.1 hwx.2.2.2;have v2:=bit2 hwx.2.2.1 hwx.2.2.2;have hnx:na x=[.int .i64 x.nu,.int .i64 x.dy,.int .u8 x.sg,.int .i64 x.dr,.int .i64 x.lt,.int .i64 x.fr,.int .i64 x.tu,.int .i64 x.ca,.bool x.up,.int .u8 x.wy]:=rfl;have b1:=sixB (nsP F D i).length (by omega);have b2:=sixC (nsP F D i).length (by omega);have hL:nsP F D (i+1)=nsP F D i++ntP F x:=sc;have nxt:∀ κ2,KeyOk [102,116] κ2 (nsP F D (i+1))->∀ st,Yn st (bnS F fV D (i+1,κ2))->∃ x:Nat×Nat,Yn st (bnS F fV D x)/\(x.1<=D.length/\KeyOk [102,116] x.2 (nsP F D x.1))/\D.length-x.1<D.length-i:=λκ2 h st hw=>⟨(i+1,κ2),hw,⟨hi,h⟩,by show D.length-(i+1)<D.length-i;omega⟩
     have same:∀ κ2,ntP F x=[]->KeyOk [102,116] κ2 (nsP F D i)->KeyOk [102,116] κ2 (nsP F D (i+1))/\nsP F D (i+1)=nsP F D i:=λκ2 h hk=>by rw[hL,h,List.append_nil];exact ⟨hk,rfl⟩
     have more:∀ κ2,ntP F x≠[]->κ2∈[102,116]->KeyOk [102,116] κ2 (nsP F D (i+1)):=λκ2 h hk=>.inr ⟨hk,by rw[hL];intro e;exact h (List.append_eq_nil_iff.1 e).2⟩
     generalize hLL:nsP F D i=L at *;generalize hMM:nsP F D (i+1)=M at *;by_cases z1:x.nu∈F
     . by_cases p1:x.wy % 2=1 <;> by_cases p2:2<=x.wy % 4
       . rw [if_pos p1]at v1;rw[if_pos p2]at v2;have e:ntP F x=[⟨x.dr,IntKind.i64.wrap (x.lt-1),x.dr,x.lt,x.nu,true⟩,⟨x.dr,x.lt,x.dr,IntKind.i64.wrap (x.lt-1),x.nu,true⟩]:=(by simp[ntP,z1,p1,p2]);have hne:ntP F x≠[]:=(by rw[e];simp);have e1:M.map sa=L.map sa++[[.int .i64 x.dr,.int .i64 (IntKind.i64.wrap (x.lt-1)),.int .i64 x.dr,.int .i64 x.lt,.int .i64 x.nu,.bool true],[.int .i64 x.dr,.int .i64 x.lt,.int .i64 x.dr,.int .i64 (IntKind.i64.wrap (x.lt-1)),.int .i64 x.nu,.bool true]]:=(by rw[hL,e,List.map_append];rfl);have e2:M.length=L.length+2:=(by rw[hL,e];simp);rcases hK with ⟨rfl,e0⟩ | ⟨hk,ne⟩
         . have t1:=more 102 hne (by simp);refine Qga ?_;simp only[sqT,sqO,if_true];simp -implicitDefEqProofs[hi,hlx,hnx,wi];refine Ye.of hh (by simp[pF,AV.pure]) ?_;simp -implicitDefEqProofs[wi,z1,hnx,v1,v2];refine nxt 102 t1 _ ?_;rw[e0,List.map_nil,List.nil_append]at e1;rw[e0,List.length_nil]at e2;simp only[bnS,hMM,e1,e2,sqT,sqO,if_false,Nat.reduceEqDiff]
           ((try simp only[kF]);refine Yn.sub (by simp[lk,Ya,AV.keys,kF]) ?_;simp only[kF,Wkl,and_true];(try simp[lk,Yd,Ya,AV.keys,kF]))
         . have t1:=more κ hne hk;have:κ=102∨κ=116:=(by simpa using hk);rcases this with rfl|rfl
           all_goals
            refine Qga ?_;simp only[sqT,sqO,if_false,Nat.reduceEqDiff];simp -implicitDefEqProofs[hi,hlx,hnx,wi];refine Ye.of hh (by simp[pF,AV.pure]) ?_;simp -implicitDefEqProofs[wi,b1,b2,z1,hnx,v1,v2];refine nxt _ t1 _ ?_;simp only[bnS,hMM,e2,sqT,sqO,if_false,Nat.reduceEqDiff]
            try simp only[List.append_assoc,List.cons_append,List.nil_append]
            rw[<- e1]
            ((try simp only[kF]);refine Yn.sub (by simp[lk,Ya,AV.keys,kF]) ?_;simp only[kF,Wkl,Zi8,and_true];(try simp[lk,Yd,Ya,AV.keys,kF]))
       . rw [if_pos p1]at v1;rw[if_neg p2]at v2;have e:ntP F x=[⟨x.dr,IntKind.i64.wrap (x.lt-1),x.dr,x.lt,x.nu,true⟩]:=(by simp[ntP,z1,p1,p2]);have hne:ntP F x≠[]:=(by rw[e];simp);have e1:M.map sa=L.map sa++[[.int .i64 x.dr,.int .i64 (IntKind.i64.wrap (x.lt-1)),.int .i64 x.dr,.int .i64 x.lt,.int .i64 x.nu,.bool true]]:=(by rw[hL,e,List.map_append];rfl);have e2:M.length=L.length+1:=(by rw[hL,e];simp);rcases hK with ⟨rfl,e0⟩ | ⟨hk,ne⟩
         . have t1:=more 102 hne (by simp);refine Qga ?_;simp only[sqT,sqO,if_true];simp -implicitDefEqProofs[hi,hlx,hnx,wi];refine Ye.of hh (by simp[pF,AV.pure]) ?_;simp -implicitDefEqProofs[wi,z1,hnx,v1,v2];refine nxt 102 t1 _ ?_;rw[e0,List.map_nil,List.nil_append]at e1;rw[e0,List.length_nil]at e2;simp only[bnS,hMM,e1,e2,sqT,sqO,if_false,Nat.reduceEqDiff]
           ((try simp only[kF]);refine Yn.sub (by simp[lk,Ya,AV.keys,kF]) ?_;simp only[kF,Wkl,and_true];(try simp[lk,Yd,Ya,AV.keys,kF]))
         . have t1:=more κ hne hk;have:κ=102∨κ=116:=(by simpa using hk);rcases this with rfl|rfl
           all_goals
            refine Qga ?_;simp only[sqT,sqO,if_false,Nat.reduceEqDiff];simp -implicitDefEqProofs[hi,hlx,hnx,wi];refine Ye.of hh (by simp[pF,AV.pure]) ?_;simp -implicitDefEqProofs[wi,b1,b2,z1,hnx,v1,v2];refine nxt _ t1 _ ?_;simp only[bnS,hMM,e2,sqT,sqO,if_false,Nat.reduceEqDiff]
            try simp only[List.append_assoc,List.cons_append,List.nil_append]
            rw[<- e1]
            ((try simp only[kF]);refine Yn.sub (by simp[lk,Ya,AV.keys,kF]) ?_;simp only[kF,Wkl,Zi8,and_true];(try simp[lk,Yd,Ya,AV.keys,kF]))
       . rw [if_neg p1]at v1;rw[if_pos p2]at v2;have e:ntP F x=[⟨x.dr,x.lt,x.dr,IntKind.i64.wrap (x.lt-1),x.nu,true⟩]:=(by simp[ntP,z1,p1,p2]);have hne:ntP F x≠[]:=(by rw[e];simp);have e1:M.map sa=L.map sa++[[.int .i64 x.dr,.int .i64 x.lt,.int .i64 x.dr,.int .i64 (IntKind.i64.wrap (x.lt-1)),.int .i64 x.nu,.bool true]]:=(by rw[hL,e,List.map_append];rfl);have e2:M.length=L.length+1:=(by rw[hL,e];simp);rcases hK with ⟨rfl,e0⟩ | ⟨hk,ne⟩
         . have t1:=more 116 hne (by simp);refine Qga ?_;simp only[sqT,sqO,if_true];simp -implicitDefEqProofs[hi,hlx,hnx,wi];refine Ye.of hh (by simp[pF,AV.pure]) ?_;simp -implicitDefEqProofs[wi,z1,hnx,v1,v2];refine nxt 116 t1 _ ?_;rw[e0,List.map_nil,List.nil_append]at e1;rw[e0,List.length_nil]at e2;simp only[bnS,hMM,e1,e2,sqT,sqO,if_false,Nat.reduceEqDiff]
           ((try simp only[kF]);refine Yn.sub (by simp[lk,Ya,AV.keys,kF]) ?_;simp only[kF,Wkl,and_true];(try simp[lk,Yd,Ya,AV.keys,kF]))
         . have t1:=more κ hne hk;have:κ=102∨κ=116:=(by simpa using hk);rcases this with rfl|rfl
           all_goals
            refine Qga ?_;simp only[sqT,sqO,if_false,Nat.reduceEqDiff];simp -implicitDefEqProofs[hi,hlx,hnx,wi];refine Ye.of hh (by simp[pF,AV.pure]) ?_;simp -implicitDefEqProofs[wi,b1,b2,z1,hnx,v1,v2];refine nxt _ t1 _ ?_;simp only[bnS,hMM,e2,sqT,sqO,if_false,Nat.reduceEqDiff]
            try simp only[List.append_assoc,List.cons_append,List.nil_append]
            rw[<- e1]
            ((try simp only[kF]);refine Yn.sub (by simp[lk,Ya,AV.keys,kF]) ?_;simp only[kF,Wkl,Zi8,and_true];(try simp[lk,Yd,Ya,AV.keys,kF]))
       . rw [if_neg p1]at v1;rw[if_neg p2]at v2;have e:ntP F x=[]:=(by simp[ntP,z1,p1,p2]);rcases hK with hz | ⟨hk,ne⟩
         . obtain ⟨t1,t2⟩:=same κ e (.inl hz);obtain ⟨rfl,e0⟩:=hz;refine Qga ?_;simp only[sqT,sqO,if_true];simp -implicitDefEqProofs[hi,hlx,hnx,wi];refine Ye.of hh (by simp[pF,AV.pure]) ?_;simp -implicitDefEqProofs[wi,z1,hnx,v1,v2];refine nxt 0 t1 _ ?_;simp only[bnS,hMM,sqT,sqO,if_true,if_false]
           ((try simp only[kF]);refine Yn.sub (by simp[lk,Ya,AV.keys,kF]) ?_;simp only[kF,Wkl,and_true];(try simp[lk,Yd,Ya,AV.keys,kF]))
         . obtain ⟨t1,t2⟩:=same κ e (.inr ⟨hk,ne⟩);have:κ=102∨κ=116:=(by simpa using hk);rcases this with rfl|rfl
           all_goals
            refine Qga ?_;simp only[sqT,sqO,if_false,Nat.reduceEqDiff];simp -implicitDefEqProofs[hi,hlx,hnx,wi];refine Ye.of hh (by simp[pF,AV.pure]) ?_;simp -implicitDefEqProofs[wi,z1,hnx,v1,v2];refine nxt _ t1 _ ?_;simp only[bnS,hMM,t2,sqT,sqO,if_false,Nat.reduceEqDiff]
            ((try simp only[kF]);refine Yn.sub (by simp[lk,Ya,AV.keys,kF]) ?_;simp only[kF,Wkl,Zi8,and_true];(try simp[lk,Yd,Ya,AV.keys,kF]))
     . have e:ntP F x=[]:=(by simp[ntP,z1]);rcases hK with hz | ⟨hk,ne⟩
       . obtain ⟨t1,t2⟩:=same κ e (.inl hz);obtain ⟨rfl,e0⟩:=hz;refine Qga ?_;simp only[sqT,sqO,if_true];simp -implicitDefEqProofs[hi,hlx,hnx,wi];refine Ye.of hh (by simp[pF,AV.pure]) ?_;simp -implicitDefEqProofs[wi,z1];refine nxt 0 t1 _ ?_;simp only[bnS,hMM,sqT,sqO,if_true,if_false]
         ((try simp only[kF]);refine Yn.sub (by simp[lk,Ya,AV.keys,kF]) ?_;simp only[kF,Wkl,and_true];(try simp[lk,Yd,Ya,AV.keys,kF]))
       . obtain ⟨t1,t2⟩:=same κ e (.inr ⟨hk,ne⟩);have:κ=102∨κ=116:=(by simpa using hk);rcases this with rfl|rfl
         all_goals
          refine Qga ?_;simp only[sqT,sqO,if_false,Nat.reduceEqDiff];simp -implicitDefEqProofs[hi,hlx,hnx,wi];refine Ye.of hh (by simp[pF,AV.pure]) ?_;simp -implicitDefEqProofs[wi,z1];refine nxt _ t1 _ ?_;simp only[bnS,hMM,t2,sqT,sqO,if_false,Nat.reduceEqDiff]
          ((try simp only[kF]);refine Yn.sub (by simp[lk,Ya,AV.keys,kF]) ?_;simp only[kF,Wkl,Zi8,and_true];(try simp[lk,Yd,Ya,AV.keys,kF]))
   . obtain rfl:i=D.length:=(by omega);rcases hK with ⟨rfl,e0⟩ | ⟨hk,ne⟩
     . refine Qga ?_;simp only[sqT,sqO,if_true];simp -implicitDefEqProofs[];refine Qgr ?_;simp -implicitDefEqProofs[Yh,e0,Z7W]
     . have:κ=102∨κ=116:=(by simpa using hk);rcases this with rfl|rfl
       all_goals
        refine Qga ?_;simp only[sqT,sqO,if_false,Nat.reduceEqDiff];simp -implicitDefEqProofs[];refine Qgr ?_;simp -implicitDefEqProofs[Yh,ne,Z7W,sa]
end
def tnN (l:List Nte) (s:List Int) (i:Nat):List Int:=((l.take i).filter λx=>decide (x.nu∈s)).map (·.nu)
theorem Ziy {l:List Nte} {s:List Int} {i:Nat} (h:i<l.length):tnN l s (i+1)=if l[i].nu∈s then tnN l s i++[l[i].nu] else tnN l s i:=by
 unfold tnN;rw[List.take_succ_eq_append_getElem h,List.filter_append]
 split
 . rename_i e;rw[List.filter_cons_of_pos (by simpa using e),List.map_append];rfl
 . rename_i e;rw[List.filter_cons_of_neg (by simpa using e)];simp
theorem Ziz (l:List Nte) (s:List Int) (i:Nat):(tnN l s i).length<=i:=by
 unfold tnN;rw[List.length_map];exact Nat.le_trans (List.length_filter_le _ _) (by simp;omega)
def dnT (l:List Nte) (i:Nat):List (List AV):=(l.take i).map na
theorem ZiA {l:List Nte} {i:Nat} (h:i<=l.length):(dnT l i).length=i:=by simp[dnT];omega
theorem ZiB {l:List Nte} {i:Nat} (h:i<l.length):dnT l (i+1)=dnT l i++[na l[i]]:=by unfold dnT;rw[List.take_succ_eq_append_getElem h,List.map_append];rfl
theorem ZiC (o:List (Nat×AObj)) (l:List Nte) (i:Nat):Yd o (.row 10 (dnT l i))=true:=Zi1 o _
def blO (r:List Iss) (l:List Nte) (s:List Int) (cells:List AV) (i:Nat):List (Nat×AObj) :=
 if i=0 then [(1,.box cells),(3,.box [.vsl (r.map isa),.nils])] else if tnN l s i=[] then [(1,.box cells),(3,.box [.vsl (r.map isa),.osl 42 i]),(42,.row 10 (dnT l i))]
 else [(1,.box cells),(3,.box [.vsl (r.map isa),.osl 42 i]),(42,.row 10 (dnT l i)),(53,.row 1 ((tnN l s i).map ia))]
def blT (l:List Nte) (s:List Int) (i:Nat):AV:=if tnN l s i=[] then .nils else .osl 53 (tnN l s i).length
section
variable {G:Nat->Option (List AV)}
def moC (r:List Iss) (l:List Nte) (q:List Rul) (s:List Int) (m day:Int):List AV:=[Yl r l q,.vsl (s.map ia),.int .i64 m,.int .i64 day]
theorem ZiD (r:List Iss) (q:List Rul) (F:List Int) (er:Int) (l:List Nte) (s:List Int) (i:Nat) (m day:Int) (hi:i<=l.length) (hl:l.length<=12) (hw:WfN l) (hF:F.length<=16) (R:Run) (hrd:R.Top)
  (hf:PC Tryz.prog R.G 22 [.agg [.vsl (r.map isa),Yh ((l.take i).map na)],Yh ((sortI (tnN l s i)).map ia),.int .i64 m] (.tup [Yh (F.map ia),.int .i64 er])) :
  AR Tryz.prog R (dropZ 4 Z7V) ⟨[(1,.ptr 1 0),(3,.ptr 3 0),(4,blT l s i)],blO r l s (moC r l q s m day) i⟩ (Fin Z7W (Yh ((nsP F (l.take i) (l.take i).length).map sa))):=by
 have hwT:WfN (l.take i):=⟨by unfold Sml;simp;omega,λx hx=>hw.2 x (List.mem_of_mem_take hx)⟩;have pS:(Yl r l q).pure=true:=(by unfold Yl rfA;split <;> simp[AV.pure,isa,na,ra,rfa]);have kS:(Yl r l q).keys=[]:=(by unfold Yl;simp[AV.keys]);have eS:Yl r l q = .vptr [.vsl (r.map isa),.vsl (l.map na),.vsl (q.map ra),rfA r] 0:=rfl;have rest:=Zix r F er (l.take i) (sortI (tnN l s i)) (moC r l q s m day) m (by simp;omega) hwT hF R hrd rfl rfl (by simp[moC,kS,AV.keys]) hf;have tl:=Ziz l s i;refine ZeL (S:=⟨[(1,.ptr 1 0),(3,.vptr [.vsl (r.map isa),Yh ((l.take i).map na)] 0),(4,Yh ((sortI (tnN l s i)).map ia))],[(1,.box (moC r l q s m day))]⟩) (Qga ?_) rest;have e0:sortI []=[]:=(by simp[sortI]);unfold blO blT
 cases i with
 | zero =>
   have et:tnN l s 0=[]:=(by simp[tnN]);simp only[et,if_true,e0,List.take_zero,List.map_nil];simp -implicitDefEqProofs[Yh];refine Qco (Zh6) (by simp) ?_;simp -implicitDefEqProofs[];refine Yn.trans (Yn.frz (λk=>k == 3||k == 42||k == 53) _) ?_;rw[moC,eS]
   ((try simp only[Yj,frzA,frzO,frz,Yi,Yk,St.get,AV.pure]);refine Yn.sub (by simp[lk,Ya,AV.keys,Yj,frzA,frzO,frz,Yi,Yk,St.get,AV.pure]) ?_;simp only[Yj,frzA,frzO,frz,Yi,Yk,St.get,AV.pure,Wkl,and_true];(try simp[lk,Yd,Ya,AV.keys,Yj,frzA,frzO,frz,Yi,Yk,St.get,AV.pure]))
 | succ i =>
   have hne:¬i+1=0:=by omega
   have hn2:¬(l.take (i+1)).map na=[]:=λh=>by
    have:=congrArg List.length h;rw[List.length_map,List.length_take,List.length_nil]at this;omega
   have ev:Yh ((l.take (i+1)).map na) = .vsl (dnT l (i+1)):=(by unfold Yh;rw[if_neg hn2];rfl);have dl:=ZiA hi
   have dp:∀ x∈dnT l (i+1),∀ y∈x,y.pure=true:=λx hx y hy=>by
    obtain ⟨z,-,rfl⟩:=List.mem_map.1 hx;simp only[na,List.mem_cons,List.not_mem_nil,or_false]at hy;rcases hy with rfl|rfl|rfl|rfl|rfl|rfl|rfl|rfl|rfl|rfl <;> simp[AV.pure]
   have dp2:=eq_true dp;rw[ev];by_cases c:tnN l s (i+1)=[]
   . simp only[c,hne,if_true,if_false,e0,List.map_nil];simp -implicitDefEqProofs[Yh];refine Qco (Zh6) (by simp) ?_;simp -implicitDefEqProofs[];refine Yn.trans (Yn.frz (λk=>k == 3||k == 42||k == 53) _) ?_;rw[moC,eS]
     ((try simp only[Yj,frzA,frzO,frz,Yi,Yk,St.get,AV.pure,dl,dp2]);refine Yn.sub (by simp[lk,Ya,AV.keys,Yj,frzA,frzO,frz,Yi,Yk,St.get,AV.pure,dl,dp2]) ?_;simp only[Yj,frzA,frzO,frz,Yi,Yk,St.get,AV.pure,dl,dp2,Wkl,and_true];(try simp[lk,Yd,Ya,AV.keys,Yj,frzA,frzO,frz,Yi,Yk,St.get,AV.pure,dl,dp2]))
   . have hsp:=Zh3 (G:=R.G) (tnN l s (i+1)) (by omega);have sl:=Zeb (tnN l s (i+1));have sn:¬(sortI (tnN l s (i+1))).map ia=[]:=λh=>c (List.length_eq_zero_iff.1 (by rw[<- sl,List.map_eq_nil_iff.1 h];rfl))
     have et:Yh ((sortI (tnN l s (i+1))).map ia) = .vsl ((sortI (tnN l s (i+1))).map ia):=(by unfold Yh;rw[if_neg sn]);rw[et];simp only[c,hne,if_false];simp -implicitDefEqProofs[];refine Ye.sem (Z1B.byref hsp (λ_=>53) (by simp) (by simp) (by simp[St.get,lk,ZgV]) (by simp[ZgW]) (by simp[Ya,AV.keys,lk]) rfl (by simp[AV.ren]) rfl rfl) ?_;simp -implicitDefEqProofs[Ym,ZgV];refine Yn.trans (Yn.frz (λk=>k == 3||k == 42||k == 53) _) ?_;rw[moC,eS]
     ((try simp only[Yj,frzA,frzO,frz,Yi,Yk,St.get,AV.pure,dl,dp2,sl,ia]);refine Yn.sub (by simp[lk,Ya,AV.keys,Yj,frzA,frzO,frz,Yi,Yk,St.get,AV.pure,dl,dp2,sl,ia]) ?_;simp only[Yj,frzA,frzO,frz,Yi,Yk,St.get,AV.pure,dl,dp2,sl,ia,Wkl,and_true];(try simp[lk,Yd,Ya,AV.keys,Yj,frzA,frzO,frz,Yi,Yk,St.get,AV.pure,dl,dp2,sl,ia]))
def blS (r:List Iss) (l:List Nte) (q:List Rul) (s:List Int) (m day:Int) (i:Nat):St :=
 ⟨[(29,.int .i64 i),(28,.int .i64 l.length),(27,.vsl (l.map na)),(1,.ptr 1 0),(3,.ptr 3 0),(4,blT l s i)],blO r l s (moC r l q s m day) i⟩
set_option maxHeartbeats 2000000 in
theorem ZiE (hG:GC G) (hN:GN G) (r:List Iss) (l:List Nte) (q:List Rul) (s:List Int) (m day:Int) (hw:WfN l) (hr:Wf r) (hl:l.length<=12) (hs:Sml s) (k:Nat) (hk:k<=l.length) (h1:∀ j (h:j<l.length),j<k->l[j].dy<=day) (h2:∀ h:k<l.length,day<l[k].dy) :
  PC Tryz.prog G 182 [.agg (moC r l q s m day)] (Yh ((nsP (fcE r (l.take k) (sortI (tnN l s k)) m).1 (l.take k) (l.take k).length).map sa)):=by
 have hwD:WfN (l.take k):=⟨by unfold Sml;simp;omega,λx hx=>hw.2 x (List.mem_of_mem_take hx)⟩;have tl:=Ziz l s k;have hsT:Sml (sortI (tnN l s k)):=(by unfold Sml;rw[Zeb];omega);have hf:=PC.sub (ZhN hG hN r (l.take k) (sortI (tnN l s k)) m hwD hr hsT) (xs:=[.agg [.vsl (r.map isa),Yh ((l.take k).map na)],Yh ((sortI (tnN l s k)).map ia),.int .i64 m]) ⟨.agg ⟨.rfl',.orNil _,trivial⟩,.orNil _,.rfl',trivial⟩;unfold fcA at hf
 have hFl:(fcE r (l.take k) (sortI (tnN l s k)) m).1.length<=16:=by
  unfold fcE
  split
  . have:=Ze6 (sortI (tnN l s k)) [] m (l.take k) (l.take k).length;have:(l.take k).length<=12:=(by simp;omega);simp only;omega
  . simp
 generalize (fcE r (l.take k) (sortI (tnN l s k)) m).1=F at *;generalize (fcE r (l.take k) (sortI (tnN l s k)) m).2=er at *;have eS:Yl r l q = .vptr [.vsl (r.map isa),.vsl (l.map na),.vsl (q.map ra),rfA r] 0:=rfl;have kS:(Yl r l q).keys=[]:=(by unfold Yl;simp[AV.keys]);have hcs:=λn=>Zhg (G:=G) s n hs
 refine Z7X rfl λR hG hrd=>?_
 subst hG;have fin:=ZiD r q F er l s k m day hk hl hw hFl R hrd hf;generalize Yh ((nsP F (l.take k) (l.take k).length).map sa)=RES at *;refine Qga ?_;simp -implicitDefEqProofs[Z7V,moC,eS];refine Z1Q (blS r l q s m day) (λi=>i<=k) (λi=>k-i) 0 ?_ (Nat.zero_le _) ?_
 . have et:tnN l s 0=[]:=(by simp[tnN]);simp only[blS,blO,blT,et,if_true,moC,eS]
   (refine Yn.sub (by simp[lk,Ya,AV.keys]) ?_;simp only[Wkl,and_true];(try simp[lk,Yd,Ya,AV.keys]))
 . intro i hik;rcases Nat.lt_or_ge i k with hi|hi
   . have hli:i<l.length:=(by omega);have hdy:=h1 i hli hi;have ts:=Ziy (s:=s) hli;have dc:=ZiB hli;have dl:=ZiA (l:=l) (i:=i) (by omega);have bb:(i+1)*72<=70368744177664:=(by omega);have tl:=Ziz l s i;have b8:((tnN l s i).length+1)*8<=70368744177664:=(by omega);obtain ⟨x,hxx⟩ : ∃ x,x=l[i]:=⟨_,rfl⟩;have hlx:l[i]=x:=hxx.symm;have hnx:na x=[.int .i64 x.nu,.int .i64 x.dy,.int .u8 x.sg,.int .i64 x.dr,.int .i64 x.lt,.int .i64 x.fr,.int .i64 x.tu,.int .i64 x.ca,.bool x.up,.int .u8 x.wy]:=rfl;rw[hlx]at hdy ts dc;rw[hnx]at dc;have hdy:¬day<x.dy:=(by omega);obtain ⟨i1,hi1⟩ : ∃ i1,i1=i+1:=⟨_,rfl⟩;obtain ⟨i0,hi0⟩ : ∃ i0,i0=i:=⟨_,rfl⟩;have hn1:¬i1=0:=(by omega);have ms:k-i1<k-i:=by omega
     cases i with
     | zero =>
       have et:tnN l s 0=[]:=(by simp[tnN]);have d0:dnT l 0=[]:=rfl;rw[d0,List.nil_append]at dc;have wi:IntKind.i64.wrap 1=1:=rfl;have k1:True:=trivial;have k2:True:=trivial;have k3:True:=trivial;by_cases hm:x.nu∈s
       . rw[if_pos hm]at ts;rw[<- hi1]at ts dc;have tc:=ts;refine Qga ?_;simp only[blS,blO,blT,moC,eS,et,if_true];simp -implicitDefEqProofs[hli,hlx,hnx,hdy,dl,bb,k1,k2,k3];refine Qco (hcs x.nu) (by simp) ?_;simp -implicitDefEqProofs[hm,wi,b8,hlx,hnx];refine ⟨i1,?_,(by omega),ms⟩;have ne1:tnN l s i1≠[]:=(by rw[tc];simp);have e1:(tnN l s i1).map ia=(tnN l s 0).map ia++[[AV.int .i64 x.nu]]:=(by rw[tc,List.map_append];rfl);have e2:(tnN l s i1).length=(tnN l s 0).length+1:=(by rw[tc];simp);simp only[blS,blO,blT,moC,eS,ne1,hn1,if_false];rw[et,List.map_nil,List.nil_append]at e1;rw[et,List.length_nil]at e2;rw[e1,e2];rw[dc];subst hi1
         ((try simp only[hnx]);refine Yn.sub (by simp[lk,Ya,AV.keys,hnx]) ?_;simp only[hnx,Wkl,ZiC,ZgW,and_true];(try simp[lk,Yd,Ya,AV.keys,hnx]))
       . rw[if_neg hm]at ts;rw[<- hi1]at ts dc;have tc:=ts;refine Qga ?_;simp only[blS,blO,blT,moC,eS,et,if_true];simp -implicitDefEqProofs[hli,hlx,hnx,hdy,dl,bb,k1,k2,k3];refine Qco (hcs x.nu) (by simp) ?_;simp -implicitDefEqProofs[hm,wi,b8,hlx,hnx];refine ⟨i1,?_,(by omega),ms⟩;simp only[blS,blO,blT,moC,eS,tc,et,hn1,if_true,if_false];rw[dc];subst hi1
         ((try simp only[hnx]);refine Yn.sub (by simp[lk,Ya,AV.keys,hnx]) ?_;simp only[hnx,Wkl,ZiC,ZgW,and_true];(try simp[lk,Yd,Ya,AV.keys,hnx]))
     | succ j =>
       have hne:¬j+1=0:=(by omega);have k1:(j:Int)+1<l.length:=(by omega);have k2:((j:Int)+1).toNat=j+1:=(by omega);have k3:(0:Int)<=(j:Int)+1:=(by omega);have wi:IntKind.i64.wrap ((j:Int)+1+1)=(j:Int)+1+1:=Yg (by omega) (by omega);by_cases hm:x.nu∈s
       . rw[if_pos hm]at ts;by_cases c:tnN l s (j+1)=[]
         . rw[<- hi1]at ts dc;have tc:=ts;refine Qga ?_;simp only[blS,blO,blT,moC,eS,c,hne,if_true,if_false];simp -implicitDefEqProofs[hli,hlx,hnx,hdy,dl,bb,k1,k2,k3];refine Qco (hcs x.nu) (by simp) ?_;simp -implicitDefEqProofs[hm,wi,b8,hlx,hnx];refine ⟨i1,?_,(by omega),ms⟩;have ne1:tnN l s i1≠[]:=(by rw[tc];simp);have e1:(tnN l s i1).map ia=(tnN l s (j+1)).map ia++[[AV.int .i64 x.nu]]:=(by rw[tc,List.map_append];rfl);have e2:(tnN l s i1).length=(tnN l s (j+1)).length+1:=(by rw[tc];simp);simp only[blS,blO,blT,moC,eS,ne1,hn1,if_false];rw[c,List.map_nil,List.nil_append]at e1;rw[c,List.length_nil]at e2;rw[e1,e2];rw[<- dc];subst hi1
           ((try simp only[hnx]);refine Yn.sub (by simp[lk,Ya,AV.keys,hnx]) ?_;simp only[hnx,Wkl,ZiC,ZgW,and_true];(try simp[lk,Yd,Ya,AV.keys,hnx]))
         . rw[<- hi1]at ts dc;have tc:=ts;refine Qga ?_;simp only[blS,blO,blT,moC,eS,c,hne,if_false];simp -implicitDefEqProofs[hli,hlx,hnx,hdy,dl,bb,k1,k2,k3];refine Qco (hcs x.nu) (by simp) ?_;simp -implicitDefEqProofs[hm,wi,b8,hlx,hnx];refine ⟨i1,?_,(by omega),ms⟩;have ne1:tnN l s i1≠[]:=(by rw[tc];simp);have e1:(tnN l s i1).map ia=(tnN l s (j+1)).map ia++[[AV.int .i64 x.nu]]:=(by rw[tc,List.map_append];rfl);have e2:(tnN l s i1).length=(tnN l s (j+1)).length+1:=(by rw[tc];simp);simp only[blS,blO,blT,moC,eS,ne1,hn1,if_false];rw[<- e1,e2];rw[<- dc];subst hi1
           ((try simp only[hnx]);refine Yn.sub (by simp[lk,Ya,AV.keys,hnx]) ?_;simp only[hnx,Wkl,ZiC,ZgW,and_true];(try simp[lk,Yd,Ya,AV.keys,hnx]))
       . rw[if_neg hm]at ts;by_cases c:tnN l s (j+1)=[]
         . rw[<- hi1]at ts dc;have tc:=ts;refine Qga ?_;simp only[blS,blO,blT,moC,eS,c,hne,if_true,if_false];simp -implicitDefEqProofs[hli,hlx,hnx,hdy,dl,bb,k1,k2,k3];refine Qco (hcs x.nu) (by simp) ?_;simp -implicitDefEqProofs[hm,wi,b8,hlx,hnx];refine ⟨i1,?_,(by omega),ms⟩;simp only[blS,blO,blT,moC,eS,tc,c,hn1,if_true,if_false];rw[<- dc];subst hi1
           ((try simp only[hnx]);refine Yn.sub (by simp[lk,Ya,AV.keys,hnx]) ?_;simp only[hnx,Wkl,ZiC,ZgW,and_true];(try simp[lk,Yd,Ya,AV.keys,hnx]))
         . rw[<- hi1]at ts dc;have tc:=ts;refine Qga ?_;simp only[blS,blO,blT,moC,eS,c,hne,if_false];simp -implicitDefEqProofs[hli,hlx,hnx,hdy,dl,bb,k1,k2,k3];refine Qco (hcs x.nu) (by simp) ?_;simp -implicitDefEqProofs[hm,wi,b8,hlx,hnx];refine ⟨i1,?_,(by omega),ms⟩;simp only[blS,blO,blT,moC,eS,tc,c,hn1,if_false];rw[<- dc];subst hi1
           ((try simp only[hnx]);refine Yn.sub (by simp[lk,Ya,AV.keys,hnx]) ?_;simp only[hnx,Wkl,ZiC,ZgW,and_true];(try simp[lk,Yd,Ya,AV.keys,hnx]))
   . obtain rfl:i=k:=(by omega);rcases Nat.lt_or_ge i l.length with hli|hli
     . have hdy:=h2 hli;obtain ⟨x,hxx⟩ : ∃ x,x=l[i]:=⟨_,rfl⟩;have hlx:l[i]=x:=hxx.symm;rw[hlx]at hdy;have hnx:na x=[.int .i64 x.nu,.int .i64 x.dy,.int .u8 x.sg,.int .i64 x.dr,.int .i64 x.lt,.int .i64 x.fr,.int .i64 x.tu,.int .i64 x.ca,.bool x.up,.int .u8 x.wy]:=rfl
       cases i with
       | zero =>
         have et:tnN l s 0=[]:=(by simp[tnN]);refine Qga ?_;simp only[blS,blO,blT,moC,eS,et,if_true]at fin ⊢;simp -implicitDefEqProofs[hli,hlx,hnx,hdy];refine Z2M Yb 2 ?_;simp -implicitDefEqProofs[];refine GOz (Z2L ?_ fin)
         (refine Yn.sub (by simp[lk,Ya,AV.keys]) ?_;simp only[Wkl,ZiC,ZgW,and_true];(try simp[lk,Yd,Ya,AV.keys]))
       | succ j =>
         have hne:¬j+1=0:=(by omega);have k1:(j:Int)+1<l.length:=(by omega);have k2:((j:Int)+1).toNat=j+1:=(by omega);have k3:(0:Int)<=(j:Int)+1:=(by omega);by_cases c:tnN l s (j+1)=[]
         . refine Qga ?_;simp only[blS,blO,blT,moC,eS,c,hne,if_true,if_false]at fin ⊢;simp -implicitDefEqProofs[hli,hlx,hnx,hdy,k1,k2,k3];refine Z2M Yb 2 ?_;simp -implicitDefEqProofs[];refine GOz (Z2L ?_ fin)
           (refine Yn.sub (by simp[lk,Ya,AV.keys]) ?_;simp only[Wkl,ZiC,ZgW,and_true];(try simp[lk,Yd,Ya,AV.keys]))
         . refine Qga ?_;simp only[blS,blO,blT,moC,eS,c,hne,if_false]at fin ⊢;simp -implicitDefEqProofs[hli,hlx,hnx,hdy,k1,k2,k3];refine Z2M Yb 2 ?_;simp -implicitDefEqProofs[];refine GOz (Z2L ?_ fin)
           (refine Yn.sub (by simp[lk,Ya,AV.keys]) ?_;simp only[Wkl,ZiC,ZgW,and_true];(try simp[lk,Yd,Ya,AV.keys]))
     . cases i with
       | zero =>
         have et:tnN l s 0=[]:=(by simp[tnN]);have z:decide (0<l.length)=false:=decide_eq_false (by omega);have z2:¬0<l.length:=(by omega);refine Qga ?_;simp only[blS,blO,blT,moC,eS,et,if_true]at fin ⊢;simp -implicitDefEqProofs[z2];refine Z2M Yb 2 ?_;simp -implicitDefEqProofs[];refine GOz (Z2L ?_ fin)
         (refine Yn.sub (by simp[lk,Ya,AV.keys]) ?_;simp only[Wkl,ZiC,ZgW,and_true];(try simp[lk,Yd,Ya,AV.keys]))
       | succ j =>
         have hne:¬j+1=0:=(by omega);have z:¬(j:Int)+1<l.length:=(by omega);by_cases c:tnN l s (j+1)=[]
         . refine Qga ?_;simp only[blS,blO,blT,moC,eS,c,hne,if_true,if_false]at fin ⊢;simp -implicitDefEqProofs[z];refine Z2M Yb 2 ?_;simp -implicitDefEqProofs[];refine GOz (Z2L ?_ fin)
           (refine Yn.sub (by simp[lk,Ya,AV.keys]) ?_;simp only[Wkl,ZiC,ZgW,and_true];(try simp[lk,Yd,Ya,AV.keys]))
         . refine Qga ?_;simp only[blS,blO,blT,moC,eS,c,hne,if_false]at fin ⊢;simp -implicitDefEqProofs[z];refine Z2M Yb 2 ?_;simp -implicitDefEqProofs[];refine GOz (Z2L ?_ fin)
           (refine Yn.sub (by simp[lk,Ya,AV.keys]) ?_;simp only[Wkl,ZiC,ZgW,and_true];(try simp[lk,Yd,Ya,AV.keys]))
end
def rlP (b:Bool) (x:Rul):List Stq:=if b=true/\¬(x.fd=x.td/\x.fl=x.tl) then
    [⟨x.fd,x.fl,x.td,x.tl,x.nu,false⟩]++(if x.bo=true then [⟨x.td,x.tl,x.fd,x.fl,x.nu,false⟩] else [])
 else []
def rsP (day:Int) (q:List Rul) (i:Nat):List Stq:=((List.range q.length).take i).flatMap λj=>rlP (sB day q j) (rAt q j)
theorem ZiF {day:Int} {q:List Rul} {i:Nat} (h:i<q.length):rsP day q (i+1)=rsP day q i++rlP (sB day q i) q[i]:=by
 have h1:i<(List.range q.length).length:=(by simpa using h);unfold rsP;rw[List.take_succ_eq_append_getElem h1,List.flatMap_append,List.getElem_range];simp[Zek h]
theorem ZiG (b:Bool) (x:Rul):(rlP b x).length<=2:=by unfold rlP;split <;> (try split) <;> simp
theorem ZiH (day:Int) (q:List Rul):∀ i,i<=q.length->(rsP day q i).length<=2*i
 |0,_=>by simp[rsP]
 |i+1,h=>by rw[ZiF h,List.length_append];have:=ZiH day q i (by omega);have:=ZiG (sB day q i) q[i];omega
section
variable {G:Nat->Option (List AV)}
def brS (r:List Iss) (l:List Nte) (q:List Rul) (s:List Int) (m day:Int) (x:Nat×Nat):St :=
 ⟨[(13,.int .i64 x.1),(12,.int .i64 q.length),(11,.vsl (q.map ra)),(3,sqT x.2 (rsP day q x.1)),(1,.ptr 1 0)],sqO x.2 (rsP day q x.1)++[(1,.box (moC r l q s m day))]⟩
set_option maxHeartbeats 4000000 in
theorem ZiI (r:List Iss) (l:List Nte) (q:List Rul) (s:List Int) (m day:Int) (hq:q.length<=16) :
  PC Tryz.prog G 183 [.agg (moC r l q s m day)] (Yh ((rsP day q q.length).map sa)):=by
 have hst:=λi hi=>Zio (G:=G) r l q day hq q.length i hi (by omega)
 have pS:(Yl r l q).pure=true:=(by unfold Yl rfA;split <;> simp[AV.pure,isa,na,ra,rfa]);have kS:(Yl r l q).keys=[]:=(by unfold Yl;simp[AV.keys]);have eS:Yl r l q = .vptr [.vsl (r.map isa),.vsl (l.map na),.vsl (q.map ra),rfA r] 0:=rfl;refine Z80 rfl λR hG hrd=>?_
 subst hG;refine Qga ?_;simp -implicitDefEqProofs[Z7Y,Z7Z,moC,eS];refine Z1Q (brS r l q s m day) (λx=>x.1<=q.length/\KeyOk [41,53] x.2 (rsP day q x.1)) (λx=>q.length-x.1) (0,0) ?_ ⟨Nat.zero_le _,.inl ⟨rfl,rfl⟩⟩ ?_
 . simp only[brS,moC,eS,sqT,sqO,if_true,List.nil_append]
   (refine Yn.sub (by simp[lk,Ya,AV.keys]) ?_;simp only[Wkl,and_true];(try simp[lk,Yd,Ya,AV.keys]))
 . rintro ⟨i, κ⟩ ⟨hi0,hK⟩;simp only[brS,moC]at hi0 hK ⊢;have bl:=ZiH day q i hi0;rcases Nat.lt_or_ge i q.length with hi|hi
   . have sc := ZiF (day:=day) hi;have wi:IntKind.i64.wrap ((i:Int)+1)=((i+1:Nat):Int):=(by rw[Yg (by omega) (by omega)];omega);have hst:=hst i hi;obtain ⟨x,hxx⟩ : ∃ x,x=q[i]:=⟨_,rfl⟩;have hlx:q[i]=x:=hxx.symm;rw[hlx]at sc;have hra:ra x=[.int .i64 x.nu,.int .i64 x.dy,.int .i64 x.fd,.int .i64 x.fl,.int .i64 x.td,.int .i64 x.tl,.bool x.bo,.int .i64 x.br]:=rfl;have b1:=sixB (rsP day q i).length (by omega);have b2:=sixC (rsP day q i).length (by omega);have hL:rsP day q (i+1)=rsP day q i++rlP (sB day q i) x:=sc;have nxt:∀ κ2,KeyOk [41,53] κ2 (rsP day q (i+1))->∀ st,Yn st (brS r l q s m day (i+1,κ2))->∃ x:Nat×Nat,Yn st (brS r l q s m day x)/\(x.1<=q.length/\KeyOk [41,53] x.2 (rsP day q x.1))/\q.length-x.1<q.length-i:=λκ2 h st hw=>⟨(i+1,κ2),hw,⟨hi,h⟩,by show q.length-(i+1)<q.length-i;omega⟩
     have same:∀ κ2,rlP (sB day q i) x=[]->KeyOk [41,53] κ2 (rsP day q i)->KeyOk [41,53] κ2 (rsP day q (i+1))/\rsP day q (i+1)=rsP day q i:=λκ2 h hk=>by rw[hL,h,List.append_nil];exact ⟨hk,rfl⟩
     have more:∀ κ2,rlP (sB day q i) x≠[]->κ2∈[41,53]->KeyOk [41,53] κ2 (rsP day q (i+1)):=λκ2 h hk=>.inr ⟨hk,by rw[hL];intro e;exact h (List.append_eq_nil_iff.1 e).2⟩
     generalize hLL:rsP day q i=L at *;generalize hMM:rsP day q (i+1)=M at *;by_cases z:x.fd=x.td/\x.fl=x.tl
     . have e:rlP (sB day q i) x=[]:=(by simp[rlP,z]);have f1:(decide (x.fd=x.td)&&decide (x.fl=x.tl))=true:=(by simp[z]);rcases hK with hz | ⟨hk,ne⟩
       . obtain ⟨s1,s2⟩:=same κ e (.inl hz);obtain ⟨rfl,e0⟩:=hz;refine Qga ?_;simp only[sqT,sqO,if_true,List.nil_append];simp -implicitDefEqProofs[hi,hlx,hra,wi,z.1,z.2];refine nxt 0 s1 _ ?_;simp only[brS,hMM,sqT,sqO,if_true,List.nil_append]
         ((try simp only[moC,kS]);refine Yn.sub (by simp[lk,Ya,AV.keys,moC,kS]) ?_;simp only[moC,kS,Wkl,and_true];(try simp[lk,Yd,Ya,AV.keys,moC,kS]))
       . obtain ⟨s1,s2⟩:=same κ e (.inr ⟨hk,ne⟩);have:κ=41∨κ=53:=(by simpa using hk);rcases this with rfl|rfl
         all_goals
          refine Qga ?_;simp only[sqT,sqO,if_false,List.cons_append,List.nil_append,Nat.reduceEqDiff];simp -implicitDefEqProofs[hi,hlx,hra,wi,z.1,z.2];refine nxt _ s1 _ ?_;simp only[brS,hMM,s2,sqT,sqO,if_false,List.cons_append,List.nil_append,Nat.reduceEqDiff]
          ((try simp only[moC,kS]);refine Yn.sub (by simp[lk,Ya,AV.keys,moC,kS]) ?_;simp only[moC,kS,Wkl,Zi8,and_true];(try simp[lk,Yd,Ya,AV.keys,moC,kS]))
     . have f2:(decide (x.fd=x.td)&&decide (x.fl=x.tl))=false:=by
        cases h:(decide (x.fd=x.td)&&decide (x.fl=x.tl))
        . rfl
        . simp at h;exact absurd h z
       have f3:(!decide (x.fd=x.td) || !decide (x.fl=x.tl))=true:=by
        rw[<- Bool.not_and,f2];rfl
       cases hb:sB day q i
       . rw [hb]at hst hL same;have e:rlP false x=[]:=(by simp[rlP]);rcases hK with hz | ⟨hk,ne⟩
         . obtain ⟨s1,s2⟩:=same κ e (.inl hz);obtain ⟨rfl,e0⟩:=hz;refine Qga ?_;simp only[sqT,sqO,if_true,List.nil_append];simp -implicitDefEqProofs[hi,hlx,hra,wi,f2,f3];refine Ye.of hst (by simp[pS,AV.pure]) ?_;simp -implicitDefEqProofs[wi,hra];refine nxt 0 s1 _ ?_;simp only[brS,hMM,sqT,sqO,if_true,List.nil_append]
           ((try simp only[moC,kS]);refine Yn.sub (by simp[lk,Ya,AV.keys,moC,kS]) ?_;simp only[moC,kS,Wkl,and_true];(try simp[lk,Yd,Ya,AV.keys,moC,kS]))
         . obtain ⟨s1,s2⟩:=same κ e (.inr ⟨hk,ne⟩);have:κ=41∨κ=53:=(by simpa using hk);rcases this with rfl|rfl
           all_goals
            refine Qga ?_;simp only[sqT,sqO,if_false,List.cons_append,List.nil_append,Nat.reduceEqDiff];simp -implicitDefEqProofs[hi,hlx,hra,wi,f2,f3];refine Ye.of hst (by simp[pS,AV.pure]) ?_;simp -implicitDefEqProofs[wi,hra];refine nxt _ s1 _ ?_;simp only[brS,hMM,s2,sqT,sqO,if_false,List.cons_append,List.nil_append,Nat.reduceEqDiff]
            ((try simp only[moC,kS]);refine Yn.sub (by simp[lk,Ya,AV.keys,moC,kS]) ?_;simp only[moC,kS,Wkl,Zi8,and_true];(try simp[lk,Yd,Ya,AV.keys,moC,kS]))
       . rw [hb]at hst hL same more
         cases hbo:x.bo
         . have e:rlP true x=[⟨x.fd,x.fl,x.td,x.tl,x.nu,false⟩]:=(by simp[rlP,z,hbo]);have hne:rlP true x≠[]:=(by rw[e];simp);rw[e]at hL;have e1:M.map sa=L.map sa++[[.int .i64 x.fd,.int .i64 x.fl,.int .i64 x.td,.int .i64 x.tl,.int .i64 x.nu,.bool false]]:=(by rw[hL,List.map_append];rfl);have e2:M.length=L.length+1:=(by rw[hL];simp);rcases hK with ⟨rfl,e0⟩ | ⟨hk,ne⟩
           . have s1:=more 41 hne (by simp);refine Qga ?_;simp only[sqT,sqO,if_true,List.nil_append];simp -implicitDefEqProofs[hi,hlx,hra,wi,f2,f3];refine Ye.of hst (by simp[pS,AV.pure]) ?_;simp -implicitDefEqProofs[wi,hra,hbo];refine nxt 41 s1 _ ?_;rw[e0,List.map_nil,List.nil_append]at e1;rw[e0,List.length_nil]at e2;simp only[brS,hMM,e1,e2,sqT,sqO,if_false,List.cons_append,List.nil_append,Nat.reduceEqDiff]
             ((try simp only[moC,kS]);refine Yn.sub (by simp[lk,Ya,AV.keys,moC,kS]) ?_;simp only[moC,kS,Wkl,and_true];(try simp[lk,Yd,Ya,AV.keys,moC,kS]))
           . have s1:=more κ hne hk;have:κ=41∨κ=53:=(by simpa using hk);rcases this with rfl|rfl
             all_goals
              refine Qga ?_;simp only[sqT,sqO,if_false,List.cons_append,List.nil_append,Nat.reduceEqDiff];simp -implicitDefEqProofs[hi,hlx,hra,wi,f2,f3];refine Ye.of hst (by simp[pS,AV.pure]) ?_;simp -implicitDefEqProofs[wi,hra,hbo,b1,b2];refine nxt _ s1 _ ?_;simp only[brS,hMM,e2,sqT,sqO,if_false,List.cons_append,List.nil_append,Nat.reduceEqDiff]
              try simp only[List.append_assoc,List.cons_append,List.nil_append]
              rw[<- e1]
              ((try simp only[moC,kS]);refine Yn.sub (by simp[lk,Ya,AV.keys,moC,kS]) ?_;simp only[moC,kS,Wkl,Zi8,and_true];(try simp[lk,Yd,Ya,AV.keys,moC,kS]))
         . have e:rlP true x=[⟨x.fd,x.fl,x.td,x.tl,x.nu,false⟩,⟨x.td,x.tl,x.fd,x.fl,x.nu,false⟩]:=(by simp[rlP,z,hbo]);have hne:rlP true x≠[]:=(by rw[e];simp);rw[e]at hL;have e1:M.map sa=L.map sa++[[.int .i64 x.fd,.int .i64 x.fl,.int .i64 x.td,.int .i64 x.tl,.int .i64 x.nu,.bool false],[.int .i64 x.td,.int .i64 x.tl,.int .i64 x.fd,.int .i64 x.fl,.int .i64 x.nu,.bool false]]:=(by rw[hL,List.map_append];rfl);have e2:M.length=L.length+2:=(by rw[hL];simp);rcases hK with ⟨rfl,e0⟩ | ⟨hk,ne⟩
           . have s1:=more 41 hne (by simp);refine Qga ?_;simp only[sqT,sqO,if_true,List.nil_append];simp -implicitDefEqProofs[hi,hlx,hra,wi,f2,f3];refine Ye.of hst (by simp[pS,AV.pure]) ?_;simp -implicitDefEqProofs[wi,hra,hbo];refine nxt 41 s1 _ ?_;rw[e0,List.map_nil,List.nil_append]at e1;rw[e0,List.length_nil]at e2;simp only[brS,hMM,e1,e2,sqT,sqO,if_false,List.cons_append,List.nil_append,Nat.reduceEqDiff]
             ((try simp only[moC,kS]);refine Yn.sub (by simp[lk,Ya,AV.keys,moC,kS]) ?_;simp only[moC,kS,Wkl,and_true];(try simp[lk,Yd,Ya,AV.keys,moC,kS]))
           . have s1:=more κ hne hk;have:κ=41∨κ=53:=(by simpa using hk);rcases this with rfl|rfl
             all_goals
              refine Qga ?_;simp only[sqT,sqO,if_false,List.cons_append,List.nil_append,Nat.reduceEqDiff];simp -implicitDefEqProofs[hi,hlx,hra,wi,f2,f3];refine Ye.of hst (by simp[pS,AV.pure]) ?_;simp -implicitDefEqProofs[wi,hra,hbo,b1,b2];refine nxt _ s1 _ ?_;simp only[brS,hMM,e2,sqT,sqO,if_false,List.cons_append,List.nil_append,Nat.reduceEqDiff]
              try simp only[List.append_assoc,List.cons_append,List.nil_append]
              rw[<- e1]
              ((try simp only[moC,kS]);refine Yn.sub (by simp[lk,Ya,AV.keys,moC,kS]) ?_;simp only[moC,kS,Wkl,Zi8,and_true];(try simp[lk,Yd,Ya,AV.keys,moC,kS]))
   . obtain rfl:i=q.length:=(by omega);refine Qga ?_;rcases hK with ⟨rfl,e0⟩ | ⟨hk,ne⟩
     . simp only[sqT,sqO,if_true,List.nil_append];simp -implicitDefEqProofs[];refine Qgr ?_;simp -implicitDefEqProofs[Yh,e0]
     . have:κ=41∨κ=53:=(by simpa using hk);rcases this with rfl|rfl
       all_goals
        simp only[sqT,sqO,if_false,List.cons_append,List.nil_append,Nat.reduceEqDiff];simp -implicitDefEqProofs[];refine Qgr ?_;simp -implicitDefEqProofs[Yh,ne,sa]
end
theorem ZiJ {r:List Iss} {l:List Nte} {s:List Int} (h:chN r l=0):(fcE r l s 1).2=if truB l s=true then 0 else 31:=by
 have e:asN r l s 1=if truB l s=true then 0 else 31:=by
  unfold asN;rw[if_pos h];have:inR 1 1 999=true:=(by decide);rw[this];simp
 unfold fcE;rw[e]
 split <;> simp_all
def moA (r:List Iss) (l:List Nte) (q:List Rul) (s:List Int) (m d e:Int):AV:=.tup [.agg (if aqN r l q s m d e=0 then moC r l q s m d else [.nilp,.nils,.int .i64 0,.int .i64 0]),.int .i64 (aqN r l q s m d e)]
section
variable {G:Nat->Option (List AV)}
theorem ZiK (hG:GC G) (hN:GN G) (r:List Iss) (l:List Nte) (q:List Rul) (s:List Int) (m d e:Int) (hw:WfN l) (hr:Wf r) (hq:Sml q) (hs:Sml s):PC Tryz.prog G 60 [swa r l q,.vsl (s.map ia),.int .i64 m,.int .i64 d,.int .i64 e] (moA r l q s m d e):=by
 have ho:=Zis hG hN r l q hw hr hq;have hf:=ZhN hG hN r l s 1 hw hr hs;have h1:=Zic (G:=G) 1 999 m;have h2:=Zid (G:=G) 0 14610 d e;have pS:(Yl r l q).pure=true:=(by unfold Yl rfA;split <;> simp[AV.pure,isa,na,ra,rfa]);have kS:(Yl r l q).keys=[]:=by unfold Yl;simp[AV.keys]
 have sS:∀ ok st,Yi ok st 5 (Yl r l q)=some (Yl r l q):=λok st=>by
  have h:=pS;unfold Yl at *;simp[Yi,h]
 have sS6:∀ ok st,Yi ok st 6 (Yl r l q)=some (Yl r l q):=λok st=>by
  have h:=pS;unfold Yl at *;simp[Yi,h]
 unfold opnA swa at ho;unfold fcA at hf;unfold moA aqN moC;have oS:(Yl r l q).one=true:=(by unfold Yl;simp[AV.one,AV.known]);by_cases h0:chS r l q=0
 . have hz:=ZiJ (s:=s) (ZhY h0).1;rw[if_pos h0,h0]at ho;rw[hz]at hf;have pL:=Zf4 (l:=(fcE r l s 1).1.map ia) (by simp[ia,AV.pure]);generalize Yh ((fcE r l s 1).1.map ia)=fV at *;obtain ⟨cs,eS⟩ : ∃ cs,Yl r l q = .vptr cs 0:=⟨_,rfl⟩;rw[eS]at ho pS kS sS sS6 oS ⊢
   (refine Z8j rfl λR hG hrd=>Qga ?_;subst hG)
   simp -implicitDefEqProofs[Z8h,Z8i,swa];refine Qco (ho) (by simp) ?_;simp -implicitDefEqProofs[];refine Qco (hf) (by simp) ?_
   cases ht:truB l s
   . simp -implicitDefEqProofs[h0]
   simp -implicitDefEqProofs[];refine Qco (h1) (by simp) ?_
   cases q1:inR m 1 999
   . simp -implicitDefEqProofs[h0]
   simp -implicitDefEqProofs[];refine Qco (h2) (by simp) ?_
   cases q2:inR d 0 14610 <;> cases q3:inR e 0 14610
   . simp -implicitDefEqProofs[h0]
   . simp -implicitDefEqProofs[h0]
   . simp -implicitDefEqProofs[h0]
   . simp -implicitDefEqProofs[h0,pS,sS,sS6,oS]
 . rw[if_neg h0]at ho
   (refine Z8j rfl λR hG hrd=>Qga ?_;subst hG)
   simp -implicitDefEqProofs[Z8h,Z8i,swa];refine Qco (ho) (by simp) ?_;simp -implicitDefEqProofs[h0]
end
theorem ZiL {r:List Iss} (h:openV r=0) {x:Iss} (hx:x∈r):x.d≠0:=by
 have hL:=Zdo h;unfold Zbv at hL;simp only[Bool.and_eq_true]at hL;have h1:=List.all_eq_true.1 hL.1.1.1.2 x hx;simp only[issB,headB,Bool.and_eq_true]at h1;have h2:=h1.1.1.1.1.1;simp only[inR,decide_eq_true_eq]at h2;omega
theorem ZiM {r:List Iss} (h:openV r=0) {d l:Int} (hk:knB r d l=true):d≠0:=by
 unfold knB at hk;obtain ⟨x,hx⟩:=Option.isSome_iff_exists.1 hk;obtain ⟨h1,h2,h3⟩:=ZbV hx;rw[<- h2];exact ZiL h h1
theorem ZiN {α:Type} {f:α->Int} {d:Int}:∀ {l:List α},(l.Pairwise λa b=>f a<=f b)->l.filter (λx=>decide (f x<=d))=l.takeWhile λx=>decide (f x<=d)
 |[],_=>rfl
 | x :: l,h=>by
   rw[List.pairwise_cons]at h;rw[List.filter_cons,List.takeWhile_cons]
   split
   . rw[ZiN h.2]
   . rename_i e;have e:¬f x<=d:=(by simpa using e);rw[List.filter_eq_nil_iff];intro y hy;have:=h.1 y hy;simp;omega
theorem ZiO {r:List Iss} {l:List Nte} (h:ZdZ r l=true):l.Pairwise λa b=>a.dy<=b.dy:=by
 simp only[ZdZ,Bool.and_eq_true]at h;have h1:=Zbs.1 h.1.2
 have step:∀ j (hj:j+1<l.length),l[j].dy<=l[j+1].dy:=λj hj=>by
  have h2:=h1 (j+1) hj;simp only[noteB,Bool.and_eq_true]at h2;have h3:=h2.2;rw[ZdW hj]at h3;simp only[cN8,ZdW (show j<l.length by omega),Bool.or_eq_true,Bool.and_eq_true,decide_eq_true_eq]at h3;rcases h3 with h3|h3 <;> omega
 rw[List.pairwise_iff_getElem];intro i j hi hj hij;obtain ⟨n,rfl⟩ : ∃ n,j=i+1+n:=⟨j-i-1,by omega⟩;clear hij
 induction n with
 |zero=>exact step i hj
 | succ n ih =>
   have:=ih (by omega);have h4:=step (i+1+n) hj;exact Int.le_trans this h4
theorem tw_le {α:Type} {p:α->Bool}:∀ l:List α,(l.takeWhile p).length<=l.length
 |[]=>Nat.le_refl _
 | x::l=>by
   rw[List.takeWhile_cons]
   split
   . simpa using tw_le l
   . simp
theorem ZiP {α:Type} {p:α->Bool}:∀ l:List α,l.take (l.takeWhile p).length=l.takeWhile p
 |[]=>rfl
 | x::l=>by
   rw[List.takeWhile_cons]
   split
   . simpa using ZiP l
   . simp
theorem ZiQ {α:Type} {p:α->Bool}:∀ (l:List α) (h:(l.takeWhile p).length<l.length),p (l[(l.takeWhile p).length])=false
 |[],h=>by simp at h
 | x :: l,h=>by
   by_cases e:p x=true
   . have e2:((x::l).takeWhile p)=x::l.takeWhile p:=(by rw[List.takeWhile_cons,if_pos e]);have h2:(l.takeWhile p).length<l.length:=(by rw[e2]at h;simpa using h);have:=ZiQ l h2;simp only[e2,List.length_cons,List.getElem_cons_succ];exact this
   . have e2:((x::l).takeWhile p)=[]:=(by rw[List.takeWhile_cons,if_neg e]);simp only[e2,List.length_nil,List.getElem_cons_zero];simpa using e
def dyK (day:Int) (l:List Nte):Nat:=(l.takeWhile λx=>decide (x.dy<=day)).length
theorem ZiR (day:Int) (l:List Nte):dyK day l<=l.length:=tw_le l
theorem ZiS {day:Int} {l:List Nte}:l.take (dyK day l)=l.takeWhile λx=>decide (x.dy<=day):=ZiP l
theorem ZiT {day:Int} {l:List Nte}:∀ j (h:j<l.length),j<dyK day l->l[j].dy<=day:=λj h hj=>by
 have h1:l[j]∈l.take (dyK day l):=List.mem_take_iff_getElem.2 ⟨j,by omega,rfl⟩;rw[ZiS]at h1;have:=List.all_eq_true.1 (List.all_takeWhile (p:=λx:Nte=>decide (x.dy<=day)) (l:=l)) _ h1;simpa using this
theorem ZiU {day:Int} {l:List Nte} (h:dyK day l<l.length):day<l[dyK day l].dy:=by
 have:=ZiQ (p:=λx:Nte=>decide (x.dy<=day)) l h;have:=of_decide_eq_false this;exact Int.not_le.1 this
theorem ZiV {r:List Iss} {l:List Nte} {day:Int} (h:ZdZ r l=true):l.take (dyK day l)=dyN day l:=by
 rw[ZiS,dyN,ZiN (ZiO h)]
theorem ZiW {l:List Nte} {s:List Int} (h:truB l s=true):SrtI s/\s.Nodup:=by
 have ht:=Zhe.1 h;have lt:=Zhc ht;have eg:∀ j,∀ hj:j<s.length,s.getD j 0=s[j]:=λj hj=>by simp[List.getD_eq_getElem?_getD,hj]
 have key:∀ (i j:Nat) (hi:i<s.length) (hj:j<s.length),i<j->s[i]<s[j]:=λi j hi hj hij=>by
  have:=lt i j hij hj
  rwa [eg i hi,eg j hj]at this
 refine ⟨List.pairwise_iff_getElem.2 λi j hi hj hij=>Int.le_of_lt (key i j hi hj hij),List.nodup_iff_pairwise_ne.2 (List.pairwise_iff_getElem.2 λi j hi hj hij=>?_)⟩;have:=key i j hi hj hij;omega
theorem ZiX {r:List Iss} {l:List Nte} {s:List Int} {k:Nat} (h:ZdZ r l=true) (ht:truB l s=true):sortI (tnN l s k)=dyT (l.take k) s:=by
 obtain ⟨h1,h2⟩:=ZiW ht;have sub:(dyT (l.take k) s).Sublist s:=List.filter_sublist;refine Zea ?_ (List.Pairwise.sublist sub h1);have n1:(dyT (l.take k) s).Nodup:=sub.nodup h2
 have n2:(tnN l s k).Nodup:=by
  unfold tnN;exact List.Sublist.nodup ((List.filter_sublist.trans (List.take_sublist _ _)).map _) (ZhD h)
 refine (List.perm_ext_iff_of_nodup n1 n2).2 λn=>?_
 simp only[dyT,tnN,List.mem_filter,List.mem_map,List.any_eq_true,decide_eq_true_eq]
 constructor
 . rintro ⟨q1,x,hx,rfl⟩;exact ⟨x,⟨hx,q1⟩,rfl⟩
 . rintro ⟨x,⟨hx,q1⟩,rfl⟩;exact ⟨q1,x,hx,rfl⟩
theorem ZiY {r:List Iss} {l:List Nte} (ho:openV r=0) (h:ZdZ r l=true) {x:Nte} (hx:x∈l) (F:List Int):ntP F x=ntR F x:=by
 obtain ⟨j,hj,rfl⟩:=List.getElem_of_mem hx;simp only[ZdZ,Bool.and_eq_true]at h;have h2:=Zbs.1 h.1.2 j hj;simp only[noteB,Bool.and_eq_true,ZdW hj]at h2;have c4:=h2.1.1.1.1.2;have c5:=h2.1.1.1.2;generalize l[j]=x at *;unfold ntP ntR;by_cases hm:x.nu∈F
 . by_cases h3:¬x.dr=0/\¬x.lt<2
   . have h6:x.nu∈F/\¬x.dr=0/\¬x.lt<2:=⟨hm,h3⟩;rw[if_pos hm,if_pos h6]
   . have hw:x.wy=0:=by
      simp only[cN5,Bool.or_eq_true,Bool.and_eq_true,decide_eq_true_eq]at c5;rcases c5 with c5|c5
      . exfalso
        have h4:x.dr=0:=by
         by_cases q:x.dr=0
         . exact q
         . exact absurd ⟨q,by omega⟩ h3
        have h5:¬(x.dr=0/\x.lt=0):=λq=>by omega
        rw[cN4,if_neg h5]at c4;exact ZiM ho (d:=x.dr) (l:=x.lt) c4 h4
      . exact c5.2
     have h6:¬(x.nu∈F/\¬x.dr=0/\¬x.lt<2):=λq=>h3 q.2
     rw[if_pos hm,if_neg h6];simp[hw]
 . have h6:¬(x.nu∈F/\¬x.dr=0/\¬x.lt<2):=λq=>hm q.1
   rw[if_neg hm,if_neg h6]
theorem ZiZ {r:List Iss} {q:List Rul} (ho:openV r=0) (h:Zel r q=true) {i:Nat} (hi:i<q.length) (b:Bool):rlP b (rAt q i)=rlR b (rAt q i):=by
 simp only[Zel,Bool.and_eq_true]at h;have h2:=Zbs.1 h.2 i hi;simp only[ruleB,Bool.and_eq_true]at h2;have c2:=h2.1.1.1.2;generalize rAt q i=x at *;unfold rlP rlR
 have key:(x.fd=x.td/\x.fl=x.tl)↔(x.fd=0/\x.fl=0):=by
  unfold cR2 at c2
  split at c2
  . rename_i hz;obtain ⟨z1,z2,z3,z4⟩:=hz;rw[z1,z2,z3,z4]
  . simp only[Bool.and_eq_true,Bool.not_eq_true',decide_eq_false_iff_not]at c2;exact ⟨λq=>absurd q c2.1.1,λq=>absurd q.1 (ZiM ho c2.1.2)⟩
 simp only[key]
theorem Zj0 {α β:Type} {f g:α->List β}:∀ {l:List α},(∀ x∈l,f x=g x)->l.flatMap f=l.flatMap g
 |[],_=>rfl
 |x::l,h=>by rw[List.flatMap_cons,List.flatMap_cons,h x List.mem_cons_self,Zj0 λy hy=>h y (List.mem_cons_of_mem _ hy)]
theorem Zj1 {r:List Iss} {l:List Nte} {q:List Rul} {s:List Int} {m day:Int} (h:chS r l q=0) (ht:truB l s=true) :
  nsP (fcE r (l.take (dyK day l)) (sortI (tnN l s (dyK day l))) m).1 (l.take (dyK day l)) (l.take (dyK day l)).length++rsP day q q.length=st5 r l q s m day:=by
 obtain ⟨hN,hR⟩:=ZhY h;have hB:=ZhP hN
 have ho:openV r=0:=by
  unfold chN at hN
  split at hN
  . assumption
  . exact hN
 rw[ZiX hB ht,ZiV hB];unfold st5 stF
 congr 1
 . unfold nsP nsR;rw[List.take_length];refine Zj0 λx hx=>ZiY ho hB (List.mem_filter.1 hx).1 _
 . unfold rsP rsR;refine Zj0 λj hj=>ZiZ ho hR ?_ _
   have:=List.mem_range.1 (List.mem_of_mem_take hj);exact this
abbrev Rf:=Int×Int
def frS (x:Stq):Rf:=(x.fd,x.fl)
def toS (x:Stq):Rf:=(x.td,x.tl)
def edg (L:List Stq):List (Rf×Rf):=L.map λx=>(frS x,toS x)
def tuE (E:List (Rf×Rf)):List (Rf×Rf):=E.map λe=>(e.2,e.1)
def pth (E:List (Rf×Rf)) (y:Rf):Nat->Rf->Bool
 |0,x=>decide (x=y)
 |n+1,x=>E.any λe=>decide (e.1=x)&&pth E y n e.2
def diN (E:List (Rf×Rf)) (y x:Rf):Option Nat:=(List.range (E.length+1)).find? λn=>pth E y n x
def diV (E:List (Rf×Rf)) (y x:Rf):Int:=match diN E y x with
 |some n=>n
 |none=>1048576
def md (E:List (Rf×Rf)) (y:Rf) (n:Nat) (x:Rf):Prop:=pth E y n x=true/\∀ m,m<n->pth E y m x=false
section
variable {E:List (Rf×Rf)} {x y z:Rf} {n m:Nat}
theorem Zj2:pth E y (n+1) x=true↔∃ e∈E,e.1=x/\pth E y n e.2=true:=by
 simp[pth,List.any_eq_true]
theorem Zj3 (h1:md E y n x) (h2:md E y m x):n=m:=by
 rcases Nat.lt_trichotomy n m with h|h|h
 . have:=h2.2 n h;rw[h1.1]at this;cases this
 . exact h
 . have:=h1.2 m h;rw[h2.1]at this;cases this
theorem md_of:∀ n,pth E y n x=true->∃ m,m<=n/\md E y m x:=by
 intro n
 induction n using Nat.strongRecOn with
 | _ n ih =>
   intro h;by_cases c:∃ m,m<n/\pth E y m x=true
   . obtain ⟨m,h1,h2⟩:=c;obtain ⟨k,h3,h4⟩:=ih m h1 h2;exact ⟨k,by omega,h4⟩
   . refine ⟨n,Nat.le_refl _,h,λm hm=>?_⟩
     cases q:pth E y m x
     . rfl
     . exact absurd ⟨m,hm,q⟩ c
theorem Zj4 (h:md E y (n+1) x):∃ e∈E,e.1=x/\md E y n e.2:=by
 obtain ⟨e,h1,h2,h3⟩:=Zj2.1 h.1;refine ⟨e,h1,h2,h3,λm hm=>?_⟩
 cases q:pth E y m e.2
 . rfl
 . have:=h.2 (m+1) (by omega);rw[Zj2.2 ⟨e,h1,h2,q⟩]at this;cases this
theorem Zj5:∀ (n:Nat) (x:Rf),md E y n x->∃ ss:List Rf,ss.length=n/\(∀ s∈ss,s∈E.map (·.1)/\∃ k,k<=n/\0<k/\md E y k s)/\ss.Nodup
 |0,x,_=>⟨[],rfl,by simp,.nil⟩
 | n + 1,x,h=>by
   obtain ⟨e,h1,h2,h3⟩:=Zj4 h;obtain ⟨ss,l1,l2,l3⟩:=Zj5 n e.2 h3;refine ⟨x::ss,by simp[l1],?_,List.nodup_cons.2 ⟨λhm=>?_,l3⟩⟩
   . intro s hs;rcases List.mem_cons.1 hs with rfl|hs
     . exact ⟨List.mem_map.2 ⟨e,h1,h2⟩,n+1,Nat.le_refl _,by omega,h⟩
     . obtain ⟨q1,k,q2,q3,q4⟩:=l2 s hs;exact ⟨q1,k,by omega,q3,q4⟩
   . obtain ⟨-,k,q2,-,q4⟩:=l2 x hm;have:=Zj3 h q4;omega
theorem md_le (h:md E y n x):n<=E.length:=by
 obtain ⟨ss,l1,l2,l3⟩:=Zj5 n x h;have:=List.Nodup.length_le_of_subset l3 (l₂:=E.map (·.1)) λs hs=>(l2 s hs).1
 simpa [l1] using this
theorem Zj6:diN E y x=some n↔md E y n x:=by
 unfold diN
 constructor
 . intro h;have h1:=List.find?_some h;refine ⟨h1,λm hm=>?_⟩;obtain ⟨-,us,vs,e,h2⟩:=List.find?_eq_some_iff_append.1 h;have e1:∀ k:Nat,(List.range (E.length+1))[k]? = (us++n::vs)[k]?:=λk=>by rw[e]
   have hn:us.length=n:=by
    have h3:=e1 us.length;rw[List.getElem?_append_right (Nat.le_refl _),Nat.sub_self,List.getElem?_cons_zero]at h3;obtain ⟨h4,h5⟩:=List.getElem?_eq_some_iff.1 h3;rw[List.getElem_range]at h5;exact h5
   have hm2:m∈us:=by
    have h3:=e1 m;have hl:m<(List.range (E.length+1)).length:=(by rw[e,List.length_append];omega);rw[List.getElem?_append_left (by omega),List.getElem?_eq_getElem hl,List.getElem_range]at h3;exact List.mem_of_getElem? h3.symm
   simpa using h2 m hm2
 . intro h;have hl:=md_le h;rw[List.find?_eq_some_iff_append];refine ⟨h.1,List.range n,(List.range (E.length-n)).map (n+1 + ·),?_,λm hm=>?_⟩
   . have:E.length+1=n+1+(E.length-n):=(by omega);rw[this,List.range_add,List.range_succ,List.append_assoc];rfl
   . simp[h.2 m (List.mem_range.1 hm)]
theorem Zj7:diN E y x=none↔∀ n,pth E y n x=false:=by
 constructor
 . intro h n
   cases q:pth E y n x
   . rfl
   . obtain ⟨m,-,hm⟩:=md_of n q;rw[Zj6.2 hm]at h;cases h
 . intro h
   cases q:diN E y x with
   |none=>rfl
   | some n =>
     have:=(Zj6.1 q).1;rw[h n]at this;cases this
theorem Zj8 (h:diN E y x=some n):n<=E.length:=md_le (Zj6.1 h)
theorem Zj9:0<=diV E y x:=by unfold diV;split <;> omega
theorem Zja (hE:E.length<=1000):diV E y x<=1048576:=by
 unfold diV;split
 . rename_i n h;have:=Zj8 h;omega
 . omega
theorem Zjb (hE:E.length<=1000):diV E y x=1048576↔diN E y x=none:=by
 unfold diV;split
 . rename_i n h;have:=Zj8 h;simp[h];omega
 . rename_i h;simp[h]
theorem Zjc (hE:E.length<=1000):diV E y x<1048576↔(diN E y x).isSome=true:=by
 have h1:=Zjb (x:=x) (y:=y) hE;have h2:=Zja (x:=x) (y:=y) hE
 cases q:diN E y x with
 |none=>have:=h1.2 q;simp;omega
 |some n=>simp only[q,reduceCtorEq,iff_false]at h1;simp;omega
theorem Zjd:∀ (n:Nat) (x:Rf),pth E y (n+1) x=true↔∃ e∈E,e.2=y/\pth E e.1 n x=true
 | 0,x=>by
   rw[Zj2]
   constructor
   . rintro ⟨e,h1,rfl,h2⟩;exact ⟨e,h1,by simpa [pth] using h2,by simp[pth]⟩
   . rintro ⟨e,h1,rfl,h2⟩;exact ⟨e,h1,by simpa [pth] using Eq.symm (by simpa [pth] using h2),by simp[pth]⟩
 | n + 1,x=>by
   rw[Zj2]
   constructor
   . rintro ⟨e,h1,h2,h3⟩;obtain ⟨f,g1,g2,g3⟩:=(Zjd n e.2).1 h3;exact ⟨f,g1,g2,Zj2.2 ⟨e,h1,h2,g3⟩⟩
   . rintro ⟨f,g1,g2,g3⟩;obtain ⟨e,h1,h2,h3⟩:=Zj2.1 g3;exact ⟨e,h1,h2,(Zjd n e.2).2 ⟨f,g1,g2,h3⟩⟩
theorem Zje:∀ (n:Nat) (x y:Rf),pth (tuE E) y n x=pth E x n y
 |0,x,y=>by simp[pth,eq_comm]
 | n + 1,x,y=>by
   rw[Bool.eq_iff_iff,Zj2,Zjd]
   constructor
   . rintro ⟨e,h1,h2,h3⟩;obtain ⟨f,g1,rfl⟩:=List.mem_map.1 h1;exact ⟨f,g1,h2,by rw[<- Zje n];exact h3⟩
   . rintro ⟨f,g1,g2,g3⟩;exact ⟨(f.2,f.1),List.mem_map.2 ⟨f,g1,rfl⟩,g2,by rw[Zje n];exact g3⟩
end
def rfs (r:List Iss):List Rf:=r.map λx=>(x.d,x.l)
theorem Zjf (r:List Iss):(rfs r).map ita=r.map rfa:=by simp[rfs,ita,rfa,Function.comp_def]
theorem Zjg (o:List (Nat×AObj)) (l:List Rf):Yd o (.row 2 (l.map ita))=true:=by
 simp only[Yd,List.all_eq_true,List.mem_map];rintro x ⟨y,-,rfl⟩ v hv;simp only[ita,List.mem_cons,List.not_mem_nil,or_false]at hv;rcases hv with rfl|rfl <;> simp[Ya,AV.keys]
section
variable {G:Nat->Option (List AV)}
theorem Zjh (x:Iss):PC Tryz.prog G 67 [.agg (isa x)] (.agg [.int .i64 x.d,.int .i64 x.l]):=by
 (refine Z6z rfl λR hG hrd=>Qga ?_;subst hG)
 simp -implicitDefEqProofs[Z6x,Z6y,isa]
theorem Zji (r:List Iss) (hr:Sml r):PC Tryz.prog G 31 [.agg [.vsl (r.map isa)]] (rfA r):=by
 (refine Z6C rfl λR hG hrd=>Qga ?_;subst hG)
 unfold Sml at hr;simp -implicitDefEqProofs[Z6A,Z6B];refine Zba (λi=>if i=0 then ⟨[(4,.int .i64 i),(3,.nils),(1,.ptr 1 0)],[(1,.box [.vsl (r.map isa)])]⟩ else ⟨[(4,.int .i64 i),(3,.osl 20 i),(1,.ptr 1 0)],[(20,.row 2 (rkT r i)),(1,.box [.vsl (r.map isa)])]⟩) (λ_=>True) r.length ?_ trivial ?_ ?_
 . simp only[if_true]
   (refine Yn.sub (by simp[lk,Ya,AV.keys]) ?_;simp only[Wkl,and_true];(try simp[lk,Yd,Ya,AV.keys]))
 . intro i hi _;have tk:=Ziq hi;have tl:=Zip (r:=r) (i:=i) (by omega);have bb:(i+1)*16<=70368744177664:=(by omega);have hri:rfa r[i]=[.int .i64 r[i].d,.int .i64 r[i].l]:=rfl;have hro:=Zjh (G:=R.G) r[i];rw[hri]at tk;unfold isa at hro;refine Qga ?_
   cases i with
   | zero =>
     have e0:rkT r 0=[]:=rfl;have w1:IntKind.i64.wrap 1=1:=rfl;rw[e0,List.nil_append]at tk;simp -implicitDefEqProofs[hi,isa];refine Ye.of hro (by simp[AV.pure]) ?_;simp -implicitDefEqProofs[w1];rw[tk]
     (refine Yn.sub (by simp[lk,Ya,AV.keys]) ?_;simp only[Wkl,and_true];(try simp[lk,Yd,Ya,AV.keys]))
   | succ i =>
     have k1:(i:Int)+1<r.length:=(by omega);have k2:((i:Int)+1).toNat=i+1:=(by omega);have k3:(0:Int)<=(i:Int)+1:=(by omega);have w1:IntKind.i64.wrap ((i:Int)+1+1)=(i:Int)+1+1:=Yg (by omega) (by omega);simp -implicitDefEqProofs[hi,k1,k2,k3,isa];refine Ye.of hro (by simp[AV.pure]) ?_;simp -implicitDefEqProofs[w1,k1,k2,k3,tl,bb];rw[<- tk]
     (refine Yn.sub (by simp[lk,Ya,AV.keys]) ?_;simp only[Wkl,Zir,and_true];(try simp[lk,Yd,Ya,AV.keys]))
 . intro _;refine Qga ?_;by_cases hl0:r.length=0
   . have er:r=[]:=List.length_eq_zero_iff.1 hl0;have eA:rfA r = .nils:=(by rw[er];rfl);simp -implicitDefEqProofs[hl0];refine Qgr ?_;simp -implicitDefEqProofs[eA]
   . have er:¬r=[]:=λh=>hl0 (by rw[h];rfl)
     have eT:rkT r r.length=r.map rfa:=(by unfold rkT;rw[List.take_length]);have eA:rfA r = .vsl (r.map rfa):=(by unfold rfA;rw[if_neg er]);simp -implicitDefEqProofs[hl0,eT];refine Qgr ?_;simp -implicitDefEqProofs[eA,rfa]
end
structure BfI (E:List (Rf×Rf)) (l:List Rf) (y:Rf) (out:List Int):Prop where
 len:out.length=l.length
 ok:∀ (i:Nat) (v:Int) (x:Rf),out[i]? = some v->l[i]? = some x->0<=v/\v<=1048576/\(v=1048576∨pth E y v.toNat x=true)/\(x=y->v=0)
def rlx (l:List Rf) (out:List Int) (e:Rf×Rf):Prop:=∃ (ka kb:Nat) (va vb:Int),l[ka]? = some e.1/\l[kb]? = some e.2/\out[ka]? = some va/\out[kb]? = some vb/\vb+1<va
def NoR (E:List (Rf×Rf)) (l:List Rf) (out:List Int):Prop:=∀ e∈E,¬rlx l out e
def NoI (L:List Stq) (l:List Rf) (out:List Int) (i:Nat):Prop:=∀ j (h:j<L.length),j<i->¬rlx l out (frS L[j],toS L[j])
theorem NoI.all {L:List Stq} {l:List Rf} {out:List Int} (h:NoI L l out L.length):NoR (edg L) l out:=by
 intro e he;obtain ⟨x,hx,rfl⟩:=List.mem_map.1 he;obtain ⟨j,hj,rfl⟩:=List.getElem_of_mem hx;exact h j hj hj
theorem NoI.step {L:List Stq} {l:List Rf} {out:List Int} {i:Nat} (h:NoI L l out i) (hi:i<L.length) (h1:¬rlx l out (frS L[i],toS L[i])):NoI L l out (i+1):=by
 intro j hj hji;rcases Nat.lt_or_ge j i with q|q
 . exact h j hj q
 . obtain rfl:j=i:=(by omega);exact h1
theorem BfI.start {E:List (Rf×Rf)} {l:List Rf} {y:Rf} {k:Nat} (hn:l.Nodup) (hk:l[k]? = some y):BfI E l y ((List.replicate l.length 1048576).set k 0):=by
 refine ⟨by simp,λi v x hv hx=>?_⟩;have hi:i<l.length:=(List.getElem?_eq_some_iff.1 hx).1;rw[List.getElem?_set]at hv
 split at hv
 . rename_i e;subst e;rw[List.length_replicate,if_pos hi,Option.some.injEq]at hv;rw[hk,Option.some.injEq]at hx;subst hv;subst hx;exact ⟨by omega,by omega,.inr (by simp[pth]),λ_=>rfl⟩
 . rename_i e;rw[List.getElem?_replicate,if_pos hi,Option.some.injEq]at hv;subst hv;refine ⟨by omega,by omega,.inl rfl,?_⟩;rintro rfl;exact absurd ((List.getElem?_inj hi hn).1 (hx.trans hk.symm)) (λq=>e q.symm)
theorem BfI.step {E:List (Rf×Rf)} {l:List Rf} {y:Rf} {out:List Int} (h:BfI E l y out) (hn:l.Nodup) {e:Rf×Rf} (he:e∈E) {ka kb:Nat} {va vb:Int} (h1:l[ka]? = some e.1) (h2:l[kb]? = some e.2) (h3:out[ka]? = some va) (h4:out[kb]? = some vb) (h5:vb+1<va) :
  BfI E l y (out.set ka (vb+1)):=by
 refine ⟨by simp[h.len],λi v x hv hx=>?_⟩;rw[List.getElem?_set]at hv
 split at hv
 . rename_i q;subst q;have hi:ka<out.length:=(List.getElem?_eq_some_iff.1 h3).1;rw[if_pos hi,Option.some.injEq]at hv;subst hv;obtain ⟨a1,a2,a3,a4⟩:=h.ok kb vb _ h4 h2;obtain ⟨b1,b2,b3,b4⟩:=h.ok ka va x h3 hx;rw[h1,Option.some.injEq]at hx;subst hx;refine ⟨by omega,by omega,.inr ?_,λq=>?_⟩
   . rcases a3 with a3|a3
     . omega
     . rw[show (vb+1).toNat=vb.toNat+1 by omega];exact Zj2.2 ⟨e,he,rfl,a3⟩
   . have:=b4 q;omega
 . exact h.ok i v x hv hx
theorem BfI.fin {E:List (Rf×Rf)} {l:List Rf} {y:Rf} {out:List Int} (h:BfI E l y out) (hE:E.length<=1000) (hl:∀ e∈E,e.1∈l/\e.2∈l) (hr:∀ e∈E,¬rlx l out e):out=l.map (diV E y):=by
 have low:∀ (m:Nat) (i:Nat) (v:Int) (x:Rf),out[i]? = some v->l[i]? = some x->pth E y m x=true->v<=m:=by
  intro m
  induction m with
  | zero =>
    intro i v x hv hx hp;have:x=y:=(by simpa [pth] using hp);have:=(h.ok i v x hv hx).2.2.2 this;omega
  | succ m ih =>
    intro i v x hv hx hp;obtain ⟨e,he,rfl,hp2⟩:=Zj2.1 hp;obtain ⟨kb,hkb,hb⟩:=List.getElem_of_mem (hl e he).2;have hb':l[kb]? = some e.2:=(by rw[List.getElem?_eq_getElem hkb,hb]);have hkb2:kb<out.length:=(by rw[h.len];exact hkb);have h2:=ih kb _ _ (List.getElem?_eq_getElem hkb2) hb' hp2;rcases Int.lt_or_le (out[kb]+1) v with h3|h3
    . exact absurd ⟨i,kb,v,out[kb],hx,hb',hv,List.getElem?_eq_getElem hkb2,h3⟩ (hr e he)
    . omega
 refine List.ext_getElem? λi=>?_
 rw[List.getElem?_map];by_cases hi:i<l.length
 . have hi2:i<out.length:=(by rw[h.len];exact hi);rw[List.getElem?_eq_getElem hi2,List.getElem?_eq_getElem hi,Option.map_some,Option.some.injEq];obtain ⟨a1,a2,a3,-⟩:=h.ok i _ _ (List.getElem?_eq_getElem hi2) (List.getElem?_eq_getElem hi);have hlow:=λm=>low m i _ _ (List.getElem?_eq_getElem hi2) (List.getElem?_eq_getElem hi)
   unfold diV
   cases q:diN E y l[i] with
   | none =>
     rcases a3 with a3|a3
     . exact a3
     . rw[Zj7.1 q]at a3;cases a3
   | some n =>
     have hm:=Zj6.1 q;have hle:=md_le hm;have h1:=hlow n hm.1;rcases a3 with a3|a3
     . omega
     . have h2:n<=out[i].toNat:=by
        rcases Nat.lt_or_ge out[i].toNat n with h2|h2
        . have:=hm.2 _ h2;rw[a3]at this;cases this
        . exact h2
       simp only;omega
 . rw[List.getElem?_eq_none (by rw[h.len];omega),List.getElem?_eq_none (by omega)];rfl
section
variable {G:Nat->Option (List AV)}
end
section
variable {r:List Iss}
theorem Zjj (h:Zbv r=true) {i:Nat} (hi:i+1<r.length):r[i].d<r[i+1].d/\r[i+1].l=1∨r[i].d=r[i+1].d/\r[i+1].l=r[i].l+1:=by
 simp only[Zbv,Bool.and_eq_true]at h;have h1:=Zbs.1 h.1.1.2 (i+1) hi;have e1:at' r (i+1)=r[i+1]:=(by simp[at',List.getD_eq_getElem?_getD,hi]);have e2:at' r i=r[i]:=(by simp[at',List.getD_eq_getElem?_getD,show i<r.length by omega]);simp only[ordB,e1,e2]at h1
 split at h1
 . cases h1
 . split at h1
   . exact .inl ⟨‹_›,of_decide_eq_true h1⟩
   . simp only[Bool.and_eq_true,decide_eq_true_eq]at h1;exact .inr ⟨by omega,h1.1⟩
theorem Zjk (h:Zbv r=true):∀ (n i:Nat) (hj:i+1+n<r.length),r[i].d<r[i+1+n].d∨r[i].d=r[i+1+n].d/\r[i].l<r[i+1+n].l
 | 0,i,hj=>by
   have q:=Zjj h (i:=i) hj;simp only[Nat.add_zero];omega
 | n+1,i,hj=>by
   have h1:=Zjk h n i (by omega);have h2:=Zjj h (i:=i+1+n) hj;have e:i+1+(n+1)=i+1+n+1:=(by omega);simp only[e];rcases h1 with q|q <;> rcases h2 with q2|q2 <;> omega
theorem Zjl (h:Zbv r=true):(rfs r).Nodup:=by
 refine List.nodup_iff_pairwise_ne.2 (List.pairwise_iff_getElem.2 λi j hi hj hij=>?_);simp only[rfs,List.length_map]at hi hj;obtain ⟨n,rfl⟩ : ∃ n,j=i+1+n:=⟨j-i-1,by omega⟩;have:=Zjk h n i hj;simp only[rfs,List.getElem_map,ne_eq,Prod.mk.injEq];omega
theorem Zjm {d l:Int}:knB r d l=true↔(d,l)∈rfs r:=by
 unfold knB;rw[Zii,List.any_eq_true];simp only[rfp,decide_eq_true_eq,rfs,List.mem_map,Prod.mk.injEq]
theorem Zjn (h:Zbv r=true) {d l:Int} (hm:(d,l)∈rfs r):1<=l/\l<=8:=by
 obtain ⟨x,hx,e⟩:=List.mem_map.1 hm;rw[Prod.mk.injEq]at e;obtain ⟨rfl,rfl⟩:=e;simp only[Zbv,Bool.and_eq_true]at h;have h1:=List.all_eq_true.1 h.1.1.1.2 x hx;simp only[issB,headB,Bool.and_eq_true]at h1;have h2:=h1.1.1.1.1.2;simp only[inR,decide_eq_true_eq]at h2;exact h2
theorem Zjo (h:Zbv r=true):r.length<=60:=by
 simp only[Zbv,Bool.and_eq_true,inR,decide_eq_true_eq]at h;omega
theorem Zjp {l:List Nte} {q:List Rul} (h:chS r l q=0):Zbv r=true:=by
 have h1:=(ZhY h).1
 have ho:openV r=0:=by
  unfold chN at h1
  split at h1
  . assumption
  . exact absurd h1 ‹_›
 exact Zdo ho
end
def knA (kn:List (Rf×Int)):List (AV×AV):=kn.map λp=>(.agg [.int .i64 p.1.1,.int .i64 p.1.2],.int .i64 p.2)
def knLk (x:Rf):List (Rf×Int)->Option Int
 |[]=>none
 |p::r=>if x=p.1 then some p.2 else knLk x r
theorem Zjq (d e:Int):∀ kn:List (Rf×Int),∃ o:Option Nat,(KK.ag [.i,.i]).find (.agg [.int .i64 d,.int .i64 e]) (knA kn)=some o/\match o with
  |some j=>∃ v,kn[j]? = some ((d,e),v)/\knLk (d,e) kn=some v
  |none=>knLk (d,e) kn=none/\∀ p∈kn,p.1≠(d,e)
 |[]=>⟨none,rfl,rfl,by simp⟩
 | p :: r => by
   obtain ⟨o,h1,h2⟩:=Zjq d e r;by_cases c:(d,e)=p.1
   . have c1:d=p.1.1:=congrArg Prod.fst c;have c2:e=p.1.2:=congrArg Prod.snd c;refine ⟨some 0,by simp[knA,KK.find,KK.eq,eqL,eq1,c1,c2],p.2,by simp[c],by simp[knLk,c]⟩
   . refine ⟨o.map (· + 1),?_,?_⟩
     . have hb:(decide (d=p.1.1)&&decide (e=p.1.2))=false:=by
        cases q:(decide (d=p.1.1)&&decide (e=p.1.2))
        . rfl
        . simp only[Bool.and_eq_true,decide_eq_true_eq]at q;exact absurd (Prod.ext q.1 q.2) c
       have he:(KK.ag [.i,.i]).eq (.agg [.int .i64 d,.int .i64 e]) (.agg [.int .i64 p.1.1,.int .i64 p.1.2])=some false:=(by simp only[KK.eq,eqL,eq1,if_true,Bool.and_true,hb]);simp only[knA,List.map_cons,KK.find,he];rw[show r.map (λp=>(AV.agg [.int .i64 p.1.1,.int .i64 p.1.2],AV.int .i64 p.2))=knA r from rfl,h1];rfl
     . cases o with
       |none=>exact ⟨by simp only[knLk,c,if_false];exact h2.1,λq hq=>by
        rcases List.mem_cons.1 hq with rfl|hq
        . exact λh=>c h.symm
        . exact h2.2 q hq⟩
       | some j =>
         obtain ⟨v,h3,h4⟩:=h2;exact ⟨v,by simpa using h3,by simp only[knLk,c,if_false];exact h4⟩
theorem Zjr (d e:Int) (kn:List (Rf×Int)):(KK.ag [.i,.i]).get (.agg [.int .i64 d,.int .i64 e]) (knA kn)=some ((knLk (d,e) kn).map λv=>.int .i64 v):=by
 obtain ⟨o,h1,h2⟩:=Zjq d e kn;have hi:(KK.ag [.i,.i]).is (.agg [.int .i64 d,.int .i64 e])=true:=rfl;unfold KK.get;rw[if_pos hi,h1]
 cases o with
 |none=>simp[h2.1]
 |some j=>obtain ⟨v,h3,h4⟩:=h2;simp[knA,h3,h4]
theorem Zjs {d e:Int} (v:Int) {kn:List (Rf×Int)} (h:knLk (d,e) kn=none):(KK.ag [.i,.i]).put (.agg [.int .i64 d,.int .i64 e]) (.int .i64 v) (knA kn)=some (knA (kn++[((d,e),v)])):=by
 obtain ⟨o,h1,h2⟩:=Zjq d e kn;have hi:(KK.ag [.i,.i]).is (.agg [.int .i64 d,.int .i64 e])=true:=rfl;unfold KK.put;rw[if_pos hi,h1]
 cases o with
 |none=>simp[knA]
 | some j =>
   obtain ⟨w,h3,h4⟩:=h2;rw[h]at h4;cases h4
theorem Zjt {x a:Rf} {v:Int}:∀ {kn:List (Rf×Int)},knLk x (kn++[(a,v)])=match knLk x kn with
  |some w=>some w
  |none=>if x=a then some v else none
 |[]=>by simp[knLk]
 | p::r=>by
   simp only[List.cons_append,knLk]
   split
   . rfl
   . exact Zjt
structure LnS where
 left:List Int
 kn:List (Rf×Int)
 nx:List Rf
 deriving Inhabited
def lnS (n:Int) (s:LnS) (i:Nat) (e:Rf×Rf):LnS :=
 if (i:Int)∈s.left then match knLk e.2 s.kn with
  | some k=>if n<=k then s else match knLk e.1 s.kn with
    |some _=>⟨s.left.erase i,s.kn,s.nx⟩
    |none=>⟨s.left.erase i,s.kn++[(e.1,n)],s.nx++[e.1]⟩
  |none=>s
 else s
def lnI (E:List (Rf×Rf)) (n:Int) (s:LnS):Nat->LnS
 |0=>s
 |i+1=>lnS n (lnI E n s i) i (E.getD i default)
def lnO (E:List (Rf×Rf)) (y:Rf):Nat->LnS
 |0=>⟨(List.range E.length).map λi:Nat=>(i:Int),[(y,0)],[]⟩
 |n+1=>lnI E ((n:Int)+1) ⟨(lnO E y n).left,(lnO E y n).kn,[]⟩ E.length
def knF (E:List (Rf×Rf)) (y:Rf):List (Rf×Int):=(lnO E y (E.length+1)).kn
structure LnV (E:List (Rf×Rf)) (y:Rf) (n:Nat) (s:LnS):Prop where
 a:∀ x d,knLk x s.kn=some d->∃ m:Nat,d=m/\md E y m x/\m<=n
 b:∀ x (m:Nat),md E y m x->m<=n->knLk x s.kn=some (m:Int)
 c:∀ i (h:i<E.length),(i:Int) ∉ s.left->knLk E[i].1 s.kn≠none
structure LnW (E:List (Rf×Rf)) (y:Rf) (n:Nat) (s0 s:LnS) (i:Nat):Prop where
 a:∀ x d,knLk x s.kn=some d->∃ m:Nat,d=m/\md E y m x/\m<=n+1
 b:∀ x (m:Nat),md E y m x->m<=n->knLk x s.kn=some (m:Int)
 c:∀ j (h:j<E.length),(j:Int) ∉ s.left->knLk E[j].1 s.kn≠none
 e:∀ j (h:j<E.length),j<i->∀ m:Nat,md E y m E[j].2->m<=n->knLk E[j].1 s.kn≠none
 f:s.kn=s0.kn++s.nx.map λx=>(x,(n:Int)+1)
 g:∀ x∈s.nx,md E y (n+1) x
section
variable {E:List (Rf×Rf)} {y:Rf} {n m:Nat} {s0 s:LnS} {i:Nat}
theorem Zju {x a:Rf} {v:Int} {kn:List (Rf×Int)} (h:knLk x kn≠none):knLk x (kn++[(a,v)])≠none:=by
 rw[Zjt]
 cases q:knLk x kn with
 |none=>exact absurd q h
 |some w=>simp
theorem Zjv {l:List Int} {a b:Int} (h:a ∉ l.erase b):a ∉ l∨a=b:=by
 by_cases q:a=b
 . exact .inr q
 . exact .inl λhm=>h ((List.mem_erase_of_ne q).2 hm)
theorem LnW.step (h:LnW E y n s0 s i) (hi:i<E.length):LnW E y n s0 (lnS ((n:Int)+1) s i E[i]) (i+1):=by
 have lst:∀ {P:Nat->Prop},(∀ j,j<i->P j)->P i->∀ j,j<i+1->P j:=λh1 h2 j hj=>by
  rcases Nat.lt_or_ge j i with q|q
  . exact h1 j q
  . obtain rfl:j=i:=(by omega);exact h2
 unfold lnS;by_cases c1:(i:Int)∈s.left
 . rw [if_pos c1]
   cases q:knLk E[i].2 s.kn with
   | none =>
     refine ⟨h.a,h.b,h.c,λj hj hji m hm hmn=>?_,h.f,h.g⟩;rcases Nat.lt_or_ge j i with p|p
     . exact h.e j hj p m hm hmn
     . obtain rfl:j=i:=(by omega);rw[h.b _ m hm hmn]at q;cases q
   | some k =>
     simp only;obtain ⟨m,hm1,hm2,hm3⟩:=h.a _ _ q;by_cases c2:(n:Int)+1<=k
     . rw[if_pos c2];refine ⟨h.a,h.b,h.c,λj hj hji m' hm' hmn=>?_,h.f,h.g⟩;rcases Nat.lt_or_ge j i with p|p
       . exact h.e j hj p m' hm' hmn
       . obtain rfl:j=i:=(by omega);have:=Zj3 hm' hm2;omega
     . rw [if_neg c2]
       have c3:∀ j (h:j<E.length),(j:Int) ∉ s.left.erase (i:Int)->j≠i->knLk E[j].1 s.kn≠none:=λj hj hn hne=>by
        rcases Zjv hn with p|p
        . exact h.c j hj p
        . exact absurd (by omega) hne
       cases r:knLk E[i].1 s.kn with
       | some w =>
         refine ⟨h.a,h.b,λj hj hn=>?_,λj hj hji m' hm' hmn=>?_,h.f,h.g⟩
         . by_cases p:j=i
           . subst p;rw[r];simp
           . exact c3 j hj hn p
         . rcases Nat.lt_or_ge j i with p|p
           . exact h.e j hj p m' hm' hmn
           . obtain rfl:j=i:=(by omega);rw[r];simp
       | none =>
         have hp:pth E y (m+1) E[i].1=true:=Zj2.2 ⟨E[i],List.getElem_mem hi,rfl,hm2.1⟩;obtain ⟨m1,g1,g2⟩:=md_of _ hp
         have g3:m1=n+1:=by
          rcases Nat.lt_or_ge n m1 with p|p
          . omega
          . rw[h.b _ m1 g2 p]at r;cases r
         subst g3;refine ⟨λx d hx=>?_,λx m' hm' hmn=>?_,λj hj hn=>?_,λj hj hji m' hm' hmn=>?_,?_,λx hx=>?_⟩
         . simp only at hx;rw[Zjt]at hx
           cases p:knLk x s.kn with
           |some w=>rw[p]at hx;simp only[Option.some.injEq]at hx;subst hx;exact h.a x _ p
           | none =>
             rw[p]at hx;simp only at hx
             split at hx
             . rename_i e1;subst e1;simp only[Option.some.injEq]at hx;exact ⟨n+1,by omega,g2,Nat.le_refl _⟩
             . cases hx
         . simp only;rw[Zjt,h.b x m' hm' hmn]
         . simp only;by_cases p:j=i
           . subst p;rw[Zjt,r];simp
           . exact Zju (c3 j hj hn p)
         . simp only;rcases Nat.lt_or_ge j i with p|p
           . exact Zju (h.e j hj p m' hm' hmn)
           . obtain rfl:j=i:=(by omega);rw[Zjt,r];simp
         . simp only[List.map_append,List.map_cons,List.map_nil];rw[h.f,List.append_assoc]
         . simp only[List.mem_append,List.mem_singleton]at hx;rcases hx with hx|rfl
           . exact h.g x hx
           . exact g2
 . rw[if_neg c1];refine ⟨h.a,h.b,h.c,λj hj hji m hm hmn=>?_,h.f,h.g⟩;rcases Nat.lt_or_ge j i with p|p
   . exact h.e j hj p m hm hmn
   . obtain rfl:j=i:=(by omega);exact h.c j hj c1
theorem Zjw (h:LnV E y n s) (hs:s.nx=[]):∀ i,i<=E.length->LnW E y n s (lnI E ((n:Int)+1) s i) i
 |0,_=>⟨λx d hx=>by
  obtain ⟨m,h1,h2,h3⟩:=h.a x d hx;exact ⟨m,h1,h2,by omega⟩,h.b,h.c,λj hj hji=>by omega,by simp[lnI,hs],by simp[lnI,hs]⟩
 | i+1,hi=>by
   have:=(Zjw h hs i (by omega)).step (by omega);rw[lnI,List.getD_eq_getElem?_getD,List.getElem?_eq_getElem (by omega)];exact this
theorem LnW.fin (h:LnW E y n s0 s E.length):LnV E y (n+1) s:=by
 refine ⟨h.a,λx m hm hmn=>?_,h.c⟩;rcases Nat.lt_or_ge m (n+1) with p|p
 . exact h.b x m hm (by omega)
 . obtain rfl:m=n+1:=(by omega);obtain ⟨e,he,rfl,h2⟩:=Zj4 hm;obtain ⟨j,hj,rfl⟩:=List.getElem_of_mem he;have h3:=h.e j hj hj n h2 (Nat.le_refl _)
   cases q:knLk E[j].1 s.kn with
   |none=>exact absurd q h3
   | some d =>
     obtain ⟨m',h4,h5,h6⟩:=h.a _ _ q;have:=Zj3 hm h5;subst this;subst h4;rfl
theorem LnV.reset (h:LnV E y n s) (nx:List Rf):LnV E y n ⟨s.left,s.kn,nx⟩:=⟨h.a,h.b,h.c⟩
theorem Zjx (E:List (Rf×Rf)) (y:Rf):∀ n,LnV E y n (lnO E y n)
 | 0 => by
   refine ⟨λx d hx=>?_,λx m hm hmn=>?_,λi hi hn=>?_⟩
   . simp only[lnO,knLk]at hx
     split at hx
     . rename_i e;subst e;simp only[Option.some.injEq]at hx;exact ⟨0,by omega,⟨by simp[pth],by omega⟩,Nat.le_refl _⟩
     . cases hx
   . obtain rfl:m=0:=(by omega);have:x=y:=(by simpa [pth] using hm.1);subst this;simp[lnO,knLk]
   . exact absurd (List.mem_map.2 ⟨i,List.mem_range.2 hi,rfl⟩) hn
 |n+1=>(Zjw ((Zjx E y n).reset []) rfl E.length (Nat.le_refl _)).fin
theorem lnO_w (E:List (Rf×Rf)) (y:Rf) (n:Nat):LnW E y n ⟨(lnO E y n).left,(lnO E y n).kn,[]⟩ (lnO E y (n+1)) E.length:=Zjw ((Zjx E y n).reset []) rfl E.length (Nat.le_refl _)
theorem Zjy (h:(lnO E y (n+1)).nx=[]):∀ x,¬md E y (n+1) x:=by
 intro x hx;have h1:=(lnO_w E y n).f;rw[h]at h1;simp only[List.map_nil,List.append_nil]at h1;have h2:=(Zjx E y (n+1)).b x _ hx (Nat.le_refl _);rw[h1]at h2;obtain ⟨m,h3,h4,h5⟩:=(Zjx E y n).a x _ h2;have:=Zj3 hx h4;omega
theorem Zjz (h:∀ x,¬md E y (n+1) x):(lnO E y (n+1)).nx=[]:=by
 have hw:=lnO_w E y n
 cases q:(lnO E y (n+1)).nx with
 |nil=>rfl
 |cons x r=>exact absurd (hw.g x (by rw[q];simp)) (h x)
theorem ZjA (h:∀ x,¬md E y (n+1) x):∀ m,n<m->∀ x,¬md E y m x:=by
 intro m hm;obtain ⟨k,rfl⟩ : ∃ k,m=n+1+k:=⟨m-n-1,by omega⟩;clear hm
 induction k with
 |zero=>exact h
 | succ k ih =>
   intro x hx;obtain ⟨e,-,-,h2⟩:=Zj4 hx;exact ih _ h2
theorem ZjB (h:∀ x,¬md E y (n+1) x):∀ k,(lnO E y (n+k)).kn=(lnO E y n).kn
 |0=>rfl
 | k+1=>by
   have h1:=(lnO_w E y (n+k)).f;rw[Zjz (λx=>ZjA h (n+k+1) (by omega) x)]at h1;simp only[List.map_nil,List.append_nil]at h1;rw[<- Nat.add_assoc,h1];exact ZjB h k
theorem ZjC (h:E.length<m) (x:Rf):¬md E y m x:=λhx=>by have:=md_le hx;omega
theorem ZjD (hn:n<=E.length) (h:(lnO E y (n+1)).nx=[]):(lnO E y (n+1)).kn=knF E y:=by
 have h1:=ZjB (Zjy h);obtain ⟨k,hk⟩ : ∃ k,E.length+1=n+k:=⟨E.length+1-n,by omega⟩;rw[h1 1,knF,hk,h1 k]
theorem ZjE (h:(lnO E y (n+1)).nx≠[]):n+1<=E.length:=by
 rcases Nat.lt_or_ge E.length (n+1) with p|p
 . exact absurd (Zjz λx=>ZjC p x) h
 . exact p
theorem ZjF (x:Rf):knLk x (knF E y)=(diN E y x).map λm=>(m:Int):=by
 have hv:=Zjx E y (E.length+1);unfold knF
 cases q:diN E y x with
 | none =>
   cases r:knLk x (lnO E y (E.length+1)).kn with
   |none=>rfl
   | some d =>
     obtain ⟨m,-,h2,-⟩:=hv.a x d r;rw[Zj6.2 h2]at q;cases q
 | some m =>
   have hm:=Zj6.1 q;exact hv.b x m hm (by have:=md_le hm;omega)
end
end Go.Proofs.YtjogcghofinemaaGreatDoor
