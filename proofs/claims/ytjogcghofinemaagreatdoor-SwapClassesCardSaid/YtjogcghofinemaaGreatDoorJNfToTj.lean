/-
  The library's sort of few numbers, by the abstract machine.
-/
import Derived.Test.YtjogcghofinemaaGreatDoorJEdToNd
import Derived.Test.YtjogcghofinemaaGreatDoorJRcWToEc
import Derived.Test.YtjogcghofinemaaGreatDoorJAmLToAmW
set_option linter.all false
set_option linter.unusedSimpArgs false
set_option linter.unusedVariables false
set_option linter.unusedSectionVars false
namespace Go.Proofs.YtjogcghofinemaaGreatDoor
open Go.RowKit
theorem ZgL (ok:Nat->Bool) (st:St) (l:List Int):frzO ok st (.row 1 (l.map ia)) = .row 1 (l.map ia):=by
 simp only[frzO,List.map_map]
 congr 2
 funext p;simp[ia,frzA,frz,AV.keys]
theorem ZgM (ρ:Nat->Nat) (l:List Int):AObj.ren ρ (.row 1 (l.map ia)) = .row 1 (l.map ia):=by
 simp only[AObj.ren,List.map_map]
 congr 2
 funext p;simp[ia,AV.ren]
theorem ZgN (o:List (Nat×AObj)) (l:List Int):Yd o (.row 1 (l.map ia))=true:=by
 simp only[Yd,List.all_eq_true,List.mem_map];rintro x ⟨y,-,rfl⟩ v hv;simp only[ia,List.mem_singleton]at hv;subst hv;simp[Ya,AV.keys]
def ZgO (S:ByteArray):RCode:=.seq (.reg 0 false [{ d:=some 2,op:=.mov (.c (.int .i64 0)) }]) (.seq (.seq (.reg 1 false [{ d:=some 3,op:=.mov (.t 0) },{ d:=some 4,op:=.bin .geq (.t 3) (.c (.int .u64 4294967296)) }]) (.cond (.t 4) (.seq (.reg 2 false [{ d:=some 5,op:=.mov (.t 0) },{ d:=some 6,op:=.vop (.sh false) [(.t 5),(.c (.int .u64 32))] },{ d:=some 0,op:=.mov (.t 6) }]) (.reg 3 false [{ d:=some 2,op:=.mov (.c (.int .i64 32)) }])) (.skip))) (.seq (.seq (.reg 4 false [{ d:=some 7,op:=.mov (.t 0) },{ d:=some 8,op:=.bin .geq (.t 7) (.c (.int .u64 65536)) }]) (.cond (.t 8) (.seq (.reg 5 false [{ d:=some 9,op:=.mov (.t 0) },{ d:=some 10,op:=.vop (.sh false) [(.t 9),(.c (.int .u64 16))] },{ d:=some 0,op:=.mov (.t 10) }]) (.reg 6 false [{ d:=some 11,op:=.mov (.t 2) },{ d:=some 12,op:=.bin .add (.t 11) (.c (.int .i64 16)) },{ d:=some 2,op:=.mov (.t 12) }])) (.skip))) (.seq (.seq (.reg 7 false [{ d:=some 13,op:=.mov (.t 0) },{ d:=some 14,op:=.bin .geq (.t 13) (.c (.int .u64 256)) }]) (.cond (.t 14) (.seq (.reg 8 false [{ d:=some 15,op:=.mov (.t 0) },{ d:=some 16,op:=.vop (.sh false) [(.t 15),(.c (.int .u64 8))] },{ d:=some 0,op:=.mov (.t 16) }]) (.reg 9 false [{ d:=some 17,op:=.mov (.t 2) },{ d:=some 18,op:=.bin .add (.t 17) (.c (.int .i64 8)) },{ d:=some 2,op:=.mov (.t 18) }])) (.skip))) (.seq (.reg 10 false [{ d:=some 19,op:=.mov (.t 2) },{ d:=some 20,op:=.mov (.t 0) },{ d:=some 21,op:=.conv .u8 (.t 20) },{ d:=some 22,op:=.vop .sidx [(.c (.str S)),(.t 21)] },{ d:=some 23,op:=.conv .i64 (.t 22) },{ d:=some 24,op:=.bin .add (.t 19) (.t 23) },{ d:=some 2,op:=.mov (.t 24) }]) (.ret))))) 
section
variable {G:Nat->Option (List AV)}
set_option maxHeartbeats 1000000 in
theorem ZgP (l:List Int) (a b:Nat) (h1:a<=b) (h2:b<=l.length) (h3:l.length<=1000) :
  PB Tryz.prog G 124 [(1000,.row 1 (l.map ia))] [.osl 1000 l.length,.int .i64 a,.int .i64 b] (.tup []) [(1000,.row 1 ((srtI l a b).map ia))]:=by
 (refine Zgi (Nat.le_of_ble_eq_true rfl) λR hG hrd=>Qga ?_;subst hG)
 have w1:IntKind.i64.wrap ((a:Int)+1)=a+1:=Yg (by omega) (by omega);simp -implicitDefEqProofs[Zgf,Zgg,w1];refine Zb9 (λi=>⟨[(6,.int .i64 ((a:Int)+1+i)),(0,.osl 1000 l.length),(1,.int .i64 a),(2,.int .i64 b)],[(1000,.row 1 ((srtI l a (a+1+i)).map ia))]⟩) (λi=>True) (b-(a+1)) ?_ trivial ?_ ?_
 . rw[Ze6 (by omega) (by omega)]
   (refine Yn.sub (by simp[lk,Ya,AV.keys]) ?_;simp only[Wkl,ZgN,and_true];(try simp[lk,Yd,Ya,AV.keys]))
 . intro i hi _;refine Qga ?_;have k1:(a:Int)+1+i<b:=(by omega);simp -implicitDefEqProofs[k1];have hI:a+1+i<l.length:=(by omega);have z:=Ze8 (l:=l) (a:=a) (i:=a+1+i) (by omega) hI;have z0:a+1+i-a=i+1:=(by omega);rw[z0]at z;rw[z];have hat:=λp (hp:p+1<=a+1+i-a)=>Zeb (l:=l) (a:=a) (i:=a+1+i) (p:=p) (by omega) hI hp
   have hend:=λp=>Zec (l:=l) (a:=a) (i:=a+1+i) (p:=p) (by omega) hI
   have hln:=λp (hp:p<=a+1+i-a)=>Ze9 (l:=l) (a:=a) (i:=a+1+i) (p:=p) (by omega) hI hp
   have hsl:=Ze7 (l:=l) (a:=a) (i:=a+1+i) (by omega);generalize hsg:sortI ((l.take (a+1+i)).drop a)=s at *;generalize hxx:l[a+1+i]=x at *
   refine Z1Q (λp:Nat=>⟨[(7,.int .i64 ((a:Int)+p)),(6,.int .i64 ((a:Int)+1+i)),(0,.osl 1000 l.length),(1,.int .i64 a),(2,.int .i64 b)],[(1000,.row 1 ((mvI l a (a+1+i) p).map ia))]⟩)
    (λp=>p<=i+1/\∀ y∈s.drop p,x<y) (λp=>p) (i+1) ?_ ⟨Nat.le_refl _,λy hy=>by rw[List.drop_of_length_le (by omega)]at hy;cases hy⟩ ?_
   . have e9:(a:Int)+1+i=(a:Int)+(i+1:Nat):=(by omega);rw[e9]
     (refine Yn.sub (by simp[lk,Ya,AV.keys]) ?_;simp only[Wkl,ZgN,and_true];(try simp[lk,Yd,Ya,AV.keys]))
   . rintro p ⟨hp,hd⟩;refine Qga ?_
     cases p with
     | zero =>
       have k2:¬(a:Int)<a:=(by omega);simp -implicitDefEqProofs[];refine ⟨rfl,?_⟩;refine Qgr ?_;have w3:IntKind.i64.wrap ((a:Int)+1+i+1)=(a:Int)+1+(i+1):=(by rw[Yg (by omega) (by omega)];omega);have he:=hend 0 (Nat.zero_le _) hd (λq hq=>by omega);have he2:a+1+i+1=a+1+(i+1):=(by omega);rw[he2]at he;rw[he];simp -implicitDefEqProofs[w3]
       (refine Yn.sub (by simp[lk,Ya,AV.keys]) ?_;simp only[Wkl,ZgN,and_true];(try simp[lk,Yd,Ya,AV.keys]))
     | succ p =>
       obtain ⟨y,hy0,hy1,hy2,hy3,hy4⟩:=hat p (by omega);have hl2:=hln (p+1) (by omega);have k2:(a:Int)<(a:Int)+(p+1):=(by omega);have k3:((a:Int)+(p+1)).toNat=a+p+1:=(by omega);have w2:IntKind.i64.wrap ((a:Int)+(p+1)-1)=(a:Int)+p:=(by rw[Yg (by omega) (by omega)];omega);have k4:((a:Int)+p).toNat=a+p:=(by omega);have k5:a+p+1<l.length:=(by omega);have k6:a+p<l.length:=(by omega);have k7:(0:Int)<=(a:Int)+(p+1):=(by omega);have k8:(0:Int)<=(a:Int)+p:=(by omega);have he:=hend (p+1) (by omega) hd;generalize mvI l a (a+1+i) (p+1)=Q at *;obtain ⟨q1,g1⟩:=List.getElem?_eq_some_iff.1 hy1;obtain ⟨q2,g2⟩:=List.getElem?_eq_some_iff.1 hy2;have hls:=Zco (G:=R.G) x y;simp -implicitDefEqProofs[k2,k3,w2,k4,k5,k6,k7,k8,g1,g2,hl2,ia];refine Qco (hls) (by simp) ?_;by_cases hlt:x<y
       . simp -implicitDefEqProofs[hlt,k3,w2,k4,k5,k6,k7,k8,g1,g2,hl2,ia];refine ⟨rfl,rfl,p,?_,⟨by omega,λu hu=>?_⟩,Nat.lt_succ_self _⟩
         . have e1:∀ z:Int,[AV.int .i64 z]=ia z:=λ_=>rfl
           rw[e1,e1,<- List.map_set,<- List.map_set,hy3]
           (refine Yn.sub (by simp[lk,Ya,AV.keys]) ?_;simp only[Wkl,ZgN,and_true];(try simp[lk,Yd,Ya,AV.keys]))
         . obtain ⟨hps,gs⟩:=List.getElem?_eq_some_iff.1 hy0;rw[List.drop_eq_getElem_cons hps,gs]at hu;rcases List.mem_cons.1 hu with rfl|hu
           . exact hlt
           . exact hd u hu
       . simp -implicitDefEqProofs[hlt];refine ⟨rfl,?_⟩;refine Qgr ?_;have w3:IntKind.i64.wrap ((a:Int)+1+i+1)=(a:Int)+1+(i+1):=by rw[Yg (by omega) (by omega)];omega
         have he:=he (λq hq u hu hk=>by
          have:q=p:=(by omega);subst this;rw[hy0]at hu
          cases hu
          exact hlt hk)
         have he2:a+1+i+1=a+1+(i+1):=(by omega);rw[he2]at he;rw[he];simp -implicitDefEqProofs[w3]
         (refine Yn.sub (by simp[lk,Ya,AV.keys]) ?_;simp only[Wkl,ZgN,and_true];(try simp[lk,Yd,Ya,AV.keys]))
 . intro _;refine Qga ?_;have k1:¬(a:Int)+1+(b-(a+1):Nat)<b:=by omega
   have e:srtI l a (a+1+(b-(a+1)))=srtI l a b:=by
    rcases Nat.lt_or_ge a b with h|h
    . congr 1;omega
    . rw[Ze6 (by omega) (by omega),Ze6 (by omega) (by omega)]
   rw[e];simp -implicitDefEqProofs[k1];refine Qgr ?_;simp -implicitDefEqProofs[];refine ⟨[],rfl,rfl,?_⟩;simp[Yj,newK,ZgL]
theorem ZgQ (l:List Int):srtI l 0 l.length=sortI l:=by simp[srtI]
theorem ZgR (l:List Int) (m:Int) (h3:l.length<=12) :
  PB Tryz.prog G 102 [(1000,.row 1 (l.map ia))] [.osl 1000 l.length,.int .i64 0,.int .i64 l.length,.int .i64 m] (.tup []) [(1000,.row 1 ((sortI l).map ia))]:=by
 have hp:=ZgP (G:=G) l 0 l.length (Nat.zero_le _) (Nat.le_refl _) (by omega);rw[ZgQ]at hp
 (refine Zge (Nat.le_of_ble_eq_true rfl) λR hG hrd=>Qga ?_;subst hG)
 have w1:IntKind.i64.wrap (l.length:Int)=(l.length:Int):=Yg (by omega) (by omega);have k1:(l.length:Int)<=12:=(by omega);simp -implicitDefEqProofs[Zgb,Zgc];refine Z1Q (λ_:Unit=>⟨[(0,.osl 1000 l.length),(1,.int .i64 0),(2,.int .i64 l.length)],[(1000,.row 1 (l.map ia))]⟩) (λ_=>True) (λ_=>0) () ?_ trivial ?_
 . (refine Yn.sub (by simp[lk,Ya,AV.keys]) ?_;simp only[Wkl,ZgN,and_true];(try simp[lk,Yd,Ya,AV.keys]))
 rintro ⟨⟩ -;refine Qga ?_;simp -implicitDefEqProofs[w1,k1,h3];refine Ye.sem (Z1B.byref hp id (by simp) (by simp) (by simp[St.get,lk,ZgM]) (by simp[ZgN]) (by simp[Ya,AV.keys,lk]) rfl (by simp[AV.ren]) rfl rfl) ?_;simp -implicitDefEqProofs[Ym,ZgM];refine Qgr ?_;simp -implicitDefEqProofs[];refine ⟨[],rfl,rfl,?_⟩;simp[Yj,newK,ZgL]
set_option maxRecDepth 100000 in
theorem ZgS (n:Nat) (h:n<=12):∃ v:Int,PC Tryz.prog G 134 [.int .u64 n] (.int .i64 v):=by
 have k1:¬(4294967296:Int)<=n:=(by omega);have k2:¬(65536:Int)<=n:=(by omega);have k3:¬(256:Int)<=n:=(by omega);obtain ⟨S,hS,hz⟩ : ∃ S,Zgp=ZgO S/\S.size=256:=⟨_,rfl,rfl⟩;have hn:n<S.size:=(by omega);obtain ⟨c,hc⟩ : ∃ c,S[n]? = some c:=⟨S[n],getElem?_pos S n hn⟩
 have w1:IntKind.u8.wrap (n:Int)=(n:Int):=by
  match n,h with
  |0,_=>rfl
  |1,_=>rfl
  |2,_=>rfl
  |3,_=>rfl
  |4,_=>rfl
  |5,_=>rfl
  |6,_=>rfl
  |7,_=>rfl
  |8,_=>rfl
  |9,_=>rfl
  |10,_=>rfl
  |11,_=>rfl
  |12,_=>rfl
 refine ⟨IntKind.i64.wrap (0+IntKind.i64.wrap (c.toNat:Int)),?_⟩;refine Zgr rfl λR hG hrd=>?_
 rw[hS];refine Qga ?_;simp -implicitDefEqProofs[ZgO,Zgq,k1,k2,k3,w1,hc]
theorem ZgT (n:Nat) (h:n<=12):∃ v:Int,PC Tryz.prog G 103 [.int .u64 n] (.int .i64 v):=by
 obtain ⟨v,hv⟩:=ZgS (G:=G) n h;refine ⟨v,?_⟩
 (refine Zgo rfl λR hG hrd=>Qga ?_;subst hG)
 simp -implicitDefEqProofs[Zgm,Zgn];refine Qco (hv) (by simp) ?_;simp -implicitDefEqProofs[]
theorem ZgU (l:List Int) (h3:l.length<=12) :
  PB Tryz.prog G 73 [(1000,.row 1 (l.map ia))] [.osl 1000 l.length] (.tup []) [(1000,.row 1 ((sortI l).map ia))]:=by
 obtain ⟨v,hv⟩:=ZgT (G:=G) l.length h3;have hp:=ZgR (G:=G) l v h3
 (refine Zga (Nat.le_of_ble_eq_true rfl) λR hG hrd=>Qga ?_;subst hG)
 have w1:IntKind.u64.wrap (l.length:Int)=(l.length:Int):=IntWalk.u64_in _ ⟨by omega,by omega⟩;simp -implicitDefEqProofs[Zg7,Zg8,w1];refine Qco (hv) (by simp) ?_;simp -implicitDefEqProofs[];refine Ye.sem (Z1B.byref hp id (by simp) (by simp) (by simp[St.get,lk,ZgM]) (by simp[ZgN]) (by simp[Ya,AV.keys,lk]) rfl (by simp[AV.ren]) rfl rfl) ?_;simp -implicitDefEqProofs[Ym,ZgM];refine ⟨[],rfl,rfl,?_⟩;simp[Yj,newK,ZgL]
theorem ZgV:PC Tryz.prog G 124 [.nils,.int .i64 0,.int .i64 0] (.tup []):=by
 (refine Zgh rfl λR hG hrd=>Qga ?_;subst hG)
 have w1:IntKind.i64.wrap 1=1:=rfl;simp -implicitDefEqProofs[Zgf,Zgg,w1];refine Z1Q (λ_:Unit=>⟨[(6,.int .i64 1),(2,.int .i64 0)],[]⟩) (λ_=>True) (λ_=>0) () (by (first|exact Yn.tm (by simp[lk])|exact Yn.sub (by simp[lk,Ya,AV.keys]) (by simp[lk,Yd,Ya,AV.keys]))) trivial ?_;rintro ⟨⟩ -;refine Qga ?_;simp -implicitDefEqProofs[];refine Qgr ?_;simp -implicitDefEqProofs[]
theorem ZgW (m:Int):PC Tryz.prog G 102 [.nils,.int .i64 0,.int .i64 0,.int .i64 m] (.tup []):=by
 (refine Zgd rfl λR hG hrd=>Qga ?_;subst hG)
 have w1:IntKind.i64.wrap 0=0:=rfl;simp -implicitDefEqProofs[Zgb,Zgc];refine Z1Q (λ_:Unit=>⟨[(0,.nils),(1,.int .i64 0),(2,.int .i64 0)],[]⟩) (λ_=>True) (λ_=>0) () (by (first|exact Yn.tm (by simp[lk])|exact Yn.sub (by simp[lk,Ya,AV.keys]) (by simp[lk,Yd,Ya,AV.keys]))) trivial ?_;rintro ⟨⟩ -;refine Qga ?_;simp -implicitDefEqProofs[w1];refine Qco (ZgV) (by simp) ?_;simp -implicitDefEqProofs[];refine Qgr ?_;simp -implicitDefEqProofs[]
theorem ZgX:PC Tryz.prog G 73 [.nils] (.tup []):=by
 obtain ⟨v,hv⟩:=ZgT (G:=G) 0 (by omega);have w1:IntKind.u64.wrap 0=0:=rfl
 (refine Zg9 rfl λR hG hrd=>Qga ?_;subst hG)
 simp -implicitDefEqProofs[Zg7,Zg8,w1];refine Qco (hv) (by simp) ?_;simp -implicitDefEqProofs[];refine Qco (ZgW v) (by simp) ?_;simp -implicitDefEqProofs[]
end
def K8n:List AV:=[.func (.func 184) [] [],.func (.func 185) [] [],.func (.func 186) [] [],.func (.func 187) [] [],.func (.func 189) [] [],.func (.func 190) [] [],.func (.func 193) [] [],.func (.func 195) [] []]
def GN (G:Nat->Option (List AV)):Prop:=G 1=some K8n
def ckK (r:List Iss) (l:List Nte) (i:Nat):Nat->Bool
 |0=>cN1 (nAt l i)
 |1=>cN2 (nAt l i)
 |2=>cN3 (nAt l i)
 |3=>cN4 r (nAt l i)
 |4=>cN5 (nAt l i)
 |5=>cN6 l i (nAt l i)
 |6=>cN7 l i (nAt l i)
 |_=>cN8 l i (nAt l i)
theorem ZgY {r:List Iss} {l:List Nte} {i:Nat}:noteB r l i=true↔∀ j,j<8->ckK r l i j=true:=by
 simp only[noteB,Bool.and_eq_true]
 constructor
 . rintro ⟨⟨⟨⟨⟨⟨⟨h1,h2⟩,h3⟩,h4⟩,h5⟩,h6⟩,h7⟩,h8⟩ j hj
   match j,hj with
   |0,_=>exact h1
   |1,_=>exact h2
   |2,_=>exact h3
   |3,_=>exact h4
   |4,_=>exact h5
   |5,_=>exact h6
   |6,_=>exact h7
   |7,_=>exact h8
 . intro h;exact ⟨⟨⟨⟨⟨⟨⟨h 0 (by omega),h 1 (by omega)⟩,h 2 (by omega)⟩,h 3 (by omega)⟩,h 4 (by omega)⟩,h 5 (by omega)⟩,h 6 (by omega)⟩,h 7 (by omega)⟩
def opA (l:List Nte):AV:=if opU l=[] then .nils else .vsl ((sortI (opU l)).map ia)
def fileA (r:List Iss) (l:List Nte):AV:=.vptr [.vsl (r.map isa),.vsl (l.map na),.vsl ((nums r).map ia),opA l] 0
def opdA (r:List Iss) (l:List Nte):AV:=.tup [if chN r l=0 then fileA r l else .nilp,.int .i64 (chN r l)]
def onu (l:List Nte) (i:Nat):List Int:=(opN l i).map (·.nu)
theorem ZgZ {l:List Nte} {i:Nat} (h:i<l.length):onu l (i+1)=if l[i].sg=1 then onu l i++[l[i].nu] else onu l i:=by
 unfold onu;rw[ZdQ h];split
 . rw[List.map_append];rfl
 . rfl
theorem Zh0 (l:List Nte) (i:Nat):(onu l i).length<=i:=by unfold onu;rw[List.length_map];exact ZdR l i
def opdT (l:List Nte):List (Nat×AV):=[(31,.int .i64 l.length),(30,.vsl (l.map na)),(6,.ptr 28 0),(7,.bool false),(1,.ptr 1 0)]
def opdO (r:List Iss) (l:List Nte) (i:Nat):List (Nat×AObj):=if onu l i=[] then [(1,.box [.vsl (r.map isa),.vsl (l.map na)]),(28,.box [.vsl (r.map isa),.vsl (l.map na),.vsl ((nums r).map ia),.nils])]
 else [(1,.box [.vsl (r.map isa),.vsl (l.map na)]),(28,.box [.vsl (r.map isa),.vsl (l.map na),.vsl ((nums r).map ia),.osl 59 (onu l i).length]),(59,.row 1 ((onu l i).map ia))]
def opdS (r:List Iss) (l:List Nte) (i:Nat):St:=⟨(32,.int .i64 i)::opdT l,opdO r l i⟩
def opdI (r:List Iss) (l:List Nte) (i:Nat) (x:Nte) (j:Nat):St:=⟨(38,.int .i64 j)::(37,.agg K8n)::(8,.int .i64 i)::(9,.ptr 9 0)::(32,.int .i64 i)::opdT l,(9,.box (na x))::opdO r l i⟩
section
variable {G:Nat->Option (List AV)}
theorem kNall (hG:GC G) {r:List Iss} {l:List Nte} {i:Nat} (hi:i<l.length) (hw:WfN l) (hr:Wf r) (ho:openV r=0) (j:Nat) (hj:j<8) :
  ∃ f,(K8n.drop j).take 1=[.func (.func f) [] []]/\PC Tryz.prog G f [.agg [.vsl (r.map isa),.vsl (l.map na)],.int .i64 i] (.bool (ckK r l i j)):=by
 match j,hj with
 |0,_=>exact ⟨_,rfl,ZgC r l i hi hw hr⟩
 |1,_=>exact ⟨_,rfl,ZgD r l i hi hw hr⟩
 |2,_=>exact ⟨_,rfl,ZgE r l i hi hw hr⟩
 |3,_=>exact ⟨_,rfl,ZgF hG r l i hi hw hr ho⟩
 |4,_=>exact ⟨_,rfl,ZgG r l i hi hw hr⟩
 |5,_=>exact ⟨_,rfl,ZgH r l i hi hw hr⟩
 |6,_=>exact ⟨_,rfl,ZgK r l i hi hw hr⟩
 |7,_=>exact ⟨_,rfl,ZgI r l i hi hw hr⟩
set_option maxHeartbeats 4000000 in
theorem Zh1 (hG:GC G) (hN:GN G) (r:List Iss) (l:List Nte) (hw:WfN l) (hr:Wf r):PC Tryz.prog G 74 [.agg [.vsl (r.map isa),.vsl (l.map na)]] (opdA r l):=by
 have hl:=hw.1;unfold Sml at hl;have hd:=Zds hG r hr;rw[rega]at hd;unfold GN at hN
 (refine ZfD rfl λR hG hrd=>Qga ?_;subst hG)
 by_cases ho:openV r=0
 case neg =>
  have e:chN r l=openV r:=(by rw[chN,if_neg ho]);simp -implicitDefEqProofs[ZfB,ZfC];refine Qco (hd) (by simp) ?_;simp -implicitDefEqProofs[ho,opdA,e]
 rw[if_pos ho,ho]at hd;by_cases h12:12<l.length
 . have h12':(12:Int)<l.length:=by omega
   have hB:ZdS r l=false:=by
    have:¬l.length<=12:=(by omega);simp[ZdS,this]
   have e:chN r l=30:=(by rw[chN,if_pos ho,hB];rfl);simp -implicitDefEqProofs[ZfB,ZfC];refine Qco (hd) (by simp) ?_;simp -implicitDefEqProofs[opdA,e,h12,h12']
 have h12':¬(12:Int)<l.length:=(by omega);simp -implicitDefEqProofs[ZfB,ZfC];refine Qco (hd) (by simp) ?_;simp -implicitDefEqProofs[h12,h12'];refine Zb9 (opdS r l) (λi=>∀ j,j<i->noteB r l j=true) l.length ?_ (by simp) ?_ ?_
 . have e0:onu l 0=[]:=rfl;simp only[opdS,opdO,opdT,e0,if_true]
   (refine Yn.sub (by simp[lk,Ya,AV.keys]) ?_;simp only[Wkl,and_true];(try simp[lk,Yd,Ya,AV.keys]))
 . intro i hi he;refine Qga ?_;obtain ⟨x,hxx⟩ : ∃ x,x=l[i]:=⟨_,rfl⟩;have hlx:l[i]=x:=hxx.symm;have hna:na x=[.int .i64 x.nu,.int .i64 x.dy,.int .u8 x.sg,.int .i64 x.dr,.int .i64 x.lt,.int .i64 x.fr,.int .i64 x.tu,.int .i64 x.ca,.bool x.up,.int .u8 x.wy]:=rfl;have hk:=kNall hG hi hw hr ho;have wi:IntKind.i64.wrap ((i:Int)+1)=(i:Int)+1:=Yg (by omega) (by omega);have sc:=ZgZ hi;have ol:=Zh0 l i;rw[hlx]at sc;have t8:K8n.take 8=K8n:=rfl;have l8:K8n.length=8:=rfl;by_cases c:onu l i=[]
   case' pos =>
    simp -implicitDefEqProofs[opdS,opdO,opdT,c,hi,hlx,hna,hN,t8,l8]
   case' neg =>
    simp -implicitDefEqProofs[opdS,opdO,opdT,c,hi,hlx,hna,hN,t8,l8]
   all_goals
    refine Zb9 (opdI r l i x) (λj=>∀ k,k<j->ckK r l i k=true) 8 ?_ (by simp) ?_ ?_
    . simp only[opdI,opdO,opdT,c,if_true,if_false]
      ((try simp only[hna,K8n]);refine Yn.sub (by simp[lk,Ya,AV.keys,hna,K8n]) ?_;simp only[hna,K8n,Wkl,ZgN,and_true];(try simp[lk,Yd,Ya,AV.keys,hna,K8n]))
    . intro j hj hJ;refine Qga ?_;obtain ⟨f,hf1,hf2⟩:=hk j hj;have wj:IntKind.i64.wrap ((j:Int)+1)=(j:Int)+1:=Yg (by omega) (by omega);have j1:(j:Int)<8:=(by omega);have j2:j+1<=8:=(by omega);have j3:j<=7:=(by omega);simp -implicitDefEqProofs[opdI,opdO,opdT,c,j1,j2,j3,l8,hf1,hj];refine Qco (hf2) (by simp) ?_
      cases hb:ckK r l i j
      . have hB:ZdS r l=false:=by
         cases q:ZdS r l
         . rfl
         . simp only[ZdS,Bool.and_eq_true]at q;have h1:=Zbq.1 q.1.2 i hi;have h2:=ZgY.1 h1 j hj;rw[hb]at h2;cases h2
        have e:chN r l=30:=(by rw[chN,if_pos ho,hB];rfl);simp -implicitDefEqProofs[];refine Qgr ?_;simp -implicitDefEqProofs[];refine Qgr ?_;simp -implicitDefEqProofs[opdA,e]
      . simp -implicitDefEqProofs[wj];refine ⟨?_,λk hk=>?_⟩
        . simp only[opdI,opdO,opdT,c,if_true,if_false]
          ((try simp only[hna,K8n]);refine Yn.sub (by simp[lk,Ya,AV.keys,hna,K8n]) ?_;simp only[hna,K8n,Wkl,ZgN,and_true];(try simp[lk,Yd,Ya,AV.keys,hna,K8n]))
        . rcases Nat.lt_or_ge k j with h1|h1
          . exact hJ k h1
          . obtain rfl:k=j:=(by omega);exact hb
    . intro hJ;refine Qga ?_;have hnb:noteB r l i=true:=ZgY.2 hJ
      have he2:∀ j,j<i+1->noteB r l j=true:=λj hj=>by
       rcases Nat.lt_or_ge j i with h1|h1
       . exact he j h1
       . obtain rfl:j=i:=(by omega);exact hnb
      have bb:((onu l i).length+1)*8<=70368744177664:=(by omega);simp -implicitDefEqProofs[opdI,opdO,opdT,c];refine Qgr ?_;by_cases q:x.sg=1
      . rw[if_pos q]at sc;have hne:onu l (i+1)≠[]:=(by rw[sc];simp);simp -implicitDefEqProofs[hna,q,bb,wi];refine ⟨rfl,?_,he2⟩;simp only[opdS,opdO,opdT,hne,if_false];have e1:(onu l (i+1)).map ia=(onu l i).map ia++[[AV.int .i64 x.nu]]:=(by rw[sc,List.map_append];rfl);have e2:(onu l (i+1)).length=(onu l i).length+1:=by rw[sc];simp
        first
         |(rw[c,List.nil_append]at sc;rw[sc];((try simp only[ia]);refine Yn.sub (by simp[lk,Ya,AV.keys,ia]) ?_;simp only[ia,Wkl,and_true];(try simp[lk,Yd,Ya,AV.keys,ia]));done)
         |(rw[<- e1,e2];(refine Yn.sub (by simp[lk,Ya,AV.keys]) ?_;simp only[Wkl,ZgN,and_true];(try simp[lk,Yd,Ya,AV.keys]));done)
      . rw[if_neg q]at sc;simp -implicitDefEqProofs[hna,q,wi];refine ⟨?_,he2⟩;simp only[opdS,opdO,opdT,sc,c,if_true,if_false]
        (refine Yn.sub (by simp[lk,Ya,AV.keys]) ?_;simp only[Wkl,ZgN,and_true];(try simp[lk,Yd,Ya,AV.keys]))
 . intro he;refine Qga ?_;have hall:(List.range l.length).all (noteB r l)=true:=Zbq.2 he;have hu:onu l l.length=opU l:=rfl;have hul:=Zh0 l l.length;have hln:(onu l l.length).length=(opN l l.length).length:=by simp[onu]
   have hB:ZdS r l=decide ((opN l l.length).length<=5):=by
    have h2:l.length<=12:=(by omega);simp[ZdS,hall,h2]
   rw[<- hln]at hB;by_cases c:onu l l.length=[]
   . have hB2:ZdS r l=true:=(by rw[hB,c];rfl);have e:chN r l=0:=(by rw[chN,if_pos ho,hB2];rfl);have ea:opA l = .nils:=(by rw[opA,<- hu,if_pos c]);simp -implicitDefEqProofs[opdS,opdO,opdT,c];refine Qgr ?_;simp -implicitDefEqProofs[];refine Qco (ZgX) (by simp) ?_;simp -implicitDefEqProofs[opdA,e,fileA,ea]
   . by_cases h5:5<(onu l l.length).length
     . have h5':(5:Int)<(onu l l.length).length:=(by omega);have hB2:ZdS r l=false:=(by rw[hB];exact decide_eq_false (by omega));have e:chN r l=30:=(by rw[chN,if_pos ho,hB2];rfl);simp -implicitDefEqProofs[opdS,opdO,opdT,c];refine Qgr ?_;simp -implicitDefEqProofs[h5,h5',opdA,e]
     . have h5':¬(5:Int)<(onu l l.length).length:=(by omega);have hB2:ZdS r l=true:=(by rw[hB];exact decide_eq_true (by omega));have e:chN r l=0:=(by rw[chN,if_pos ho,hB2];rfl);have ea:opA l = .vsl ((sortI (opU l)).map ia):=(by rw[opA,<- hu,if_neg c]);have hsp:=ZgU (G:=R.G) (onu l l.length) (by omega);have pu:((sortI (opU l)).map ia).all (λr=>r.all AV.pure)=true:=(by simp[ia,AV.pure]);have sl:(sortI (opU l)).length=(onu l l.length).length:=(by rw[Ze4,<- hu]);simp -implicitDefEqProofs[opdS,opdO,opdT,c];refine Qgr ?_;simp -implicitDefEqProofs[h5,h5'];refine Ye.sem (Z1B.byref hsp (λ_=>59) (by simp) (by simp) (by simp[St.get,lk,ZgM]) (by simp[ZgN]) (by simp[Ya,AV.keys,lk]) rfl (by simp[AV.ren]) rfl rfl) ?_;rw[hu];rw[hu]at sl;simp -implicitDefEqProofs[Ym,ZgM,opdA,e,fileA,ea,pu,sl]
end
def lfS (U s:List Int) (i:Nat):List Int:=U.filter λn=>!decide (n∈s.take i)
theorem Zh2 {U s:List Int} {i:Nat} (hi:i<s.length) (hU:U.Nodup):(lfS U s i).erase s[i]=lfS U s (i+1):=by
 have hn:(lfS U s i).Nodup:=hU.filter _;rw[hn.erase_eq_filter];unfold lfS;rw[List.filter_filter];refine List.filter_congr λn _=>?_
 have hm:n∈s.take (i+1)↔(n∈s.take i∨n=s[i]):=(by rw[List.take_succ_eq_append_getElem hi,List.mem_append,List.mem_singleton]);by_cases e:n=s[i]
 . rw[decide_eq_true (hm.2 (.inr e)),bne_eq_false_iff_eq.2 e];rfl
 . by_cases e2:n∈s.take i
   . rw[decide_eq_true (hm.2 (.inl e2)),decide_eq_true e2];simp
   . rw[decide_eq_false (λh=>(hm.1 h).elim e2 e),decide_eq_false e2];simp[e]
def truI (l:List Nte) (s:List Int) (i:Nat):Prop:=∀ j,j<i->s.getD j 0∈opU l/\(0<j->s.getD (j-1) 0<s.getD j 0)
theorem Zh3 {l:List Nte} {s:List Int} {i:Nat} (h:truI l s i):∀ a b,a<b->b<i->s.getD a 0<s.getD b 0
 |a,0,h1,_=>by omega
 | a,b+1,h1,h2=>by
   have h3:=(h (b+1) h2).2 (by omega);rw[Nat.add_sub_cancel]at h3;rcases Nat.lt_or_ge a b with h4|h4
   . have:=Zh3 h a b h4 (by omega);omega
   . obtain rfl:a=b:=(by omega);exact h3
theorem Zh4 {l:List Nte} {U s:List Int} {i:Nat} (hU:∀ n,n∈U↔n∈opU l) (hi:i<s.length) (h:truI l s i):(s[i]∈lfS U s i/\(0<i->s.getD (i-1) 0<=s[i]))↔truI l s (i+1):=by
 have eg:∀ j,∀ hj:j<s.length,s.getD j 0=s[j]:=λj hj=>by simp[List.getD_eq_getElem?_getD,hj]
 unfold lfS;rw[List.mem_filter,hU]
 constructor
 . rintro ⟨⟨h1,h2⟩,h3⟩ j hj;rcases Nat.lt_or_ge j i with h4|h4
   . exact h j h4
   . obtain rfl:j=i:=(by omega);rw[eg j hi];refine ⟨h1,λh0=>?_⟩;have h5:=h3 h0;have hj1:j-1<s.length:=by omega
     have h6:s.getD (j-1) 0≠s[j]:=λe=>by
      have:s[j]∈s.take j:=(by rw[<- e,eg _ hj1];rw[List.mem_take_iff_getElem];exact ⟨j-1,by omega,rfl⟩);simp[this]at h2
     omega
 . intro h1;have h2:=h1 i (by omega);rw[eg i hi]at h2;refine ⟨⟨h2.1,?_⟩,λh0=>Int.le_of_lt (h2.2 h0)⟩
   have:s[i] ∉ s.take i:=λhm=>by
    obtain ⟨j,hj,e⟩:=List.mem_take_iff_getElem.1 hm;have:=Zh3 h1 j i (by omega) (by omega);rw[eg i hi,eg j (by omega)]at this;omega
   simp[this]
theorem Zh5 {l:List Nte} {s:List Int}:truB l s=true↔truI l s s.length:=by
 unfold truB truI;rw[Zbq];refine forall_congr' λj=>forall_congr' λhj=>?_
 rw[Bool.and_eq_true,decide_eq_true_eq];refine and_congr_right λ_=>?_
 cases j with
 |zero=>simp
 |succ j=>simp
section
variable {G:Nat->Option (List AV)}
theorem Zh6 (l:List Int) (n:Int) (h:Sml l):PC Tryz.prog G 104 [.vsl (l.map ia),.int .i64 n] (.int .i64 (idx l n)):=by
 (refine Zg6 rfl λR hG hrd=>Qga ?_;subst hG)
 unfold Sml at h;simp -implicitDefEqProofs[Zg4,Zg5];refine Zb9 (λi=>⟨[(8,.int .i64 i),(7,.int .i64 l.length),(0,.vsl (l.map ia)),(1,.int .i64 n)],[]⟩) (λi=>n ∉ l.take i) l.length (by (first|exact Yn.tm (by simp[lk])|exact Yn.sub (by simp[lk,Ya,AV.keys]) (by simp[lk,Yd,Ya,AV.keys]))) (by simp) ?_ ?_
 . intro i hi he;refine Qga ?_;have w1:IntKind.i64.wrap ((i:Int)+1)=(i:Int)+1:=Yg (by omega) (by omega);by_cases e:n=l[i]
   . have hm:n∈l:=e ▸ List.getElem_mem hi
     have hix:l.idxOf n=i:=by
      have hs:=List.take_append_drop i l;rw[List.drop_eq_getElem_cons hi]at hs;rw[<- hs,List.idxOf_append,if_neg he,List.idxOf_cons];simp[e];omega
     have e2:idx l n=i:=(by rw[idx,if_pos hm,hix]);simp -implicitDefEqProofs[hi,ia,e];refine Qgr ?_;rw[e]at e2;simp -implicitDefEqProofs[e2]
   . simp -implicitDefEqProofs[hi,ia,e,w1];refine ⟨by (first|exact Yn.tm (by simp[lk])|exact Yn.sub (by simp[lk,Ya,AV.keys]) (by simp[lk,Yd,Ya,AV.keys])),?_⟩;rw[List.take_succ_eq_append_getElem hi,List.mem_append,List.mem_singleton];exact λh=>h.elim he e
 . intro he;rw[List.take_length]at he;refine Qga ?_;have e2:idx l n = -1:=(by rw[idx,if_neg he]);simp -implicitDefEqProofs[];refine Qgr ?_;simp -implicitDefEqProofs[e2]
theorem Zh7 (l:List Int) (n:Int) (h:Sml l):PC Tryz.prog G 75 [.vsl (l.map ia),.int .i64 n] (.bool (decide (n∈l))):=by
 have hc:=Zh6 (G:=G) l n h
 have e:decide (0<=idx l n)=decide (n∈l):=by
  have:=Zbx (l:=l) (n:=n);by_cases h:n∈l
  . rw[decide_eq_true h,decide_eq_true];have:¬idx l n<0:=λh2=>(this.1 h2) h
    omega
  . rw[decide_eq_false h,decide_eq_false];have:=this.2 h;omega
 (refine Zg3 rfl λR hG hrd=>Qga ?_;subst hG)
 simp -implicitDefEqProofs[Zg1,Zg2];refine Qco (hc) (by simp) ?_;simp -implicitDefEqProofs[e]
theorem Zh8 (o:List (Nat×AObj)) (l:List Int):Yd o (.mp (lfA l))=true:=by
 simp only[Yd,List.all_eq_true,lfA,List.mem_map];rintro _ ⟨y,-,rfl⟩;simp[Ya,AV.keys]
set_option maxHeartbeats 1000000 in
theorem Zh9 (r:List Iss) (l:List Nte) (s:List Int) (hs:Sml s) (hU:(opU l).Nodup) (hl:(opU l).length<=12):PC Tryz.prog G 93 [fileA r l,.vsl (s.map ia)] (.int .i64 (if truB l s=true then 0 else 31)):=by
 unfold Sml at hs;have hUs:(sortI (opU l)).Nodup:=(Ze0 _).symm.nodup hU;have hsl:=Ze4 (opU l);obtain ⟨S,hS⟩ : ∃ S,S=sortI (opU l):=⟨_,rfl⟩;have hSm:∀ n,n∈S↔n∈opU l:=λn=>by rw[hS];exact Ze5
 rw[<- hS]at hUs hsl
 have hO:(S=[]/\opA l = .nils)∨(S≠[]/\opA l = .vsl (S.map ia)):=by
  by_cases c:opU l=[]
  . exact .inl ⟨List.length_eq_zero_iff.1 (by rw[hsl,c];rfl),by rw[opA,if_pos c]⟩
  . exact .inr ⟨λe=>c (List.length_eq_zero_iff.1 (by rw[<- hsl,e];rfl)),by rw[opA,if_neg c,hS]⟩
 have key : ∀ R:Run,R.G=G->R.Top->∀ (rc:RCode),rc=dropZ 3 ZfH->AR Tryz.prog R rc ⟨[(5,.mp 10),(1,.vsl (s.map ia))],[(10,.mp (lfA S))]⟩ (Fin ZfI (.int .i64 (if truB l s=true then 0 else 31))):=λR _ _ rc hrc=>by
  subst hrc;refine Qga ?_;simp -implicitDefEqProofs[dropZ,ZfH];refine Zb9 (λi=>⟨[(25,.int .i64 i),(24,.int .i64 s.length),(23,.vsl (s.map ia)),(5,.mp 10),(1,.vsl (s.map ia))],[(10,.mp (lfA (lfS S s i)))]⟩) (λi=>truI l s i) s.length ?_ (λj hj=>by omega) ?_ ?_
  . have e0:lfS S s 0=S:=by unfold lfS;simp
    ((try simp only[e0]);refine Yn.sub (by simp[lk,Ya,AV.keys,e0]) ?_;simp only[e0,Wkl,Zh8,and_true];(try simp[lk,Yd,Ya,AV.keys,e0]))
  . intro i hi hI;refine Qga ?_;have wi:IntKind.i64.wrap ((i:Int)+1)=(i:Int)+1:=Yg (by omega) (by omega);have gl:=ZcR s[i] (lfS S s i);have st:=Zh4 hSm hi hI;have le:=Zh2 (s:=s) hi hUs
    have no:¬truI l s (i+1)->truB l s=false:=λh=>by
     cases q:truB l s
     . rfl
     . exact absurd (λj hj=>Zh5.1 q j (by omega)) h
    by_cases hm:s[i]∈lfS S s i
    . rw [if_pos hm]at gl;have dl:=ZcU hm;rw[le]at dl
      cases i with
      | zero =>
        have w1:IntKind.i64.wrap 1=1:=rfl;have h1:=st.1 ⟨hm,λh=>by omega⟩;simp -implicitDefEqProofs[hi,ia,gl,dl,w1];refine ⟨?_,h1⟩
        (refine Yn.sub (by simp[lk,Ya,AV.keys]) ?_;simp only[Wkl,Zh8,and_true];(try simp[lk,Yd,Ya,AV.keys]))
      | succ k =>
        have hk:k<s.length:=(by omega);have k1:(k:Int)+1<s.length:=(by omega);have k2:((k:Int)+1).toNat=k+1:=(by omega);have k3:(0:Int)<=(k:Int)+1:=(by omega);have k4:(0:Int)<(k:Int)+1:=(by omega);have wk:IntKind.i64.wrap ((k:Int)+1-1)=(k:Int):=(by rw[Yg (by omega) (by omega)];omega);have wk2:IntKind.i64.wrap (k:Int)=(k:Int):=Yg (by omega) (by omega);have wk3:IntKind.i64.wrap ((k:Int)+1+1)=(k:Int)+1+1:=Yg (by omega) (by omega);have eg:s.getD (k+1-1) 0=s[k]:=(by simp[List.getD_eq_getElem?_getD,hk]);rw[eg]at st;by_cases hlt:s[k+1]<s[k]
        . have hB:=no λh=>by have:=(st.2 h).2 (by omega);omega
          simp -implicitDefEqProofs[hi,hk,ia,gl,k1,k2,k3,k4,wk,wk2,hlt];refine Qgr ?_;simp -implicitDefEqProofs[hB,ZfI]
        . have h1:=st.1 ⟨hm,λ_=>by omega⟩;simp -implicitDefEqProofs[hi,hk,ia,gl,k1,k2,k3,k4,wk,wk2,wk3,hlt,dl];refine ⟨?_,h1⟩
          (refine Yn.sub (by simp[lk,Ya,AV.keys]) ?_;simp only[Wkl,Zh8,and_true];(try simp[lk,Yd,Ya,AV.keys]))
    . rw[if_neg hm]at gl;have hB:=no λh=>hm (st.2 h).1
      simp -implicitDefEqProofs[hi,ia,gl];refine Qgr ?_;simp -implicitDefEqProofs[hB,ZfI]
  . intro hI;have hB:=Zh5.2 hI;refine Qga ?_;simp -implicitDefEqProofs[];refine Qgr ?_;simp -implicitDefEqProofs[hB,ZfI]
 refine ZfJ rfl λR hG hrd=>?_
 have key:=key R hG hrd _ rfl;rcases hO with ⟨h1,h2⟩ | ⟨h1,h2⟩
 . refine Qga ?_;simp -implicitDefEqProofs[ZfH,fileA,h2];refine Zb9 (λi=>⟨[(16,.int .i64 i),(15,.int .i64 0),(5,.mp 10),(1,.vsl (s.map ia))],[(10,.mp (lfA S))]⟩) (λ_=>True) 0 ?_ trivial (λi hi=>by omega) ?_
   . have e0:lfA []=[]:=rfl
     ((try simp only[h1,e0]);refine Yn.sub (by simp[lk,Ya,AV.keys,h1,e0]) ?_;simp only[h1,e0,Wkl,Zh8,and_true];(try simp[lk,Yd,Ya,AV.keys,h1,e0]))
   . intro _;refine Qga ?_;simp -implicitDefEqProofs[];refine Z2M Yb 2 ?_;simp -implicitDefEqProofs[];refine GOz (Z2L ?_ key)
     (refine Yn.sub (by simp[lk,Ya,AV.keys]) ?_;simp only[Wkl,Zh8,and_true];(try simp[lk,Yd,Ya,AV.keys]))
 . refine Qga ?_;simp -implicitDefEqProofs[ZfH,fileA,h2];refine Zb9 (λi=>⟨[(16,.int .i64 i),(15,.int .i64 S.length),(14,.vsl (S.map ia)),(5,.mp 10),(1,.vsl (s.map ia))],[(10,.mp (lfA (S.take i)))]⟩) (λ_=>True) S.length ?_ trivial ?_ ?_
   . have e0:lfA []=[]:=rfl
     ((try simp only[List.take_zero,e0]);refine Yn.sub (by simp[lk,Ya,AV.keys,List.take_zero,e0]) ?_;simp only[List.take_zero,e0,Wkl,Zh8,and_true];(try simp[lk,Yd,Ya,AV.keys,List.take_zero,e0]))
   . intro i hi _;refine Qga ?_;have wi:IntKind.i64.wrap ((i:Int)+1)=(i:Int)+1:=Yg (by omega) (by omega)
     have hni:S[i] ∉ S.take i:=λhm=>by
      obtain ⟨j,hj,e⟩:=List.mem_take_iff_getElem.1 hm;have:=(List.nodup_iff_pairwise_ne.1 hUs);have:=List.pairwise_iff_getElem.1 this j i (by omega) hi (by omega);exact this e
     have pl:=ZcS hni;have e1:S.take i++[S[i]]=S.take (i+1):=(List.take_succ_eq_append_getElem hi).symm;rw[e1]at pl;simp -implicitDefEqProofs[hi,ia,pl,wi]
     (refine Yn.sub (by simp[lk,Ya,AV.keys]) ?_;simp only[Wkl,Zh8,and_true];(try simp[lk,Yd,Ya,AV.keys]))
   . intro _;refine Qga ?_;simp -implicitDefEqProofs[];refine Z2M Yb 2 ?_;simp -implicitDefEqProofs[];refine GOz (Z2L ?_ key)
     ((try simp only[List.take_length]);refine Yn.sub (by simp[lk,Ya,AV.keys,List.take_length]) ?_;simp only[List.take_length,Wkl,Zh8,and_true];(try simp[lk,Yd,Ya,AV.keys,List.take_length]))
end
section
variable {G:Nat->Option (List AV)}
end
section
variable {G:Nat->Option (List AV)}
end
theorem Zha (o:List (Nat×AObj)) (l:List Int):Yd o (.mp (lfA l))=true:=by
 simp only[Yd,List.all_eq_true,lfA,List.mem_map];rintro x ⟨y,-,rfl⟩;simp[Ya,AV.keys]
section
variable {G:Nat->Option (List AV)}
end
def mpP {α:Type} (n:Int) (v:α):List (Int×α)->List (Int×α)
 |[]=>[(n,v)]
 |p::l=>if n=p.1 then (n,v)::l else p::mpP n v l
theorem Zhb {α:Type} (n:Int) (v:α):∀ (l:List (Int×α)) (m:Int),mlk m (mpP n v l)=if m=n then some v else mlk m l
 |[],m=>by simp[mpP,mlk]
 | p :: l,m=>by
   have ih:=Zhb n v l m;simp only[mpP];by_cases e:n=p.1
   . rw[if_pos e];simp only[mlk];by_cases e2:m=n
     . rw[if_pos e2,if_pos e2]
     . rw[if_neg e2,if_neg e2,if_neg (by rw[<- e];exact e2)]
   . rw[if_neg e];simp only[mlk];by_cases e2:m=p.1
     . rw[if_pos e2,if_pos e2,if_neg (by rintro rfl;exact e e2)]
     . rw[if_neg e2,if_neg e2];exact ih
theorem Zhc {α:Type} (f:α->AV) (n:Int) (v:α):∀ l:List (Int×α),∃ o:Option Nat,(KK.i .i64).find (.int .i64 n) (mpA f l)=some o/\match o with
  |some j=>mpP n v l=l.set j (n,v)
  |none=>mpP n v l=l++[(n,v)]
 |[]=>⟨none,rfl,rfl⟩
 | p :: r=>by
   obtain ⟨o,h1,h2⟩:=Zhc f n v r;by_cases e:n=p.1
   . exact ⟨some 0,by simp[mpA,KK.find,KK.eq,e],by simp[mpP,e]⟩
   . refine ⟨o.map (· + 1),?_,?_⟩
     . simp only[mpA,List.map_cons,KK.find,KK.eq,and_self,if_true,e,decide_false];rw[show r.map (λp=>(AV.int .i64 p.1,f p.2))=mpA f r from rfl,h1];rfl
     . cases o with
       |none=>simp only[Option.map_none,mpP,if_neg e,h2];rfl
       |some j=>simp only[Option.map_some,mpP,if_neg e,h2];rfl
theorem Zhd {α:Type} (f:α->AV) (n:Int) (v:α) (l:List (Int×α)):(KK.i .i64).put (.int .i64 n) (f v) (mpA f l)=some (mpA f (mpP n v l)):=by
 obtain ⟨o,h1,h2⟩:=Zhc f n v l;have hi:(KK.i .i64).is (.int .i64 n)=true:=(by simp[KK.is]);unfold KK.put;rw[if_pos hi,h1]
 cases o with
 |none=>simp only[h2];simp[mpA]
 |some j=>rw[h2];simp[mpA,List.map_set]
section
variable {G:Nat->Option (List AV)}
end
def ifK (s w:List Int) (m:Int) (l:List Nte):Nat->Nat->List (Int×Bool)->List (Int×Bool)
 |0,_,K=>K
 |n+1,i,K=>if (mlk (i:Int) K).isSome=true then K else mpP (i:Int) (fB s w m l i) ((List.range (l.length-(i+1))).foldl (λK j=>if (gwB (bsF s w m) (λx y=>decide (y.ca=x.nu)) l (nAt l i) i (i+1+j)&&decide ((nAt l (i+1+j)).ca=(nAt l i).nu))=true then ifK s w m l n (i+1+j) K else K) K)
def stK (s w:List Int) (m:Int) (l:List Nte) (n i:Nat) (K:List (Int×Bool)) (j:Nat):List (Int×Bool):=if (gwB (bsF s w m) (λx y=>decide (y.ca=x.nu)) l (nAt l i) i (i+1+j)&&decide ((nAt l (i+1+j)).ca=(nAt l i).nu))=true then ifK s w m l n (i+1+j) K else K
def lpK (s w:List Int) (m:Int) (l:List Nte) (n i:Nat) (K:List (Int×Bool)) (j:Nat):List (Int×Bool):=(List.range j).foldl (stK s w m l n i) K
theorem Zhe {s w:List Int} {m:Int} {l:List Nte} {n i:Nat} {K:List (Int×Bool)}:ifK s w m l (n+1) i K=if (mlk (i:Int) K).isSome=true then K else mpP (i:Int) (fB s w m l i) (lpK s w m l n i K (l.length-(i+1))):=rfl
theorem Zhf {s w:List Int} {m:Int} {l:List Nte} {n i j:Nat} {K:List (Int×Bool)}:lpK s w m l n i K (j+1)=stK s w m l n i (lpK s w m l n i K j) j:=by rw[lpK,List.range_succ,List.foldl_append];rfl
def OkK (s w:List Int) (m:Int) (l:List Nte) (K:List (Int×Bool)):Prop:=∀ (i:Nat) (b:Bool),mlk (i:Int) K=some b->b=fB s w m l i
theorem Zhg {s w:List Int} {m:Int} {l:List Nte}:∀ (n i:Nat) {K:List (Int×Bool)},OkK s w m l K->OkK s w m l (ifK s w m l n i K)
 |0,_,_,h=>h
 | n + 1,i,K,h=>by
   rw[Zhe]
   split
   . exact h
   . have key:∀ j,OkK s w m l (lpK s w m l n i K j):=by
      intro j
      induction j with
      |zero=>exact h
      | succ j ih =>
        rw[Zhf,stK]
        split
        . exact Zhg n _ ih
        . exact ih
     intro k b hb;rw[Zhb]at hb
     split at hb
     . rename_i e;have e:k=i:=(by omega);subst e;exact (Option.some.inj hb).symm
     . exact key _ k b hb
theorem Zhh {s w:List Int} {m:Int} {l:List Nte} {n i:Nat} {K:List (Int×Bool)} (h:OkK s w m l K):∀ j,OkK s w m l (lpK s w m l n i K j)
 |0=>h
 | j+1=>by
   rw[Zhf,stK]
   split
   . exact Zhg n _ (Zhh h j)
   . exact Zhh h j
theorem Zhi {α:Type} {p:α->Bool} {h:α->α->Bool} {l:List α} {x:α} {i:Nat}:∀ {k j:Nat},i<k->k<=j->j<=l.length->gwB p h l x i k=false->gwB p h l x i j=false
 |k,0,h1,h2,_,_=>by omega
 | k,j+1,h1,h2,h3,h4=>by
   rcases Nat.lt_or_ge k (j+1) with h5|h5
   . rw[ZdX (by omega) (by omega),Zhi h1 (by omega:k<=j) (by omega) h4];rfl
   . obtain rfl:k=j+1:=(by omega);exact h4
theorem Zhj {s w:List Int} {m:Int} {l:List Nte} {n i:Nat} {K:List (Int×Bool)} {j:Nat} (hj:gwB (bsF s w m) (λx y=>decide (y.ca=x.nu)) l (nAt l i) i (i+1+j)=false):∀ j',j<=j'->i+1+j'<=l.length->lpK s w m l n i K j'=lpK s w m l n i K j
 | 0, h, _ => by obtain rfl:j=0:=by omega
                 rfl
 | j'+1,h,h2=>by
   rcases Nat.lt_or_ge j (j'+1) with h5|h5
   . rw[Zhf,stK,Zhi (by omega) (by omega:i+1+j<=i+1+j') (by omega) hj];exact Zhj hj j' (by omega) (by omega)
   . obtain rfl:j=j'+1:=(by omega);rfl
theorem Zhk (o:List (Nat×AObj)) (l:List (Int×Bool)):Yd o (.mp (mpA AV.bool l))=true:=by
 simp only[Yd,List.all_eq_true,mpA,List.mem_map];rintro _ ⟨y,-,rfl⟩;simp[Ya,AV.keys]
theorem Zhl (ρ:Nat->Nat) (l:List (Int×Bool)):(mpA AV.bool l).map (λp=>(p.1.ren ρ,p.2.ren ρ))=mpA AV.bool l:=by
 simp[mpA,Function.comp_def,AV.ren]
theorem Zhm (ok:Nat->Bool) (st:St) (l:List (Int×Bool)):frzO ok st (.mp (mpA AV.bool l)) = .mp (mpA AV.bool l):=by
 simp only[frzO,mpA,List.map_map]
 congr 1
 refine List.map_congr_left λp _=>?_
 simp[frzA,frz,AV.keys]
def fcO (F sV wV:AV) (m:Int) (K:List (Int×Bool)):List (Nat×AObj) :=
 [(1009,.box [.mp 1011]),(1004,.box [F]),(1005,.box [sV]),(1006,.box [wV]),(1007,.box [.int .i64 m]),(1010,.box [.func (.func 95) [] [.ptr 1009 0,.ptr 1004 0,.ptr 1005 0,.ptr 1006 0,.ptr 1007 0,.ptr 1010 0]]),(1011,.mp (mpA AV.bool K))]
def fcC:List AV:=[.ptr 1009 0,.ptr 1004 0,.ptr 1005 0,.ptr 1006 0,.ptr 1007 0,.ptr 1010 0]
section
variable {G:Nat->Option (List AV)}
def liA (nl:Bool) (s:List Int):AV:=if nl=true/\s=[] then .nils else .vsl (s.map ia)
theorem Zhn (nl:Bool) (s:List Int):(liA nl s).pure=true:=by unfold liA;split <;> simp[AV.pure,ia]
theorem Zho (nl:Bool) (s:List Int):(liA nl s).keys=[]:=by unfold liA;split <;> simp[AV.keys]
theorem Zhp (ok:Nat->Bool) (st:St) (nl:Bool) (s:List Int):frz ok st 6 (liA nl s)=some (liA nl s):=by unfold liA;split <;> simp[frz,AV.keys]
theorem Zhq (ρ:Nat->Nat) (nl:Bool) (s:List Int):(liA nl s).ren ρ=liA nl s:=by unfold liA;split <;> simp[AV.ren]
theorem Zhr (ok:Nat->Bool) (st:St) (xs:List AV):frzO ok st (.box xs) = .box (xs.map (frzA ok st)):=rfl
theorem Zhs (n:Int):PC Tryz.prog G 75 [.nils,.int .i64 n] (.bool false):=by
 have hi:PC Tryz.prog G 104 [.nils,.int .i64 n] (.int .i64 (-1)):=by
  (refine Zg6 rfl λR hG hrd=>Qga ?_;subst hG)
  simp -implicitDefEqProofs[Zg4,Zg5];refine Zb9 (λi=>⟨[(8,.int .i64 i),(7,.int .i64 0)],[]⟩) (λi=>True) 0 (by (first|exact Yn.tm (by simp[lk])|exact Yn.sub (by simp[lk,Ya,AV.keys]) (by simp[lk,Yd,Ya,AV.keys]))) trivial (λi hi=>by omega) ?_;intro _;refine Qga ?_;simp -implicitDefEqProofs[];refine Qgr ?_;simp -implicitDefEqProofs[]
 (refine Zg3 rfl λR hG hrd=>Qga ?_;subst hG)
 simp -implicitDefEqProofs[Zg1,Zg2];refine Qco (hi) (by simp) ?_;simp -implicitDefEqProofs[]
theorem Zht (nl:Bool) (s:List Int) (n:Int) (h:Sml s):PC Tryz.prog G 75 [liA nl s,.int .i64 n] (.bool (decide (n∈s))):=by
 unfold liA
 split
 . rename_i e;rw[e.2];exact Zhs n
 . exact Zh7 s n h
set_option maxHeartbeats 4000000 in
theorem is_pb (r:List Iss) (l:List Nte) (ns nw:Bool) (s w:List Int) (m:Int) (hl:l.length<=12) (hs:Sml s) (hw:Sml w):∀ (n i:Nat) (K:List (Int×Bool)),i<l.length->l.length-i<=n->OkK s w m l K ->
  PB Tryz.prog G 95 (fcO (fileA r l) (liA ns s) (liA nw w) m K) (.int .i64 i::fcC) (.bool (fB s w m l i)) (fcO (fileA r l) (liA ns s) (liA nw w) m (ifK s w m l n i K))
 |0,i,K,hi,hn,_=>by omega
 | n + 1, i, K,hi,hn,hK=>by
   have hrec:=λk K h1 h2 h3=>is_pb r l ns nw s w m hl hs hw n k K h1 h2 h3
   have gK:=ZeT AV.bool (i:Int) K;have hx:=ZdP hi;have c1:=Zht (G:=G) ns s (nAt l i).nu hs;have c2:=Zht (G:=G) nw w (nAt l i).nu hw;have c3:=Zgw (G:=G) (nAt l i).fr (nAt l i).tu m;have fe:=ZdV (p:=bsF s w m) (h:=λx y:Nte=>decide (y.ca=x.nu)) hi;have k1:=Zho ns s;have k2:=Zho nw w;have p1:=Zhn ns s;have p2:=Zhn nw w;have r1:=λρ=>Zhq ρ ns s
   have r2:=λρ=>Zhq ρ nw w
   have f1:=λok st=>Zhp ok st ns s
   have f2:=λok st=>Zhp ok st nw w
   rw[Zhe];generalize liA ns s=sV at *;generalize liA nw w=wV at *;have hF:fileA r l = .vptr [.vsl (r.map isa),.vsl (l.map na),.vsl ((nums r).map ia),opA l] 0:=rfl;have fF:∀ ok st,frz ok st 6 (fileA r l)=some (fileA r l):=λok st=>by rw[hF];simp[frz,AV.keys]
   have kF:(fileA r l).keys=[]:=(by rw[hF];simp[AV.keys]);refine ZfR (Nat.le_of_ble_eq_true rfl) λR hG hrd=>?_
   subst hG
   cases q:mlk (i:Int) K with
   | some b =>
     have eb:=hK i b q;rw[q]at gK;refine Qga ?_;simp -implicitDefEqProofs[ZfP,ZfQ,fcO,fcC,gK,eb];simp -implicitDefEqProofs[FinB,Yj,newK,Zhm,Zhr,frzA,frz,fF,f1,f2,tupV,Z29,ZfQ]
   | none =>
     rw[q]at gK;have hna:na (nAt l i)=[.int .i64 (nAt l i).nu,.int .i64 (nAt l i).dy,.int .u8 (nAt l i).sg,.int .i64 (nAt l i).dr,.int .i64 (nAt l i).lt,.int .i64 (nAt l i).fr,.int .i64 (nAt l i).tu,.int .i64 (nAt l i).ca,.bool (nAt l i).up,.int .u8 (nAt l i).wy]:=rfl;rw[<- hx]at fe;have lok:=λj=>Zhh (n:=n) (i:=i) hK j
     have lsu:=λj=>Zhf (s:=s) (w:=w) (m:=m) (l:=l) (n:=n) (i:=i) (j:=j) (K:=K)
     have lst:=λj=>Zhj (s:=s) (w:=w) (m:=m) (l:=l) (n:=n) (i:=i) (K:=K) (j:=j)
     unfold stK at lsu;have gb:=ZdW (p:=bsF s w m) (h:=λx y:Nte=>decide (y.ca=x.nu)) (l:=l) (x:=nAt l i) (i:=i);have gs:=λk=>ZdX (p:=bsF s w m) (h:=λx y:Nte=>decide (y.ca=x.nu)) (l:=l) (x:=nAt l i) (i:=i) (k:=k)
     have gst:=λk j (h1:i<k) (h2:k<=j) (h3:j<=l.length)=>Zhi (p:=bsF s w m) (h:=λx y:Nte=>decide (y.ca=x.nu)) (l:=l) (x:=nAt l i) h1 h2 h3
     have fbs:fB s w m l i=gwB (bsF s w m) (λx y=>decide (y.ca=x.nu)) l (nAt l i) i l.length:=fe;rw[fbs];have pm:=λb K=>Zhd AV.bool (i:Int) b K
     generalize hxx:nAt l i=x at *;have hlx:l[i]=x:=hx.symm;unfold ZfP;refine ZeC (S:=⟨[(0,.int .i64 i),(1,.ptr 1009 0),(2,.ptr 1004 0),(3,.ptr 1005 0),(4,.ptr 1006 0),(5,.ptr 1007 0),(6,.ptr 1010 0)],fcO (.vptr [.vsl (r.map isa),.vsl (l.map na),.vsl ((nums r).map ia),opA l] 0) sV wV m K⟩) (Qga ?_) ?_
     . simp -implicitDefEqProofs[fcO,fcC,hF]
       ((try simp only[Zhk,k1,k2]);refine Yn.sub (by simp[lk,Ya,AV.keys,Zhk,k1,k2]) ?_;simp only[Zhk,k1,k2,Wkl,and_true];(try simp[lk,Yd,Ya,AV.keys,Zhk,k1,k2]))
     refine ZeC (S:=⟨[(0,.int .i64 i),(1,.ptr 1009 0),(2,.ptr 1004 0),(3,.ptr 1005 0),(4,.ptr 1006 0),(5,.ptr 1007 0),(6,.ptr 1010 0)],fcO (.vptr [.vsl (r.map isa),.vsl (l.map na),.vsl ((nums r).map ia),opA l] 0) sV wV m K⟩) (Qga ?_) ?_
     . simp -implicitDefEqProofs[fcO,gK]
       ((try simp only[Zhk,k1,k2]);refine Yn.sub (by simp[lk,Ya,AV.keys,Zhk,k1,k2]) ?_;simp only[Zhk,k1,k2,Wkl,and_true];(try simp[lk,Yd,Ya,AV.keys,Zhk,k1,k2]))
     refine ZeC (S:=⟨[(0,.int .i64 i),(1,.ptr 1009 0),(2,.ptr 1004 0),(3,.ptr 1005 0),(4,.ptr 1006 0),(5,.ptr 1007 0),(6,.ptr 1010 0),(11,.ptr 11 0)],(11,.box (na x))::fcO (.vptr [.vsl (r.map isa),.vsl (l.map na),.vsl ((nums r).map ia),opA l] 0) sV wV m K⟩) (Qga ?_) ?_
     . simp -implicitDefEqProofs[fcO,hi,hlx,hna]
       ((try simp only[Zhk,k1,k2,hna]);refine Yn.sub (by simp[lk,Ya,AV.keys,Zhk,k1,k2,hna]) ?_;simp only[Zhk,k1,k2,hna,Wkl,and_true];(try simp[lk,Yd,Ya,AV.keys,Zhk,k1,k2,hna]))
     refine ZeC (S:=⟨[(0,.int .i64 i),(1,.ptr 1009 0),(2,.ptr 1004 0),(3,.ptr 1005 0),(4,.ptr 1006 0),(5,.ptr 1007 0),(6,.ptr 1010 0),(11,.ptr 11 0),(12,.bool (bsF s w m x))],(11,.box (na x))::fcO (.vptr [.vsl (r.map isa),.vsl (l.map na),.vsl ((nums r).map ia),opA l] 0) sV wV m K⟩) (Qga ?_) ?_
     . unfold bsF;have go3:∀ b:Bool,(decide (x.sg=2)||decide (x.nu∈s))=b->True:=λ_ _=>trivial
       by_cases e1:x.sg=2
       . simp -implicitDefEqProofs[fcO,hna,e1,p1,p2];refine Ye.of c2 (by simp[p2,AV.pure]) ?_;by_cases e2:x.nu∈w
         . simp -implicitDefEqProofs[e2,p1,p2]
           ((try simp only[Zhk,k1,k2,fcO]);refine Yn.sub (by simp[lk,Ya,AV.keys,Zhk,k1,k2,fcO]) ?_;simp only[Zhk,k1,k2,fcO,Wkl,and_true];(try simp[lk,Yd,Ya,AV.keys,Zhk,k1,k2,fcO]))
         . simp -implicitDefEqProofs[e2,p1,p2];refine Qco (c3) (by simp) ?_;simp -implicitDefEqProofs[]
           ((try simp only[Zhk,k1,k2,fcO]);refine Yn.sub (by simp[lk,Ya,AV.keys,Zhk,k1,k2,fcO]) ?_;simp only[Zhk,k1,k2,fcO,Wkl,and_true];(try simp[lk,Yd,Ya,AV.keys,Zhk,k1,k2,fcO]))
       . simp -implicitDefEqProofs[fcO,hna,e1,p1,p2];refine Ye.of c1 (by simp[p1,AV.pure]) ?_;by_cases e3:x.nu∈s
         . simp -implicitDefEqProofs[e3,p1,p2];refine Ye.of c2 (by simp[p2,AV.pure]) ?_;by_cases e2:x.nu∈w
           . simp -implicitDefEqProofs[e2,p1,p2]
             ((try simp only[Zhk,k1,k2,fcO]);refine Yn.sub (by simp[lk,Ya,AV.keys,Zhk,k1,k2,fcO]) ?_;simp only[Zhk,k1,k2,fcO,Wkl,and_true];(try simp[lk,Yd,Ya,AV.keys,Zhk,k1,k2,fcO]))
           . simp -implicitDefEqProofs[e2,p1,p2];refine Qco (c3) (by simp) ?_;simp -implicitDefEqProofs[]
             ((try simp only[Zhk,k1,k2,fcO]);refine Yn.sub (by simp[lk,Ya,AV.keys,Zhk,k1,k2,fcO]) ?_;simp only[Zhk,k1,k2,fcO,Wkl,and_true];(try simp[lk,Yd,Ya,AV.keys,Zhk,k1,k2,fcO]))
         . simp -implicitDefEqProofs[e3,p1,p2]
           ((try simp only[Zhk,k1,k2,fcO]);refine Yn.sub (by simp[lk,Ya,AV.keys,Zhk,k1,k2,fcO]) ?_;simp only[Zhk,k1,k2,fcO,Wkl,and_true];(try simp[lk,Yd,Ya,AV.keys,Zhk,k1,k2,fcO]))
     rw[<- gb];have w1:IntKind.i64.wrap ((i:Int)+1)=((i+1:Nat):Int):=Yg (by omega) (by omega);refine ZeC (S:=⟨[(0,.int .i64 i),(1,.ptr 1009 0),(12,.bool (gwB (bsF s w m) (λx y=>decide (y.ca=x.nu)) l x i l.length))],fcO (.vptr [.vsl (r.map isa),.vsl (l.map na),.vsl ((nums r).map ia),opA l] 0) sV wV m (lpK s w m l n i K (l.length-(i+1)))⟩) (Qga ?_) ?_
     . simp -implicitDefEqProofs[w1];refine Z1Q (λk=>⟨[(0,.int .i64 i),(1,.ptr 1009 0),(2,.ptr 1004 0),(3,.ptr 1005 0),(4,.ptr 1006 0),(5,.ptr 1007 0),(6,.ptr 1010 0),(11,.ptr 11 0),(12,.bool (gwB (bsF s w m) (λx y=>decide (y.ca=x.nu)) l x i k)),(13,.int .i64 (k:Int))],(11,.box (na x))::fcO (.vptr [.vsl (r.map isa),.vsl (l.map na),.vsl ((nums r).map ia),opA l] 0) sV wV m (lpK s w m l n i K (k-(i+1)))⟩) (λk=>i+1<=k/\k<=l.length) (λk=>l.length-k) (i+1) (by ((try simp only[Zhk,k1,k2,fcO,lpK,List.range_zero,List.foldl_nil,hna,Nat.sub_self]);refine Yn.sub (by simp[lk,Ya,AV.keys,Zhk,k1,k2,fcO,lpK,List.range_zero,List.foldl_nil,hna,Nat.sub_self]) ?_;simp only[Zhk,k1,k2,fcO,lpK,List.range_zero,List.foldl_nil,hna,Nat.sub_self,Wkl,and_true];(try simp[lk,Yd,Ya,AV.keys,Zhk,k1,k2,fcO,lpK,List.range_zero,List.foldl_nil,hna,Nat.sub_self]))) ⟨by omega,by omega⟩ ?_;rintro k ⟨hk1,hk2⟩;have gst':=gst k l.length hk1 hk2 (Nat.le_refl _);have lst':=lst (k-(i+1)) ;rw[show i+1+(k-(i+1))=k by omega]at lst';by_cases hb:gwB (bsF s w m) (λx y=>decide (y.ca=x.nu)) l x i k=true
       . rcases Nat.lt_or_ge k l.length with h5|h5
         . have w2:IntKind.i64.wrap ((k:Int)+1)=(((k+1:Nat)):Int):=(by rw[Yg (by omega) (by omega)];omega);have hnj:na (nAt l k)=[.int .i64 (nAt l k).nu,.int .i64 (nAt l k).dy,.int .u8 (nAt l k).sg,.int .i64 (nAt l k).dr,.int .i64 (nAt l k).lt,.int .i64 (nAt l k).fr,.int .i64 (nAt l k).tu,.int .i64 (nAt l k).ca,.bool (nAt l k).up,.int .u8 (nAt l k).wy]:=rfl;have hy:=ZdP h5;have hg:=gs k (by omega) h5;have hr:=hrec k (lpK s w m l n i K (k-(i+1))) h5 (by omega) (lok _);have hls:=lsu (k-(i+1));rw[show i+1+(k-(i+1))=k by omega,show k-(i+1)+1=k+1-(i+1) by omega]at hls;rw[hb,Bool.true_and]at hg hls;rw[<- hy]at hg;change _ = !(fB s w m l k&&_) at hg;generalize hyy:nAt l k=y at *;have hly:l[k]=y:=hy.symm;by_cases h6:y.ca=x.nu
           . simp only[h6,decide_true,Bool.and_true,if_true]at hg hls;rw[fcO,hF]at hr;refine Yc Yb 9 ?_;simp -implicitDefEqProofs[hb,h5,hna,h6,fcO,hly,hnj];refine GO0 (Z5i Yb 15 (by decide) ?_);simp -implicitDefEqProofs[hb,h5,hna,h6,fcO,hly,hnj];refine ⟨rfl,Ye.sem (Z1B.byref hr id (by simp) (by simp) (by simp[St.get,lk,AV.ren,AObj.ren,Zhl,r1,r2]) (by simp only[List.mem_cons,List.not_mem_nil,or_false,forall_eq_or_imp,forall_eq,Zhk,and_true];simp[lk,Yd,Ya,AV.keys,k1,k2]) (by simp[Ya,AV.keys,lk,rega,fcC]) rfl (by simp[AV.ren,rega,fcC]) rfl rfl) ?_⟩;simp -implicitDefEqProofs[Ym,fcO,AV.ren,AObj.ren,Zhl,r1,r2];refine Qgr ?_;simp -implicitDefEqProofs[w2];refine ⟨k+1,?_,⟨by omega,by omega⟩,(by show l.length-(k+1)<l.length-k;omega)⟩;simp only[hg,hls]
             ((try simp only[Zhk,k1,k2,hna]);refine Yn.sub (by simp[lk,Ya,AV.keys,Zhk,k1,k2,hna]) ?_;simp only[Zhk,k1,k2,hna,Wkl,and_true];(try simp[lk,Yd,Ya,AV.keys,Zhk,k1,k2,hna]))
           . simp only[h6,decide_false,Bool.and_false,Bool.not_false,Bool.false_eq_true,if_false]at hg hls;refine Qga ?_;simp -implicitDefEqProofs[hb,h5,hna,h6,fcO,hly,hnj,w2];refine ⟨rfl,k+1,?_,⟨by omega,by omega⟩,(by show l.length-(k+1)<l.length-k;omega)⟩;simp only[hg,hls]
             ((try simp only[Zhk,k1,k2,hna]);refine Yn.sub (by simp[lk,Ya,AV.keys,Zhk,k1,k2,hna]) ?_;simp only[Zhk,k1,k2,hna,Wkl,and_true];(try simp[lk,Yd,Ya,AV.keys,Zhk,k1,k2,hna]))
         . obtain rfl:k=l.length:=(by omega);refine Qga ?_;simp -implicitDefEqProofs[hb,fcO];refine Qgr ?_;simp -implicitDefEqProofs[]
           ((try simp only[Zhk,k1,k2,hna]);refine Yn.sub (by simp[lk,Ya,AV.keys,Zhk,k1,k2,hna]) ?_;simp only[Zhk,k1,k2,hna,Wkl,and_true];(try simp[lk,Yd,Ya,AV.keys,Zhk,k1,k2,hna]))
       . have hb:gwB (bsF s w m) (λx y=>decide (y.ca=x.nu)) l x i k=false:=(by simpa using hb);have e1:=lst' hb (l.length-(i+1)) (by omega) (by omega);rw[e1,gst' hb];refine Qga ?_;simp -implicitDefEqProofs[hb,fcO];refine Qgr ?_;simp -implicitDefEqProofs[]
         ((try simp only[Zhk,k1,k2,hna]);refine Yn.sub (by simp[lk,Ya,AV.keys,Zhk,k1,k2,hna]) ?_;simp only[Zhk,k1,k2,hna,Wkl,and_true];(try simp[lk,Yd,Ya,AV.keys,Zhk,k1,k2,hna]))
     refine Qga ?_;have pm':=pm (gwB (bsF s w m) (λx y=>decide (y.ca=x.nu)) l x i l.length) (lpK s w m l n i K (l.length-(i+1)));simp -implicitDefEqProofs[fcO,pm'];simp -implicitDefEqProofs[FinB,Yj,newK,Zhm,Zhr,frzA,frz,hF,f1,f2,tupV,Z29,ZfQ]
end
theorem Zhu {r:List Iss} {l:List Nte} (h:ZdS r l=true):(l.map (·.nu)).Nodup:=by
 simp only[ZdS,Bool.and_eq_true]at h;have h1:=Zbq.1 h.1.2;rw[List.nodup_iff_pairwise_ne,List.pairwise_map,List.pairwise_iff_getElem];intro i j hi hj hij e;have h2:=h1 j hj;simp only[noteB,Bool.and_eq_true]at h2;have h3:=h2.1.2;simp only[cN7,Bool.not_eq_true',List.any_eq_false]at h3;refine h3 l[i] (List.mem_take_iff_getElem.2 ⟨i,by omega,rfl⟩) ?_;rw[ZdP hj];simpa using e
theorem Zhv {r:List Iss} {l:List Nte} (h:ZdS r l=true):(opU l).Nodup/\(opU l).length<=12:=by
 refine ⟨?_,?_⟩
 . exact List.Sublist.nodup (by unfold opU opN;rw[List.take_length];exact (List.filter_sublist).map _) (Zhu h)
 . simp only[ZdS,Bool.and_eq_true,decide_eq_true_eq]at h;have:=h.2;unfold opU;rw[List.length_map];omega
section
variable {G:Nat->Option (List AV)}
theorem Zhw (r:List Iss) (l:List Nte):(fileA r l).pure=true:=by unfold fileA opA;split <;> simp[AV.pure,isa,na]
theorem Zhx (ok:Nat->Bool) (st:St) (r:List Iss) (l:List Nte):Yi ok st 6 (fileA r l)=some (fileA r l):=by
 have h:=Zhw r l;unfold fileA at *;simp[Yi,h]
theorem Zhy (r:List Iss) (l:List Nte):(fileA r l).one=true:=by unfold fileA;simp[AV.one,AV.known]
theorem Zhz (hG:GC G) (hN:GN G) (r:List Iss) (l:List Nte) (hw:WfN l) (hr:Wf r):PC Tryz.prog G 89 [.agg [.vsl (r.map isa),.vsl (l.map na)]] (.int .i64 (chN r l)):=by
 have ho:=Zh1 hG hN r l hw hr;unfold opdA at ho
 (refine ZfG rfl λR hG hrd=>Qga ?_;subst hG)
 simp -implicitDefEqProofs[ZfE,ZfF];refine Qco (ho) (by simp) ?_;simp -implicitDefEqProofs[]
def askA (r:List Iss) (l:List Nte) (s:List Int) (m:Int):AV:=.tup [if asN r l s m=0 then fileA r l else .nilp,.int .i64 (asN r l s m)]
theorem ZhA (hG:GC G) (hN:GN G) (r:List Iss) (l:List Nte) (s:List Int) (m:Int) (hw:WfN l) (hr:Wf r) (hs:Sml s):PC Tryz.prog G 64 [.agg [.vsl (r.map isa),.vsl (l.map na)],.vsl (s.map ia),.int .i64 m] (askA r l s m):=by
 have ho:=Zh1 hG hN r l hw hr;have hi:=Zgw (G:=G) 1 999 m;unfold opdA at ho
 (refine ZfM rfl λR hG hrd=>Qga ?_;subst hG)
 unfold askA asN;by_cases h0:chN r l=0
 . have hB:ZdS r l=true:=by
    unfold chN at h0
    split at h0
    . cases q:ZdS r l
      . rw[q]at h0;cases h0
      . rfl
    . rename_i e;exact absurd h0 e
   have hU:=Zhv hB;have ht:=Zh9 (G:=R.G) r l s hs hU.1 hU.2;have hp:=Zhw r l;have sn:=λok st=>Zhx ok st r l
   have h1:=Zhy r l;rw[if_pos h0,h0]at ho;generalize fileA r l=F at *;simp -implicitDefEqProofs[ZfK,ZfL];refine Qco (ho) (by simp) ?_;simp -implicitDefEqProofs[h0];refine Ye.of ht (by simp[hp,AV.pure]) ?_
   cases q:truB l s
   . simp -implicitDefEqProofs[q]
   . simp -implicitDefEqProofs[q];refine Qco (hi) (by simp) ?_
     cases q2:inR m 1 999
     . simp -implicitDefEqProofs[q2]
     . simp -implicitDefEqProofs[q2,hp,sn]
 . rw[if_neg h0]at ho;simp -implicitDefEqProofs[ZfK,ZfL];refine Qco (ho) (by simp) ?_;simp -implicitDefEqProofs[h0]
def ffC:AV:=.func (.func 95) [] [.ptr 9 0,.ptr 4 0,.ptr 5 0,.ptr 6 0,.ptr 7 0,.ptr 10 0]
def ffO (F sV wV:AV) (m:Int):List (Nat×AObj):=[(4,.box [F]),(5,.box [sV]),(6,.box [wV]),(7,.box [.int .i64 m]),(11,.mp []),(9,.box [.mp 11]),(10,.box [ffC])]
def ffK (k:Nat):Bool:=decide (k<1000) && !(k == 4||k == 5||k == 6||k == 7||k == 9||k == 10||k == 11)
theorem ZhB (r:List Iss) (l:List Nte) (ns nw:Bool) (s w:List Int) (m:Int):PB Tryz.prog G 65 [] [fileA r l,liA ns s,liA nw w,.int .i64 m] ffC (ffO (fileA r l) (liA ns s) (liA nw w) m):=by
 have hF:fileA r l = .vptr [.vsl (r.map isa),.vsl (l.map na),.vsl ((nums r).map ia),opA l] 0:=rfl;have hc:∀ (b:Bool) (s:List Int),liA b s = .nils∨liA b s = .vsl (s.map ia):=λb s=>by unfold liA;split;exact .inl rfl;exact .inr rfl
 refine Z5d ffK (by intro k hk;simp[ffK]at hk;omega) Tryz.func65 rfl (by kernel_rfl) (rc:=ZfN) (by kernel_rfl) (rs:=ZfO) (by kernel_rfl) (Nat.le_of_ble_eq_true rfl) λR _ hG hrd=>Qga ?_
 rw[hF];rcases hc ns s with h1|h1 <;> rcases hc nw w with h2|h2 <;> rw[h1,h2]
 . simp -implicitDefEqProofs[ZfN,ZfO];simp -implicitDefEqProofs[FinO,Yj,ffK,Zhr,frzO,frzA,frz,Yk,AV.keys,tupV,Z29,ffC,ffO]
 . simp -implicitDefEqProofs[ZfN,ZfO];simp -implicitDefEqProofs[FinO,Yj,ffK,Zhr,frzO,frzA,frz,Yk,AV.keys,tupV,Z29,ffC,ffO]
 . simp -implicitDefEqProofs[ZfN,ZfO];simp -implicitDefEqProofs[FinO,Yj,ffK,Zhr,frzO,frzA,frz,Yk,AV.keys,tupV,Z29,ffC,ffO]
 . simp -implicitDefEqProofs[ZfN,ZfO];simp -implicitDefEqProofs[FinO,Yj,ffK,Zhr,frzO,frzA,frz,Yk,AV.keys,tupV,Z29,ffC,ffO]
def frK (s w:List Int) (m:Int) (l:List Nte) (i:Nat):List (Int×Bool):=(List.range i).foldl (λK j=>ifK s w m l l.length j K) []
theorem ZhC {s w:List Int} {m:Int} {l:List Nte} {i:Nat}:frK s w m l (i+1)=ifK s w m l l.length i (frK s w m l i):=by rw[frK,List.range_succ,List.foldl_append];rfl
theorem ZhD {s w:List Int} {m:Int} {l:List Nte}:∀ i,OkK s w m l (frK s w m l i)
 |0=>λ_ _ h=>by cases h
 |i+1=>by rw[ZhC];exact Zhg _ _ (ZhD i)
def fcQ (F sV wV:AV) (m:Int) (K:List (Int×Bool)):List (Nat×AObj) :=
 [(204,.box [F]),(205,.box [sV]),(206,.box [wV]),(207,.box [.int .i64 m]),(211,.mp (mpA AV.bool K)),(209,.box [.mp 211]),(210,.box [.func (.func 95) [] [.ptr 209 0,.ptr 204 0,.ptr 205 0,.ptr 206 0,.ptr 207 0,.ptr 210 0]])]
def fcS (r:List Iss) (l:List Nte) (s:List Int) (m:Int) (i:Nat):St :=
 if fcN s [] m l i=[] then ⟨[(30,.int .i64 i),(29,.int .i64 l.length),(3,.ptr 3 0),(10,.func (.func 95) [] [.ptr 209 0,.ptr 204 0,.ptr 205 0,.ptr 206 0,.ptr 207 0,.ptr 210 0]),(11,.nils)],(3,.box [.vsl (r.map isa),.vsl (l.map na)])::fcQ (fileA r l) (.vsl (s.map ia)) .nils m (frK s [] m l i)⟩
 else ⟨[(30,.int .i64 i),(29,.int .i64 l.length),(3,.ptr 3 0),(10,.func (.func 95) [] [.ptr 209 0,.ptr 204 0,.ptr 205 0,.ptr 206 0,.ptr 207 0,.ptr 210 0]),(11,.osl 44 (fcN s [] m l i).length)],(44,.row 1 ((fcN s [] m l i).map ia))::(3,.box [.vsl (r.map isa),.vsl (l.map na)])::fcQ (fileA r l) (.vsl (s.map ia)) .nils m (frK s [] m l i)⟩
def fcA (r:List Iss) (l:List Nte) (s:List Int) (m:Int):AV:=.tup [Yh ((fcE r l s m).1.map ia),.int .i64 (fcE r l s m).2]
set_option maxHeartbeats 1000000 in
theorem ZhE (hG:GC G) (hN:GN G) (r:List Iss) (l:List Nte) (s:List Int) (m:Int) (hw:WfN l) (hr:Wf r) (hs:Sml s):PC Tryz.prog G 22 [.agg [.vsl (r.map isa),.vsl (l.map na)],.vsl (s.map ia),.int .i64 m] (fcA r l s m):=by
 have ha:=ZhA hG hN r l s m hw hr hs;have hl:=hw.1;unfold Sml at hl;unfold askA at ha;refine ZfU rfl λR hG hrd=>?_
 subst hG;refine Qga ?_;unfold fcA fcE;by_cases h0:asN r l s m=0
 . have hB:ZdS r l=true:=by
    unfold asN at h0
    split at h0
    . rename_i h1;unfold chN at h1
      split at h1
      . cases q:ZdS r l
        . rw[q]at h1;cases h1
        . rfl
      . rename_i e;exact absurd h1 e
    . rename_i e;exact absurd h0 e
   have hl12:l.length<=12:=(by simp only[ZdS,Bool.and_eq_true,decide_eq_true_eq]at hB;exact hB.1.1);have hf:=ZhB (G:=R.G) r l false true s [] m;have hI:=λi hi=>is_pb (G:=R.G) r l false true s [] m hl12 hs (by simp[Sml]) l.length i (frK s [] m l i) hi (by omega) (ZhD i)
   have e1:liA false s = .vsl (s.map ia):=(by simp[liA]);have e2:liA true [] = .nils:=(by simp[liA]);rw[e1,e2]at hf hI;rw[if_pos h0,h0]at ha;rw[if_pos h0];have hp:=Zhw r l;have kF:(fileA r l).keys=[]:=AV.pure_keys _ hp;have rF:=λρ=>AV.ren_pure (ρ:=ρ) (fileA r l) hp
   simp -implicitDefEqProofs[ZfS,ZfT];refine Qco (ha) (by simp) ?_;simp -implicitDefEqProofs[h0];refine Ye.sem (Z1B.objs hf (λk=>k+200) (by simp[ffO]) (by simp[ffO,St.get,lk]) (by simp[hp,AV.pure]) rfl rfl) ?_;simp -implicitDefEqProofs[Ym,ffO,ffC,AV.ren,AObj.ren,rF];refine Zb9 (fcS r l s m) (λ_=>True) l.length ?_ trivial ?_ ?_
   . have e0:fcN s [] m l 0=[]:=(by simp[fcN]);have e3:frK s [] m l 0=[]:=rfl;have e4:mpA AV.bool []=[]:=rfl;simp only[fcS,fcQ,e0,e3,e4,if_true]
     ((try simp only[kF]);refine Yn.sub (by simp[lk,Ya,AV.keys,kF]) ?_;simp only[kF,Wkl,and_true];(try simp[lk,Yd,Ya,AV.keys,kF]))
   . intro i hi _;have hI:=hI i hi;rw[<- ZhC]at hI;unfold fcO at hI;have hx:=ZdP hi;have hnx:na (nAt l i)=[.int .i64 (nAt l i).nu,.int .i64 (nAt l i).dy,.int .u8 (nAt l i).sg,.int .i64 (nAt l i).dr,.int .i64 (nAt l i).lt,.int .i64 (nAt l i).fr,.int .i64 (nAt l i).tu,.int .i64 (nAt l i).ca,.bool (nAt l i).up,.int .u8 (nAt l i).wy]:=rfl;have sc:=ZdY (s:=s) (w:=[]) (m:=m) hi;have bb:((fcN s [] m l i).length+1)*8<=70368744177664:=(by have:=ZdZ s [] m l i;omega);have wi:IntKind.i64.wrap ((i:Int)+1)=(i:Int)+1:=Yg (by omega) (by omega);rw[<- hx]at sc;generalize hxx:nAt l i=x at *;have hlx:l[i]=x:=hx.symm;have e5:=λK=>Zhl (λk=>k-800) K
     have fin:∀ (b:Bool),b=fB s [] m l i->(b=true->fcN s [] m l (i+1)=fcN s [] m l i++[x.nu])/\(b=false->fcN s [] m l (i+1)=fcN s [] m l i):=λb hb=>by
      subst hb;exact ⟨λh=>by rw[sc,if_pos h],λh=>by rw[sc,h];rfl⟩
     refine Qga ?_;by_cases c:fcN s [] m l i=[]
     case' pos=>simp -implicitDefEqProofs[fcS,fcQ,c,hi]
     case' neg=>simp -implicitDefEqProofs[fcS,fcQ,c,hi]
     all_goals
      refine Ye.sem (Z1B.byref hI (λk=>k-800) (by simp) (by simp) (by simp[St.get,lk,AV.ren,AObj.ren,Zhl,rF,ia]) (by simp only[List.mem_cons,List.not_mem_nil,or_false,forall_eq_or_imp,forall_eq,Zhk,and_true];simp[lk,Yd,Ya,AV.keys,kF]) (by simp[Ya,AV.keys,lk,rega,fcC]) rfl (by simp[AV.ren,rega,fcC]) rfl rfl) ?_;simp -implicitDefEqProofs[Ym,AV.ren,AObj.ren,Zhl,rF]
      cases hb:fB s [] m l i
      . have e:=(fin false hb.symm).2 rfl;simp -implicitDefEqProofs[wi];simp only[fcS,fcQ,e,c,if_true,if_false]
        ((try simp only[kF]);refine Yn.sub (by simp[lk,Ya,AV.keys,kF]) ?_;simp only[kF,Wkl,Zhk,ZgN,and_true];(try simp[lk,Yd,Ya,AV.keys,kF]))
      . have e:=(fin true hb.symm).1 rfl;have hne:fcN s [] m l (i+1)≠[]:=(by rw[e];simp);simp -implicitDefEqProofs[hi,hlx,hnx,bb,wi];simp only[fcS,fcQ,hne,if_false];have e1:(fcN s [] m l (i+1)).map ia=(fcN s [] m l i).map ia++[[AV.int .i64 x.nu]]:=(by rw[e,List.map_append];rfl);have e2:(fcN s [] m l (i+1)).length=(fcN s [] m l i).length+1:=by rw[e];simp
        first
         |(rw[c,List.nil_append]at e;rw[e];((try simp only[ia,kF]);refine Yn.sub (by simp[lk,Ya,AV.keys,ia,kF]) ?_;simp only[ia,kF,Wkl,Zhk,and_true];(try simp[lk,Yd,Ya,AV.keys,ia,kF]));done)
         |(rw[<- e1,e2];((try simp only[kF]);refine Yn.sub (by simp[lk,Ya,AV.keys,kF]) ?_;simp only[kF,Wkl,ZgN,Zhk,and_true];(try simp[lk,Yd,Ya,AV.keys,kF]));done)
   . intro _;refine Qga ?_;by_cases c:fcN s [] m l l.length=[]
     . simp -implicitDefEqProofs[fcS,fcQ,c];refine Qgr ?_;simp -implicitDefEqProofs[Yh]
     . simp -implicitDefEqProofs[fcS,fcQ,c];refine Qgr ?_;simp -implicitDefEqProofs[Yh,c,ia]
 . rw[if_neg h0]at ha;rw[if_neg h0];simp -implicitDefEqProofs[ZfS,ZfT];refine Qco (ha) (by simp) ?_;simp -implicitDefEqProofs[h0,Yh]
end
def nuI (l:List Nte):List Int:=(opI l l.length).map λj=>(nAt l j).nu
theorem ZhF (l:List Nte):(nuI l).length=(opI l l.length).length:=List.length_map _
section
variable {G:Nat->Option (List AV)}
end
theorem ZhG {r:List Iss} {l:List Nte} (h:chN r l=0):ZdS r l=true:=by
 unfold chN at h
 split at h
 . cases q:ZdS r l
   . rw[q]at h;cases h
   . rfl
 . rename_i e;exact absurd h e
theorem ZhH {r:List Iss} {l:List Nte} (h:ZdS r l=true):l.length<=12:=by simp only[ZdS,Bool.and_eq_true,decide_eq_true_eq]at h;exact h.1.1
section
variable {G:Nat->Option (List AV)}
end
section
variable {G:Nat->Option (List AV)}
theorem ZhI (n lo hi:Int):PC Tryz.prog G 138 [.int .i64 n,.int .i64 lo,.int .i64 hi] (.bool (inR n lo hi)):=by
 (refine Z8t rfl λR hG hrd=>Qga ?_;subst hG)
 by_cases h1:lo<=n <;> by_cases h2:n<=hi <;> simp -implicitDefEqProofs[Z8r,Z8s,inR,h1,h2]
theorem ZhJ (r:List Iss) (d l:Int) (hr:Sml r):PC Tryz.prog G 139 [.agg [.vsl (r.map isa)],.agg [.int .i64 d,.int .i64 l]] (.bool (knB r d l)):=by
 have hf:=Zbp (G:=G) r d l hr;rw[rega]at hf;unfold knB
 (refine Z8w rfl λR hG hrd=>Qga ?_;subst hG)
 cases q:findN d l r with
 | some y =>
   rw[q]at hf;simp -implicitDefEqProofs[Z8u,Z8v];refine Qco (hf) (by simp) ?_;simp -implicitDefEqProofs[fndA,isa]
 | none =>
   rw[q]at hf;simp -implicitDefEqProofs[Z8u,Z8v];refine Qco (hf) (by simp) ?_;simp -implicitDefEqProofs[fndA,noIs]
theorem ZhK {x y:Stq} (h:x≠y):(!decide (x.fd=y.fd)||(!decide (x.fl=y.fl)||(!decide (x.td=y.td)||(!decide (x.tl=y.tl)||(!decide (x.nu=y.nu) || !(x.nt == y.nt))))))=true:=by
 cases q:(!decide (x.fd=y.fd)||(!decide (x.fl=y.fl)||(!decide (x.td=y.td)||(!decide (x.tl=y.tl)||(!decide (x.nu=y.nu) || !(x.nt == y.nt))))))
 . refine absurd ?_ h;simp at q
   cases x;cases y;simp_all
 . rfl
theorem ZhL (q p:List Stq) (hq:Sml q):PC Tryz.prog G 25 [.vsl (q.map sa),.vsl (p.map sa)] (.bool (decide (q=p))):=by
 unfold Sml at hq
 (refine Z8L rfl λR hG hrd=>Qga ?_;subst hG)
 by_cases h2:q.length=p.length
 . have h2':(q.length:Int)=p.length:=(by omega);simp -implicitDefEqProofs[Z8J,Z8K,h2'];refine Zb9 (λi=>⟨[(5,.int .i64 i),(0,.vsl (q.map sa)),(1,.vsl (p.map sa))],[]⟩) (λi=>∀ j (h:j<q.length),j<i->q[j]=p[j]) q.length (by (first|exact Yn.tm (by simp[lk])|exact Yn.sub (by simp[lk,Ya,AV.keys]) (by simp[lk,Yd,Ya,AV.keys]))) (by simp) ?_ ?_
   . intro i hi he;have hi2:i<p.length:=(by omega);have w1:IntKind.i64.wrap ((i:Int)+1)=(i:Int)+1:=Yg (by omega) (by omega);refine Qga ?_;by_cases h2:q[i]=p[i]
     . simp -implicitDefEqProofs[hi,hi2,sa,w1,h2];refine ⟨rfl,by (first|exact Yn.tm (by simp[lk])|exact Yn.sub (by simp[lk,Ya,AV.keys]) (by simp[lk,Yd,Ya,AV.keys])),λj h1 h3=>?_⟩;by_cases e:j=i
       . subst e;exact h2
       . exact he j h1 (by omega)
     . have h3:¬q=p:=λe=>h2 (by subst e;rfl)
       have ne:=ZhK h2;simp -implicitDefEqProofs[hi,hi2,sa,w1,ne];refine ⟨rfl,?_⟩;refine Qgr ?_;simp -implicitDefEqProofs[h3]
   . intro he;have h3:q=p:=List.ext_getElem h2 λj h1 h2=>he j h1 h1
     refine Qga ?_;simp -implicitDefEqProofs[];refine Qgr ?_;simp -implicitDefEqProofs[h3]
 . have h2':¬(q.length:Int)=p.length:=(by omega);have h3:¬q=p:=λe=>h2 (by rw[e])
   simp -implicitDefEqProofs[Z8J,Z8K,h2',h3]
end
section
variable {G:Nat->Option (List AV)}
set_option maxHeartbeats 2000000 in
theorem ZhM (r:List Iss) (l:List Nte) (q:List Rul) (i:Nat) (hi:i<q.length) (hq:Sml q) (hr:Sml r):PC Tryz.prog G 108 [swa r l q,.int .i64 i] (.bool (ruleB r q i)):=by
 unfold Sml at hq;have hx:=Zed hi;obtain ⟨x,hxx⟩ : ∃ x,x=q[i]:=⟨_,rfl⟩;rw[<- hxx]at hx;have hlx:q[i]=x:=hxx.symm;have hra:ra x=[.int .i64 x.nu,.int .i64 x.dy,.int .i64 x.fd,.int .i64 x.fl,.int .i64 x.td,.int .i64 x.tl,.bool x.bo,.int .i64 x.br]:=rfl;have hk1:=ZhJ (G:=G) r x.fd x.fl hr;have hk2:=ZhJ (G:=G) r x.td x.tl hr;refine Z8z rfl λR hG hrd=>?_
 subst hG;unfold Z8x swa;refine ZeC (S:=⟨[(1,.int .i64 i),(2,.ptr 2 0)],[(2,.box [.vsl (r.map isa),.vsl (l.map na),.vsl (q.map ra)])]⟩) (Qga ?_) ?_
 . simp -implicitDefEqProofs[]
   (refine Yn.sub (by simp[lk,Ya,AV.keys]) ?_;simp only[Wkl,and_true];(try simp[lk,Yd,Ya,AV.keys]))
 refine ZeC (S:=⟨[(1,.int .i64 i),(2,.ptr 2 0),(5,.ptr 5 0)],[(2,.box [.vsl (r.map isa),.vsl (l.map na),.vsl (q.map ra)]),(5,.box (ra x))]⟩) (Qga ?_) ?_
 . simp -implicitDefEqProofs[hi,hlx,hra]
   ((try simp only[hra]);refine Yn.sub (by simp[lk,Ya,AV.keys,hra]) ?_;simp only[hra,Wkl,and_true];(try simp[lk,Yd,Ya,AV.keys,hra]))
 refine ZeD (S:=⟨[(1,.int .i64 i),(2,.ptr 2 0),(5,.ptr 5 0)],[(2,.box [.vsl (r.map isa),.vsl (l.map na),.vsl (q.map ra)]),(5,.box (ra x))]⟩) (Q:=cR1 x=true) (Qga ?_) ?_
 . simp -implicitDefEqProofs[hra];refine Qco (ZhI x.nu 1 9999) (by simp) ?_
   cases h1:inR x.nu 1 9999
   . have e:ruleB r q i=false:=(by simp[ruleB,hx,cR1,h1]);simp -implicitDefEqProofs[e,Z8y]
   simp -implicitDefEqProofs[];refine Qco (ZhI x.dy 0 14610) (by simp) ?_
   cases h2:inR x.dy 0 14610
   . have e:ruleB r q i=false:=(by simp[ruleB,hx,cR1,h2]);simp -implicitDefEqProofs[e,Z8y]
   simp -implicitDefEqProofs[];refine ⟨?_,by rw[cR1,h1,h2];rfl⟩
   ((try simp only[hra]);refine Yn.sub (by simp[lk,Ya,AV.keys,hra]) ?_;simp only[hra,Wkl,and_true];(try simp[lk,Yd,Ya,AV.keys,hra]))
 intro k1;refine ZeC (S:=⟨[(1,.int .i64 i),(2,.ptr 2 0),(5,.ptr 5 0),(6,.ptr 6 0)],[(2,.box [.vsl (r.map isa),.vsl (l.map na),.vsl (q.map ra)]),(5,.box (ra x)),(6,.box [.int .i64 0,.int .i64 0])]⟩) (Qga ?_) ?_
 . simp -implicitDefEqProofs[]
   ((try simp only[hra]);refine Yn.sub (by simp[lk,Ya,AV.keys,hra]) ?_;simp only[hra,Wkl,and_true];(try simp[lk,Yd,Ya,AV.keys,hra]))
 refine ZeD (S:=⟨[(1,.int .i64 i),(2,.ptr 2 0),(5,.ptr 5 0)],[(2,.box [.vsl (r.map isa),.vsl (l.map na),.vsl (q.map ra)]),(5,.box (ra x))]⟩) (Q:=cR2 r x=true) (Qga ?_) ?_
 . by_cases hz:x.fd=0/\x.fl=0/\x.td=0/\x.tl=0
   . obtain ⟨z1,z2,z3,z4⟩:=hz;have e2:cR2 r x=(!x.bo && !decide (x.br=0)):=by rw[cR2,if_pos ⟨z1,z2,z3,z4⟩]
     cases hb:x.bo
     . by_cases hc:x.br=0
       . have e:ruleB r q i=false:=(by simp[ruleB,hx,e2,hc]);simp -implicitDefEqProofs[hra,z1,z2,z3,z4,hb,hc,e,Z8y]
       . simp -implicitDefEqProofs[hra,z1,z2,z3,z4,hb,hc];refine ⟨?_,by simp[e2,hb,hc]⟩
         ((try simp only[hra,z1,z2,z3,z4,hb]);refine Yn.sub (by simp[lk,Ya,AV.keys,hra,z1,z2,z3,z4,hb]) ?_;simp only[hra,z1,z2,z3,z4,hb,Wkl,and_true];(try simp[lk,Yd,Ya,AV.keys,hra,z1,z2,z3,z4,hb]))
     . have e:ruleB r q i=false:=(by simp[ruleB,hx,e2,hb]);simp -implicitDefEqProofs[hra,z1,z2,z3,z4,hb,e,Z8y]
   . have e2 : cR2 r x=(!decide (x.fd=x.td/\x.fl=x.tl)&&knB r x.fd x.fl&&knB r x.td x.tl):=(by rw[cR2,if_neg hz]);have e2f:cR2 r x=false->ruleB r q i=false:=λh=>by simp[ruleB,hx,h]
     have nb:∀ (p1 p2:Prop) [Decidable p1] [Decidable p2],¬(p1/\p2)->(decide p1&&decide p2)=false/\(!decide p1 || !decide p2)=true:=λp1 p2 _ _ h=>by
      by_cases a:p1
      . have b:¬p2:=λb=>h ⟨a,b⟩
        simp[a,b]
      . simp[a]
     by_cases f1:x.fd=0/\x.fl=0
     . have f0:¬(x.td=0/\x.tl=0):=λh=>hz ⟨f1.1,f1.2,h.1,h.2⟩
       have f2:=nb _ _ f0;have f3:=nb (0=x.td) (0=x.tl) λh=>f0 ⟨h.1.symm,h.2.symm⟩
       have f5:decide (x.fd=x.td/\x.fl=x.tl)=false:=decide_eq_false λh=>f0 ⟨h.1.symm.trans f1.1,h.2.symm.trans f1.2⟩
       rw[f5,Bool.not_false,Bool.true_and]at e2;rw[f1.1,f1.2]at hk1 e2;simp -implicitDefEqProofs[hra,f1.1,f1.2,f2.1,f2.2,f3.1,f3.2];refine Qco (hk1) (by simp) ?_
       cases h1:knB r 0 0
       . have e:=e2f (by rw[e2,h1];rfl);simp -implicitDefEqProofs[e,Z8y]
       . simp -implicitDefEqProofs[hra,f1.1,f1.2];refine Qco (hk2) (by simp) ?_
         cases h2:knB r x.td x.tl
         . have e:=e2f (by rw[e2,h2,Bool.and_false]);simp -implicitDefEqProofs[e,Z8y]
         . simp -implicitDefEqProofs[];refine ⟨?_,by rw[e2,h1,h2];rfl⟩
           ((try simp only[hra,f1.1,f1.2]);refine Yn.sub (by simp[lk,Ya,AV.keys,hra,f1.1,f1.2]) ?_;simp only[hra,f1.1,f1.2,Wkl,and_true];(try simp[lk,Yd,Ya,AV.keys,hra,f1.1,f1.2]))
     . have f2:=nb _ _ f1;by_cases f4:x.fd=x.td/\x.fl=x.tl
       . have e:=e2f (by rw[e2,decide_eq_true f4];rfl);simp -implicitDefEqProofs[hra,f2.1,f2.2];rw[<- f4.1,<- f4.2];simp -implicitDefEqProofs[e,Z8y]
       . have f5:=nb _ _ f4;rw[decide_eq_false f4,Bool.not_false,Bool.true_and]at e2;simp -implicitDefEqProofs[hra,f2.1,f2.2,f5.1,f5.2];refine Qco (hk1) (by simp) ?_
         cases h1:knB r x.fd x.fl
         . have e:=e2f (by rw[e2,h1];rfl);simp -implicitDefEqProofs[e,Z8y]
         . simp -implicitDefEqProofs[hra];refine Qco (hk2) (by simp) ?_
           cases h2:knB r x.td x.tl
           . have e:=e2f (by rw[e2,h2,Bool.and_false]);simp -implicitDefEqProofs[e,Z8y]
           . simp -implicitDefEqProofs[];refine ⟨?_,by rw[e2,h1,h2];rfl⟩
             ((try simp only[hra]);refine Yn.sub (by simp[lk,Ya,AV.keys,hra]) ?_;simp only[hra,Wkl,and_true];(try simp[lk,Yd,Ya,AV.keys,hra]))
 intro k2;have en:ruleB r q i=(cR3 q i x&&cR4 q i x&&cR5 q i x):=(by rw[ruleB,hx,k1,k2];rfl);rw[en];refine Qga ?_;simp -implicitDefEqProofs[hra]
 refine Zb9 (λk=>⟨[(8,.int .i64 k),(7,.bool (decide (x.br=0)||(q.take k).any λy=>decide (y.nu=x.br))),(1,.int .i64 i),(2,.ptr 2 0),(5,.ptr 5 0)],[(2,.box [.vsl (r.map isa),.vsl (l.map na),.vsl (q.map ra)]),(5,.box (ra x))]⟩)
  (λk=>((q.take k).any λy=>decide (y.nu=x.nu))=false) i ?_ (by simp) ?_ ?_
 . ((try simp only[hra,List.take_zero,List.any_nil,Bool.or_false]);refine Yn.sub (by simp[lk,Ya,AV.keys,hra,List.take_zero,List.any_nil,Bool.or_false]) ?_;simp only[hra,List.take_zero,List.any_nil,Bool.or_false,Wkl,and_true];(try simp[lk,Yd,Ya,AV.keys,hra,List.take_zero,List.any_nil,Bool.or_false]))
 . intro k hk hI;refine Qga ?_;have hkl:k<q.length:=(by omega);have wk:IntKind.i64.wrap ((k:Int)+1)=(k:Int)+1:=Yg (by omega) (by omega);have a1:=Zez hkl λy=>decide (y.nu=x.nu)
   have a2:=Zez hkl λy=>decide (y.nu=x.br)
   have hnk:ra q[k]=[.int .i64 q[k].nu,.int .i64 q[k].dy,.int .i64 q[k].fd,.int .i64 q[k].fl,.int .i64 q[k].td,.int .i64 q[k].tl,.bool q[k].bo,.int .i64 q[k].br]:=rfl;by_cases e:q[k].nu=x.nu
   . have h7:cR3 q i x=false:=by
      have:((q.take i).any λy=>decide (y.nu=x.nu))=true:=List.any_eq_true.2 ⟨q[k],by rw[List.mem_take_iff_getElem];exact ⟨k,by omega,rfl⟩,by simp[e]⟩;rw[cR3,this];rfl
     simp -implicitDefEqProofs[hk,hkl,hra,hnk,e];refine ⟨rfl,?_⟩;refine Qgr ?_;simp -implicitDefEqProofs[h7,Z8y]
   . have hI2:((q.take (k+1)).any λy=>decide (y.nu=x.nu))=false:=by rw[a1,hI];simp[e]
     cases hB:(decide (x.br=0)||(q.take k).any λy=>decide (y.nu=x.br))
     . have hB2:(decide (x.br=0)||(q.take (k+1)).any λy=>decide (y.nu=x.br))=decide (q[k].nu=x.br):=(by rw[a2,<- Bool.or_assoc,hB];simp);simp -implicitDefEqProofs[hk,hkl,hra,hnk,e,hB,wk];refine ⟨rfl,rfl,?_,by simpa using hI2⟩
       ((try simp only[hra,hB2]);refine Yn.sub (by simp[lk,Ya,AV.keys,hra,hB2]) ?_;simp only[hra,hB2,Wkl,and_true];(try simp[lk,Yd,Ya,AV.keys,hra,hB2]))
     . have hB2:(decide (x.br=0)||(q.take (k+1)).any λy=>decide (y.nu=x.br))=true:=(by rw[a2,<- Bool.or_assoc,hB];rfl);simp -implicitDefEqProofs[hk,hkl,hra,hnk,e,hB,wk];refine ⟨rfl,rfl,?_,by simpa using hI2⟩
       ((try simp only[hra,hB2]);refine Yn.sub (by simp[lk,Ya,AV.keys,hra,hB2]) ?_;simp only[hra,hB2,Wkl,and_true];(try simp[lk,Yd,Ya,AV.keys,hra,hB2]))
 . intro hI;refine Qga ?_;have h7:cR3 q i x=true:=(by rw[cR3,hI];rfl);have h6:(decide (x.br=0)||(q.take i).any λy=>decide (y.nu=x.br))=cR4 q i x:=rfl;rw[h6]
   cases i with
   | zero =>
     simp -implicitDefEqProofs[hra];refine Qgr ?_;simp -implicitDefEqProofs[h7,cR5,Z8y]
   | succ k =>
     have hkl:k<q.length:=(by omega);have w1:IntKind.i64.wrap ((k:Int)+1-1)=(k:Int):=(by rw[Yg (by omega) (by omega)];omega);have w2:IntKind.i64.wrap (k:Int)=(k:Int):=Yg (by omega) (by omega);have i0:¬(k:Int)+1=0:=(by omega);have ek:=Zed hkl;have hnk:ra q[k]=[.int .i64 q[k].nu,.int .i64 q[k].dy,.int .i64 q[k].fd,.int .i64 q[k].fl,.int .i64 q[k].td,.int .i64 q[k].tl,.bool q[k].bo,.int .i64 q[k].br]:=rfl;have e8:cR5 q (k+1) x=(decide (q[k].dy<x.dy)||(decide (q[k].dy=x.dy)&&decide (q[k].nu<x.nu))):=(by rw[cR5,ek]);rw[e8]
     cases h6:cR4 q (k+1) x
     . simp -implicitDefEqProofs[hra];refine Qgr ?_;simp -implicitDefEqProofs[h7,i0,w1,w2,hkl,hnk,hra,h6,Z8y]
     by_cases q1:q[k].dy<x.dy
     . simp -implicitDefEqProofs[hra];refine Qgr ?_;simp -implicitDefEqProofs[h7,i0,w1,w2,hkl,hnk,hra,q1,h6,Z8y]
     by_cases q2:q[k].dy=x.dy
     . have q1':¬x.dy<x.dy:=(by omega);simp -implicitDefEqProofs[hra];refine Qgr ?_;simp -implicitDefEqProofs[h7,i0,w1,w2,hkl,hnk,hra,q2,h6,Z8y]
     . simp -implicitDefEqProofs[hra];refine Qgr ?_;simp -implicitDefEqProofs[h7,i0,w1,w2,hkl,hnk,hra,q1,q2,h6,Z8y]
end
section
variable {G:Nat->Option (List AV)}
theorem ZhN (r:List Iss) (l:List Nte) (q:List Rul) (hq:Sml q) (hr:Sml r):PC Tryz.prog G 83 [swa r l q] (.bool (Zee r q)):=by
 (refine Z8C rfl λR hG hrd=>Qga ?_;subst hG)
 by_cases h0:16<q.length
 . have h0':(16:Int)<q.length:=by omega
   have e:Zee r q=false:=by
    have:¬q.length<=16:=(by omega);simp[Zee,this]
   simp -implicitDefEqProofs[Z8A,Z8B,swa,h0',e]
 . have h0':¬(16:Int)<q.length:=(by omega);have h16:q.length<=16:=(by omega);simp -implicitDefEqProofs[Z8A,Z8B,swa,h0'];refine Zb9 (λi=>⟨[(3,.int .i64 i),(1,.ptr 1 0)],[(1,.box [.vsl (r.map isa),.vsl (l.map na),.vsl (q.map ra)])]⟩) (λi=>∀ j,j<i->ruleB r q j=true) q.length (by (first|exact Yn.tm (by simp[lk])|exact Yn.sub (by simp[lk,Ya,AV.keys]) (by simp[lk,Yd,Ya,AV.keys]))) (λj hj=>by omega) ?_ ?_
   . intro i hi he;have w1:IntKind.i64.wrap ((i:Int)+1)=(i:Int)+1:=Yg (by omega) (by omega);have hc:=ZhM (G:=R.G) r l q i hi hq hr;unfold swa at hc;refine Qga ?_;simp -implicitDefEqProofs[hi];refine Qco (hc) (by simp) ?_
     cases h:ruleB r q i
     . have e:Zee r q=false:=by
        cases h2:Zee r q
        . rfl
        . simp only[Zee,Bool.and_eq_true]at h2;have:=Zbq.1 h2.2 i hi;rw[h]at this;cases this
       simp -implicitDefEqProofs[];refine Qgr ?_;simp -implicitDefEqProofs[e]
     . simp -implicitDefEqProofs[w1];refine ⟨by (first|exact Yn.tm (by simp[lk])|exact Yn.sub (by simp[lk,Ya,AV.keys]) (by simp[lk,Yd,Ya,AV.keys])),λj hj=>?_⟩;rcases Nat.lt_or_ge j i with h4|h4
       . exact he j h4
       . obtain rfl:j=i:=(by omega);exact h
   . intro he
     have e:Zee r q=true:=by
      simp only[Zee,Bool.and_eq_true,decide_eq_true_eq];exact ⟨h16,Zbq.2 he⟩
     refine Qga ?_;simp -implicitDefEqProofs[];refine Qgr ?_;simp -implicitDefEqProofs[e]
theorem ZhO (r:List Iss) (l:List Nte) (q:List Rul) (hw:WfN l) (hr:Wf r) (hq:Sml q):PC Tryz.prog G 50 [swa r l q] (.int .i64 (chS r l q)):=by
 have hc:=ZeO (G:=G) r l hw hr;have hS:=ZhN (G:=G) r l q hq hr.1.1;unfold swa at hS
 (refine Z8F rfl λR hG hrd=>Qga ?_;subst hG)
 unfold chS;by_cases h0:chN r l=0
 . rw[h0]at hc;simp -implicitDefEqProofs[Z8D,Z8E,swa];refine Qco (hc) (by simp) ?_;simp -implicitDefEqProofs[];refine Qco (hS) (by simp) ?_
   cases h1:Zee r q
   . simp -implicitDefEqProofs[h0]
   . simp -implicitDefEqProofs[h0]
 . simp -implicitDefEqProofs[Z8D,Z8E,swa];refine Qco (hc) (by simp) ?_;simp -implicitDefEqProofs[h0]
theorem ZhP {r:List Iss} {l:List Nte} {q:List Rul} (h:chS r l q=0):chN r l=0/\Zee r q=true:=by
 unfold chS at h
 split at h
 . rename_i h1
   cases q2:Zee r q
   . rw[q2]at h;cases h
   . exact ⟨h1,rfl⟩
 . rename_i e;exact absurd h e
theorem ZhQ {r:List Iss} {q:List Rul} (h:Zee r q=true):q.length<=16:=by simp only[Zee,Bool.and_eq_true,decide_eq_true_eq]at h;exact h.1
def ruA (r:List Iss) (l:List Nte) (q:List Rul) (day:Int):AV:=.tup [Yh ((ruE r l q day).1.map ia),.int .i64 (ruE r l q day).2]
end
theorem ZhR {day:Int} {l:List Nte} {i:Nat} (h:i<l.length):dyN day (l.take (i+1))=if l[i].dy<=day then dyN day (l.take i)++[l[i]] else dyN day (l.take i):=by
 unfold dyN;rw[List.take_succ_eq_append_getElem h,List.filter_append]
 split
 . rename_i e;rw[List.filter_cons_of_pos (by simpa using e)];rfl
 . rename_i e;rw[List.filter_cons_of_neg (by simpa using e)];simp
theorem ZhS (day:Int) (l:List Nte):(dyN day l).length<=l.length:=List.length_filter_le _ _
theorem ZhT {D:List Nte} {s:List Int} {i:Nat} (h:i<s.length):dyT D (s.take (i+1))=if (D.any λx=>decide (x.nu=s[i]))=true then dyT D (s.take i)++[s[i]] else dyT D (s.take i):=by
 unfold dyT;rw[List.take_succ_eq_append_getElem h,List.filter_append]
 split
 . rename_i e;simp only[List.filter_cons,e,List.filter_nil,if_true]
 . rename_i e;simp only[List.filter_cons,e,List.filter_nil,if_false,List.append_nil,Bool.false_eq_true]
theorem ZhU (D:List Nte) (s:List Int):(dyT D s).length<=s.length:=List.length_filter_le _ _
theorem ZhV (o:List (Nat×AObj)) (l:List Nte):Yd o (.row 10 (l.map na))=true:=by
 simp only[Yd,List.all_eq_true,List.mem_map];rintro x ⟨y,-,rfl⟩ v hv;simp only[na,List.mem_cons,List.not_mem_nil,or_false]at hv;rcases hv with rfl|rfl|rfl|rfl|rfl|rfl|rfl|rfl|rfl|rfl <;> simp[Ya,AV.keys]
def upB (r:List Iss) (D:List Nte):List (Nat×AObj):=if D=[] then [(8,.box [.vsl (r.map isa),.nils])] else [(8,.box [.vsl (r.map isa),.osl 40 D.length]),(40,.row 10 (D.map na))]
def uqS (r:List Iss) (l:List Nte) (s:List Int) (day:Int) (i:Nat):St :=
 ⟨[(10,.int .i64 i),(1,.vsl (s.map ia)),(2,.int .i64 day),(3,.ptr 3 0),(6,.ptr 6 0),(8,.ptr 8 0),(9,.osl 16 0)],upB r (dyN day (l.take i))++[(3,.box [.vsl (r.map isa),.vsl (l.map na)]),(6,.box [.nils,.nils]),(16,.row 1 [])]⟩
def upT (D:List Nte) (s:List Int) (i j:Nat):List Int:=dyT D (s.take i)++(if ((D.take j).any λx=>decide (x.nu=s.getD i 0))=true then [s.getD i 0] else [])
theorem ZhW {D:List Nte} {s:List Int} {i:Nat}:upT D s i 0=dyT D (s.take i):=by simp[upT]
theorem ZhX {D:List Nte} {s:List Int} {i:Nat} (h:i<s.length):upT D s i D.length=dyT D (s.take (i+1)):=by
 have e:s.getD i 0=s[i]:=(by simp[List.getD_eq_getElem?_getD,h]);rw[ZhT h,upT,List.take_length,e]
 split <;> simp
theorem ZhY (D:List Nte) (s:List Int) (i j:Nat):(upT D s i j).length<=s.length+1:=by
 have h1:=ZhU D (s.take i);have h2:(s.take i).length<=s.length:=(by simp;omega);unfold upT
 split <;> simp <;> omega
theorem ZhZ {D:List Nte} {s:List Int} {i j:Nat} (hi:i<s.length) (hj:j<D.length) (hn:(D.map (·.nu)).Nodup):upT D s i (j+1)=if D[j].nu=s[i] then upT D s i j++[s[i]] else upT D s i j:=by
 have e:s.getD i 0=s[i]:=(by simp[List.getD_eq_getElem?_getD,hi]);have a:=Zez hj λx=>decide (x.nu=s[i])
 unfold upT;rw[e,a];by_cases h:D[j].nu=s[i]
 . rw [if_pos h]
   have h0:((D.take j).any λx=>decide (x.nu=s[i]))=false:=by
    cases q:(D.take j).any λx=>decide (x.nu=s[i])
    . rfl
    . obtain ⟨y,hy,hy2⟩:=List.any_eq_true.1 q;obtain ⟨k,hk,rfl⟩:=List.mem_take_iff_getElem.1 hy;have h2:=List.pairwise_iff_getElem.1 (List.nodup_iff_pairwise_ne.1 hn) k j (by simp;omega) (by simpa using hj) (by omega);simp only[List.getElem_map]at h2;exact absurd ((of_decide_eq_true hy2).trans h.symm) h2
   rw[h0];simp[h]
 . rw[if_neg h,decide_eq_false h,Bool.or_false]
def upO (r:List Iss) (l:List Nte) (D:List Nte) (T:List Int):List (Nat×AObj):=upB r D++[(3,.box [.vsl (r.map isa),.vsl (l.map na)]),(6,.box [.nils,.nils]),(16,.row 1 (T.map ia))]
section
variable {G:Nat->Option (List AV)}
set_option maxHeartbeats 1000000 in
theorem Zi0 (r:List Iss) (l:List Nte) (s:List Int) (day:Int) (hl:l.length<=16) (hs:Sml s) (hn:(l.map (·.nu)).Nodup) :
  PC Tryz.prog G 21 [.agg [.vsl (r.map isa),.vsl (l.map na)],.vsl (s.map ia),.int .i64 day] (.tup [.agg [.vsl (r.map isa),Yh ((dyN day l).map na)],.vsl ((dyT (dyN day l) s).map ia)]):=by
 unfold Sml at hs;have hDn:((dyN day l).map (·.nu)).Nodup:=List.Sublist.nodup ((List.filter_sublist).map _) hn;have hDl:=ZhS day l;refine Z8I rfl λR hG hrd=>?_
 subst hG;refine Qga ?_;simp -implicitDefEqProofs[Z8G,Z8H];refine Zb9 (uqS r l s day) (λ_=>True) l.length ?_ trivial ?_ ?_
 . have e0:dyN day (l.take 0)=[]:=(by simp[dyN]);simp only[uqS,upB,e0,if_true]
   (refine Yn.sub (by simp[lk,Ya,AV.keys]) ?_;simp only[Wkl,and_true];(try simp[lk,Yd,Ya,AV.keys]))
 . intro i hi _;have sc:=ZhR (day:=day) hi;have hx:=ZdP hi;have hlx:l[i]=nAt l i:=hx.symm;have hnx:na (nAt l i)=[.int .i64 (nAt l i).nu,.int .i64 (nAt l i).dy,.int .u8 (nAt l i).sg,.int .i64 (nAt l i).dr,.int .i64 (nAt l i).lt,.int .i64 (nAt l i).fr,.int .i64 (nAt l i).tu,.int .i64 (nAt l i).ca,.bool (nAt l i).up,.int .u8 (nAt l i).wy]:=rfl;have wi:IntKind.i64.wrap ((i:Int)+1)=(i:Int)+1:=Yg (by omega) (by omega);have bl:=ZhS day (l.take i);have bl2:(l.take i).length<=i:=(by simp;omega);have bb:((dyN day (l.take i)).length+1)*72<=70368744177664:=(by omega);rw[hlx]at sc;by_cases hd:(nAt l i).dy<=day
   . rw[if_pos hd]at sc;have hne:dyN day (l.take (i+1))≠[]:=(by rw[sc];simp);by_cases c:dyN day (l.take i)=[]
     all_goals
      refine Qga ?_;simp only[uqS,upB,c,if_true,if_false,List.cons_append,List.nil_append];simp -implicitDefEqProofs[hi,hlx,hnx,hd,wi,bb];refine ⟨rfl,?_⟩;simp only[uqS,upB,hne,if_false,List.cons_append,List.nil_append];have e1:(dyN day (l.take (i+1))).map na=(dyN day (l.take i)).map na++[na (nAt l i)]:=(by rw[sc,List.map_append];rfl);have e2:(dyN day (l.take (i+1))).length=(dyN day (l.take i)).length+1:=by rw[sc];simp
      first
       |(rw[c,List.nil_append]at sc;rw[sc];((try simp only[hnx]);refine Yn.sub (by simp[lk,Ya,AV.keys,hnx]) ?_;simp only[hnx,Wkl,and_true];(try simp[lk,Yd,Ya,AV.keys,hnx]));done)
       |(rw[hnx]at e1;rw[<- e1,e2];(refine Yn.sub (by simp[lk,Ya,AV.keys]) ?_;simp only[Wkl,ZhV,and_true];(try simp[lk,Yd,Ya,AV.keys]));done)
   . rw[if_neg hd]at sc;by_cases c:dyN day (l.take i)=[]
     all_goals
      refine Qga ?_;simp only[uqS,upB,c,if_true,if_false,List.cons_append,List.nil_append];simp -implicitDefEqProofs[hi,hlx,hnx,hd,wi];simp only[uqS,upB,sc,c,if_true,if_false,List.cons_append,List.nil_append]
      (refine Yn.sub (by simp[lk,Ya,AV.keys]) ?_;simp only[Wkl,ZhV,and_true];(try simp[lk,Yd,Ya,AV.keys]))
 . intro _;refine Qga ?_;simp only[uqS,List.take_length];generalize hDD:dyN day l=D at *;have hO:∀ T i,(upO r l D T).length=(upO r l D T).length+i-i:=λT i=>by omega
   by_cases c:D=[]
   . have eT:dyT D s=[]:=(by rw[c];simp[dyT]);rw[eT];simp only[upB,c,if_true,List.cons_append,List.nil_append];simp -implicitDefEqProofs[];refine Qgr ?_;simp -implicitDefEqProofs[];refine Zb9 (λi=>⟨[(11,.int .i64 i),(1,.vsl (s.map ia)),(8,.ptr 8 0),(9,.osl 16 0),(6,.ptr 6 0)],[(8,.box [.vsl (r.map isa),.nils]),(6,.box [.nils,.nils]),(16,.row 1 [])]⟩) (λ_=>True) s.length (by (first|exact Yn.tm (by simp[lk])|exact Yn.sub (by simp[lk,Ya,AV.keys]) (by simp[lk,Yd,Ya,AV.keys]))) trivial ?_ ?_
     . intro i hi _;have wi:IntKind.i64.wrap ((i:Int)+1)=(i:Int)+1:=Yg (by omega) (by omega);refine Qga ?_;simp -implicitDefEqProofs[hi];refine Zb9 (λj=>⟨[(12,.int .i64 j),(11,.int .i64 i),(1,.vsl (s.map ia)),(8,.ptr 8 0),(9,.osl 16 0),(6,.ptr 6 0)],[(8,.box [.vsl (r.map isa),.nils]),(6,.box [.nils,.nils]),(16,.row 1 [])]⟩) (λ_=>True) 0 (by (first|exact Yn.tm (by simp[lk])|exact Yn.sub (by simp[lk,Ya,AV.keys]) (by simp[lk,Yd,Ya,AV.keys]))) trivial (λi hi=>by omega) ?_;intro _;refine Qga ?_;simp -implicitDefEqProofs[];refine Qgr ?_;simp -implicitDefEqProofs[wi]
       (first|exact Yn.tm (by simp[lk])|exact Yn.sub (by simp[lk,Ya,AV.keys]) (by simp[lk,Yd,Ya,AV.keys]))
     . intro _;refine Qga ?_;simp -implicitDefEqProofs[];refine Qgr ?_;simp -implicitDefEqProofs[Yh]
   . simp only[upB,c,if_false,List.cons_append,List.nil_append];simp -implicitDefEqProofs[];refine Qgr ?_;simp -implicitDefEqProofs[];refine Zb9 (λi=>⟨[(11,.int .i64 i),(1,.vsl (s.map ia)),(8,.ptr 8 0),(9,.osl 16 (dyT D (s.take i)).length),(6,.ptr 6 0)],[(8,.box [.vsl (r.map isa),.osl 40 D.length]),(40,.row 10 (D.map na)),(6,.box [.nils,.nils]),(16,.row 1 ((dyT D (s.take i)).map ia))]⟩) (λ_=>True) s.length ?_ trivial ?_ ?_
     . have e0:dyT D (s.take 0)=[]:=(by simp[dyT]);simp only[e0]
       ((try simp only[List.map_nil,List.length_nil]);refine Yn.sub (by simp[lk,Ya,AV.keys,List.map_nil,List.length_nil]) ?_;simp only[List.map_nil,List.length_nil,Wkl,ZhV,and_true];(try simp[lk,Yd,Ya,AV.keys,List.map_nil,List.length_nil]))
     . intro i hi _;have wi:IntKind.i64.wrap ((i:Int)+1)=(i:Int)+1:=Yg (by omega) (by omega);refine Qga ?_;simp -implicitDefEqProofs[hi];refine Zb9 (λj=>⟨[(12,.int .i64 j),(11,.int .i64 i),(1,.vsl (s.map ia)),(8,.ptr 8 0),(9,.osl 16 (upT D s i j).length),(6,.ptr 6 0)],[(8,.box [.vsl (r.map isa),.osl 40 D.length]),(40,.row 10 (D.map na)),(6,.box [.nils,.nils]),(16,.row 1 ((upT D s i j).map ia))]⟩) (λ_=>True) D.length ?_ trivial ?_ ?_
       . simp only[ZhW]
         (refine Yn.sub (by simp[lk,Ya,AV.keys]) ?_;simp only[Wkl,ZhV,ZgN,and_true];(try simp[lk,Yd,Ya,AV.keys]))
       . intro j hj _;have wj:IntKind.i64.wrap ((j:Int)+1)=(j:Int)+1:=Yg (by omega) (by omega);have us:=ZhZ hi hj hDn;have ul:=ZhY D s i j;have bb:((upT D s i j).length+1)*8<=70368744177664:=(by omega);have hnx:na D[j]=[.int .i64 D[j].nu,.int .i64 D[j].dy,.int .u8 D[j].sg,.int .i64 D[j].dr,.int .i64 D[j].lt,.int .i64 D[j].fr,.int .i64 D[j].tu,.int .i64 D[j].ca,.bool D[j].up,.int .u8 D[j].wy]:=rfl;refine Qga ?_;by_cases h:D[j].nu=s[i]
         . rw[if_pos h]at us;simp -implicitDefEqProofs[hi,hj,hnx,ia,h,bb,wj];refine ⟨rfl,?_⟩;have e1:(upT D s i (j+1)).map ia=(upT D s i j).map ia++[[AV.int .i64 s[i]]]:=(by rw[us,List.map_append];rfl);have e2:(upT D s i (j+1)).length=(upT D s i j).length+1:=(by rw[us];simp);rw[<- e1,e2]
           (refine Yn.sub (by simp[lk,Ya,AV.keys]) ?_;simp only[Wkl,ZhV,ZgN,and_true];(try simp[lk,Yd,Ya,AV.keys]))
         . rw[if_neg h]at us;simp -implicitDefEqProofs[hi,hj,hnx,ia,h,wj];refine ⟨rfl,?_⟩;rw[us]
           (refine Yn.sub (by simp[lk,Ya,AV.keys]) ?_;simp only[Wkl,ZhV,ZgN,and_true];(try simp[lk,Yd,Ya,AV.keys]))
       . intro _;refine Qga ?_;rw[ZhX hi];simp -implicitDefEqProofs[];refine Qgr ?_;simp -implicitDefEqProofs[wi]
         (refine Yn.sub (by simp[lk,Ya,AV.keys]) ?_;simp only[Wkl,ZhV,ZgN,and_true];(try simp[lk,Yd,Ya,AV.keys]))
     . intro _;refine Qga ?_;rw[List.take_length];simp -implicitDefEqProofs[c];refine Qgr ?_;simp -implicitDefEqProofs[Yh,c,ia,na]
end
def Nsub (x y:AV):Prop:=∀ (M:Nat->Prop) (W:World) (u:Value),PV M W x u->PV M W y u
theorem Nsub.rfl' {x:AV}:Nsub x x:=λ_ _ _ h=>h
theorem Nsub.nils:Nsub .nils (.vsl []):=λ_ _ _ h=>by
 cases h
 exact .vsl [] none 0 1 0 0 (λ_ _=>undef) (Nat.le_refl _) (Nat.zero_le _) (λh=>absurd rfl h) (λ_=>⟨rfl,rfl⟩) (by simp) (by simp) (by simp)
theorem Nsub.orNil (l:List (List AV)):Nsub (Yh l) (.vsl l):=by
 unfold Go.Proofs.YtjogcghofinemaaGreatDoor.Yh
 split
 . rename_i e;rw[e];exact .nils
 . exact .rfl'
def NsubL:List AV->List AV->Prop
 |[],[]=>True
 |x::xs,y::ys=>Nsub x y/\NsubL xs ys
 |_,_=>False
theorem NsubL.len:∀ {xs ys:List AV},NsubL xs ys->xs.length=ys.length
 |[],[],_=>rfl
 |_::_,_::_,h=>by simp only[List.length_cons,NsubL.len h.2]
 |[],_::_,h=>h.elim
 |_::_,[],h=>h.elim
theorem NsubL.at:∀ {xs ys:List AV},NsubL xs ys->∀ (i:Nat) (y:AV),ys[i]? = some y->∃ x,xs[i]? = some x/\Nsub x y
 |[],[],_,i,y,h=>by simp at h
 | x::xs,y::ys,h,0,z,e=>by
   simp only[List.getElem?_cons_zero,Option.some.injEq]at e;subst e;exact ⟨x,rfl,h.1⟩
 | x::xs,y::ys,h,i+1,z,e=>by
   simp only[List.getElem?_cons_succ]at e;obtain ⟨w,h1,h2⟩:=NsubL.at h.2 i z e;exact ⟨w,by simpa using h1,h2⟩
 |[],_::_,h,_,_,_=>h.elim
 |_::_,[],h,_,_,_=>h.elim
theorem Nsub.agg {xs ys:List AV} (h:NsubL xs ys):Nsub (.agg xs) (.agg ys):=λM W u hu=>by
 cases hu with
 | agg _ us h1 hx =>
   refine .agg ys us (by rw[h1,h.len]) λi y u hy hu=>?_
   obtain ⟨x,h2,h3⟩:=h.at i y hy;exact h3 _ _ _ (hx i x u h2 hu)
theorem PC.sub {P:Program} {G:Nat->Option (List AV)} {f:FuncId} {xs ys:List AV} {v:AV} (h:PC P G f ys v) (hs:NsubL xs ys):PC P G f xs v :=
 ⟨h.1,λM W vs hM hG hz hv=>h.2 M W vs hM hG (hz.trans hs.len) λi y u hi hu=>by
  obtain ⟨x,h2,h3⟩:=hs.at i y hi;exact h3 _ _ _ (hv i x u h2 hu)⟩
def aqN (r:List Iss) (l:List Nte) (q:List Rul) (s:List Int) (m d e:Int):Int:=if chS r l q=0 then if truB l s=true then if (inR m 1 999&&inR d 0 14610&&inR e 0 14610)=true then 0 else 2 else 31 else chS r l q
def ntR (F:List Int) (x:Nte):List Stq:=if x.nu∈F/\¬x.dr=0/\¬x.lt<2 then
    (if x.wy % 2=1 then [⟨x.dr,IntKind.i64.wrap (x.lt-1),x.dr,x.lt,x.nu,true⟩] else [])++(if 2<=x.wy % 4 then [⟨x.dr,x.lt,x.dr,IntKind.i64.wrap (x.lt-1),x.nu,true⟩] else [])
 else []
def rlR (b:Bool) (x:Rul):List Stq:=if b=true/\¬(x.fd=0/\x.fl=0) then
    [⟨x.fd,x.fl,x.td,x.tl,x.nu,false⟩]++(if x.bo=true then [⟨x.td,x.tl,x.fd,x.fl,x.nu,false⟩] else [])
 else []
def stF (r:List Iss) (l:List Nte) (s:List Int) (m day:Int):List Int:=(fcE r (dyN day l) (dyT (dyN day l) s) m).1
def nsR (F:List Int) (D:List Nte) (i:Nat):List Stq:=(D.take i).flatMap (ntR F)
def rsR (day:Int) (q:List Rul) (i:Nat):List Stq:=((List.range q.length).take i).flatMap λj=>rlR (sB day q j) (rAt q j)
def st5 (r:List Iss) (l:List Nte) (q:List Rul) (s:List Int) (m day:Int):List Stq:=nsR (stF r l s m day) (dyN day l) (dyN day l).length++rsR day q q.length
theorem Zi1 {F:List Int} {D:List Nte} {i:Nat} (h:i<D.length):nsR F D (i+1)=nsR F D i++ntR F D[i]:=by
 unfold nsR;rw[List.take_succ_eq_append_getElem h,List.flatMap_append];simp
theorem Zi2 {day:Int} {q:List Rul} {i:Nat} (h:i<q.length):rsR day q (i+1)=rsR day q i++rlR (sB day q i) q[i]:=by
 have h1:i<(List.range q.length).length:=(by simpa using h);unfold rsR;rw[List.take_succ_eq_append_getElem h1,List.flatMap_append,List.getElem_range];simp[Zed h]
theorem Zi3 (F:List Int) (x:Nte):(ntR F x).length<=2:=by unfold ntR;split <;> (try split) <;> (try split) <;> simp
theorem Zi4 (b:Bool) (x:Rul):(rlR b x).length<=2:=by unfold rlR;split <;> (try split) <;> simp
theorem Zi5 (F:List Int) (D:List Nte):∀ i,i<=D.length->(nsR F D i).length<=2*i
 |0,_=>by simp[nsR]
 |i+1,h=>by rw[Zi1 h,List.length_append];have:=Zi5 F D i (by omega);have:=Zi3 F D[i];omega
theorem Zi6 (day:Int) (q:List Rul):∀ i,i<=q.length->(rsR day q i).length<=2*i
 |0,_=>by simp[rsR]
 |i+1,h=>by rw[Zi2 h,List.length_append];have:=Zi6 day q i (by omega);have:=Zi4 (sB day q i) q[i];omega
theorem Zi7 (o:List (Nat×AObj)) (l:List Stq):Yd o (.row 6 (l.map sa))=true:=by
 simp only[Yd,List.all_eq_true,List.mem_map];rintro x ⟨y,-,rfl⟩ v hv;simp only[sa,List.mem_cons,List.not_mem_nil,or_false]at hv;rcases hv with rfl|rfl|rfl|rfl|rfl|rfl <;> simp[Ya,AV.keys]
def sqT (κ:Nat) (L:List Stq):AV:=if κ=0 then .nils else .osl κ L.length
def sqO (κ:Nat) (L:List Stq):List (Nat×AObj):=if κ=0 then [] else [(κ,.row 6 (L.map sa))]
section
variable {G:Nat->Option (List AV)}
theorem sixB (n:Nat) (h:n<=200):(n+1)*48<=70368744177664:=by omega
theorem sixC (n:Nat) (h:n<=200):(n+1+1)*48<=70368744177664:=by omega
def KeyOk (ks:List Nat) (κ:Nat) (L:List Stq):Prop:=(κ=0/\L=[])∨(κ∈ks/\L≠[])
end
theorem bit1 {w:Int} (h0:0<=w) (h1:w<=255):IntKind.u8.wrap (((w % 2 ^ IntKind.u8.bits).toNat &&& 1 % 2 ^ IntKind.u8.bits:Nat):Int)=if w % 2=1 then 1 else 0:=by
 have h:∀ n:_root_.Fin 256,IntKind.u8.wrap ((((n.val:Int) % 2 ^ IntKind.u8.bits).toNat &&& 1 % 2 ^ IntKind.u8.bits:Nat):Int)=if (n.val:Int) % 2=1 then 1 else 0:=by decide +kernel
 have:=h ⟨w.toNat,by omega⟩
 rwa [show ((w.toNat:Nat):Int)=w by omega]at this
theorem bit2 {w:Int} (h0:0<=w) (h1:w<=255):IntKind.u8.wrap (((w % 2 ^ IntKind.u8.bits).toNat &&& 2 % 2 ^ IntKind.u8.bits:Nat):Int)=if 2<=w % 4 then 2 else 0:=by
 have h:∀ n:_root_.Fin 256,IntKind.u8.wrap ((((n.val:Int) % 2 ^ IntKind.u8.bits).toNat &&& 2 % 2 ^ IntKind.u8.bits:Nat):Int)=if 2<=(n.val:Int) % 4 then 2 else 0:=by decide +kernel
 have:=h ⟨w.toNat,by omega⟩
 rwa [show ((w.toNat:Nat):Int)=w by omega]at this
section
variable {G:Nat->Option (List AV)}
def stE (r:List Iss) (l:List Nte) (q:List Rul) (s:List Int) (m day:Int):List Stq×Int:=if aqN r l q s m day day=0 then (st5 r l q s m day,0) else ([],aqN r l q s m day day)
def stA (r:List Iss) (l:List Nte) (q:List Rul) (s:List Int) (m day:Int):AV:=.tup [Yh ((stE r l q s m day).1.map sa),.int .i64 (stE r l q s m day).2]
theorem Zi8 {r:List Iss} {l:List Nte} {q:List Rul} {s:List Int} {m d e:Int} (h:aqN r l q s m d e=0):chS r l q=0/\truB l s=true/\inR m 1 999=true/\inR d 0 14610=true/\inR e 0 14610=true:=by
 unfold aqN at h
 split at h
 . rename_i h1
   split at h
   . rename_i h2
     split at h
     . rename_i h3;simp only[Bool.and_eq_true]at h3;exact ⟨h1,h2,h3.1.1,h3.1.2,h3.2⟩
     . cases h
   . cases h
 . rename_i e;exact absurd h e
end
def rfa (x:Iss):List AV:=[.int .i64 x.d,.int .i64 x.l]
def rfA (r:List Iss):AV:=if r=[] then .nils else .vsl (r.map rfa)
def Yl (r:List Iss) (l:List Nte) (q:List Rul):AV:=.vptr [.vsl (r.map isa),.vsl (l.map na),.vsl (q.map ra),rfA r] 0
section
variable {G:Nat->Option (List AV)}
theorem Zi9 (n lo hi:Int):PC Tryz.prog G 92 [.int .i64 n,.vptr [.int .i64 lo] 0,.vptr [.int .i64 hi] 0] (.bool (!inR n lo hi)):=by
 (refine Z7x rfl λR hG hrd=>Qga ?_;subst hG)
 by_cases h1:n<lo
 . have h2:¬lo<=n:=(by omega);simp -implicitDefEqProofs[Z7v,Z7w,h1,h2,inR]
 . have h2:lo<=n:=(by omega);by_cases h3:hi<n
   . have h4:¬n<=hi:=(by omega);simp -implicitDefEqProofs[Z7v,Z7w,h1,h2,h3,h4,inR]
   . have h4:n<=hi:=(by omega);simp -implicitDefEqProofs[Z7v,Z7w,h1,h2,h3,h4,inR]
theorem Zia (lo hi:Int) (l:List Int) (hl:Sml l):PC Tryz.prog G 62 [.int .i64 lo,.int .i64 hi,.vsl (l.map ia)] (.bool (l.all λn=>inR n lo hi)):=by
 (refine Z7u rfl λR hG hrd=>Qga ?_;subst hG)
 simp -implicitDefEqProofs[Z7s,Z7t]
 (first|refine Ye.flat (Zc0 92 [.vptr [.int .i64 lo] 0,.vptr [.int .i64 hi] 0] (λn=>!inR n lo hi) l (by simp[AV.pure]) hl (λn _=>Zi9 n lo hi)) (by simp[AV.flat]) (by simp) ?_|refine Yf.flat (Zc0 92 [.vptr [.int .i64 lo] 0,.vptr [.int .i64 hi] 0] (λn=>!inR n lo hi) l (by simp[AV.pure]) hl (λn _=>Zi9 n lo hi)) (by simp[AV.flat]) (by simp) ?_)
 have e:(!l.any λn=>!inR n lo hi)=l.all λn=>inR n lo hi:=by simp[List.all_eq_not_any_not]
 simp -implicitDefEqProofs[e]
theorem Zib (lo hi n:Int):PC Tryz.prog G 62 [.int .i64 lo,.int .i64 hi,.vsl [[.int .i64 n]]] (.bool (inR n lo hi)):=by
 have h:=Zia (G:=G) lo hi [n] (by simp[Sml]);simpa [ia] using h
theorem Zic (lo hi n m:Int):PC Tryz.prog G 62 [.int .i64 lo,.int .i64 hi,.vsl [[.int .i64 n],[.int .i64 m]]] (.bool (inR n lo hi&&inR m lo hi)):=by
 have h:=Zia (G:=G) lo hi [n,m] (by simp[Sml]);simpa [ia] using h
theorem Zid (g:Nat) (caps:List AV) (p:Rul->Bool) (l:List Rul) (hc:caps.all AV.pure=true) (hl:Sml l)
  (hg:∀ x∈l,PC Tryz.prog G g (.agg (ra x)::caps) (.bool (p x))) :
  PC Tryz.prog G 141 [.vsl (l.map ra),.func (.func g) [] caps] (.int .i64 (fstOf p l)):=by
 (refine Z7A rfl λR hG hrd=>Qga ?_;subst hG)
 unfold Sml at hl;have hc2:∀ x∈caps,x.pure=true:=List.all_eq_true.1 hc;simp -implicitDefEqProofs[Z7y,Z7z];refine Zb9 (λi=>⟨[(8,.int .i64 i),(7,.int .i64 l.length),(0,.vsl (l.map ra)),(1,.func (.func g) [] caps)],[]⟩) (λi=>∀ j (h:j<l.length),j<i->p l[j]=false) l.length (by (first|exact Yn.tm (by simp[lk])|exact Yn.sub (by simp[lk,Ya,AV.keys]) (by simp[lk,Yd,Ya,AV.keys]))) (by simp) ?_ ?_
 . intro i hi he;refine Qga ?_;have w1:IntKind.i64.wrap ((i:Int)+1)=((i+1:Nat):Int):=Yg (by omega) (by omega);have hgi:=hg _ (List.getElem_mem hi);have hln:(ra l[i]).length=8:=rfl;have htk:(ra l[i]).take 8=ra l[i]:=rfl;simp -implicitDefEqProofs[hi,hln,htk];refine Ye.of hgi (by simpa [AV.pure,ra] using hc2) ?_
   cases h3:p l[i]
   . simp -implicitDefEqProofs[w1];refine ⟨(by (first|exact Yn.tm (by simp[lk])|exact Yn.sub (by simp[lk,Ya,AV.keys]) (by simp[lk,Yd,Ya,AV.keys]))),λj q1 q2=>?_⟩;by_cases e:j=i
     . subst e;exact h3
     . exact he j q1 (by omega)
   . simp -implicitDefEqProofs;refine Qgr ?_;simp -implicitDefEqProofs[ZbW hi h3 he]
 . intro he;refine Qga ?_;simp -implicitDefEqProofs[];refine Qgr ?_;simp -implicitDefEqProofs[ZbX (p:=p) (l:=l) (λj hj=>he j hj hj)]
theorem Zie (g:Nat) (caps:List AV) (p:Rul->Bool) (l:List Rul) (hc:caps.all AV.pure=true) (hl:Sml l)
  (hg:∀ x∈l,PC Tryz.prog G g (.agg (ra x)::caps) (.bool (p x))) :
  PC Tryz.prog G 110 [.vsl (l.map ra),.func (.func g) [] caps] (.int .i64 (fstOf p l)):=by
 (refine Z7D rfl λR hG hrd=>Qga ?_;subst hG)
 simp -implicitDefEqProofs[Z7B,Z7C];have hc2:∀ x∈caps,x.pure=true:=List.all_eq_true.1 hc;refine Ye.of (Zid g caps p l hc hl hg) (by simpa [AV.pure] using hc2) ?_;simp -implicitDefEqProofs[]
theorem Zif (x y:Rul):PC Tryz.prog G 111 [.agg (ra y),.vptr (ra x) 0] (.bool (decide (y.nu=x.nu))):=by
 (refine Z7J rfl λR hG hrd=>Qga ?_;subst hG)
 simp -implicitDefEqProofs[Z7H,Z7I,ra]
theorem Zig (x y:Rul):PC Tryz.prog G 112 [.agg (ra y),.vptr (ra x) 0] (.bool (decide (y.nu=x.br))):=by
 (refine Z7M rfl λR hG hrd=>Qga ?_;subst hG)
 simp -implicitDefEqProofs[Z7K,Z7L,ra]
def rfp (d l:Int) (x:Iss):Bool:=decide (x.d=d/\x.l=l)
theorem Zih {r:List Iss} {d l:Int}:(findN d l r).isSome=r.any (rfp d l):=by
 induction r with
 |nil=>rfl
 | cons x r ih =>
   simp only[findN,List.any_cons]
   split
   . rename_i h;simp[rfp,h]
   . rename_i h;have:rfp d l x=false:=decide_eq_false h;rw[ih,this,Bool.false_or]
theorem Zii (r:List Iss) (d l:Int) (hr:Sml r):PC Tryz.prog G 140 [.vsl (r.map rfa),.agg [.int .i64 d,.int .i64 l]] (.int .i64 (fstOf (rfp d l) r)):=by
 (refine Z8e rfl λR hG hrd=>Qga ?_;subst hG)
 unfold Sml at hr;simp -implicitDefEqProofs[Z8c,Z8d];refine Zb9 (λi=>⟨[(8,.int .i64 i),(7,.int .i64 r.length),(6,.vsl (r.map rfa)),(0,.vsl (r.map rfa)),(3,.ptr 3 0)],[(3,.box [.int .i64 d,.int .i64 l])]⟩) (λi=>∀ j (h:j<r.length),j<i->rfp d l r[j]=false) r.length (by (first|exact Yn.tm (by simp[lk])|exact Yn.sub (by simp[lk,Ya,AV.keys]) (by simp[lk,Yd,Ya,AV.keys]))) (by simp) ?_ ?_
 . intro i hi he;refine Qga ?_;have w1:IntKind.i64.wrap ((i:Int)+1)=(i:Int)+1:=Yg (by omega) (by omega);by_cases h:r[i].d=d/\r[i].l=l
   . have hf:=ZbW (p:=rfp d l) hi (by simpa [rfp] using h) he;simp -implicitDefEqProofs[hi,rfa,h.1,h.2];refine ⟨rfl,?_⟩;refine Qgr ?_;simp -implicitDefEqProofs[hf]
   . have h1:(decide (d=r[i].d)&&decide (l=r[i].l))=false:=by
      cases hh:(decide (d=r[i].d)&&decide (l=r[i].l))
      . rfl
      . simp at hh;exact absurd ⟨hh.1.symm,hh.2.symm⟩ h
     simp -implicitDefEqProofs[hi,rfa,h1,w1];refine ⟨rfl,by (first|exact Yn.tm (by simp[lk])|exact Yn.sub (by simp[lk,Ya,AV.keys]) (by simp[lk,Yd,Ya,AV.keys])),λj q1 q2=>?_⟩;by_cases e:j=i
     . subst e;simpa [rfp] using h
     . exact he j q1 (by omega)
 . intro he;refine Qga ?_;have hf:=ZbX (p:=rfp d l) (l:=r) (λj hj=>he j hj hj);simp -implicitDefEqProofs[];refine Qgr ?_;simp -implicitDefEqProofs[hf]
theorem Zij (r:List Iss) (d l:Int) (hr:Sml r):PC Tryz.prog G 109 [.vsl (r.map rfa),.agg [.int .i64 d,.int .i64 l]] (.bool (knB r d l)):=by
 have hi:=Zii (G:=G) r d l hr;have e:=ZbY (rfp d l) r;have e2:knB r d l=r.any (rfp d l):=Zih;rw[e2]
 (refine Z8b rfl λR hG hrd=>Qga ?_;subst hG)
 simp -implicitDefEqProofs[Z89,Z8a];refine Qco (hi) (by simp) ?_;simp -implicitDefEqProofs[e]
theorem Zik (r:List Iss):Nsub (rfA r) (.vsl (r.map rfa)):=by
 unfold rfA
 split
 . rename_i e;rw[e];exact .nils
 . exact .rfl'
theorem Zil (r:List Iss) (l:List Nte) (q:List Rul) (d e:Int) (hr:Sml r):PC Tryz.prog G 84 [Yl r l q,.agg [.int .i64 d,.int .i64 e]] (.bool (knB r d e)):=by
 have hc:=PC.sub (Zij (G:=G) r d e hr) (xs:=[rfA r,.agg [.int .i64 d,.int .i64 e]]) ⟨Zik r,.rfl',trivial⟩;have pf:(rfA r).pure=true:=(by unfold rfA;split <;> simp[AV.pure,rfa]);have kf:(rfA r).keys=[]:=by unfold rfA;split <;> simp[AV.keys]
 (refine Z7P rfl λR hG hrd=>Qga ?_;subst hG)
 simp -implicitDefEqProofs[Z7N,Z7O,Yl];refine Yf.of hc (by simp[pf,AV.pure]) ?_;simp -implicitDefEqProofs[kf];rfl
end
section
variable {G:Nat->Option (List AV)}
set_option maxHeartbeats 2000000 in
theorem Zim (r:List Iss) (l:List Nte) (q:List Rul) (i:Nat) (hi:i<q.length) (hq:Sml q) (hr:Sml r):PC Tryz.prog G 90 [Yl r l q,.int .i64 i] (.bool (ruleB r q i)):=by
 unfold Sml at hq;have hx:=Zed hi;obtain ⟨x,hxx⟩ : ∃ x,x=q[i]:=⟨_,rfl⟩;rw[<- hxx]at hx;have hlx:q[i]=x:=hxx.symm;have hra:ra x=[.int .i64 x.nu,.int .i64 x.dy,.int .i64 x.fd,.int .i64 x.fl,.int .i64 x.td,.int .i64 x.tl,.bool x.bo,.int .i64 x.br]:=rfl;have hk1:=Zil (G:=G) r l q x.fd x.fl hr;have hk2:=Zil (G:=G) r l q x.td x.tl hr;refine Z7G rfl λR hG hrd=>?_
 subst hG;have pS:(Yl r l q).pure=true:=(by unfold Yl rfA;split <;> simp[AV.pure,isa,na,ra,rfa]);have kS:(Yl r l q).keys=[]:=(by unfold Yl;simp[AV.keys]);have eS:Yl r l q = .vptr [.vsl (r.map isa),.vsl (l.map na),.vsl (q.map ra),rfA r] 0:=rfl;unfold Z7E;refine ZeC (S:=⟨[(0,Yl r l q),(1,.int .i64 i)],[]⟩) (Qga ?_) ?_
 . simp -implicitDefEqProofs[]
   ((try simp only[kS]);refine Yn.sub (by simp[lk,Ya,AV.keys,kS]) ?_;simp only[kS,Wkl,and_true];(try simp[lk,Yd,Ya,AV.keys,kS]))
 refine ZeC (S:=⟨[(0,Yl r l q),(1,.int .i64 i),(5,.ptr 5 0)],[(5,.box (ra x))]⟩) (Qga ?_) ?_
 . simp -implicitDefEqProofs[eS,hi,hlx,hra]
   ((try simp only[hra,kS]);refine Yn.sub (by simp[lk,Ya,AV.keys,hra,kS]) ?_;simp only[hra,kS,Wkl,and_true];(try simp[lk,Yd,Ya,AV.keys,hra,kS]))
 refine ZeD (S:=⟨[(0,Yl r l q),(1,.int .i64 i),(5,.ptr 5 0)],[(5,.box (ra x))]⟩) (Q:=cR1 x=true) (Qga ?_) ?_
 . simp -implicitDefEqProofs[hra];refine Qco (Zib 1 9999 x.nu) (by simp) ?_
   cases h1:inR x.nu 1 9999
   . have e:ruleB r q i=false:=(by simp[ruleB,hx,cR1,h1]);simp -implicitDefEqProofs[e,Z7F]
   simp -implicitDefEqProofs[];refine Qco (Zib 0 14610 x.dy) (by simp) ?_
   cases h2:inR x.dy 0 14610
   . have e:ruleB r q i=false:=(by simp[ruleB,hx,cR1,h2]);simp -implicitDefEqProofs[e,Z7F]
   simp -implicitDefEqProofs[];refine ⟨?_,by rw[cR1,h1,h2];rfl⟩
   ((try simp only[hra,kS]);refine Yn.sub (by simp[lk,Ya,AV.keys,hra,kS]) ?_;simp only[hra,kS,Wkl,and_true];(try simp[lk,Yd,Ya,AV.keys,hra,kS]))
 intro k1;refine ZeD (S:=⟨[(0,Yl r l q),(1,.int .i64 i),(5,.ptr 5 0)],[(5,.box (ra x))]⟩) (Q:=cR2 r x=true) (Qga ?_) ?_
 . by_cases hz:x.fd=0/\x.fl=0/\x.td=0/\x.tl=0
   . obtain ⟨z1,z2,z3,z4⟩:=hz;have e2:cR2 r x=(!x.bo && !decide (x.br=0)):=by rw[cR2,if_pos ⟨z1,z2,z3,z4⟩]
     cases hb:x.bo
     . by_cases hc:x.br=0
       . have e:ruleB r q i=false:=(by simp[ruleB,hx,e2,hc]);simp -implicitDefEqProofs[hra,z1,z2,z3,z4,hb,hc,e,Z7F]
       . simp -implicitDefEqProofs[hra,z1,z2,z3,z4,hb,hc];refine ⟨?_,by simp[e2,hb,hc]⟩
         ((try simp only[kS,hra,z1,z2,z3,z4,hb]);refine Yn.sub (by simp[lk,Ya,AV.keys,kS,hra,z1,z2,z3,z4,hb]) ?_;simp only[kS,hra,z1,z2,z3,z4,hb,Wkl,and_true];(try simp[lk,Yd,Ya,AV.keys,kS,hra,z1,z2,z3,z4,hb]))
     . have e:ruleB r q i=false:=(by simp[ruleB,hx,e2,hb]);simp -implicitDefEqProofs[hra,z1,z2,z3,z4,hb,e,Z7F]
   . have e2 : cR2 r x=(!decide (x.fd=x.td/\x.fl=x.tl)&&knB r x.fd x.fl&&knB r x.td x.tl):=(by rw[cR2,if_neg hz]);have e2f:cR2 r x=false->ruleB r q i=false:=λh=>by simp[ruleB,hx,h]
     have nb:∀ (p1 p2:Prop) [Decidable p1] [Decidable p2],¬(p1/\p2)->(decide p1&&decide p2)=false/\(!decide p1 || !decide p2)=true:=λp1 p2 _ _ h=>by
      by_cases a:p1
      . have b:¬p2:=λb=>h ⟨a,b⟩
        simp[a,b]
      . simp[a]
     by_cases f1:x.fd=0/\x.fl=0
     . have f0:¬(x.td=0/\x.tl=0):=λh=>hz ⟨f1.1,f1.2,h.1,h.2⟩
       have f2:=nb _ _ f0;have f3:=nb (0=x.td) (0=x.tl) λh=>f0 ⟨h.1.symm,h.2.symm⟩
       have f5:decide (x.fd=x.td/\x.fl=x.tl)=false:=decide_eq_false λh=>f0 ⟨h.1.symm.trans f1.1,h.2.symm.trans f1.2⟩
       rw[f5,Bool.not_false,Bool.true_and]at e2;rw[f1.1,f1.2]at hk1 e2;simp -implicitDefEqProofs[hra,f1.1,f1.2,f2.1,f2.2,f3.1,f3.2];refine Ye.of hk1 (by simp[pS,AV.pure]) ?_
       cases h1:knB r 0 0
       . have e:=e2f (by rw[e2,h1];rfl);simp -implicitDefEqProofs[e,Z7F]
       . simp -implicitDefEqProofs[hra,f1.1,f1.2];refine Ye.of hk2 (by simp[pS,AV.pure]) ?_
         cases h2:knB r x.td x.tl
         . have e:=e2f (by rw[e2,h2,Bool.and_false]);simp -implicitDefEqProofs[e,Z7F]
         . simp -implicitDefEqProofs[];refine ⟨?_,by rw[e2,h1,h2];rfl⟩
           ((try simp only[kS,hra,f1.1,f1.2]);refine Yn.sub (by simp[lk,Ya,AV.keys,kS,hra,f1.1,f1.2]) ?_;simp only[kS,hra,f1.1,f1.2,Wkl,and_true];(try simp[lk,Yd,Ya,AV.keys,kS,hra,f1.1,f1.2]))
     . have f2:=nb _ _ f1;by_cases f4:x.fd=x.td/\x.fl=x.tl
       . have e:=e2f (by rw[e2,decide_eq_true f4];rfl);simp -implicitDefEqProofs[hra,f2.1,f2.2];rw[<- f4.1,<- f4.2];simp -implicitDefEqProofs[e,Z7F]
       . have f5:=nb _ _ f4;rw[decide_eq_false f4,Bool.not_false,Bool.true_and]at e2;simp -implicitDefEqProofs[hra,f2.1,f2.2,f5.1,f5.2];refine Ye.of hk1 (by simp[pS,AV.pure]) ?_
         cases h1:knB r x.fd x.fl
         . have e:=e2f (by rw[e2,h1];rfl);simp -implicitDefEqProofs[e,Z7F]
         . simp -implicitDefEqProofs[hra];refine Ye.of hk2 (by simp[pS,AV.pure]) ?_
           cases h2:knB r x.td x.tl
           . have e:=e2f (by rw[e2,h2,Bool.and_false]);simp -implicitDefEqProofs[e,Z7F]
           . simp -implicitDefEqProofs[];refine ⟨?_,by rw[e2,h1,h2];rfl⟩
             ((try simp only[hra,kS]);refine Yn.sub (by simp[lk,Ya,AV.keys,hra,kS]) ?_;simp only[hra,kS,Wkl,and_true];(try simp[lk,Yd,Ya,AV.keys,hra,kS]))
 intro k2;have en:ruleB r q i=(cR3 q i x&&cR4 q i x&&cR5 q i x):=(by rw[ruleB,hx,k1,k2];rfl);rw[en];have i1:i<=q.length:=(by omega);have bl:∀ x:Rul,(ra x).length=8:=λ_=>rfl
 have hc1:=Zie (G:=R.G) 111 [.vptr (ra x) 0] (λy=>decide (y.nu=x.nu)) (q.take i) (by simp[AV.pure,ra]) (by unfold Sml;simp;omega) (λy _=>Zif x y);have hc2:=Zie (G:=R.G) 112 [.vptr (ra x) 0] (λy=>decide (y.nu=x.br)) (q.take i) (by simp[AV.pure,ra]) (by unfold Sml;simp;omega) (λy _=>Zig x y);have a1:=ZbY (λy:Rul=>decide (y.nu=x.nu)) (q.take i);have a2:=ZbY (λy:Rul=>decide (y.nu=x.br)) (q.take i);have e3:cR3 q i x = !(q.take i).any λy=>decide (y.nu=x.nu):=rfl
 have e4:cR4 q i x=(decide (x.br=0)||(q.take i).any λy=>decide (y.nu=x.br)):=rfl;rw[<- a1]at e3;rw[<- a2]at e4
 have pu:∀ x∈List.take i (List.map ra q),∀ y∈x,y.pure=true:=λx hx y hy=>by
  obtain ⟨z,-,rfl⟩:=List.mem_map.1 (List.mem_of_mem_take hx);simp only[ra,List.mem_cons,List.not_mem_nil,or_false]at hy;rcases hy with rfl|rfl|rfl|rfl|rfl|rfl|rfl|rfl <;> simp[AV.pure]
 rw[List.map_take]at hc1 hc2;generalize fstOf (λy:Rul=>decide (y.nu=x.nu)) (q.take i)=n1 at *;generalize fstOf (λy:Rul=>decide (y.nu=x.br)) (q.take i)=n2 at *;refine ZeC (S:=⟨[(0,Yl r l q),(1,.int .i64 i),(5,.ptr 5 0),(7,.vsl ((q.map ra).take i))],[(5,.box (ra x))]⟩) (Qga ?_) ?_
 . simp -implicitDefEqProofs[eS,i1,bl]
   ((try simp only[hra,kS]);refine Yn.sub (by simp[lk,Ya,AV.keys,hra,kS]) ?_;simp only[hra,kS,Wkl,and_true];(try simp[lk,Yd,Ya,AV.keys,hra,kS]))
 refine ZeD (S:=⟨[(0,Yl r l q),(1,.int .i64 i),(5,.ptr 5 0)],[(5,.box (ra x))]⟩) (Q:=cR3 q i x=true/\cR4 q i x=true) (Qga ?_) ?_
 . rw [hra]at hc1 hc2;simp -implicitDefEqProofs[hra];refine Ye.flat hc1 (by simp[AV.flat]) (by simp) ?_;by_cases h1:0<=n1
   . have e:cR3 q i x=false:=(by rw[e3,decide_eq_true h1];rfl);simp -implicitDefEqProofs[h1,e,Z7F]
   . have q3:cR3 q i x=true:=(by rw[e3,decide_eq_false h1];rfl);by_cases h2:x.br=0
     . have q4:cR4 q i x=true:=(by rw[e4,decide_eq_true h2];rfl);simp -implicitDefEqProofs[h1,hra,h2];refine ⟨?_,q3,q4⟩
       ((try simp only[kS,hra,h2]);refine Yn.sub (by simp[lk,Ya,AV.keys,kS,hra,h2]) ?_;simp only[kS,hra,h2,Wkl,and_true];(try simp[lk,Yd,Ya,AV.keys,kS,hra,h2]))
     . simp -implicitDefEqProofs[h1,hra,h2];refine Ye.flat hc2 (by simp[AV.flat]) (by simp) ?_;by_cases h3:n2<0
       . have e:cR4 q i x=false:=(by rw[e4,decide_eq_false h2,decide_eq_false (show ¬0<=n2 by omega)];rfl);simp -implicitDefEqProofs[h3,e,Z7F]
       . have q4:cR4 q i x=true:=(by rw[e4,decide_eq_true (show 0<=n2 by omega),Bool.or_true]);simp -implicitDefEqProofs[h3];refine ⟨?_,q3,q4⟩
         ((try simp only[kS,hra]);refine Yn.sub (by simp[lk,Ya,AV.keys,kS,hra]) ?_;simp only[kS,hra,Wkl,and_true];(try simp[lk,Yd,Ya,AV.keys,kS,hra]))
 rintro ⟨q3,q4⟩;rw[q3,q4,Bool.true_and,Bool.true_and]
 cases i with
 | zero =>
   refine Qga ?_;simp -implicitDefEqProofs[cR5,Z7F];rfl
 | succ k =>
   have hk:k<q.length:=(by omega);have w1:IntKind.i64.wrap ((k:Int)+1-1)=(k:Int):=(by rw[Yg (by omega) (by omega)];omega);have w2:IntKind.i64.wrap (k:Int)=(k:Int):=Yg (by omega) (by omega);have i0:¬(k:Int)+1=0:=(by omega);have e8:cR5 q (k+1) x=(decide (q[k].dy<x.dy)||(decide (q[k].dy=x.dy)&&decide (q[k].nu<x.nu))):=(by rw[cR5,Zed hk]);have hd1:=ZcC (G:=R.G) q[k].dy x.dy;have hd2:=ZcC (G:=R.G) q[k].nu x.nu;have hR:∀ a b:AV,(List.range 2).map (λi=>List.take 1 (List.drop i [a,b]))=[[a],[b]]:=λ_ _=>rfl
   have hrk:ra q[k]=[.int .i64 q[k].nu,.int .i64 q[k].dy,.int .i64 q[k].fd,.int .i64 q[k].fl,.int .i64 q[k].td,.int .i64 q[k].tl,.bool q[k].bo,.int .i64 q[k].br]:=rfl
   obtain ⟨a,b,ha,hb,hv⟩ : ∃ a b:Int,(if q[k].dy<x.dy then (-1:Int) else if x.dy<q[k].dy then 1 else 0)=a/\(if q[k].nu<x.nu then (-1:Int) else if x.nu<q[k].nu then 1 else 0)=b/\decide ((if a=0 then b else a)<0)=(decide (q[k].dy<x.dy)||(decide (q[k].dy=x.dy)&&decide (q[k].nu<x.nu))):=by
    refine ⟨_,_,rfl,rfl,?_⟩;rcases Int.lt_trichotomy q[k].dy x.dy with q1|q1|q1
    . simp[q1]
    . rw[q1];rcases Int.lt_trichotomy q[k].nu x.nu with q2|q2|q2
      . simp[q2]
      . rw[q2];simp
      . have:¬q[k].nu<x.nu:=(by omega);simp[q2,this]
    . have h1:¬q[k].dy<x.dy:=(by omega);have h2:¬q[k].dy=x.dy:=(by omega);simp[q1,h1,h2]
   rw[ha]at hd1;rw[hb]at hd2;have ho:=ZgA (G:=R.G) a b;rw[e8,<- hv];clear hv;generalize (if a=0 then b else a)=c at *;refine Qga ?_;simp -implicitDefEqProofs[eS,hk,w1,w2,i0,hra,hrk];refine Qco (hd1) (by simp) ?_;simp -implicitDefEqProofs[eS,hk,w1,w2,i0,hra,hrk];refine Qco (hd2) (by simp) ?_;simp -implicitDefEqProofs[hR];refine Qco (ho) (by simp) ?_;simp -implicitDefEqProofs[Z7F];rfl
set_option maxHeartbeats 1000000 in
theorem Zin (r:List Iss) (l:List Nte) (q:List Rul) (day:Int) (hq:q.length<=16):∀ (n i:Nat),i<q.length->q.length-i<=n->PC Tryz.prog G 63 [Yl r l q,.int .i64 i,.int .i64 day] (.bool (sB day q i))
 |0,i,hi,hn=>by omega
 | n + 1, i, hi,hn=>by
   have ih:=λk h1 h2=>Zin r l q day hq n k h1 h2
   have hx:=Zed hi;have hra:ra (rAt q i)=[.int .i64 (rAt q i).nu,.int .i64 (rAt q i).dy,.int .i64 (rAt q i).fd,.int .i64 (rAt q i).fl,.int .i64 (rAt q i).td,.int .i64 (rAt q i).tl,.bool (rAt q i).bo,.int .i64 (rAt q i).br]:=rfl;have fe:=ZdV (p:=λx:Rul=>decide (x.dy<=day)) (h:=λx y:Rul=>decide (y.br=x.nu)) hi;rw[<- hx]at fe;have gb:gwB (λx:Rul=>decide (x.dy<=day)) (λx y:Rul=>decide (y.br=x.nu)) q (rAt q i) i (i+1)=decide ((rAt q i).dy<=day):=ZdW;have gs:=λj=>ZdX (p:=λx:Rul=>decide (x.dy<=day)) (h:=λx y:Rul=>decide (y.br=x.nu)) (l:=q) (x:=rAt q i) (i:=i) (k:=j)
   have gst:=λk (h1:i<k) (h2:k<=q.length)=>Zhi (p:=λx:Rul=>decide (x.dy<=day)) (h:=λx y:Rul=>decide (y.br=x.nu)) (l:=q) (x:=rAt q i) h1 h2 (Nat.le_refl _)
   have fbs:sB day q i=gwB (λx:Rul=>decide (x.dy<=day)) (λx y=>decide (y.br=x.nu)) q (rAt q i) i q.length:=fe;rw[fbs];have eS:Yl r l q = .vptr [.vsl (r.map isa),.vsl (l.map na),.vsl (q.map ra),rfA r] 0:=rfl;have pS:(Yl r l q).pure=true:=(by unfold Yl rfA;split <;> simp[AV.pure,isa,na,ra,rfa]);have kS:(Yl r l q).keys=[]:=(by unfold Yl;simp[AV.keys]);generalize hxx:rAt q i=x at *;have hlx:q[i]=x:=hx.symm;have w1:IntKind.i64.wrap ((i:Int)+1)=((i+1:Nat):Int):=Yg (by omega) (by omega)
   (refine Z7S rfl λR hG hrd=>Qga ?_;subst hG)
   by_cases h0:day<x.dy
   . have e:=gst (i+1) (by omega) hi (by rw[gb];exact decide_eq_false (by omega));rw[e];simp -implicitDefEqProofs[Z7Q,Z7R,eS,hi,hlx,hra,h0]
   . have g0 : gwB (λx:Rul=>decide (x.dy<=day)) (λx y=>decide (y.br=x.nu)) q x i (i+1)=true:=(by rw[gb];exact decide_eq_true (by omega));simp -implicitDefEqProofs[Z7Q,Z7R,eS,hi,hlx,hra,h0,w1];refine Z1Q (λp:Nat=>⟨[(7,.int .i64 (p:Int)),(0,.vptr [.vsl (r.map isa),.vsl (l.map na),.vsl (q.map ra),rfA r] 0),(1,.int .i64 i),(2,.int .i64 day)],[]⟩) (λp=>i+1<=p/\p<=q.length/\gwB (λx:Rul=>decide (x.dy<=day)) (λx y=>decide (y.br=x.nu)) q x i p=true) (λp=>q.length-p) (i+1) ?_ ⟨Nat.le_refl _,hi,g0⟩ ?_
     . (refine Yn.sub (by simp[lk,Ya,AV.keys]) ?_;simp only[Wkl,and_true];(try simp[lk,Yd,Ya,AV.keys]))
     . rintro p ⟨hp1,hp2,hg0⟩;refine Qga ?_;rcases Nat.lt_or_ge p q.length with h5|h5
       . have hg:=gs p (by omega) h5;have hy:=Zed h5;have hny:ra (rAt q p)=[.int .i64 (rAt q p).nu,.int .i64 (rAt q p).dy,.int .i64 (rAt q p).fd,.int .i64 (rAt q p).fl,.int .i64 (rAt q p).td,.int .i64 (rAt q p).tl,.bool (rAt q p).bo,.int .i64 (rAt q p).br]:=rfl;have w2:IntKind.i64.wrap ((p:Int)+1)=(p:Int)+1:=Yg (by omega) (by omega);have ihp:=ih p h5 (by omega);rw[<- hy]at hg;replace hg:_=(_ && !(sB day q p&&_)):=hg;have gsp:=gst (p+1) (by omega) h5;generalize hyy:rAt q p=y at *;have hly:q[p]=y:=hy.symm;rw[hg0,Bool.true_and]at hg;by_cases h6:y.br=x.nu
         . rw[decide_eq_true h6,Bool.and_true]at hg;rw[eS]at ihp pS;simp -implicitDefEqProofs[h5,hi,hlx,hra,hly,hny,h6];refine Yf.of ihp (by simp[AV.pure]at pS ⊢;try simp[pS]) ?_
           cases hb:sB day q p
           . rw[hb]at hg;simp -implicitDefEqProofs[w2];refine ⟨rfl,p+1,?_,⟨by omega,h5,hg⟩,(by show q.length-(p+1)<q.length-p;omega)⟩
             (refine Yn.sub (by simp[lk,Ya,AV.keys]) ?_;simp only[Wkl,and_true];(try simp[lk,Yd,Ya,AV.keys]))
           . rw[hb]at hg;have e:=gsp hg;rw[e];simp -implicitDefEqProofs[];refine ⟨rfl,?_⟩;refine Qgr ?_;simp -implicitDefEqProofs[]
         . rw[decide_eq_false h6,Bool.and_false]at hg;simp -implicitDefEqProofs[h5,hi,hlx,hra,hly,hny,h6,w2];refine ⟨rfl,p+1,?_,⟨by omega,h5,hg⟩,(by show q.length-(p+1)<q.length-p;omega)⟩
           (refine Yn.sub (by simp[lk,Ya,AV.keys]) ?_;simp only[Wkl,and_true];(try simp[lk,Yd,Ya,AV.keys]))
       . obtain rfl:p=q.length:=(by omega);rw[hg0];simp -implicitDefEqProofs[];refine Qgr ?_;simp -implicitDefEqProofs[]
end
def rkT (r:List Iss) (i:Nat):List (List AV):=(r.take i).map rfa
theorem Zio {r:List Iss} {i:Nat} (h:i<=r.length):(rkT r i).length=i:=by simp[rkT];omega
theorem Zip {r:List Iss} {i:Nat} (h:i<r.length):rkT r (i+1)=rkT r i++[rfa r[i]]:=by unfold rkT;rw[List.take_succ_eq_append_getElem h,List.map_append];rfl
theorem Ziq (o:List (Nat×AObj)) (r:List Iss) (i:Nat):Yd o (.row 2 (rkT r i))=true:=by
 simp only[Yd,List.all_eq_true,rkT,List.mem_map];rintro x ⟨y,-,rfl⟩ v hv;simp only[rfa,List.mem_cons,List.not_mem_nil,or_false]at hv;rcases hv with rfl|rfl <;> simp[Ya,AV.keys]
def opR (r:List Iss) (l:List Nte) (q:List Rul) (i:Nat):St :=
 if i=0 then ⟨[(28,.int .i64 i),(27,.int .i64 r.length),(26,.vsl (r.map isa)),(5,.ptr 22 0),(1,.ptr 1 0)],[(22,.box [.vsl (r.map isa),.vsl (l.map na),.vsl (q.map ra),.nils]),(1,.box [.vsl (r.map isa),.vsl (l.map na),.vsl (q.map ra)])]⟩
 else ⟨[(28,.int .i64 i),(27,.int .i64 r.length),(26,.vsl (r.map isa)),(5,.ptr 22 0),(1,.ptr 1 0)],[(22,.box [.vsl (r.map isa),.vsl (l.map na),.vsl (q.map ra),.osl 43 i]),(43,.row 2 (rkT r i)),(1,.box [.vsl (r.map isa),.vsl (l.map na),.vsl (q.map ra)])]⟩
def opnA (r:List Iss) (l:List Nte) (q:List Rul):AV:=.tup [if chS r l q=0 then Yl r l q else .nilp,.int .i64 (chS r l q)]
section
variable {G:Nat->Option (List AV)}
set_option maxHeartbeats 1000000 in
theorem Zir (hG:GC G) (hN:GN G) (r:List Iss) (l:List Nte) (q:List Rul) (hw:WfN l) (hr:Wf r) (hq:Sml q):PC Tryz.prog G 61 [swa r l q] (opnA r l q):=by
 have hc:=Zhz hG hN r l hw hr;have hrl:=hr.1.1;unfold Sml at hq hrl;refine Z7V rfl λR hG hrd=>?_
 subst hG;have pS:(Yl r l q).pure=true:=(by unfold Yl rfA;split <;> simp[AV.pure,isa,na,ra,rfa]);have kS:(Yl r l q).keys=[]:=by unfold Yl;simp[AV.keys]
 have sS:∀ ok st,Yi ok st 6 (Yl r l q)=some (Yl r l q):=λok st=>by
  have h:=pS;unfold Yl at *;simp[Yi,h]
 have eS:Yl r l q = .vptr [.vsl (r.map isa),.vsl (l.map na),.vsl (q.map ra),rfA r] 0:=rfl;unfold opnA;by_cases h0:chN r l=0
 . by_cases h1:16<q.length
   . have h1':(16:Int)<q.length:=by omega
     have e:chS r l q=50:=by
      have:¬q.length<=16:=(by omega);simp[chS,h0,Zee,this]
     rw[h0]at hc;rw[e];refine Qga ?_;simp -implicitDefEqProofs[Z7T,Z7U,swa];refine Qco (hc) (by simp) ?_;simp -implicitDefEqProofs[h1']
   have h1':¬(16:Int)<q.length:=(by omega);rw[h0]at hc;refine Qga ?_;simp -implicitDefEqProofs[Z7T,Z7U,swa];refine Qco (hc) (by simp) ?_;simp -implicitDefEqProofs[h1'];refine Zb9 (opR r l q) (λ_=>True) r.length ?_ trivial ?_ ?_
   . simp only[opR,if_true]
     (refine Yn.sub (by simp[lk,Ya,AV.keys]) ?_;simp only[Wkl,and_true];(try simp[lk,Yd,Ya,AV.keys]))
   . intro i hi _;have tk:=Zip hi;have tl:=Zio (r:=r) (i:=i) (by omega);have bb:(i+1)*16<=70368744177664:=(by omega);have hri:rfa r[i]=[.int .i64 r[i].d,.int .i64 r[i].l]:=rfl;rw[hri]at tk;refine Qga ?_
     cases i with
     | zero =>
       have e0:rkT r 0=[]:=rfl;have w1:IntKind.i64.wrap 1=1:=rfl;rw[e0,List.nil_append]at tk;simp -implicitDefEqProofs[opR,hi,isa,w1];refine ⟨rfl,?_⟩;rw[tk]
       (refine Yn.sub (by simp[lk,Ya,AV.keys]) ?_;simp only[Wkl,and_true];(try simp[lk,Yd,Ya,AV.keys]))
     | succ i =>
       have k1:(i:Int)+1<r.length:=(by omega);have k2:((i:Int)+1).toNat=i+1:=(by omega);have k3:(0:Int)<=(i:Int)+1:=(by omega);have w1:IntKind.i64.wrap ((i:Int)+1+1)=(i:Int)+1+1:=Yg (by omega) (by omega);simp -implicitDefEqProofs[opR,hi,isa,w1,k1,k2,k3,tl,bb];refine ⟨rfl,?_⟩;rw[<- tk]
       (refine Yn.sub (by simp[lk,Ya,AV.keys]) ?_;simp only[Wkl,Ziq,and_true];(try simp[lk,Yd,Ya,AV.keys]))
   . intro _;have hrt:=λi hi=>Zim (G:=R.G) r l q i hi hq hr.1.1
     refine Qga ?_;by_cases hl0:r.length=0
     case' pos =>
      have er:r=[]:=List.length_eq_zero_iff.1 hl0;have eA:rfA r = .nils:=(by rw[er];rfl);simp -implicitDefEqProofs[opR,hl0];refine Z2M Yb 2 ?_;simp -implicitDefEqProofs[]
     case' neg =>
      have er:¬r=[]:=λh=>hl0 (by rw[h];rfl)
      have eT:rkT r r.length=r.map rfa:=(by unfold rkT;rw[List.take_length]);have eA:rfA r = .vsl (r.map rfa):=(by unfold rfA;rw[if_neg er]);simp -implicitDefEqProofs[opR,hl0,eT];refine Z2M Yb 2 ?_;simp -implicitDefEqProofs[]
     all_goals
      refine GO0 (Z2L (st':=⟨[(5,Yl r l q),(1,.ptr 1 0)],[(1,.box [.vsl (r.map isa),.vsl (l.map na),.vsl (q.map ra)])]⟩) (Yn.trans (Yn.frz (λk=>k == 22||k == 43) _) ?_) ?_)
      . rw[eS,eA]
        ((try simp only[Yj,frzA,frzO,frz,Yi,Yk,St.get,AV.pure,rfa]);refine Yn.sub (by simp[lk,Ya,AV.keys,Yj,frzA,frzO,frz,Yi,Yk,St.get,AV.pure,rfa]) ?_;simp only[Yj,frzA,frzO,frz,Yi,Yk,St.get,AV.pure,rfa,Wkl,and_true];(try simp[lk,Yd,Ya,AV.keys,Yj,frzA,frzO,frz,Yi,Yk,St.get,AV.pure,rfa]))
      refine Qga ?_;simp -implicitDefEqProofs[];refine Zb9 (λi=>⟨[(50,.int .i64 i),(49,.int .i64 q.length),(8,.int .i64 0),(5,Yl r l q),(1,.ptr 1 0)],[(1,.box [.vsl (r.map isa),.vsl (l.map na),.vsl (q.map ra)])]⟩) (λi=>∀ j,j<i->ruleB r q j=true) q.length ?_ (λj hj=>by omega) ?_ ?_
      . ((try simp only[kS]);refine Yn.sub (by simp[lk,Ya,AV.keys,kS]) ?_;simp only[kS,Wkl,and_true];(try simp[lk,Yd,Ya,AV.keys,kS]))
      . intro i hi he;have hrti:=hrt i hi;have w1:IntKind.i64.wrap ((i:Int)+1)=(i:Int)+1:=Yg (by omega) (by omega);refine Qga ?_;simp -implicitDefEqProofs[hi];refine Ye.of hrti (by simp[pS,AV.pure]) ?_
        cases h:ruleB r q i
        . have e:Zee r q=false:=by
           cases h2:Zee r q
           . rfl
           . simp only[Zee,Bool.and_eq_true]at h2;have:=Zbq.1 h2.2 i hi;rw[h]at this;cases this
          have e2:chS r l q=50:=(by simp[chS,h0,e]);simp -implicitDefEqProofs[];refine Qgr ?_;simp -implicitDefEqProofs[e2];refine Qgr ?_;simp -implicitDefEqProofs[]
        . simp -implicitDefEqProofs[w1];refine ⟨?_,λj hj=>?_⟩
          . ((try simp only[kS]);refine Yn.sub (by simp[lk,Ya,AV.keys,kS]) ?_;simp only[kS,Wkl,and_true];(try simp[lk,Yd,Ya,AV.keys,kS]))
          . rcases Nat.lt_or_ge j i with h4|h4
            . exact he j h4
            . obtain rfl:j=i:=(by omega);exact h
      . intro he
        have e:Zee r q=true:=by
         simp only[Zee,Bool.and_eq_true,decide_eq_true_eq];exact ⟨by omega,Zbq.2 he⟩
        have e2:chS r l q=0:=(by simp[chS,h0,e]);rw[e2,if_pos rfl];refine Qga ?_;simp -implicitDefEqProofs[];refine Qgr ?_;simp -implicitDefEqProofs[];refine Qgr ?_;simp -implicitDefEqProofs[sS]
 . have e:chS r l q=chN r l:=(by simp[chS,h0]);rw[e];refine Qga ?_;simp -implicitDefEqProofs[Z7T,Z7U,swa];refine Qco (hc) (by simp) ?_;simp -implicitDefEqProofs[h0]
def rwS (S:AV) (r:List Iss) (l:List Nte) (q:List Rul) (day:Int) (i:Nat):St :=
 if ruN day q i=[] then ⟨[(25,.int .i64 i),(24,.int .i64 q.length),(8,.nils),(6,S),(1,.int .i64 day),(2,.ptr 2 0)],[(2,.box [.vsl (r.map isa),.vsl (l.map na),.vsl (q.map ra)])]⟩
 else ⟨[(25,.int .i64 i),(24,.int .i64 q.length),(8,.osl 40 (ruN day q i).length),(6,S),(1,.int .i64 day),(2,.ptr 2 0)],[(40,.row 1 ((ruN day q i).map ia)),(2,.box [.vsl (r.map isa),.vsl (l.map na),.vsl (q.map ra)])]⟩
set_option maxHeartbeats 1000000 in
theorem Zis (hG:GC G) (hN:GN G) (r:List Iss) (l:List Nte) (q:List Rul) (day:Int) (hw:WfN l) (hr:Wf r) (hq:Sml q):PC Tryz.prog G 20 [swa r l q,.int .i64 day] (ruA r l q day):=by
 have ho:=Zir hG hN r l q hw hr hq;have hd:=Zib (G:=G) 0 14610 day;have pS:(Yl r l q).pure=true:=(by unfold Yl rfA;split <;> simp[AV.pure,isa,na,ra,rfa]);have kS:(Yl r l q).keys=[]:=(by unfold Yl;simp[AV.keys]);unfold swa opnA at ho;refine Z7Y rfl λR hG hrd=>?_
 subst hG;refine Qga ?_;unfold ruA ruE;by_cases h0:chS r l q=0
 . have h16:=ZhQ (ZhP h0).2;have hs:=λi hi=>Zin (G:=R.G) r l q day h16 q.length i hi (by omega)
   rw[if_pos h0,h0]at ho;rw[if_pos h0];generalize Yl r l q=S at *
   cases h1:inR day 0 14610
   . rw[h1]at hd;simp -implicitDefEqProofs[Z7W,Z7X,swa];refine Qco (ho) (by simp) ?_;simp -implicitDefEqProofs[];refine Qco (hd) (by simp) ?_;simp -implicitDefEqProofs[Yh]
   rw[h1]at hd;rw[if_pos rfl];simp -implicitDefEqProofs[Z7W,Z7X,swa];refine Qco (ho) (by simp) ?_;simp -implicitDefEqProofs[];refine Qco (hd) (by simp) ?_;simp -implicitDefEqProofs[];refine Zb9 (rwS S r l q day) (λ_=>True) q.length ?_ trivial ?_ ?_
   . have e0:ruN day q 0=[]:=(by simp[ruN]);simp only[rwS,e0,if_true]
     ((try simp only[kS]);refine Yn.sub (by simp[lk,Ya,AV.keys,kS]) ?_;simp only[kS,Wkl,and_true];(try simp[lk,Yd,Ya,AV.keys,kS]))
   . intro i hi _;have hsi:=hs i hi;have hx:=Zed hi;have hnx:ra (rAt q i)=[.int .i64 (rAt q i).nu,.int .i64 (rAt q i).dy,.int .i64 (rAt q i).fd,.int .i64 (rAt q i).fl,.int .i64 (rAt q i).td,.int .i64 (rAt q i).tl,.bool (rAt q i).bo,.int .i64 (rAt q i).br]:=rfl;have sc:=Zef (day:=day) hi;have bb:((ruN day q i).length+1)*8<=70368744177664:=(by have:=Zeg day q i;omega);have wi:IntKind.i64.wrap ((i:Int)+1)=(i:Int)+1:=Yg (by omega) (by omega);rw[<- hx]at sc;have hlx:q[i]=rAt q i:=hx.symm
     cases hb:sB day q i
     . rw[hb]at sc hsi;have e:ruN day q (i+1)=ruN day q i:=sc;by_cases c:ruN day q i=[]
       all_goals
        refine Qga ?_;simp only[rwS,c,if_true,if_false];simp -implicitDefEqProofs[hi];refine Ye.of hsi (by simp[pS,AV.pure]) ?_;simp -implicitDefEqProofs[wi];simp only[rwS,e,c,if_true,if_false]
        ((try simp only[kS]);refine Yn.sub (by simp[lk,Ya,AV.keys,kS]) ?_;simp only[kS,Wkl,ZgN,and_true];(try simp[lk,Yd,Ya,AV.keys,kS]))
     . rw[hb]at sc hsi;have e:ruN day q (i+1)=ruN day q i++[(rAt q i).nu]:=sc;have hne:ruN day q (i+1)≠[]:=(by rw[e];simp);by_cases c:ruN day q i=[]
       all_goals
        refine Qga ?_;simp only[rwS,c,if_true,if_false];simp -implicitDefEqProofs[hi];refine Ye.of hsi (by simp[pS,AV.pure]) ?_;simp -implicitDefEqProofs[hi,wi,hlx,hnx,bb];simp only[rwS,hne,if_false];have e1:(ruN day q (i+1)).map ia=(ruN day q i).map ia++[[AV.int .i64 (rAt q i).nu]]:=(by rw[e,List.map_append];rfl);have e2:(ruN day q (i+1)).length=(ruN day q i).length+1:=by rw[e];simp
        first
         |(rw[c,List.nil_append]at e;rw[e];((try simp only[ia,kS]);refine Yn.sub (by simp[lk,Ya,AV.keys,ia,kS]) ?_;simp only[ia,kS,Wkl,and_true];(try simp[lk,Yd,Ya,AV.keys,ia,kS]));done)
         |(rw[<- e1,e2];((try simp only[kS]);refine Yn.sub (by simp[lk,Ya,AV.keys,kS]) ?_;simp only[kS,Wkl,ZgN,and_true];(try simp[lk,Yd,Ya,AV.keys,kS]));done)
   . intro _;refine Qga ?_;by_cases c:ruN day q q.length=[]
     . simp -implicitDefEqProofs[rwS,c];refine Qgr ?_;simp -implicitDefEqProofs[Yh]
     . simp -implicitDefEqProofs[rwS,c];refine Qgr ?_;simp -implicitDefEqProofs[Yh,c,ia]
 . rw[if_neg h0]at ho;rw[if_neg h0];simp -implicitDefEqProofs[Z7W,Z7X,swa];refine Qco (ho) (by simp) ?_;simp -implicitDefEqProofs[h0,Yh]
end
def ntP (F:List Int) (x:Nte):List Stq:=if x.nu∈F then
    (if x.wy % 2=1 then [⟨x.dr,IntKind.i64.wrap (x.lt-1),x.dr,x.lt,x.nu,true⟩] else [])++(if 2<=x.wy % 4 then [⟨x.dr,x.lt,x.dr,IntKind.i64.wrap (x.lt-1),x.nu,true⟩] else [])
 else []
def nsP (F:List Int) (D:List Nte) (i:Nat):List Stq:=(D.take i).flatMap (ntP F)
theorem Zit {F:List Int} {D:List Nte} {i:Nat} (h:i<D.length):nsP F D (i+1)=nsP F D i++ntP F D[i]:=by
 unfold nsP;rw[List.take_succ_eq_append_getElem h,List.flatMap_append];simp
theorem Ziu (F:List Int) (x:Nte):(ntP F x).length<=2:=by unfold ntP;split <;> (try split) <;> (try split) <;> simp
theorem Ziv (F:List Int) (D:List Nte):∀ i,i<=D.length->(nsP F D i).length<=2*i
 |0,_=>by simp[nsP]
 |i+1,h=>by rw[Zit h,List.length_append];have:=Ziv F D i (by omega);have:=Ziu F D[i];omega
section
variable {G:Nat->Option (List AV)}
def bnS (F:List Int) (fV:AV) (D:List Nte) (x:Nat×Nat):St :=
 ⟨[(68,.int .i64 x.1),(67,.int .i64 D.length),(66,.vsl (D.map na)),(7,fV),(9,sqT x.2 (nsP F D x.1))],sqO x.2 (nsP F D x.1)⟩
set_option maxHeartbeats 4000000 in
theorem Ziw (r:List Iss) (F:List Int) (er:Int) (D:List Nte) (T:List Int) (cells:List AV) (m:Int) (hD:D.length<=16) (hw:WfN D) (hF:F.length<=16) (R:Run) (hrd:R.Top) (hm:cells[2]? = some (.int .i64 m)) (hlen:cells.length=4) (hpc:∀ x∈cells,x.keys=[])
  (hf:PC Tryz.prog R.G 22 [.agg [.vsl (r.map isa),Yh (D.map na)],Yh (T.map ia),.int .i64 m] (.tup [Yh (F.map ia),.int .i64 er])) :
  AR Tryz.prog R (dropZ 5 Z7Z) ⟨[(1,.ptr 1 0),(3,.vptr [.vsl (r.map isa),Yh (D.map na)] 0),(4,Yh (T.map ia))],[(1,.box cells)]⟩ (Fin Z80 (Yh ((nsP F D D.length).map sa))):=by
 have hh:=λn=>PC.sub (Zh7 (G:=R.G) F n (by unfold Sml;omega)) (xs:=[Yh (F.map ia),.int .i64 n]) ⟨.orNil _,.rfl',trivial⟩
 have pF:=ZeV (l:=F.map ia) (by simp[ia,AV.pure]);have kF:=ZeW (F.map ia);have sF:=λok st n=>ZeX (F.map ia) ok st n
 have pD:=ZeV (l:=D.map na) (by simp[na,AV.pure]);have pT:=ZeV (l:=T.map ia) (by simp[ia,AV.pure]);generalize Yh (F.map ia)=fV at *;generalize Yh (T.map ia)=tV at *;refine ZeC (S:=⟨[(3,.vptr [.vsl (r.map isa),Yh (D.map na)] 0),(7,fV)],[]⟩) (Qga ?_) ?_
 . match cells,hlen,hm,hpc with
   | [a,b,c,d],_,hm,hpc =>
     simp only[List.getElem?_cons_succ,List.getElem?_cons_zero,Option.some.injEq]at hm;subst hm;generalize Yh (D.map na)=dV at *;simp -implicitDefEqProofs[];refine Ye.of hf (by simp[AV.pure,pD,pT]) ?_;simp -implicitDefEqProofs[]
     ((try simp only[kF]);refine Yn.sub (by simp[lk,Ya,AV.keys,kF]) ?_;simp only[kF,Wkl,and_true];(try simp[lk,Yd,Ya,AV.keys,kF]))
 refine ZeC (S:=⟨[(3,.vptr [.vsl (r.map isa),Yh (D.map na)] 0),(7,fV),(9,.nils)],[]⟩) (Qga ?_) ?_
 . simp -implicitDefEqProofs[]
   ((try simp only[kF]);refine Yn.sub (by simp[lk,Ya,AV.keys,kF]) ?_;simp only[kF,Wkl,and_true];(try simp[lk,Yd,Ya,AV.keys,kF]))
 by_cases c:D=[]
 . have ec:Yh (D.map na) = .nils:=(by rw[c];rfl);have en:nsP F D D.length=[]:=(by rw[c];rfl);rw[ec,en];refine Qga ?_;simp -implicitDefEqProofs[];refine Zb9 (λi=>⟨[(68,.int .i64 i),(67,.int .i64 0),(9,.nils)],[]⟩) (λ_=>True) 0 ?_ trivial (λi hi=>by omega) ?_
   . ((try simp only[kF]);refine Yn.sub (by simp[lk,Ya,AV.keys,kF]) ?_;simp only[kF,Wkl,and_true];(try simp[lk,Yd,Ya,AV.keys,kF]))
   . intro _;refine Qga ?_;simp -implicitDefEqProofs[];refine Qgr ?_;simp -implicitDefEqProofs[Yh,Z80]
 have cm:¬D.map na=[]:=λh=>c (List.map_eq_nil_iff.1 h)
 have ev:Yh (D.map na) = .vsl (D.map na):=(by simp[Yh,cm]);rw[ev];refine Qga ?_;simp -implicitDefEqProofs[];refine Z1Q (bnS F fV D) (λx=>x.1<=D.length/\KeyOk [102,116] x.2 (nsP F D x.1)) (λx=>D.length-x.1) (0,0) ?_ ⟨Nat.zero_le _,.inl ⟨rfl,rfl⟩⟩ ?_
 . simp only[bnS,sqT,sqO,if_true]
   ((try simp only[kF]);refine Yn.sub (by simp[lk,Ya,AV.keys,kF]) ?_;simp only[kF,Wkl,and_true];(try simp[lk,Yd,Ya,AV.keys,kF]))
 . rintro ⟨i,κ⟩ ⟨hi0,hK⟩;simp only[bnS]at hi0 hK ⊢;have bl:=Ziv F D i hi0;rcases Nat.lt_or_ge i D.length with hi|hi
   . have sc:=Zit (F:=F) hi;have wi:IntKind.i64.wrap ((i:Int)+1)=((i+1:Nat):Int):=(by rw[Yg (by omega) (by omega)];omega);have hwx:=hw.2 D[i] (List.getElem_mem hi);obtain ⟨x,hxx⟩ : ∃ x,x=D[i]:=⟨_,rfl⟩;have hlx:D[i]=x:=hxx.symm;rw[hlx]at sc hwx;have hh:=hh x.nu;have v1:=bit1 hwx.2.2.1 hwx.2.2.2;have v2:=bit2 hwx.2.2.1 hwx.2.2.2;have hnx:na x=[.int .i64 x.nu,.int .i64 x.dy,.int .u8 x.sg,.int .i64 x.dr,.int .i64 x.lt,.int .i64 x.fr,.int .i64 x.tu,.int .i64 x.ca,.bool x.up,.int .u8 x.wy]:=rfl;have b1:=sixB (nsP F D i).length (by omega);have b2:=sixC (nsP F D i).length (by omega);have hL:nsP F D (i+1)=nsP F D i++ntP F x:=sc;have nxt:∀ κ2,KeyOk [102,116] κ2 (nsP F D (i+1))->∀ st,Yn st (bnS F fV D (i+1,κ2))->∃ x:Nat×Nat,Yn st (bnS F fV D x)/\(x.1<=D.length/\KeyOk [102,116] x.2 (nsP F D x.1))/\D.length-x.1<D.length-i:=λκ2 h st hw=>⟨(i+1,κ2),hw,⟨hi,h⟩,by show D.length-(i+1)<D.length-i;omega⟩
     have same:∀ κ2,ntP F x=[]->KeyOk [102,116] κ2 (nsP F D i)->KeyOk [102,116] κ2 (nsP F D (i+1))/\nsP F D (i+1)=nsP F D i:=λκ2 h hk=>by rw[hL,h,List.append_nil];exact ⟨hk,rfl⟩
     have more:∀ κ2,ntP F x≠[]->κ2∈[102,116]->KeyOk [102,116] κ2 (nsP F D (i+1)):=λκ2 h hk=>.inr ⟨hk,by rw[hL];intro e;exact h (List.append_eq_nil_iff.1 e).2⟩
     generalize hLL:nsP F D i=L at *;generalize hMM:nsP F D (i+1)=M at *;by_cases z1:x.nu∈F
     . by_cases p1:x.wy % 2=1 <;> by_cases p2:2<=x.wy % 4
       . rw [if_pos p1]at v1;rw[if_pos p2]at v2;have e:ntP F x=[⟨x.dr,IntKind.i64.wrap (x.lt-1),x.dr,x.lt,x.nu,true⟩,⟨x.dr,x.lt,x.dr,IntKind.i64.wrap (x.lt-1),x.nu,true⟩]:=(by simp[ntP,z1,p1,p2]);have hne:ntP F x≠[]:=(by rw[e];simp);have e1:M.map sa=L.map sa++[[.int .i64 x.dr,.int .i64 (IntKind.i64.wrap (x.lt-1)),.int .i64 x.dr,.int .i64 x.lt,.int .i64 x.nu,.bool true],[.int .i64 x.dr,.int .i64 x.lt,.int .i64 x.dr,.int .i64 (IntKind.i64.wrap (x.lt-1)),.int .i64 x.nu,.bool true]]:=(by rw[hL,e,List.map_append];rfl);have e2:M.length=L.length+2:=(by rw[hL,e];simp);rcases hK with ⟨rfl,e0⟩ | ⟨hk,ne⟩
         . have t1:=more 102 hne (by simp);refine Qga ?_;simp only[sqT,sqO,if_true];simp -implicitDefEqProofs[hi,hlx,hnx,wi];refine Ye.of hh (by simp[pF,AV.pure]) ?_;simp -implicitDefEqProofs[wi,z1,hnx,v1,v2];refine nxt 102 t1 _ ?_;rw[e0,List.map_nil,List.nil_append]at e1;rw[e0,List.length_nil]at e2;simp only[bnS,hMM,e1,e2,sqT,sqO,if_false,Nat.reduceEqDiff]
           ((try simp only[kF]);refine Yn.sub (by simp[lk,Ya,AV.keys,kF]) ?_;simp only[kF,Wkl,and_true];(try simp[lk,Yd,Ya,AV.keys,kF]))
         . have t1:=more κ hne hk;have:κ=102∨κ=116:=(by simpa using hk);rcases this with rfl|rfl
           all_goals
            refine Qga ?_;simp only[sqT,sqO,if_false,Nat.reduceEqDiff];simp -implicitDefEqProofs[hi,hlx,hnx,wi];refine Ye.of hh (by simp[pF,AV.pure]) ?_;simp -implicitDefEqProofs[wi,b1,b2,z1,hnx,v1,v2];refine nxt _ t1 _ ?_;simp only[bnS,hMM,e2,sqT,sqO,if_false,Nat.reduceEqDiff]
            try simp only[List.append_assoc,List.cons_append,List.nil_append]
            rw[<- e1]
            ((try simp only[kF]);refine Yn.sub (by simp[lk,Ya,AV.keys,kF]) ?_;simp only[kF,Wkl,Zi7,and_true];(try simp[lk,Yd,Ya,AV.keys,kF]))
       . rw [if_pos p1]at v1;rw[if_neg p2]at v2;have e:ntP F x=[⟨x.dr,IntKind.i64.wrap (x.lt-1),x.dr,x.lt,x.nu,true⟩]:=(by simp[ntP,z1,p1,p2]);have hne:ntP F x≠[]:=(by rw[e];simp);have e1:M.map sa=L.map sa++[[.int .i64 x.dr,.int .i64 (IntKind.i64.wrap (x.lt-1)),.int .i64 x.dr,.int .i64 x.lt,.int .i64 x.nu,.bool true]]:=(by rw[hL,e,List.map_append];rfl);have e2:M.length=L.length+1:=(by rw[hL,e];simp);rcases hK with ⟨rfl,e0⟩ | ⟨hk,ne⟩
         . have t1:=more 102 hne (by simp);refine Qga ?_;simp only[sqT,sqO,if_true];simp -implicitDefEqProofs[hi,hlx,hnx,wi];refine Ye.of hh (by simp[pF,AV.pure]) ?_;simp -implicitDefEqProofs[wi,z1,hnx,v1,v2];refine nxt 102 t1 _ ?_;rw[e0,List.map_nil,List.nil_append]at e1;rw[e0,List.length_nil]at e2;simp only[bnS,hMM,e1,e2,sqT,sqO,if_false,Nat.reduceEqDiff]
           ((try simp only[kF]);refine Yn.sub (by simp[lk,Ya,AV.keys,kF]) ?_;simp only[kF,Wkl,and_true];(try simp[lk,Yd,Ya,AV.keys,kF]))
         . have t1:=more κ hne hk;have:κ=102∨κ=116:=(by simpa using hk);rcases this with rfl|rfl
           all_goals
            refine Qga ?_;simp only[sqT,sqO,if_false,Nat.reduceEqDiff];simp -implicitDefEqProofs[hi,hlx,hnx,wi];refine Ye.of hh (by simp[pF,AV.pure]) ?_;simp -implicitDefEqProofs[wi,b1,b2,z1,hnx,v1,v2];refine nxt _ t1 _ ?_;simp only[bnS,hMM,e2,sqT,sqO,if_false,Nat.reduceEqDiff]
            try simp only[List.append_assoc,List.cons_append,List.nil_append]
            rw[<- e1]
            ((try simp only[kF]);refine Yn.sub (by simp[lk,Ya,AV.keys,kF]) ?_;simp only[kF,Wkl,Zi7,and_true];(try simp[lk,Yd,Ya,AV.keys,kF]))
       . rw [if_neg p1]at v1;rw[if_pos p2]at v2;have e:ntP F x=[⟨x.dr,x.lt,x.dr,IntKind.i64.wrap (x.lt-1),x.nu,true⟩]:=(by simp[ntP,z1,p1,p2]);have hne:ntP F x≠[]:=(by rw[e];simp);have e1:M.map sa=L.map sa++[[.int .i64 x.dr,.int .i64 x.lt,.int .i64 x.dr,.int .i64 (IntKind.i64.wrap (x.lt-1)),.int .i64 x.nu,.bool true]]:=(by rw[hL,e,List.map_append];rfl);have e2:M.length=L.length+1:=(by rw[hL,e];simp);rcases hK with ⟨rfl,e0⟩ | ⟨hk,ne⟩
         . have t1:=more 116 hne (by simp);refine Qga ?_;simp only[sqT,sqO,if_true];simp -implicitDefEqProofs[hi,hlx,hnx,wi];refine Ye.of hh (by simp[pF,AV.pure]) ?_;simp -implicitDefEqProofs[wi,z1,hnx,v1,v2];refine nxt 116 t1 _ ?_;rw[e0,List.map_nil,List.nil_append]at e1;rw[e0,List.length_nil]at e2;simp only[bnS,hMM,e1,e2,sqT,sqO,if_false,Nat.reduceEqDiff]
           ((try simp only[kF]);refine Yn.sub (by simp[lk,Ya,AV.keys,kF]) ?_;simp only[kF,Wkl,and_true];(try simp[lk,Yd,Ya,AV.keys,kF]))
         . have t1:=more κ hne hk;have:κ=102∨κ=116:=(by simpa using hk);rcases this with rfl|rfl
           all_goals
            refine Qga ?_;simp only[sqT,sqO,if_false,Nat.reduceEqDiff];simp -implicitDefEqProofs[hi,hlx,hnx,wi];refine Ye.of hh (by simp[pF,AV.pure]) ?_;simp -implicitDefEqProofs[wi,b1,b2,z1,hnx,v1,v2];refine nxt _ t1 _ ?_;simp only[bnS,hMM,e2,sqT,sqO,if_false,Nat.reduceEqDiff]
            try simp only[List.append_assoc,List.cons_append,List.nil_append]
            rw[<- e1]
            ((try simp only[kF]);refine Yn.sub (by simp[lk,Ya,AV.keys,kF]) ?_;simp only[kF,Wkl,Zi7,and_true];(try simp[lk,Yd,Ya,AV.keys,kF]))
       . rw [if_neg p1]at v1;rw[if_neg p2]at v2;have e:ntP F x=[]:=(by simp[ntP,z1,p1,p2]);rcases hK with hz | ⟨hk,ne⟩
         . obtain ⟨t1,t2⟩:=same κ e (.inl hz);obtain ⟨rfl,e0⟩:=hz;refine Qga ?_;simp only[sqT,sqO,if_true];simp -implicitDefEqProofs[hi,hlx,hnx,wi];refine Ye.of hh (by simp[pF,AV.pure]) ?_;simp -implicitDefEqProofs[wi,z1,hnx,v1,v2];refine nxt 0 t1 _ ?_;simp only[bnS,hMM,sqT,sqO,if_true,if_false]
           ((try simp only[kF]);refine Yn.sub (by simp[lk,Ya,AV.keys,kF]) ?_;simp only[kF,Wkl,and_true];(try simp[lk,Yd,Ya,AV.keys,kF]))
         . obtain ⟨t1,t2⟩:=same κ e (.inr ⟨hk,ne⟩);have:κ=102∨κ=116:=(by simpa using hk);rcases this with rfl|rfl
           all_goals
            refine Qga ?_;simp only[sqT,sqO,if_false,Nat.reduceEqDiff];simp -implicitDefEqProofs[hi,hlx,hnx,wi];refine Ye.of hh (by simp[pF,AV.pure]) ?_;simp -implicitDefEqProofs[wi,z1,hnx,v1,v2];refine nxt _ t1 _ ?_;simp only[bnS,hMM,t2,sqT,sqO,if_false,Nat.reduceEqDiff]
            ((try simp only[kF]);refine Yn.sub (by simp[lk,Ya,AV.keys,kF]) ?_;simp only[kF,Wkl,Zi7,and_true];(try simp[lk,Yd,Ya,AV.keys,kF]))
     . have e:ntP F x=[]:=(by simp[ntP,z1]);rcases hK with hz | ⟨hk,ne⟩
       . obtain ⟨t1,t2⟩:=same κ e (.inl hz);obtain ⟨rfl,e0⟩:=hz;refine Qga ?_;simp only[sqT,sqO,if_true];simp -implicitDefEqProofs[hi,hlx,hnx,wi];refine Ye.of hh (by simp[pF,AV.pure]) ?_;simp -implicitDefEqProofs[wi,z1];refine nxt 0 t1 _ ?_;simp only[bnS,hMM,sqT,sqO,if_true,if_false]
         ((try simp only[kF]);refine Yn.sub (by simp[lk,Ya,AV.keys,kF]) ?_;simp only[kF,Wkl,and_true];(try simp[lk,Yd,Ya,AV.keys,kF]))
       . obtain ⟨t1,t2⟩:=same κ e (.inr ⟨hk,ne⟩);have:κ=102∨κ=116:=(by simpa using hk);rcases this with rfl|rfl
         all_goals
          refine Qga ?_;simp only[sqT,sqO,if_false,Nat.reduceEqDiff];simp -implicitDefEqProofs[hi,hlx,hnx,wi];refine Ye.of hh (by simp[pF,AV.pure]) ?_;simp -implicitDefEqProofs[wi,z1];refine nxt _ t1 _ ?_;simp only[bnS,hMM,t2,sqT,sqO,if_false,Nat.reduceEqDiff]
          ((try simp only[kF]);refine Yn.sub (by simp[lk,Ya,AV.keys,kF]) ?_;simp only[kF,Wkl,Zi7,and_true];(try simp[lk,Yd,Ya,AV.keys,kF]))
   . obtain rfl:i=D.length:=(by omega);rcases hK with ⟨rfl,e0⟩ | ⟨hk,ne⟩
     . refine Qga ?_;simp only[sqT,sqO,if_true];simp -implicitDefEqProofs[];refine Qgr ?_;simp -implicitDefEqProofs[Yh,e0,Z80]
     . have:κ=102∨κ=116:=(by simpa using hk);rcases this with rfl|rfl
       all_goals
        refine Qga ?_;simp only[sqT,sqO,if_false,Nat.reduceEqDiff];simp -implicitDefEqProofs[];refine Qgr ?_;simp -implicitDefEqProofs[Yh,ne,Z80,sa]
end
def tnN (l:List Nte) (s:List Int) (i:Nat):List Int:=((l.take i).filter λx=>decide (x.nu∈s)).map (·.nu)
theorem Zix {l:List Nte} {s:List Int} {i:Nat} (h:i<l.length):tnN l s (i+1)=if l[i].nu∈s then tnN l s i++[l[i].nu] else tnN l s i:=by
 unfold tnN;rw[List.take_succ_eq_append_getElem h,List.filter_append]
 split
 . rename_i e;rw[List.filter_cons_of_pos (by simpa using e),List.map_append];rfl
 . rename_i e;rw[List.filter_cons_of_neg (by simpa using e)];simp
theorem Ziy (l:List Nte) (s:List Int) (i:Nat):(tnN l s i).length<=i:=by
 unfold tnN;rw[List.length_map];exact Nat.le_trans (List.length_filter_le _ _) (by simp;omega)
def dnT (l:List Nte) (i:Nat):List (List AV):=(l.take i).map na
theorem Ziz {l:List Nte} {i:Nat} (h:i<=l.length):(dnT l i).length=i:=by simp[dnT];omega
theorem ZiA {l:List Nte} {i:Nat} (h:i<l.length):dnT l (i+1)=dnT l i++[na l[i]]:=by unfold dnT;rw[List.take_succ_eq_append_getElem h,List.map_append];rfl
theorem ZiB (o:List (Nat×AObj)) (l:List Nte) (i:Nat):Yd o (.row 10 (dnT l i))=true:=ZhV o _
def blO (r:List Iss) (l:List Nte) (s:List Int) (cells:List AV) (i:Nat):List (Nat×AObj) :=
 if i=0 then [(1,.box cells),(3,.box [.vsl (r.map isa),.nils])] else if tnN l s i=[] then [(1,.box cells),(3,.box [.vsl (r.map isa),.osl 42 i]),(42,.row 10 (dnT l i))]
 else [(1,.box cells),(3,.box [.vsl (r.map isa),.osl 42 i]),(42,.row 10 (dnT l i)),(53,.row 1 ((tnN l s i).map ia))]
def blT (l:List Nte) (s:List Int) (i:Nat):AV:=if tnN l s i=[] then .nils else .osl 53 (tnN l s i).length
section
variable {G:Nat->Option (List AV)}
def moC (r:List Iss) (l:List Nte) (q:List Rul) (s:List Int) (m day:Int):List AV:=[Yl r l q,.vsl (s.map ia),.int .i64 m,.int .i64 day]
theorem ZiC (r:List Iss) (q:List Rul) (F:List Int) (er:Int) (l:List Nte) (s:List Int) (i:Nat) (m day:Int) (hi:i<=l.length) (hl:l.length<=12) (hw:WfN l) (hF:F.length<=16) (R:Run) (hrd:R.Top)
  (hf:PC Tryz.prog R.G 22 [.agg [.vsl (r.map isa),Yh ((l.take i).map na)],Yh ((sortI (tnN l s i)).map ia),.int .i64 m] (.tup [Yh (F.map ia),.int .i64 er])) :
  AR Tryz.prog R (dropZ 4 Z7Z) ⟨[(1,.ptr 1 0),(3,.ptr 3 0),(4,blT l s i)],blO r l s (moC r l q s m day) i⟩ (Fin Z80 (Yh ((nsP F (l.take i) (l.take i).length).map sa))):=by
 have hwT:WfN (l.take i):=⟨by unfold Sml;simp;omega,λx hx=>hw.2 x (List.mem_of_mem_take hx)⟩;have pS:(Yl r l q).pure=true:=(by unfold Yl rfA;split <;> simp[AV.pure,isa,na,ra,rfa]);have kS:(Yl r l q).keys=[]:=(by unfold Yl;simp[AV.keys]);have eS:Yl r l q = .vptr [.vsl (r.map isa),.vsl (l.map na),.vsl (q.map ra),rfA r] 0:=rfl;have rest:=Ziw r F er (l.take i) (sortI (tnN l s i)) (moC r l q s m day) m (by simp;omega) hwT hF R hrd rfl rfl (by simp[moC,kS,AV.keys]) hf;have tl:=Ziy l s i;refine ZeC (S:=⟨[(1,.ptr 1 0),(3,.vptr [.vsl (r.map isa),Yh ((l.take i).map na)] 0),(4,Yh ((sortI (tnN l s i)).map ia))],[(1,.box (moC r l q s m day))]⟩) (Qga ?_) rest;have e0:sortI []=[]:=(by simp[sortI]);unfold blO blT
 cases i with
 | zero =>
   have et:tnN l s 0=[]:=(by simp[tnN]);simp only[et,if_true,e0,List.take_zero,List.map_nil];simp -implicitDefEqProofs[Yh];refine Qco (ZgX) (by simp) ?_;simp -implicitDefEqProofs[];refine Yn.trans (Yn.frz (λk=>k == 3||k == 42||k == 53) _) ?_;rw[moC,eS]
   ((try simp only[Yj,frzA,frzO,frz,Yi,Yk,St.get,AV.pure]);refine Yn.sub (by simp[lk,Ya,AV.keys,Yj,frzA,frzO,frz,Yi,Yk,St.get,AV.pure]) ?_;simp only[Yj,frzA,frzO,frz,Yi,Yk,St.get,AV.pure,Wkl,and_true];(try simp[lk,Yd,Ya,AV.keys,Yj,frzA,frzO,frz,Yi,Yk,St.get,AV.pure]))
 | succ i =>
   have hne:¬i+1=0:=by omega
   have hn2:¬(l.take (i+1)).map na=[]:=λh=>by
    have:=congrArg List.length h;rw[List.length_map,List.length_take,List.length_nil]at this;omega
   have ev:Yh ((l.take (i+1)).map na) = .vsl (dnT l (i+1)):=(by unfold Yh;rw[if_neg hn2];rfl);have dl:=Ziz hi
   have dp:∀ x∈dnT l (i+1),∀ y∈x,y.pure=true:=λx hx y hy=>by
    obtain ⟨z,-,rfl⟩:=List.mem_map.1 hx;simp only[na,List.mem_cons,List.not_mem_nil,or_false]at hy;rcases hy with rfl|rfl|rfl|rfl|rfl|rfl|rfl|rfl|rfl|rfl <;> simp[AV.pure]
   have dp2:=eq_true dp;rw[ev];by_cases c:tnN l s (i+1)=[]
   . simp only[c,hne,if_true,if_false,e0,List.map_nil];simp -implicitDefEqProofs[Yh];refine Qco (ZgX) (by simp) ?_;simp -implicitDefEqProofs[];refine Yn.trans (Yn.frz (λk=>k == 3||k == 42||k == 53) _) ?_;rw[moC,eS]
     ((try simp only[Yj,frzA,frzO,frz,Yi,Yk,St.get,AV.pure,dl,dp2]);refine Yn.sub (by simp[lk,Ya,AV.keys,Yj,frzA,frzO,frz,Yi,Yk,St.get,AV.pure,dl,dp2]) ?_;simp only[Yj,frzA,frzO,frz,Yi,Yk,St.get,AV.pure,dl,dp2,Wkl,and_true];(try simp[lk,Yd,Ya,AV.keys,Yj,frzA,frzO,frz,Yi,Yk,St.get,AV.pure,dl,dp2]))
   . have hsp:=ZgU (G:=R.G) (tnN l s (i+1)) (by omega);have sl:=Ze4 (tnN l s (i+1));have sn:¬(sortI (tnN l s (i+1))).map ia=[]:=λh=>c (List.length_eq_zero_iff.1 (by rw[<- sl,List.map_eq_nil_iff.1 h];rfl))
     have et:Yh ((sortI (tnN l s (i+1))).map ia) = .vsl ((sortI (tnN l s (i+1))).map ia):=(by unfold Yh;rw[if_neg sn]);rw[et];simp only[c,hne,if_false];simp -implicitDefEqProofs[];refine Ye.sem (Z1B.byref hsp (λ_=>53) (by simp) (by simp) (by simp[St.get,lk,ZgM]) (by simp[ZgN]) (by simp[Ya,AV.keys,lk]) rfl (by simp[AV.ren]) rfl rfl) ?_;simp -implicitDefEqProofs[Ym,ZgM];refine Yn.trans (Yn.frz (λk=>k == 3||k == 42||k == 53) _) ?_;rw[moC,eS]
     ((try simp only[Yj,frzA,frzO,frz,Yi,Yk,St.get,AV.pure,dl,dp2,sl,ia]);refine Yn.sub (by simp[lk,Ya,AV.keys,Yj,frzA,frzO,frz,Yi,Yk,St.get,AV.pure,dl,dp2,sl,ia]) ?_;simp only[Yj,frzA,frzO,frz,Yi,Yk,St.get,AV.pure,dl,dp2,sl,ia,Wkl,and_true];(try simp[lk,Yd,Ya,AV.keys,Yj,frzA,frzO,frz,Yi,Yk,St.get,AV.pure,dl,dp2,sl,ia]))
def blS (r:List Iss) (l:List Nte) (q:List Rul) (s:List Int) (m day:Int) (i:Nat):St :=
 ⟨[(29,.int .i64 i),(28,.int .i64 l.length),(27,.vsl (l.map na)),(1,.ptr 1 0),(3,.ptr 3 0),(4,blT l s i)],blO r l s (moC r l q s m day) i⟩
set_option maxHeartbeats 2000000 in
theorem ZiD (hG:GC G) (hN:GN G) (r:List Iss) (l:List Nte) (q:List Rul) (s:List Int) (m day:Int) (hw:WfN l) (hr:Wf r) (hl:l.length<=12) (hs:Sml s) (k:Nat) (hk:k<=l.length) (h1:∀ j (h:j<l.length),j<k->l[j].dy<=day) (h2:∀ h:k<l.length,day<l[k].dy) :
  PC Tryz.prog G 182 [.agg (moC r l q s m day)] (Yh ((nsP (fcE r (l.take k) (sortI (tnN l s k)) m).1 (l.take k) (l.take k).length).map sa)):=by
 have hwD:WfN (l.take k):=⟨by unfold Sml;simp;omega,λx hx=>hw.2 x (List.mem_of_mem_take hx)⟩;have tl:=Ziy l s k;have hsT:Sml (sortI (tnN l s k)):=(by unfold Sml;rw[Ze4];omega);have hf:=PC.sub (ZhE hG hN r (l.take k) (sortI (tnN l s k)) m hwD hr hsT) (xs:=[.agg [.vsl (r.map isa),Yh ((l.take k).map na)],Yh ((sortI (tnN l s k)).map ia),.int .i64 m]) ⟨.agg ⟨.rfl',.orNil _,trivial⟩,.orNil _,.rfl',trivial⟩;unfold fcA at hf
 have hFl:(fcE r (l.take k) (sortI (tnN l s k)) m).1.length<=16:=by
  unfold fcE
  split
  . have:=ZdZ (sortI (tnN l s k)) [] m (l.take k) (l.take k).length;have:(l.take k).length<=12:=(by simp;omega);simp only;omega
  . simp
 generalize (fcE r (l.take k) (sortI (tnN l s k)) m).1=F at *;generalize (fcE r (l.take k) (sortI (tnN l s k)) m).2=er at *;have eS:Yl r l q = .vptr [.vsl (r.map isa),.vsl (l.map na),.vsl (q.map ra),rfA r] 0:=rfl;have kS:(Yl r l q).keys=[]:=(by unfold Yl;simp[AV.keys]);have hcs:=λn=>Zh7 (G:=G) s n hs
 refine Z81 rfl λR hG hrd=>?_
 subst hG;have fin:=ZiC r q F er l s k m day hk hl hw hFl R hrd hf;generalize Yh ((nsP F (l.take k) (l.take k).length).map sa)=RES at *;refine Qga ?_;simp -implicitDefEqProofs[Z7Z,moC,eS];refine Z1Q (blS r l q s m day) (λi=>i<=k) (λi=>k-i) 0 ?_ (Nat.zero_le _) ?_
 . have et:tnN l s 0=[]:=(by simp[tnN]);simp only[blS,blO,blT,et,if_true,moC,eS]
   (refine Yn.sub (by simp[lk,Ya,AV.keys]) ?_;simp only[Wkl,and_true];(try simp[lk,Yd,Ya,AV.keys]))
 . intro i hik;rcases Nat.lt_or_ge i k with hi|hi
   . have hli:i<l.length:=(by omega);have hdy:=h1 i hli hi;have ts:=Zix (s:=s) hli;have dc:=ZiA hli;have dl:=Ziz (l:=l) (i:=i) (by omega);have bb:(i+1)*72<=70368744177664:=(by omega);have tl:=Ziy l s i;have b8:((tnN l s i).length+1)*8<=70368744177664:=(by omega);obtain ⟨x,hxx⟩ : ∃ x,x=l[i]:=⟨_,rfl⟩;have hlx:l[i]=x:=hxx.symm;have hnx:na x=[.int .i64 x.nu,.int .i64 x.dy,.int .u8 x.sg,.int .i64 x.dr,.int .i64 x.lt,.int .i64 x.fr,.int .i64 x.tu,.int .i64 x.ca,.bool x.up,.int .u8 x.wy]:=rfl;rw[hlx]at hdy ts dc;rw[hnx]at dc;have hdy:¬day<x.dy:=(by omega);obtain ⟨i1,hi1⟩ : ∃ i1,i1=i+1:=⟨_,rfl⟩;obtain ⟨i0,hi0⟩ : ∃ i0,i0=i:=⟨_,rfl⟩;have hn1:¬i1=0:=(by omega);have ms:k-i1<k-i:=by omega
     cases i with
     | zero =>
       have et:tnN l s 0=[]:=(by simp[tnN]);have d0:dnT l 0=[]:=rfl;rw[d0,List.nil_append]at dc;have wi:IntKind.i64.wrap 1=1:=rfl;have k1:True:=trivial;have k2:True:=trivial;have k3:True:=trivial;by_cases hm:x.nu∈s
       . rw[if_pos hm]at ts;rw[<- hi1]at ts dc;have tc:=ts;refine Qga ?_;simp only[blS,blO,blT,moC,eS,et,if_true];simp -implicitDefEqProofs[hli,hlx,hnx,hdy,dl,bb,k1,k2,k3];refine Qco (hcs x.nu) (by simp) ?_;simp -implicitDefEqProofs[hm,wi,b8,hlx,hnx];refine ⟨i1,?_,(by omega),ms⟩;have ne1:tnN l s i1≠[]:=(by rw[tc];simp);have e1:(tnN l s i1).map ia=(tnN l s 0).map ia++[[AV.int .i64 x.nu]]:=(by rw[tc,List.map_append];rfl);have e2:(tnN l s i1).length=(tnN l s 0).length+1:=(by rw[tc];simp);simp only[blS,blO,blT,moC,eS,ne1,hn1,if_false];rw[et,List.map_nil,List.nil_append]at e1;rw[et,List.length_nil]at e2;rw[e1,e2];rw[dc];subst hi1
         ((try simp only[hnx]);refine Yn.sub (by simp[lk,Ya,AV.keys,hnx]) ?_;simp only[hnx,Wkl,ZiB,ZgN,and_true];(try simp[lk,Yd,Ya,AV.keys,hnx]))
       . rw[if_neg hm]at ts;rw[<- hi1]at ts dc;have tc:=ts;refine Qga ?_;simp only[blS,blO,blT,moC,eS,et,if_true];simp -implicitDefEqProofs[hli,hlx,hnx,hdy,dl,bb,k1,k2,k3];refine Qco (hcs x.nu) (by simp) ?_;simp -implicitDefEqProofs[hm,wi,b8,hlx,hnx];refine ⟨i1,?_,(by omega),ms⟩;simp only[blS,blO,blT,moC,eS,tc,et,hn1,if_true,if_false];rw[dc];subst hi1
         ((try simp only[hnx]);refine Yn.sub (by simp[lk,Ya,AV.keys,hnx]) ?_;simp only[hnx,Wkl,ZiB,ZgN,and_true];(try simp[lk,Yd,Ya,AV.keys,hnx]))
     | succ j =>
       have hne:¬j+1=0:=(by omega);have k1:(j:Int)+1<l.length:=(by omega);have k2:((j:Int)+1).toNat=j+1:=(by omega);have k3:(0:Int)<=(j:Int)+1:=(by omega);have wi:IntKind.i64.wrap ((j:Int)+1+1)=(j:Int)+1+1:=Yg (by omega) (by omega);by_cases hm:x.nu∈s
       . rw[if_pos hm]at ts;by_cases c:tnN l s (j+1)=[]
         . rw[<- hi1]at ts dc;have tc:=ts;refine Qga ?_;simp only[blS,blO,blT,moC,eS,c,hne,if_true,if_false];simp -implicitDefEqProofs[hli,hlx,hnx,hdy,dl,bb,k1,k2,k3];refine Qco (hcs x.nu) (by simp) ?_;simp -implicitDefEqProofs[hm,wi,b8,hlx,hnx];refine ⟨i1,?_,(by omega),ms⟩;have ne1:tnN l s i1≠[]:=(by rw[tc];simp);have e1:(tnN l s i1).map ia=(tnN l s (j+1)).map ia++[[AV.int .i64 x.nu]]:=(by rw[tc,List.map_append];rfl);have e2:(tnN l s i1).length=(tnN l s (j+1)).length+1:=(by rw[tc];simp);simp only[blS,blO,blT,moC,eS,ne1,hn1,if_false];rw[c,List.map_nil,List.nil_append]at e1;rw[c,List.length_nil]at e2;rw[e1,e2];rw[<- dc];subst hi1
           ((try simp only[hnx]);refine Yn.sub (by simp[lk,Ya,AV.keys,hnx]) ?_;simp only[hnx,Wkl,ZiB,ZgN,and_true];(try simp[lk,Yd,Ya,AV.keys,hnx]))
         . rw[<- hi1]at ts dc;have tc:=ts;refine Qga ?_;simp only[blS,blO,blT,moC,eS,c,hne,if_false];simp -implicitDefEqProofs[hli,hlx,hnx,hdy,dl,bb,k1,k2,k3];refine Qco (hcs x.nu) (by simp) ?_;simp -implicitDefEqProofs[hm,wi,b8,hlx,hnx];refine ⟨i1,?_,(by omega),ms⟩;have ne1:tnN l s i1≠[]:=(by rw[tc];simp);have e1:(tnN l s i1).map ia=(tnN l s (j+1)).map ia++[[AV.int .i64 x.nu]]:=(by rw[tc,List.map_append];rfl);have e2:(tnN l s i1).length=(tnN l s (j+1)).length+1:=(by rw[tc];simp);simp only[blS,blO,blT,moC,eS,ne1,hn1,if_false];rw[<- e1,e2];rw[<- dc];subst hi1
           ((try simp only[hnx]);refine Yn.sub (by simp[lk,Ya,AV.keys,hnx]) ?_;simp only[hnx,Wkl,ZiB,ZgN,and_true];(try simp[lk,Yd,Ya,AV.keys,hnx]))
       . rw[if_neg hm]at ts;by_cases c:tnN l s (j+1)=[]
         . rw[<- hi1]at ts dc;have tc:=ts;refine Qga ?_;simp only[blS,blO,blT,moC,eS,c,hne,if_true,if_false];simp -implicitDefEqProofs[hli,hlx,hnx,hdy,dl,bb,k1,k2,k3];refine Qco (hcs x.nu) (by simp) ?_;simp -implicitDefEqProofs[hm,wi,b8,hlx,hnx];refine ⟨i1,?_,(by omega),ms⟩;simp only[blS,blO,blT,moC,eS,tc,c,hn1,if_true,if_false];rw[<- dc];subst hi1
           ((try simp only[hnx]);refine Yn.sub (by simp[lk,Ya,AV.keys,hnx]) ?_;simp only[hnx,Wkl,ZiB,ZgN,and_true];(try simp[lk,Yd,Ya,AV.keys,hnx]))
         . rw[<- hi1]at ts dc;have tc:=ts;refine Qga ?_;simp only[blS,blO,blT,moC,eS,c,hne,if_false];simp -implicitDefEqProofs[hli,hlx,hnx,hdy,dl,bb,k1,k2,k3];refine Qco (hcs x.nu) (by simp) ?_;simp -implicitDefEqProofs[hm,wi,b8,hlx,hnx];refine ⟨i1,?_,(by omega),ms⟩;simp only[blS,blO,blT,moC,eS,tc,c,hn1,if_false];rw[<- dc];subst hi1
           ((try simp only[hnx]);refine Yn.sub (by simp[lk,Ya,AV.keys,hnx]) ?_;simp only[hnx,Wkl,ZiB,ZgN,and_true];(try simp[lk,Yd,Ya,AV.keys,hnx]))
   . obtain rfl:i=k:=(by omega);rcases Nat.lt_or_ge i l.length with hli|hli
     . have hdy:=h2 hli;obtain ⟨x,hxx⟩ : ∃ x,x=l[i]:=⟨_,rfl⟩;have hlx:l[i]=x:=hxx.symm;rw[hlx]at hdy;have hnx:na x=[.int .i64 x.nu,.int .i64 x.dy,.int .u8 x.sg,.int .i64 x.dr,.int .i64 x.lt,.int .i64 x.fr,.int .i64 x.tu,.int .i64 x.ca,.bool x.up,.int .u8 x.wy]:=rfl
       cases i with
       | zero =>
         have et:tnN l s 0=[]:=(by simp[tnN]);refine Qga ?_;simp only[blS,blO,blT,moC,eS,et,if_true]at fin ⊢;simp -implicitDefEqProofs[hli,hlx,hnx,hdy];refine Z2M Yb 2 ?_;simp -implicitDefEqProofs[];refine GOz (Z2L ?_ fin)
         (refine Yn.sub (by simp[lk,Ya,AV.keys]) ?_;simp only[Wkl,ZiB,ZgN,and_true];(try simp[lk,Yd,Ya,AV.keys]))
       | succ j =>
         have hne:¬j+1=0:=(by omega);have k1:(j:Int)+1<l.length:=(by omega);have k2:((j:Int)+1).toNat=j+1:=(by omega);have k3:(0:Int)<=(j:Int)+1:=(by omega);by_cases c:tnN l s (j+1)=[]
         . refine Qga ?_;simp only[blS,blO,blT,moC,eS,c,hne,if_true,if_false]at fin ⊢;simp -implicitDefEqProofs[hli,hlx,hnx,hdy,k1,k2,k3];refine Z2M Yb 2 ?_;simp -implicitDefEqProofs[];refine GOz (Z2L ?_ fin)
           (refine Yn.sub (by simp[lk,Ya,AV.keys]) ?_;simp only[Wkl,ZiB,ZgN,and_true];(try simp[lk,Yd,Ya,AV.keys]))
         . refine Qga ?_;simp only[blS,blO,blT,moC,eS,c,hne,if_false]at fin ⊢;simp -implicitDefEqProofs[hli,hlx,hnx,hdy,k1,k2,k3];refine Z2M Yb 2 ?_;simp -implicitDefEqProofs[];refine GOz (Z2L ?_ fin)
           (refine Yn.sub (by simp[lk,Ya,AV.keys]) ?_;simp only[Wkl,ZiB,ZgN,and_true];(try simp[lk,Yd,Ya,AV.keys]))
     . cases i with
       | zero =>
         have et:tnN l s 0=[]:=(by simp[tnN]);have z:decide (0<l.length)=false:=decide_eq_false (by omega);have z2:¬0<l.length:=(by omega);refine Qga ?_;simp only[blS,blO,blT,moC,eS,et,if_true]at fin ⊢;simp -implicitDefEqProofs[z2];refine Z2M Yb 2 ?_;simp -implicitDefEqProofs[];refine GOz (Z2L ?_ fin)
         (refine Yn.sub (by simp[lk,Ya,AV.keys]) ?_;simp only[Wkl,ZiB,ZgN,and_true];(try simp[lk,Yd,Ya,AV.keys]))
       | succ j =>
         have hne:¬j+1=0:=(by omega);have z:¬(j:Int)+1<l.length:=(by omega);by_cases c:tnN l s (j+1)=[]
         . refine Qga ?_;simp only[blS,blO,blT,moC,eS,c,hne,if_true,if_false]at fin ⊢;simp -implicitDefEqProofs[z];refine Z2M Yb 2 ?_;simp -implicitDefEqProofs[];refine GOz (Z2L ?_ fin)
           (refine Yn.sub (by simp[lk,Ya,AV.keys]) ?_;simp only[Wkl,ZiB,ZgN,and_true];(try simp[lk,Yd,Ya,AV.keys]))
         . refine Qga ?_;simp only[blS,blO,blT,moC,eS,c,hne,if_false]at fin ⊢;simp -implicitDefEqProofs[z];refine Z2M Yb 2 ?_;simp -implicitDefEqProofs[];refine GOz (Z2L ?_ fin)
           (refine Yn.sub (by simp[lk,Ya,AV.keys]) ?_;simp only[Wkl,ZiB,ZgN,and_true];(try simp[lk,Yd,Ya,AV.keys]))
end
def rlP (b:Bool) (x:Rul):List Stq:=if b=true/\¬(x.fd=x.td/\x.fl=x.tl) then
    [⟨x.fd,x.fl,x.td,x.tl,x.nu,false⟩]++(if x.bo=true then [⟨x.td,x.tl,x.fd,x.fl,x.nu,false⟩] else [])
 else []
def rsP (day:Int) (q:List Rul) (i:Nat):List Stq:=((List.range q.length).take i).flatMap λj=>rlP (sB day q j) (rAt q j)
theorem ZiE {day:Int} {q:List Rul} {i:Nat} (h:i<q.length):rsP day q (i+1)=rsP day q i++rlP (sB day q i) q[i]:=by
 have h1:i<(List.range q.length).length:=(by simpa using h);unfold rsP;rw[List.take_succ_eq_append_getElem h1,List.flatMap_append,List.getElem_range];simp[Zed h]
theorem ZiF (b:Bool) (x:Rul):(rlP b x).length<=2:=by unfold rlP;split <;> (try split) <;> simp
theorem ZiG (day:Int) (q:List Rul):∀ i,i<=q.length->(rsP day q i).length<=2*i
 |0,_=>by simp[rsP]
 |i+1,h=>by rw[ZiE h,List.length_append];have:=ZiG day q i (by omega);have:=ZiF (sB day q i) q[i];omega
section
variable {G:Nat->Option (List AV)}
def brS (r:List Iss) (l:List Nte) (q:List Rul) (s:List Int) (m day:Int) (x:Nat×Nat):St :=
 ⟨[(13,.int .i64 x.1),(12,.int .i64 q.length),(11,.vsl (q.map ra)),(3,sqT x.2 (rsP day q x.1)),(1,.ptr 1 0)],sqO x.2 (rsP day q x.1)++[(1,.box (moC r l q s m day))]⟩
set_option maxHeartbeats 4000000 in
theorem ZiH (r:List Iss) (l:List Nte) (q:List Rul) (s:List Int) (m day:Int) (hq:q.length<=16) :
  PC Tryz.prog G 183 [.agg (moC r l q s m day)] (Yh ((rsP day q q.length).map sa)):=by
 have hst:=λi hi=>Zin (G:=G) r l q day hq q.length i hi (by omega)
 have pS:(Yl r l q).pure=true:=(by unfold Yl rfA;split <;> simp[AV.pure,isa,na,ra,rfa]);have kS:(Yl r l q).keys=[]:=(by unfold Yl;simp[AV.keys]);have eS:Yl r l q = .vptr [.vsl (r.map isa),.vsl (l.map na),.vsl (q.map ra),rfA r] 0:=rfl;refine Z84 rfl λR hG hrd=>?_
 subst hG;refine Qga ?_;simp -implicitDefEqProofs[Z82,Z83,moC,eS];refine Z1Q (brS r l q s m day) (λx=>x.1<=q.length/\KeyOk [41,53] x.2 (rsP day q x.1)) (λx=>q.length-x.1) (0,0) ?_ ⟨Nat.zero_le _,.inl ⟨rfl,rfl⟩⟩ ?_
 . simp only[brS,moC,eS,sqT,sqO,if_true,List.nil_append]
   (refine Yn.sub (by simp[lk,Ya,AV.keys]) ?_;simp only[Wkl,and_true];(try simp[lk,Yd,Ya,AV.keys]))
 . rintro ⟨i, κ⟩ ⟨hi0,hK⟩;simp only[brS,moC]at hi0 hK ⊢;have bl:=ZiG day q i hi0;rcases Nat.lt_or_ge i q.length with hi|hi
   . have sc := ZiE (day:=day) hi;have wi:IntKind.i64.wrap ((i:Int)+1)=((i+1:Nat):Int):=(by rw[Yg (by omega) (by omega)];omega);have hst:=hst i hi;obtain ⟨x,hxx⟩ : ∃ x,x=q[i]:=⟨_,rfl⟩;have hlx:q[i]=x:=hxx.symm;rw[hlx]at sc;have hra:ra x=[.int .i64 x.nu,.int .i64 x.dy,.int .i64 x.fd,.int .i64 x.fl,.int .i64 x.td,.int .i64 x.tl,.bool x.bo,.int .i64 x.br]:=rfl;have b1:=sixB (rsP day q i).length (by omega);have b2:=sixC (rsP day q i).length (by omega);have hL:rsP day q (i+1)=rsP day q i++rlP (sB day q i) x:=sc;have nxt:∀ κ2,KeyOk [41,53] κ2 (rsP day q (i+1))->∀ st,Yn st (brS r l q s m day (i+1,κ2))->∃ x:Nat×Nat,Yn st (brS r l q s m day x)/\(x.1<=q.length/\KeyOk [41,53] x.2 (rsP day q x.1))/\q.length-x.1<q.length-i:=λκ2 h st hw=>⟨(i+1,κ2),hw,⟨hi,h⟩,by show q.length-(i+1)<q.length-i;omega⟩
     have same:∀ κ2,rlP (sB day q i) x=[]->KeyOk [41,53] κ2 (rsP day q i)->KeyOk [41,53] κ2 (rsP day q (i+1))/\rsP day q (i+1)=rsP day q i:=λκ2 h hk=>by rw[hL,h,List.append_nil];exact ⟨hk,rfl⟩
     have more:∀ κ2,rlP (sB day q i) x≠[]->κ2∈[41,53]->KeyOk [41,53] κ2 (rsP day q (i+1)):=λκ2 h hk=>.inr ⟨hk,by rw[hL];intro e;exact h (List.append_eq_nil_iff.1 e).2⟩
     generalize hLL:rsP day q i=L at *;generalize hMM:rsP day q (i+1)=M at *;by_cases z:x.fd=x.td/\x.fl=x.tl
     . have e:rlP (sB day q i) x=[]:=(by simp[rlP,z]);have f1:(decide (x.fd=x.td)&&decide (x.fl=x.tl))=true:=(by simp[z]);rcases hK with hz | ⟨hk,ne⟩
       . obtain ⟨s1,s2⟩:=same κ e (.inl hz);obtain ⟨rfl,e0⟩:=hz;refine Qga ?_;simp only[sqT,sqO,if_true,List.nil_append];simp -implicitDefEqProofs[hi,hlx,hra,wi,z.1,z.2];refine nxt 0 s1 _ ?_;simp only[brS,hMM,sqT,sqO,if_true,List.nil_append]
         ((try simp only[moC,kS]);refine Yn.sub (by simp[lk,Ya,AV.keys,moC,kS]) ?_;simp only[moC,kS,Wkl,and_true];(try simp[lk,Yd,Ya,AV.keys,moC,kS]))
       . obtain ⟨s1,s2⟩:=same κ e (.inr ⟨hk,ne⟩);have:κ=41∨κ=53:=(by simpa using hk);rcases this with rfl|rfl
         all_goals
          refine Qga ?_;simp only[sqT,sqO,if_false,List.cons_append,List.nil_append,Nat.reduceEqDiff];simp -implicitDefEqProofs[hi,hlx,hra,wi,z.1,z.2];refine nxt _ s1 _ ?_;simp only[brS,hMM,s2,sqT,sqO,if_false,List.cons_append,List.nil_append,Nat.reduceEqDiff]
          ((try simp only[moC,kS]);refine Yn.sub (by simp[lk,Ya,AV.keys,moC,kS]) ?_;simp only[moC,kS,Wkl,Zi7,and_true];(try simp[lk,Yd,Ya,AV.keys,moC,kS]))
     . have f2:(decide (x.fd=x.td)&&decide (x.fl=x.tl))=false:=by
        cases h:(decide (x.fd=x.td)&&decide (x.fl=x.tl))
        . rfl
        . simp at h;exact absurd h z
       have f3:(!decide (x.fd=x.td) || !decide (x.fl=x.tl))=true:=by
        rw[<- Bool.not_and,f2];rfl
       cases hb:sB day q i
       . rw [hb]at hst hL same;have e:rlP false x=[]:=(by simp[rlP]);rcases hK with hz | ⟨hk,ne⟩
         . obtain ⟨s1,s2⟩:=same κ e (.inl hz);obtain ⟨rfl,e0⟩:=hz;refine Qga ?_;simp only[sqT,sqO,if_true,List.nil_append];simp -implicitDefEqProofs[hi,hlx,hra,wi,f2,f3];refine Ye.of hst (by simp[pS,AV.pure]) ?_;simp -implicitDefEqProofs[wi,hra];refine nxt 0 s1 _ ?_;simp only[brS,hMM,sqT,sqO,if_true,List.nil_append]
           ((try simp only[moC,kS]);refine Yn.sub (by simp[lk,Ya,AV.keys,moC,kS]) ?_;simp only[moC,kS,Wkl,and_true];(try simp[lk,Yd,Ya,AV.keys,moC,kS]))
         . obtain ⟨s1,s2⟩:=same κ e (.inr ⟨hk,ne⟩);have:κ=41∨κ=53:=(by simpa using hk);rcases this with rfl|rfl
           all_goals
            refine Qga ?_;simp only[sqT,sqO,if_false,List.cons_append,List.nil_append,Nat.reduceEqDiff];simp -implicitDefEqProofs[hi,hlx,hra,wi,f2,f3];refine Ye.of hst (by simp[pS,AV.pure]) ?_;simp -implicitDefEqProofs[wi,hra];refine nxt _ s1 _ ?_;simp only[brS,hMM,s2,sqT,sqO,if_false,List.cons_append,List.nil_append,Nat.reduceEqDiff]
            ((try simp only[moC,kS]);refine Yn.sub (by simp[lk,Ya,AV.keys,moC,kS]) ?_;simp only[moC,kS,Wkl,Zi7,and_true];(try simp[lk,Yd,Ya,AV.keys,moC,kS]))
       . rw [hb]at hst hL same more
         cases hbo:x.bo
         . have e:rlP true x=[⟨x.fd,x.fl,x.td,x.tl,x.nu,false⟩]:=(by simp[rlP,z,hbo]);have hne:rlP true x≠[]:=(by rw[e];simp);rw[e]at hL;have e1:M.map sa=L.map sa++[[.int .i64 x.fd,.int .i64 x.fl,.int .i64 x.td,.int .i64 x.tl,.int .i64 x.nu,.bool false]]:=(by rw[hL,List.map_append];rfl);have e2:M.length=L.length+1:=(by rw[hL];simp);rcases hK with ⟨rfl,e0⟩ | ⟨hk,ne⟩
           . have s1:=more 41 hne (by simp);refine Qga ?_;simp only[sqT,sqO,if_true,List.nil_append];simp -implicitDefEqProofs[hi,hlx,hra,wi,f2,f3];refine Ye.of hst (by simp[pS,AV.pure]) ?_;simp -implicitDefEqProofs[wi,hra,hbo];refine nxt 41 s1 _ ?_;rw[e0,List.map_nil,List.nil_append]at e1;rw[e0,List.length_nil]at e2;simp only[brS,hMM,e1,e2,sqT,sqO,if_false,List.cons_append,List.nil_append,Nat.reduceEqDiff]
             ((try simp only[moC,kS]);refine Yn.sub (by simp[lk,Ya,AV.keys,moC,kS]) ?_;simp only[moC,kS,Wkl,and_true];(try simp[lk,Yd,Ya,AV.keys,moC,kS]))
           . have s1:=more κ hne hk;have:κ=41∨κ=53:=(by simpa using hk);rcases this with rfl|rfl
             all_goals
              refine Qga ?_;simp only[sqT,sqO,if_false,List.cons_append,List.nil_append,Nat.reduceEqDiff];simp -implicitDefEqProofs[hi,hlx,hra,wi,f2,f3];refine Ye.of hst (by simp[pS,AV.pure]) ?_;simp -implicitDefEqProofs[wi,hra,hbo,b1,b2];refine nxt _ s1 _ ?_;simp only[brS,hMM,e2,sqT,sqO,if_false,List.cons_append,List.nil_append,Nat.reduceEqDiff]
              try simp only[List.append_assoc,List.cons_append,List.nil_append]
              rw[<- e1]
              ((try simp only[moC,kS]);refine Yn.sub (by simp[lk,Ya,AV.keys,moC,kS]) ?_;simp only[moC,kS,Wkl,Zi7,and_true];(try simp[lk,Yd,Ya,AV.keys,moC,kS]))
         . have e:rlP true x=[⟨x.fd,x.fl,x.td,x.tl,x.nu,false⟩,⟨x.td,x.tl,x.fd,x.fl,x.nu,false⟩]:=(by simp[rlP,z,hbo]);have hne:rlP true x≠[]:=(by rw[e];simp);rw[e]at hL;have e1:M.map sa=L.map sa++[[.int .i64 x.fd,.int .i64 x.fl,.int .i64 x.td,.int .i64 x.tl,.int .i64 x.nu,.bool false],[.int .i64 x.td,.int .i64 x.tl,.int .i64 x.fd,.int .i64 x.fl,.int .i64 x.nu,.bool false]]:=(by rw[hL,List.map_append];rfl);have e2:M.length=L.length+2:=(by rw[hL];simp);rcases hK with ⟨rfl,e0⟩ | ⟨hk,ne⟩
           . have s1:=more 41 hne (by simp);refine Qga ?_;simp only[sqT,sqO,if_true,List.nil_append];simp -implicitDefEqProofs[hi,hlx,hra,wi,f2,f3];refine Ye.of hst (by simp[pS,AV.pure]) ?_;simp -implicitDefEqProofs[wi,hra,hbo];refine nxt 41 s1 _ ?_;rw[e0,List.map_nil,List.nil_append]at e1;rw[e0,List.length_nil]at e2;simp only[brS,hMM,e1,e2,sqT,sqO,if_false,List.cons_append,List.nil_append,Nat.reduceEqDiff]
             ((try simp only[moC,kS]);refine Yn.sub (by simp[lk,Ya,AV.keys,moC,kS]) ?_;simp only[moC,kS,Wkl,and_true];(try simp[lk,Yd,Ya,AV.keys,moC,kS]))
           . have s1:=more κ hne hk;have:κ=41∨κ=53:=(by simpa using hk);rcases this with rfl|rfl
             all_goals
              refine Qga ?_;simp only[sqT,sqO,if_false,List.cons_append,List.nil_append,Nat.reduceEqDiff];simp -implicitDefEqProofs[hi,hlx,hra,wi,f2,f3];refine Ye.of hst (by simp[pS,AV.pure]) ?_;simp -implicitDefEqProofs[wi,hra,hbo,b1,b2];refine nxt _ s1 _ ?_;simp only[brS,hMM,e2,sqT,sqO,if_false,List.cons_append,List.nil_append,Nat.reduceEqDiff]
              try simp only[List.append_assoc,List.cons_append,List.nil_append]
              rw[<- e1]
              ((try simp only[moC,kS]);refine Yn.sub (by simp[lk,Ya,AV.keys,moC,kS]) ?_;simp only[moC,kS,Wkl,Zi7,and_true];(try simp[lk,Yd,Ya,AV.keys,moC,kS]))
   . obtain rfl:i=q.length:=(by omega);refine Qga ?_;rcases hK with ⟨rfl,e0⟩ | ⟨hk,ne⟩
     . simp only[sqT,sqO,if_true,List.nil_append];simp -implicitDefEqProofs[];refine Qgr ?_;simp -implicitDefEqProofs[Yh,e0]
     . have:κ=41∨κ=53:=(by simpa using hk);rcases this with rfl|rfl
       all_goals
        simp only[sqT,sqO,if_false,List.cons_append,List.nil_append,Nat.reduceEqDiff];simp -implicitDefEqProofs[];refine Qgr ?_;simp -implicitDefEqProofs[Yh,ne,sa]
end
theorem ZiI {r:List Iss} {l:List Nte} {s:List Int} (h:chN r l=0):(fcE r l s 1).2=if truB l s=true then 0 else 31:=by
 have e:asN r l s 1=if truB l s=true then 0 else 31:=by
  unfold asN;rw[if_pos h];have:inR 1 1 999=true:=(by decide);rw[this];simp
 unfold fcE;rw[e]
 split <;> simp_all
def moA (r:List Iss) (l:List Nte) (q:List Rul) (s:List Int) (m d e:Int):AV:=.tup [.agg (if aqN r l q s m d e=0 then moC r l q s m d else [.nilp,.nils,.int .i64 0,.int .i64 0]),.int .i64 (aqN r l q s m d e)]
section
variable {G:Nat->Option (List AV)}
theorem ZiJ (hG:GC G) (hN:GN G) (r:List Iss) (l:List Nte) (q:List Rul) (s:List Int) (m d e:Int) (hw:WfN l) (hr:Wf r) (hq:Sml q) (hs:Sml s):PC Tryz.prog G 60 [swa r l q,.vsl (s.map ia),.int .i64 m,.int .i64 d,.int .i64 e] (moA r l q s m d e):=by
 have ho:=Zir hG hN r l q hw hr hq;have hf:=ZhE hG hN r l s 1 hw hr hs;have h1:=Zib (G:=G) 1 999 m;have h2:=Zic (G:=G) 0 14610 d e;have pS:(Yl r l q).pure=true:=(by unfold Yl rfA;split <;> simp[AV.pure,isa,na,ra,rfa]);have kS:(Yl r l q).keys=[]:=by unfold Yl;simp[AV.keys]
 have sS:∀ ok st,Yi ok st 5 (Yl r l q)=some (Yl r l q):=λok st=>by
  have h:=pS;unfold Yl at *;simp[Yi,h]
 have sS6:∀ ok st,Yi ok st 6 (Yl r l q)=some (Yl r l q):=λok st=>by
  have h:=pS;unfold Yl at *;simp[Yi,h]
 unfold opnA swa at ho;unfold fcA at hf;unfold moA aqN moC;have oS:(Yl r l q).one=true:=(by unfold Yl;simp[AV.one,AV.known]);by_cases h0:chS r l q=0
 . have hz:=ZiI (s:=s) (ZhP h0).1;rw[if_pos h0,h0]at ho;rw[hz]at hf;have pL:=ZeV (l:=(fcE r l s 1).1.map ia) (by simp[ia,AV.pure]);generalize Yh ((fcE r l s 1).1.map ia)=fV at *;obtain ⟨cs,eS⟩ : ∃ cs,Yl r l q = .vptr cs 0:=⟨_,rfl⟩;rw[eS]at ho pS kS sS sS6 oS ⊢
   (refine Z8n rfl λR hG hrd=>Qga ?_;subst hG)
   simp -implicitDefEqProofs[Z8l,Z8m,swa];refine Qco (ho) (by simp) ?_;simp -implicitDefEqProofs[];refine Qco (hf) (by simp) ?_
   cases ht:truB l s
   . simp -implicitDefEqProofs[h0]
   simp -implicitDefEqProofs[];refine Qco (h1) (by simp) ?_
   cases q1:inR m 1 999
   . simp -implicitDefEqProofs[h0]
   simp -implicitDefEqProofs[];refine Qco (h2) (by simp) ?_
   cases q2:inR d 0 14610 <;> cases q3:inR e 0 14610
   . simp -implicitDefEqProofs[h0]
   . simp -implicitDefEqProofs[h0]
   . simp -implicitDefEqProofs[h0]
   . simp -implicitDefEqProofs[h0,pS,sS,sS6,oS]
 . rw[if_neg h0]at ho
   (refine Z8n rfl λR hG hrd=>Qga ?_;subst hG)
   simp -implicitDefEqProofs[Z8l,Z8m,swa];refine Qco (ho) (by simp) ?_;simp -implicitDefEqProofs[h0]
end
theorem ZiK {r:List Iss} (h:openV r=0) {x:Iss} (hx:x∈r):x.d≠0:=by
 have hL:=Zdm h;unfold Zbt at hL;simp only[Bool.and_eq_true]at hL;have h1:=List.all_eq_true.1 hL.1.1.1.2 x hx;simp only[issB,headB,Bool.and_eq_true]at h1;have h2:=h1.1.1.1.1.1;simp only[inR,decide_eq_true_eq]at h2;omega
theorem ZiL {r:List Iss} (h:openV r=0) {d l:Int} (hk:knB r d l=true):d≠0:=by
 unfold knB at hk;obtain ⟨x,hx⟩:=Option.isSome_iff_exists.1 hk;obtain ⟨h1,h2,h3⟩:=ZbT hx;rw[<- h2];exact ZiK h h1
theorem ZiM {α:Type} {f:α->Int} {d:Int}:∀ {l:List α},(l.Pairwise λa b=>f a<=f b)->l.filter (λx=>decide (f x<=d))=l.takeWhile λx=>decide (f x<=d)
 |[],_=>rfl
 | x :: l,h=>by
   rw[List.pairwise_cons]at h;rw[List.filter_cons,List.takeWhile_cons]
   split
   . rw[ZiM h.2]
   . rename_i e;have e:¬f x<=d:=(by simpa using e);rw[List.filter_eq_nil_iff];intro y hy;have:=h.1 y hy;simp;omega
theorem ZiN {r:List Iss} {l:List Nte} (h:ZdS r l=true):l.Pairwise λa b=>a.dy<=b.dy:=by
 simp only[ZdS,Bool.and_eq_true]at h;have h1:=Zbq.1 h.1.2
 have step:∀ j (hj:j+1<l.length),l[j].dy<=l[j+1].dy:=λj hj=>by
  have h2:=h1 (j+1) hj;simp only[noteB,Bool.and_eq_true]at h2;have h3:=h2.2;rw[ZdP hj]at h3;simp only[cN8,ZdP (show j<l.length by omega),Bool.or_eq_true,Bool.and_eq_true,decide_eq_true_eq]at h3;rcases h3 with h3|h3 <;> omega
 rw[List.pairwise_iff_getElem];intro i j hi hj hij;obtain ⟨n,rfl⟩ : ∃ n,j=i+1+n:=⟨j-i-1,by omega⟩;clear hij
 induction n with
 |zero=>exact step i hj
 | succ n ih =>
   have:=ih (by omega);have h4:=step (i+1+n) hj;exact Int.le_trans this h4
theorem tw_le {α:Type} {p:α->Bool}:∀ l:List α,(l.takeWhile p).length<=l.length
 |[]=>Nat.le_refl _
 | x::l=>by
   rw[List.takeWhile_cons]
   split
   . simpa using tw_le l
   . simp
theorem ZiO {α:Type} {p:α->Bool}:∀ l:List α,l.take (l.takeWhile p).length=l.takeWhile p
 |[]=>rfl
 | x::l=>by
   rw[List.takeWhile_cons]
   split
   . simpa using ZiO l
   . simp
theorem ZiP {α:Type} {p:α->Bool}:∀ (l:List α) (h:(l.takeWhile p).length<l.length),p (l[(l.takeWhile p).length])=false
 |[],h=>by simp at h
 | x :: l,h=>by
   by_cases e:p x=true
   . have e2:((x::l).takeWhile p)=x::l.takeWhile p:=(by rw[List.takeWhile_cons,if_pos e]);have h2:(l.takeWhile p).length<l.length:=(by rw[e2]at h;simpa using h);have:=ZiP l h2;simp only[e2,List.length_cons,List.getElem_cons_succ];exact this
   . have e2:((x::l).takeWhile p)=[]:=(by rw[List.takeWhile_cons,if_neg e]);simp only[e2,List.length_nil,List.getElem_cons_zero];simpa using e
def dyK (day:Int) (l:List Nte):Nat:=(l.takeWhile λx=>decide (x.dy<=day)).length
theorem ZiQ (day:Int) (l:List Nte):dyK day l<=l.length:=tw_le l
theorem ZiR {day:Int} {l:List Nte}:l.take (dyK day l)=l.takeWhile λx=>decide (x.dy<=day):=ZiO l
theorem ZiS {day:Int} {l:List Nte}:∀ j (h:j<l.length),j<dyK day l->l[j].dy<=day:=λj h hj=>by
 have h1:l[j]∈l.take (dyK day l):=List.mem_take_iff_getElem.2 ⟨j,by omega,rfl⟩;rw[ZiR]at h1;have:=List.all_eq_true.1 (List.all_takeWhile (p:=λx:Nte=>decide (x.dy<=day)) (l:=l)) _ h1;simpa using this
theorem ZiT {day:Int} {l:List Nte} (h:dyK day l<l.length):day<l[dyK day l].dy:=by
 have:=ZiP (p:=λx:Nte=>decide (x.dy<=day)) l h;have:=of_decide_eq_false this;exact Int.not_le.1 this
theorem ZiU {r:List Iss} {l:List Nte} {day:Int} (h:ZdS r l=true):l.take (dyK day l)=dyN day l:=by
 rw[ZiR,dyN,ZiM (ZiN h)]
theorem ZiV {l:List Nte} {s:List Int} (h:truB l s=true):SrtI s/\s.Nodup:=by
 have ht:=Zh5.1 h;have lt:=Zh3 ht;have eg:∀ j,∀ hj:j<s.length,s.getD j 0=s[j]:=λj hj=>by simp[List.getD_eq_getElem?_getD,hj]
 have key:∀ (i j:Nat) (hi:i<s.length) (hj:j<s.length),i<j->s[i]<s[j]:=λi j hi hj hij=>by
  have:=lt i j hij hj
  rwa [eg i hi,eg j hj]at this
 refine ⟨List.pairwise_iff_getElem.2 λi j hi hj hij=>Int.le_of_lt (key i j hi hj hij),List.nodup_iff_pairwise_ne.2 (List.pairwise_iff_getElem.2 λi j hi hj hij=>?_)⟩;have:=key i j hi hj hij;omega
theorem ZiW {r:List Iss} {l:List Nte} {s:List Int} {k:Nat} (h:ZdS r l=true) (ht:truB l s=true):sortI (tnN l s k)=dyT (l.take k) s:=by
 obtain ⟨h1,h2⟩:=ZiV ht;have sub:(dyT (l.take k) s).Sublist s:=List.filter_sublist;refine Ze3 ?_ (List.Pairwise.sublist sub h1);have n1:(dyT (l.take k) s).Nodup:=sub.nodup h2
 have n2:(tnN l s k).Nodup:=by
  unfold tnN;exact List.Sublist.nodup ((List.filter_sublist.trans (List.take_sublist _ _)).map _) (Zhu h)
 refine (List.perm_ext_iff_of_nodup n1 n2).2 λn=>?_
 simp only[dyT,tnN,List.mem_filter,List.mem_map,List.any_eq_true,decide_eq_true_eq]
 constructor
 . rintro ⟨q1,x,hx,rfl⟩;exact ⟨x,⟨hx,q1⟩,rfl⟩
 . rintro ⟨x,⟨hx,q1⟩,rfl⟩;exact ⟨q1,x,hx,rfl⟩
theorem ZiX {r:List Iss} {l:List Nte} (ho:openV r=0) (h:ZdS r l=true) {x:Nte} (hx:x∈l) (F:List Int):ntP F x=ntR F x:=by
 obtain ⟨j,hj,rfl⟩:=List.getElem_of_mem hx;simp only[ZdS,Bool.and_eq_true]at h;have h2:=Zbq.1 h.1.2 j hj;simp only[noteB,Bool.and_eq_true,ZdP hj]at h2;have c4:=h2.1.1.1.1.2;have c5:=h2.1.1.1.2;generalize l[j]=x at *;unfold ntP ntR;by_cases hm:x.nu∈F
 . by_cases h3:¬x.dr=0/\¬x.lt<2
   . have h6:x.nu∈F/\¬x.dr=0/\¬x.lt<2:=⟨hm,h3⟩;rw[if_pos hm,if_pos h6]
   . have hw:x.wy=0:=by
      simp only[cN5,Bool.or_eq_true,Bool.and_eq_true,decide_eq_true_eq]at c5;rcases c5 with c5|c5
      . exfalso
        have h4:x.dr=0:=by
         by_cases q:x.dr=0
         . exact q
         . exact absurd ⟨q,by omega⟩ h3
        have h5:¬(x.dr=0/\x.lt=0):=λq=>by omega
        rw[cN4,if_neg h5]at c4;exact ZiL ho (d:=x.dr) (l:=x.lt) c4 h4
      . exact c5.2
     have h6:¬(x.nu∈F/\¬x.dr=0/\¬x.lt<2):=λq=>h3 q.2
     rw[if_pos hm,if_neg h6];simp[hw]
 . have h6:¬(x.nu∈F/\¬x.dr=0/\¬x.lt<2):=λq=>hm q.1
   rw[if_neg hm,if_neg h6]
theorem ZiY {r:List Iss} {q:List Rul} (ho:openV r=0) (h:Zee r q=true) {i:Nat} (hi:i<q.length) (b:Bool):rlP b (rAt q i)=rlR b (rAt q i):=by
 simp only[Zee,Bool.and_eq_true]at h;have h2:=Zbq.1 h.2 i hi;simp only[ruleB,Bool.and_eq_true]at h2;have c2:=h2.1.1.1.2;generalize rAt q i=x at *;unfold rlP rlR
 have key:(x.fd=x.td/\x.fl=x.tl)↔(x.fd=0/\x.fl=0):=by
  unfold cR2 at c2
  split at c2
  . rename_i hz;obtain ⟨z1,z2,z3,z4⟩:=hz;rw[z1,z2,z3,z4]
  . simp only[Bool.and_eq_true,Bool.not_eq_true',decide_eq_false_iff_not]at c2;exact ⟨λq=>absurd q c2.1.1,λq=>absurd q.1 (ZiL ho c2.1.2)⟩
 simp only[key]
theorem ZiZ {α β:Type} {f g:α->List β}:∀ {l:List α},(∀ x∈l,f x=g x)->l.flatMap f=l.flatMap g
 |[],_=>rfl
 |x::l,h=>by rw[List.flatMap_cons,List.flatMap_cons,h x List.mem_cons_self,ZiZ λy hy=>h y (List.mem_cons_of_mem _ hy)]
theorem Zj0 {r:List Iss} {l:List Nte} {q:List Rul} {s:List Int} {m day:Int} (h:chS r l q=0) (ht:truB l s=true) :
  nsP (fcE r (l.take (dyK day l)) (sortI (tnN l s (dyK day l))) m).1 (l.take (dyK day l)) (l.take (dyK day l)).length++rsP day q q.length=st5 r l q s m day:=by
 obtain ⟨hN,hR⟩:=ZhP h;have hB:=ZhG hN
 have ho:openV r=0:=by
  unfold chN at hN
  split at hN
  . assumption
  . exact hN
 rw[ZiW hB ht,ZiU hB];unfold st5 stF
 congr 1
 . unfold nsP nsR;rw[List.take_length];refine ZiZ λx hx=>ZiX ho hB (List.mem_filter.1 hx).1 _
 . unfold rsP rsR;refine ZiZ λj hj=>ZiY ho hR ?_ _
   have:=List.mem_range.1 (List.mem_of_mem_take hj);exact this
abbrev Rf:=Int×Int
def frS (x:Stq):Rf:=(x.fd,x.fl)
def toS (x:Stq):Rf:=(x.td,x.tl)
def edg (L:List Stq):List (Rf×Rf):=L.map λx=>(frS x,toS x)
def tuE (E:List (Rf×Rf)):List (Rf×Rf):=E.map λe=>(e.2,e.1)
def pth (E:List (Rf×Rf)) (y:Rf):Nat->Rf->Bool
 |0,x=>decide (x=y)
 |n+1,x=>E.any λe=>decide (e.1=x)&&pth E y n e.2
def diN (E:List (Rf×Rf)) (y x:Rf):Option Nat:=(List.range (E.length+1)).find? λn=>pth E y n x
def diV (E:List (Rf×Rf)) (y x:Rf):Int:=match diN E y x with
 |some n=>n
 |none=>1048576
def md (E:List (Rf×Rf)) (y:Rf) (n:Nat) (x:Rf):Prop:=pth E y n x=true/\∀ m,m<n->pth E y m x=false
section
variable {E:List (Rf×Rf)} {x y z:Rf} {n m:Nat}
theorem Zj1:pth E y (n+1) x=true↔∃ e∈E,e.1=x/\pth E y n e.2=true:=by
 simp[pth,List.any_eq_true]
theorem Zj2 (h1:md E y n x) (h2:md E y m x):n=m:=by
 rcases Nat.lt_trichotomy n m with h|h|h
 . have:=h2.2 n h;rw[h1.1]at this;cases this
 . exact h
 . have:=h1.2 m h;rw[h2.1]at this;cases this
theorem md_of:∀ n,pth E y n x=true->∃ m,m<=n/\md E y m x:=by
 intro n
 induction n using Nat.strongRecOn with
 | _ n ih =>
   intro h;by_cases c:∃ m,m<n/\pth E y m x=true
   . obtain ⟨m,h1,h2⟩:=c;obtain ⟨k,h3,h4⟩:=ih m h1 h2;exact ⟨k,by omega,h4⟩
   . refine ⟨n,Nat.le_refl _,h,λm hm=>?_⟩
     cases q:pth E y m x
     . rfl
     . exact absurd ⟨m,hm,q⟩ c
theorem Zj3 (h:md E y (n+1) x):∃ e∈E,e.1=x/\md E y n e.2:=by
 obtain ⟨e,h1,h2,h3⟩:=Zj1.1 h.1;refine ⟨e,h1,h2,h3,λm hm=>?_⟩
 cases q:pth E y m e.2
 . rfl
 . have:=h.2 (m+1) (by omega);rw[Zj1.2 ⟨e,h1,h2,q⟩]at this;cases this
theorem Zj4:∀ (n:Nat) (x:Rf),md E y n x->∃ ss:List Rf,ss.length=n/\(∀ s∈ss,s∈E.map (·.1)/\∃ k,k<=n/\0<k/\md E y k s)/\ss.Nodup
 |0,x,_=>⟨[],rfl,by simp,.nil⟩
 | n + 1,x,h=>by
   obtain ⟨e,h1,h2,h3⟩:=Zj3 h;obtain ⟨ss,l1,l2,l3⟩:=Zj4 n e.2 h3;refine ⟨x::ss,by simp[l1],?_,List.nodup_cons.2 ⟨λhm=>?_,l3⟩⟩
   . intro s hs;rcases List.mem_cons.1 hs with rfl|hs
     . exact ⟨List.mem_map.2 ⟨e,h1,h2⟩,n+1,Nat.le_refl _,by omega,h⟩
     . obtain ⟨q1,k,q2,q3,q4⟩:=l2 s hs;exact ⟨q1,k,by omega,q3,q4⟩
   . obtain ⟨-,k,q2,-,q4⟩:=l2 x hm;have:=Zj2 h q4;omega
theorem md_le (h:md E y n x):n<=E.length:=by
 obtain ⟨ss,l1,l2,l3⟩:=Zj4 n x h;have:=List.Nodup.length_le_of_subset l3 (l₂:=E.map (·.1)) λs hs=>(l2 s hs).1
 simpa [l1] using this
theorem Zj5:diN E y x=some n↔md E y n x:=by
 unfold diN
 constructor
 . intro h;have h1:=List.find?_some h;refine ⟨h1,λm hm=>?_⟩;obtain ⟨-,us,vs,e,h2⟩:=List.find?_eq_some_iff_append.1 h;have e1:∀ k:Nat,(List.range (E.length+1))[k]? = (us++n::vs)[k]?:=λk=>by rw[e]
   have hn:us.length=n:=by
    have h3:=e1 us.length;rw[List.getElem?_append_right (Nat.le_refl _),Nat.sub_self,List.getElem?_cons_zero]at h3;obtain ⟨h4,h5⟩:=List.getElem?_eq_some_iff.1 h3;rw[List.getElem_range]at h5;exact h5
   have hm2:m∈us:=by
    have h3:=e1 m;have hl:m<(List.range (E.length+1)).length:=(by rw[e,List.length_append];omega);rw[List.getElem?_append_left (by omega),List.getElem?_eq_getElem hl,List.getElem_range]at h3;exact List.mem_of_getElem? h3.symm
   simpa using h2 m hm2
 . intro h;have hl:=md_le h;rw[List.find?_eq_some_iff_append];refine ⟨h.1,List.range n,(List.range (E.length-n)).map (n+1 + ·),?_,λm hm=>?_⟩
   . have:E.length+1=n+1+(E.length-n):=(by omega);rw[this,List.range_add,List.range_succ,List.append_assoc];rfl
   . simp[h.2 m (List.mem_range.1 hm)]
theorem Zj6:diN E y x=none↔∀ n,pth E y n x=false:=by
 constructor
 . intro h n
   cases q:pth E y n x
   . rfl
   . obtain ⟨m,-,hm⟩:=md_of n q;rw[Zj5.2 hm]at h;cases h
 . intro h
   cases q:diN E y x with
   |none=>rfl
   | some n =>
     have:=(Zj5.1 q).1;rw[h n]at this;cases this
theorem Zj7 (h:diN E y x=some n):n<=E.length:=md_le (Zj5.1 h)
theorem Zj8:0<=diV E y x:=by unfold diV;split <;> omega
theorem Zj9 (hE:E.length<=1000):diV E y x<=1048576:=by
 unfold diV;split
 . rename_i n h;have:=Zj7 h;omega
 . omega
theorem Zja (hE:E.length<=1000):diV E y x=1048576↔diN E y x=none:=by
 unfold diV;split
 . rename_i n h;have:=Zj7 h;simp[h];omega
 . rename_i h;simp[h]
theorem Zjb (hE:E.length<=1000):diV E y x<1048576↔(diN E y x).isSome=true:=by
 have h1:=Zja (x:=x) (y:=y) hE;have h2:=Zj9 (x:=x) (y:=y) hE
 cases q:diN E y x with
 |none=>have:=h1.2 q;simp;omega
 |some n=>simp only[q,reduceCtorEq,iff_false]at h1;simp;omega
theorem Zjc:∀ (n:Nat) (x:Rf),pth E y (n+1) x=true↔∃ e∈E,e.2=y/\pth E e.1 n x=true
 | 0,x=>by
   rw[Zj1]
   constructor
   . rintro ⟨e,h1,rfl,h2⟩;exact ⟨e,h1,by simpa [pth] using h2,by simp[pth]⟩
   . rintro ⟨e,h1,rfl,h2⟩;exact ⟨e,h1,by simpa [pth] using Eq.symm (by simpa [pth] using h2),by simp[pth]⟩
 | n + 1,x=>by
   rw[Zj1]
   constructor
   . rintro ⟨e,h1,h2,h3⟩;obtain ⟨f,g1,g2,g3⟩:=(Zjc n e.2).1 h3;exact ⟨f,g1,g2,Zj1.2 ⟨e,h1,h2,g3⟩⟩
   . rintro ⟨f,g1,g2,g3⟩;obtain ⟨e,h1,h2,h3⟩:=Zj1.1 g3;exact ⟨e,h1,h2,(Zjc n e.2).2 ⟨f,g1,g2,h3⟩⟩
theorem Zjd:∀ (n:Nat) (x y:Rf),pth (tuE E) y n x=pth E x n y
 |0,x,y=>by simp[pth,eq_comm]
 | n + 1,x,y=>by
   rw[Bool.eq_iff_iff,Zj1,Zjc]
   constructor
   . rintro ⟨e,h1,h2,h3⟩;obtain ⟨f,g1,rfl⟩:=List.mem_map.1 h1;exact ⟨f,g1,h2,by rw[<- Zjd n];exact h3⟩
   . rintro ⟨f,g1,g2,g3⟩;exact ⟨(f.2,f.1),List.mem_map.2 ⟨f,g1,rfl⟩,g2,by rw[Zjd n];exact g3⟩
end
def rfs (r:List Iss):List Rf:=r.map λx=>(x.d,x.l)
theorem Zje (r:List Iss):(rfs r).map ita=r.map rfa:=by simp[rfs,ita,rfa,Function.comp_def]
theorem Zjf (o:List (Nat×AObj)) (l:List Rf):Yd o (.row 2 (l.map ita))=true:=by
 simp only[Yd,List.all_eq_true,List.mem_map];rintro x ⟨y,-,rfl⟩ v hv;simp only[ita,List.mem_cons,List.not_mem_nil,or_false]at hv;rcases hv with rfl|rfl <;> simp[Ya,AV.keys]
section
variable {G:Nat->Option (List AV)}
theorem Zjg (x:Iss):PC Tryz.prog G 67 [.agg (isa x)] (.agg [.int .i64 x.d,.int .i64 x.l]):=by
 (refine Z6D rfl λR hG hrd=>Qga ?_;subst hG)
 simp -implicitDefEqProofs[Z6B,Z6C,isa]
theorem Zjh (r:List Iss) (hr:Sml r):PC Tryz.prog G 31 [.agg [.vsl (r.map isa)]] (rfA r):=by
 (refine Z6G rfl λR hG hrd=>Qga ?_;subst hG)
 unfold Sml at hr;simp -implicitDefEqProofs[Z6E,Z6F];refine Zb9 (λi=>if i=0 then ⟨[(4,.int .i64 i),(3,.nils),(1,.ptr 1 0)],[(1,.box [.vsl (r.map isa)])]⟩ else ⟨[(4,.int .i64 i),(3,.osl 20 i),(1,.ptr 1 0)],[(20,.row 2 (rkT r i)),(1,.box [.vsl (r.map isa)])]⟩) (λ_=>True) r.length ?_ trivial ?_ ?_
 . simp only[if_true]
   (refine Yn.sub (by simp[lk,Ya,AV.keys]) ?_;simp only[Wkl,and_true];(try simp[lk,Yd,Ya,AV.keys]))
 . intro i hi _;have tk:=Zip hi;have tl:=Zio (r:=r) (i:=i) (by omega);have bb:(i+1)*16<=70368744177664:=(by omega);have hri:rfa r[i]=[.int .i64 r[i].d,.int .i64 r[i].l]:=rfl;have hro:=Zjg (G:=R.G) r[i];rw[hri]at tk;unfold isa at hro;refine Qga ?_
   cases i with
   | zero =>
     have e0:rkT r 0=[]:=rfl;have w1:IntKind.i64.wrap 1=1:=rfl;rw[e0,List.nil_append]at tk;simp -implicitDefEqProofs[hi,isa];refine Ye.of hro (by simp[AV.pure]) ?_;simp -implicitDefEqProofs[w1];rw[tk]
     (refine Yn.sub (by simp[lk,Ya,AV.keys]) ?_;simp only[Wkl,and_true];(try simp[lk,Yd,Ya,AV.keys]))
   | succ i =>
     have k1:(i:Int)+1<r.length:=(by omega);have k2:((i:Int)+1).toNat=i+1:=(by omega);have k3:(0:Int)<=(i:Int)+1:=(by omega);have w1:IntKind.i64.wrap ((i:Int)+1+1)=(i:Int)+1+1:=Yg (by omega) (by omega);simp -implicitDefEqProofs[hi,k1,k2,k3,isa];refine Ye.of hro (by simp[AV.pure]) ?_;simp -implicitDefEqProofs[w1,k1,k2,k3,tl,bb];rw[<- tk]
     (refine Yn.sub (by simp[lk,Ya,AV.keys]) ?_;simp only[Wkl,Ziq,and_true];(try simp[lk,Yd,Ya,AV.keys]))
 . intro _;refine Qga ?_;by_cases hl0:r.length=0
   . have er:r=[]:=List.length_eq_zero_iff.1 hl0;have eA:rfA r = .nils:=(by rw[er];rfl);simp -implicitDefEqProofs[hl0];refine Qgr ?_;simp -implicitDefEqProofs[eA]
   . have er:¬r=[]:=λh=>hl0 (by rw[h];rfl)
     have eT:rkT r r.length=r.map rfa:=(by unfold rkT;rw[List.take_length]);have eA:rfA r = .vsl (r.map rfa):=(by unfold rfA;rw[if_neg er]);simp -implicitDefEqProofs[hl0,eT];refine Qgr ?_;simp -implicitDefEqProofs[eA,rfa]
end
structure BfI (E:List (Rf×Rf)) (l:List Rf) (y:Rf) (out:List Int):Prop where
 len:out.length=l.length
 ok:∀ (i:Nat) (v:Int) (x:Rf),out[i]? = some v->l[i]? = some x->0<=v/\v<=1048576/\(v=1048576∨pth E y v.toNat x=true)/\(x=y->v=0)
def rlx (l:List Rf) (out:List Int) (e:Rf×Rf):Prop:=∃ (ka kb:Nat) (va vb:Int),l[ka]? = some e.1/\l[kb]? = some e.2/\out[ka]? = some va/\out[kb]? = some vb/\vb+1<va
def NoR (E:List (Rf×Rf)) (l:List Rf) (out:List Int):Prop:=∀ e∈E,¬rlx l out e
def NoI (L:List Stq) (l:List Rf) (out:List Int) (i:Nat):Prop:=∀ j (h:j<L.length),j<i->¬rlx l out (frS L[j],toS L[j])
theorem NoI.all {L:List Stq} {l:List Rf} {out:List Int} (h:NoI L l out L.length):NoR (edg L) l out:=by
 intro e he;obtain ⟨x,hx,rfl⟩:=List.mem_map.1 he;obtain ⟨j,hj,rfl⟩:=List.getElem_of_mem hx;exact h j hj hj
theorem NoI.step {L:List Stq} {l:List Rf} {out:List Int} {i:Nat} (h:NoI L l out i) (hi:i<L.length) (h1:¬rlx l out (frS L[i],toS L[i])):NoI L l out (i+1):=by
 intro j hj hji;rcases Nat.lt_or_ge j i with q|q
 . exact h j hj q
 . obtain rfl:j=i:=(by omega);exact h1
theorem BfI.start {E:List (Rf×Rf)} {l:List Rf} {y:Rf} {k:Nat} (hn:l.Nodup) (hk:l[k]? = some y):BfI E l y ((List.replicate l.length 1048576).set k 0):=by
 refine ⟨by simp,λi v x hv hx=>?_⟩;have hi:i<l.length:=(List.getElem?_eq_some_iff.1 hx).1;rw[List.getElem?_set]at hv
 split at hv
 . rename_i e;subst e;rw[List.length_replicate,if_pos hi,Option.some.injEq]at hv;rw[hk,Option.some.injEq]at hx;subst hv;subst hx;exact ⟨by omega,by omega,.inr (by simp[pth]),λ_=>rfl⟩
 . rename_i e;rw[List.getElem?_replicate,if_pos hi,Option.some.injEq]at hv;subst hv;refine ⟨by omega,by omega,.inl rfl,?_⟩;rintro rfl;exact absurd ((List.getElem?_inj hi hn).1 (hx.trans hk.symm)) (λq=>e q.symm)
theorem BfI.step {E:List (Rf×Rf)} {l:List Rf} {y:Rf} {out:List Int} (h:BfI E l y out) (hn:l.Nodup) {e:Rf×Rf} (he:e∈E) {ka kb:Nat} {va vb:Int} (h1:l[ka]? = some e.1) (h2:l[kb]? = some e.2) (h3:out[ka]? = some va) (h4:out[kb]? = some vb) (h5:vb+1<va) :
  BfI E l y (out.set ka (vb+1)):=by
 refine ⟨by simp[h.len],λi v x hv hx=>?_⟩;rw[List.getElem?_set]at hv
 split at hv
 . rename_i q;subst q;have hi:ka<out.length:=(List.getElem?_eq_some_iff.1 h3).1;rw[if_pos hi,Option.some.injEq]at hv;subst hv;obtain ⟨a1,a2,a3,a4⟩:=h.ok kb vb _ h4 h2;obtain ⟨b1,b2,b3,b4⟩:=h.ok ka va x h3 hx;rw[h1,Option.some.injEq]at hx;subst hx;refine ⟨by omega,by omega,.inr ?_,λq=>?_⟩
   . rcases a3 with a3|a3
     . omega
     . rw[show (vb+1).toNat=vb.toNat+1 by omega];exact Zj1.2 ⟨e,he,rfl,a3⟩
   . have:=b4 q;omega
 . exact h.ok i v x hv hx
theorem BfI.fin {E:List (Rf×Rf)} {l:List Rf} {y:Rf} {out:List Int} (h:BfI E l y out) (hE:E.length<=1000) (hl:∀ e∈E,e.1∈l/\e.2∈l) (hr:∀ e∈E,¬rlx l out e):out=l.map (diV E y):=by
 have low:∀ (m:Nat) (i:Nat) (v:Int) (x:Rf),out[i]? = some v->l[i]? = some x->pth E y m x=true->v<=m:=by
  intro m
  induction m with
  | zero =>
    intro i v x hv hx hp;have:x=y:=(by simpa [pth] using hp);have:=(h.ok i v x hv hx).2.2.2 this;omega
  | succ m ih =>
    intro i v x hv hx hp;obtain ⟨e,he,rfl,hp2⟩:=Zj1.1 hp;obtain ⟨kb,hkb,hb⟩:=List.getElem_of_mem (hl e he).2;have hb':l[kb]? = some e.2:=(by rw[List.getElem?_eq_getElem hkb,hb]);have hkb2:kb<out.length:=(by rw[h.len];exact hkb);have h2:=ih kb _ _ (List.getElem?_eq_getElem hkb2) hb' hp2;rcases Int.lt_or_le (out[kb]+1) v with h3|h3
    . exact absurd ⟨i,kb,v,out[kb],hx,hb',hv,List.getElem?_eq_getElem hkb2,h3⟩ (hr e he)
    . omega
 refine List.ext_getElem? λi=>?_
 rw[List.getElem?_map];by_cases hi:i<l.length
 . have hi2:i<out.length:=(by rw[h.len];exact hi);rw[List.getElem?_eq_getElem hi2,List.getElem?_eq_getElem hi,Option.map_some,Option.some.injEq];obtain ⟨a1,a2,a3,-⟩:=h.ok i _ _ (List.getElem?_eq_getElem hi2) (List.getElem?_eq_getElem hi);have hlow:=λm=>low m i _ _ (List.getElem?_eq_getElem hi2) (List.getElem?_eq_getElem hi)
   unfold diV
   cases q:diN E y l[i] with
   | none =>
     rcases a3 with a3|a3
     . exact a3
     . rw[Zj6.1 q]at a3;cases a3
   | some n =>
     have hm:=Zj5.1 q;have hle:=md_le hm;have h1:=hlow n hm.1;rcases a3 with a3|a3
     . omega
     . have h2:n<=out[i].toNat:=by
        rcases Nat.lt_or_ge out[i].toNat n with h2|h2
        . have:=hm.2 _ h2;rw[a3]at this;cases this
        . exact h2
       simp only;omega
 . rw[List.getElem?_eq_none (by rw[h.len];omega),List.getElem?_eq_none (by omega)];rfl
section
variable {G:Nat->Option (List AV)}
end
section
variable {r:List Iss}
theorem Zji (h:Zbt r=true) {i:Nat} (hi:i+1<r.length):r[i].d<r[i+1].d/\r[i+1].l=1∨r[i].d=r[i+1].d/\r[i+1].l=r[i].l+1:=by
 simp only[Zbt,Bool.and_eq_true]at h;have h1:=Zbq.1 h.1.1.2 (i+1) hi;have e1:at' r (i+1)=r[i+1]:=(by simp[at',List.getD_eq_getElem?_getD,hi]);have e2:at' r i=r[i]:=(by simp[at',List.getD_eq_getElem?_getD,show i<r.length by omega]);simp only[ordB,e1,e2]at h1
 split at h1
 . cases h1
 . split at h1
   . exact .inl ⟨‹_›,of_decide_eq_true h1⟩
   . simp only[Bool.and_eq_true,decide_eq_true_eq]at h1;exact .inr ⟨by omega,h1.1⟩
theorem Zjj (h:Zbt r=true):∀ (n i:Nat) (hj:i+1+n<r.length),r[i].d<r[i+1+n].d∨r[i].d=r[i+1+n].d/\r[i].l<r[i+1+n].l
 | 0,i,hj=>by
   have q:=Zji h (i:=i) hj;simp only[Nat.add_zero];omega
 | n+1,i,hj=>by
   have h1:=Zjj h n i (by omega);have h2:=Zji h (i:=i+1+n) hj;have e:i+1+(n+1)=i+1+n+1:=(by omega);simp only[e];rcases h1 with q|q <;> rcases h2 with q2|q2 <;> omega
theorem Zjk (h:Zbt r=true):(rfs r).Nodup:=by
 refine List.nodup_iff_pairwise_ne.2 (List.pairwise_iff_getElem.2 λi j hi hj hij=>?_);simp only[rfs,List.length_map]at hi hj;obtain ⟨n,rfl⟩ : ∃ n,j=i+1+n:=⟨j-i-1,by omega⟩;have:=Zjj h n i hj;simp only[rfs,List.getElem_map,ne_eq,Prod.mk.injEq];omega
theorem Zjl {d l:Int}:knB r d l=true↔(d,l)∈rfs r:=by
 unfold knB;rw[Zih,List.any_eq_true];simp only[rfp,decide_eq_true_eq,rfs,List.mem_map,Prod.mk.injEq]
theorem Zjm (h:Zbt r=true) {d l:Int} (hm:(d,l)∈rfs r):1<=l/\l<=8:=by
 obtain ⟨x,hx,e⟩:=List.mem_map.1 hm;rw[Prod.mk.injEq]at e;obtain ⟨rfl,rfl⟩:=e;simp only[Zbt,Bool.and_eq_true]at h;have h1:=List.all_eq_true.1 h.1.1.1.2 x hx;simp only[issB,headB,Bool.and_eq_true]at h1;have h2:=h1.1.1.1.1.2;simp only[inR,decide_eq_true_eq]at h2;exact h2
theorem Zjn (h:Zbt r=true):r.length<=60:=by
 simp only[Zbt,Bool.and_eq_true,inR,decide_eq_true_eq]at h;omega
theorem Zjo {l:List Nte} {q:List Rul} (h:chS r l q=0):Zbt r=true:=by
 have h1:=(ZhP h).1
 have ho:openV r=0:=by
  unfold chN at h1
  split at h1
  . assumption
  . exact absurd h1 ‹_›
 exact Zdm ho
end
end Go.Proofs.YtjogcghofinemaaGreatDoor
