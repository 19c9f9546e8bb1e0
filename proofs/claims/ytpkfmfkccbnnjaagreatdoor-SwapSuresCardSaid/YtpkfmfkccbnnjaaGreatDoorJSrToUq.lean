/-
  What the program's iterator over steps yields.
-/
import Derived.Test.YtpkfmfkccbnnjaaGreatDoorJSgToAmT
import Derived.Test.YtpkfmfkccbnnjaaGreatDoorJEdToNl
import Derived.Test.YtpkfmfkccbnnjaaGreatDoorJRcUToEc
import Derived.Test.YtpkfmfkccbnnjaaGreatDoorJAmPToAmR
import Derived.Test.YtpkfmfkccbnnjaaGreatDoorProg
import Derived.Test.YtpkfmfkccbnnjaaGreatDoorJAmHToAmO
import Derived.Test.YtpkfmfkccbnnjaaGreatDoorJOpenToOpen
import Derived.Test.YtpkfmfkccbnnjaaGreatDoorJRowToRow
set_option linter.all false
set_option linter.unusedSimpArgs false
set_option linter.unusedVariables false
set_option linter.unusedSectionVars false
namespace Go.Proofs.YtpkfmfkccbnnjaaGreatDoor
open Go.RowKit
def lpB:RCode→RCode
 |.loop b=>b
 |c=>c
def K2s:List AV:=[.func (.func 191) [] [],.func (.func 192) [] []]
def GQ (G:Nat→Option (List AV)):Prop:=G 0=some K2s
def ouT (mo:List AV) (l i:Nat):List (Nat×AV):=[(8,.int .i64 i),(7,.agg K2s),(1,.vptr mo 0),(0,.func (.yield l) [] [])]
def inT (mo:List AV) (L:List Stq) (l i j:Nat):List (Nat×AV):=(16,.int .i64 j)::(15,.int .i64 L.length)::(14,orNil (L.map sa))::ouT mo l i
def rcO:RCode:=lpB (issBk (ZbB Z6D))
def rcO3:RCode:=ZbB (ZbB rcO)
def rcB1:RCode:=issBk (issA rcO3)
def rcI:RCode:=lpB (issBk (ZbB (ZbB rcB1)))
def rcI3:RCode:=ZbB (ZbB rcI)
def rcB3:RCode:=issBk (issA rcI3)
section
variable {G:Nat→Option (List AV)}
set_option maxHeartbeats 2000000 in
theorem ZjU (hQ:GQ G) (mo:List AV) (hmo:∀ x∈mo,x.pure=true) (hml:mo.length=4) (Ls:Nat→List Stq) (hl:∀ i,(Ls i).length≤100)
  (h0:PC Tryz.prog G 191 [.agg mo] (orNil ((Ls 0).map sa))) (h1:PC Tryz.prog G 192 [.agg mo] (orNil ((Ls 1).map sa))) :
  IterG Tryz.prog G 81 [.vptr mo 0] ((Ls 0++Ls 1).map fun x=>.agg (sa x)):=by
 refine ⟨by kernel_rfl,?_⟩
 intro n' l lb J K M W hn hJe hKe hJM hJG hC hY hJ0
 obtain ⟨off,hoff⟩ : ∃ off:Nat→Nat,off=fun i=>if i=0 then 0 else if i=1 then (Ls 0).length else (Ls 0).length+(Ls 1).length:=⟨_,rfl⟩
 obtain ⟨c,hc,hok⟩ : ∃ c,Tryz.f81.body=some c∧Z1A Tryz.prog Tryz.f81.ntmps c Z6D=true:=⟨_,rfl,by kernel_rfl⟩
 obtain ⟨N,hN⟩ : ∃ N,N=Tryz.f81.ntmps:=⟨_,rfl⟩
 have hN3:3≤N:=by rw [hN];decide
 rw [← hN]at hok
 refine callsIn_of_wp (F:=Fence.wide) Tryz.func81 hc trivial ?_ rfl
 have hres:∀ (tm:Array Value) (W':World),(results Tryz.f81 tm).run Tryz.prog W' = .ok (.tuple #[]) W':=fun tm W'=>by
  have e:Tryz.f81.results = #[]:=rfl
  simp [results,e,Sem.run_bind]
 obtain ⟨tot,htot⟩ : ∃ tot,tot=((Ls 0++Ls 1).map fun x=>AV.agg (sa x)).length:=⟨_,rfl⟩
 rw [← htot]
 have htot2:tot=(Ls 0).length+(Ls 1).length:=by rw [htot];simp
 obtain ⟨Q,hQd⟩ : ∃ Q,Q=bodyPost Tryz.prog Tryz.f81 (fun e W'=>(∃ v,e = .returned v)∧((∃ M,J tot M W')∨K W')):=⟨_,rfl⟩
 have hfin:∀ (a:Act) (W':World),a.defers=[]→((∃ M,J tot M W')∨K W')→Q .ret a W'∧Q .normal a W':=fun a W' hd h=>by
  rw [hQd];exact ⟨⟨hd,_,hres _ _,⟨_,rfl⟩,h⟩,⟨hd,_,hres _ _,⟨_,rfl⟩,h⟩⟩
 rw [← hQd]
 have hwide:Fence.wide=FW none:=rfl
 rw [hwide]
 obtain ⟨cA,c1,rfl,okA',ok1⟩:=Zbn (a:=issA Z6D) (b:=ZbB Z6D) hok
 obtain ⟨c3,rfl,ok3⟩:=Zbo (id:=0) (a:=issBk (ZbB Z6D)) ok1
 obtain ⟨c4,rfl,ok4⟩:=Zbp (a:=rcO) ok3
 have hv:∃ v1,lb = #[v1]∧PV M W (.vptr mo 0) v1:=by
  obtain ⟨q1,q2⟩:=hC
  match lb,q1,q2 with
  | ⟨[v1]⟩,_,q2=>exact ⟨v1,rfl,q2 0 _ v1 rfl rfl⟩
 obtain ⟨v1,rfl,hv1⟩:=hv
 have start:SR (ZjS G M W N none) ⟨[(1,.vptr mo 0),(0,.func (.yield l) [] [])],[]⟩ { tmps:=(#[.func (.yield l) #[] #[]] ++ #[v1]:Array Value)++Array.replicate (N-2) Go.undef,defers:=[] } W:=by
  refine ZjT (hJG 0 M W hJ0) (hJM 0 M W hJ0) rfl (by simp;omega) fun k x hx=>?_
  have g0:((#[.func (.yield l) #[] #[]] ++ #[v1]:Array Value)++Array.replicate (N-2) Go.undef).getD 0 Go.undef = .func (.yield l) #[] #[]:=by simp [Array.getD]
  have g1:((#[.func (.yield l) #[] #[]] ++ #[v1]:Array Value)++Array.replicate (N-2) Go.undef).getD 1 Go.undef=v1:=by simp [Array.getD];omega
  simp only [lk]at hx
  split at hx
  · rename_i e;subst e;cases hx;rw [g1];exact hv1
  · split at hx
    · rename_i e;subst e;cases hx;rw [g0];exact .func _ [] [] #[] #[] rfl rfl (by simp) (by simp)
    · cases hx
 have hact:({ tmps:=(#[.func (.yield l) #[] #[]] ++ #[v1]:Array Value)++Array.replicate (Tryz.f81.ntmps-(#[.func (.yield l) #[] #[]] ++ #[v1]:Array Value).size) Go.undef,defers:=[] }:Act)={ tmps:=(#[.func (.yield l) #[] #[]] ++ #[v1]:Array Value)++Array.replicate (N-2) Go.undef,defers:=[] }:=by rw [hN];rfl
 rw [hact]
 have pm:(AV.vptr mo 0).pure=true:=by simp [AV.pure]
 have arA:AR Tryz.prog (ZjS G M W N none) (issA Z6D) ⟨[(1,.vptr mo 0),(0,.func (.yield l) [] [])],[]⟩ (fun e s=>e = .normal∧Weak s ⟨ouT mo l 0,[]⟩):=by
  refine GO_AR mixed 1000 ?_
  unfold GQ at hQ
  simp -implicitDefEqProofs [issA,Z6D,ZjS,hQ,K2s,ouT]
  exact (by (first|exact Weak.tm (by simp [lk])|exact Weak.sub (by simp [lk,keptA,AV.keys]) (by simp [lk,keptO,keptA,AV.keys])))
 refine wpIn_seq (wpIn_mono (arA cA okA' _ _ W start) ?_)
 rintro e a2 W2 ⟨s2,⟨rfl,hw2⟩,hs2⟩
 obtain ⟨d2,n2,t2,e2⟩:=endG hs2 hw2 (by simp [ouT,K2s,AV.pure])
 have hJ2:=hJe _ _ _ _ hJ0 e2
 refine wpIn_block ?_
 refine wpIn_loop_ghost (fun m a A=>∃ i M,i≤2∧m=2-i∧J (off i) M A∧a.defers=[]∧a.tmps.size=N∧TT' M A (ouT mo l i) a) 2 ⟨0,M,by omega,rfl,by rw [hoff];exact hJ2,d2,n2,t2⟩ ?_
 rintro m a A ⟨i,M,hi,rfl,hJ,hd,hn2,ht⟩
 have hfr:SR (ZjS G M A N none) ⟨ouT mo l i,[]⟩ a A:=ZjT (hJG _ M A hJ) (hJM _ M A hJ) hd hn2 ht
 have kO:off 2=tot:=by rw [hoff,htot2];simp
 by_cases hlt:i<2
 case neg =>
  obtain rfl:i=2:=by omega
  have ar:AR Tryz.prog (ZjS G M A N none) rcO ⟨ouT mo l 2,[]⟩ (fun e s=>e = .exit 0∧Weak s ⟨[],[]⟩):=by
   refine GO_AR mixed 1000 ?_
   simp -implicitDefEqProofs [rcO,lpB,issBk,ZbB,Z6D,ouT]
   exact (by (first|exact Weak.tm (by simp [lk])|exact Weak.sub (by simp [lk,keptA,AV.keys]) (by simp [lk,keptO,keptA,AV.keys])))
  refine wpIn_mono (ar c4 ok4 _ a A hfr) ?_
  rintro e a3 A3 ⟨s3,⟨rfl,hw3⟩,hs3⟩
  obtain ⟨d3,-,-,e3⟩:=endG hs3 hw3 (by simp)
  refine (hfin a3 A3 d3 (.inl ⟨M,?_⟩)).2
  rw [← kO];exact hJe _ _ _ _ hJ e3
 obtain ⟨r1,q1,rfl,okr1,okq1⟩:=Zbn (a:=issA rcO) (b:=ZbB rcO) ok4
 obtain ⟨k1,q2,rfl,okk1,okq2⟩:=Zbn (a:=issA (ZbB rcO)) (b:=rcO3) okq1
 obtain ⟨q3,r8,rfl,okq3,okr8⟩:=Zbn (a:=issA rcO3) (b:=ZbB rcO3) okq2
 obtain ⟨q4,rfl,okq4⟩:=Zbo (id:=1) (a:=rcB1) okq3
 obtain ⟨r2,q5,rfl,okr2,okq5⟩:=Zbn (a:=issA rcB1) (b:=ZbB rcB1) okq4
 obtain ⟨r3,q6,rfl,okr3,okq6⟩:=Zbn (a:=issA (ZbB rcB1)) (b:=ZbB (ZbB rcB1)) okq5
 obtain ⟨q7,rfl,okq7⟩:=Zbo (id:=2) (a:=issBk (ZbB (ZbB rcB1))) okq6
 obtain ⟨cI,rfl,okI⟩:=Zbp (a:=rcI) okq7
 have i01:i=0∨i=1:=by omega
 have ar1:AR Tryz.prog (ZjS G M A N none) (issA rcO) ⟨ouT mo l i,[]⟩ (fun e s=>e = .normal∧Weak s ⟨(9,.bool true)::ouT mo l i,[]⟩):=by
  have:(i:Int)<2:=by omega
  refine GO_AR mixed 1000 ?_
  simp -implicitDefEqProofs [rcO,lpB,issA,issBk,ZbB,Z6D,ouT,this]
  exact (by (first|exact Weak.tm (by simp [lk,K2s])|exact Weak.sub (by simp [lk,keptA,AV.keys,K2s]) (by simp [lk,keptO,keptA,AV.keys,K2s])))
 refine wpIn_seq (wpIn_mono (ar1 r1 okr1 _ a A hfr) ?_)
 rintro e b1 B1 ⟨s1,⟨rfl,w1⟩,hs1⟩
 have ark:AR Tryz.prog (ZjS G M A N none) (issA (ZbB rcO)) ⟨(9,.bool true)::ouT mo l i,[]⟩ (fun e s=>e = .normal∧Weak s ⟨ouT mo l i,[]⟩):=by
  refine GO_AR mixed 1000 ?_
  simp -implicitDefEqProofs [rcO,lpB,issA,issBk,ZbB,Z6D,ouT]
  exact (by (first|exact Weak.tm (by simp [lk,K2s])|exact Weak.sub (by simp [lk,keptA,AV.keys,K2s]) (by simp [lk,keptO,keptA,AV.keys,K2s])))
 refine wpIn_seq (wpIn_mono (ark k1 okk1 _ b1 B1 (w1 _ _ _ hs1)) ?_)
 rintro e b2 B2 ⟨s2,⟨rfl,w2⟩,hs2⟩
 refine wpIn_seq (wpIn_block ?_)
 have ar2:AR Tryz.prog (ZjS G M A N none) (issA rcB1) ⟨ouT mo l i,[]⟩ (fun e s=>e = .normal∧Weak s ⟨(4,.ptr 4 0)::ouT mo l i,[(4,.box [K2s.getD i .nilf])]⟩):=by
  refine GO_AR mixed 1000 ?_
  rcases i01 with rfl|rfl
  all_goals
   simp -implicitDefEqProofs [rcB1,rcO3,rcO,lpB,issA,issBk,ZbB,Z6D,ouT,K2s]
   exact (by (first|exact Weak.tm (by simp [lk])|exact Weak.sub (by simp [lk,keptA,AV.keys]) (by simp [lk,keptO,keptA,AV.keys])))
 refine wpIn_seq (wpIn_mono (ar2 r2 okr2 _ b2 B2 (w2 _ _ _ hs2)) ?_)
 rintro e b3 B3 ⟨s3,⟨rfl,w3⟩,hs3⟩
 have ar3:AR Tryz.prog (ZjS G M A N none) (issA (ZbB rcB1)) ⟨(4,.ptr 4 0)::ouT mo l i,[(4,.box [K2s.getD i .nilf])]⟩ (fun e s=>e = .normal∧Weak s ⟨inT mo (Ls i) l i 0,[]⟩):=by
  have pL:=Zee (l:=(Ls i).map sa) (by simp [sa,AV.pure])
  have kL:=Zef ((Ls i).map sa)
  refine GO_AR mixed 1000 ?_
  match mo,hml,hmo with
  | [x1,x2,x3,x4],_,hmo =>
    rcases i01 with rfl|rfl
    · simp -implicitDefEqProofs [rcB1,rcO3,rcO,lpB,issA,issBk,ZbB,Z6D,ouT,K2s,ZjS]
      refine CallK.of h0 (by simpa [AV.pure] using hmo) ?_
      by_cases c:Ls 0=[]
      · simp -implicitDefEqProofs [orNil,c]
        simp only [inT,ouT,orNil,c]
        ((try simp only [K2s]);refine Weak.sub (by simp [lk,keptA,AV.keys,K2s]) ?_;simp only [K2s,Wkl,and_true];(try simp [lk,keptO,keptA,AV.keys,K2s]))
      · have ev:orNil ((Ls 0).map sa) = .vsl ((Ls 0).map sa):=by simp [orNil,c]
        simp -implicitDefEqProofs [ev]
        simp only [inT,ouT,ev]
        ((try simp only [K2s]);refine Weak.sub (by simp [lk,keptA,AV.keys,K2s]) ?_;simp only [K2s,Wkl,and_true];(try simp [lk,keptO,keptA,AV.keys,K2s]))
    · simp -implicitDefEqProofs [rcB1,rcO3,rcO,lpB,issA,issBk,ZbB,Z6D,ouT,K2s,ZjS]
      refine CallK.of h1 (by simpa [AV.pure] using hmo) ?_
      by_cases c:Ls 1=[]
      · simp -implicitDefEqProofs [orNil,c]
        simp only [inT,ouT,orNil,c]
        ((try simp only [K2s]);refine Weak.sub (by simp [lk,keptA,AV.keys,K2s]) ?_;simp only [K2s,Wkl,and_true];(try simp [lk,keptO,keptA,AV.keys,K2s]))
      · have ev:orNil ((Ls 1).map sa) = .vsl ((Ls 1).map sa):=by simp [orNil,c]
        simp -implicitDefEqProofs [ev]
        simp only [inT,ouT,ev]
        ((try simp only [K2s]);refine Weak.sub (by simp [lk,keptA,AV.keys,K2s]) ?_;simp only [K2s,Wkl,and_true];(try simp [lk,keptO,keptA,AV.keys,K2s]))
 refine wpIn_seq (wpIn_mono (ar3 r3 okr3 _ b3 B3 (w3 _ _ _ hs3)) ?_)
 rintro e b4 B4 ⟨s4,⟨rfl,w4⟩,hs4⟩
 have pI:∀ j,∀ p∈inT mo (Ls i) l i j,p.2.pure=true:=fun j p hp=>by
  have pL:=Zee (l:=(Ls i).map sa) (by simp [sa,AV.pure])
  simp only [inT,ouT,List.mem_cons,List.not_mem_nil,or_false]at hp
  rcases hp with rfl|rfl|rfl|rfl|rfl|rfl|rfl <;> simp [AV.pure,pL,K2s]
 obtain ⟨d4,n4,t4,e4⟩:=endG hs4 w4 (pI 0)
 have hJ4:=hJe _ _ _ _ hJ e4
 clear hs1 hs2 hs3 hs4 w1 w2 w3 w4 ar1 ar2 ar3 ark start hact
 refine wpIn_block ?_
 refine wpIn_loop_ghost (fun m a A=>∃ j M,j≤(Ls i).length∧m=(Ls i).length-j∧J (off i+j) M A∧a.defers=[]∧a.tmps.size=N∧TT' M A (inT mo (Ls i) l i j) a) (Ls i).length ⟨0,M,Nat.zero_le _,rfl,hJ4,d4,n4,t4⟩ ?_
 clear hJ4 d4 n4 t4 e4
 rintro m5 a5 A5 ⟨j,M5,hj,rfl,hJ5,hd5,hn5,ht5⟩
 have hfr5:SR (ZjS G M5 A5 N none) ⟨inT mo (Ls i) l i j,[]⟩ a5 A5:=ZjT (hJG _ M5 A5 hJ5) (hJM _ M5 A5 hJ5) hd5 hn5 ht5
 have kN:off i+(Ls i).length=off (i+1):=by rw [hoff];rcases i01 with rfl|rfl <;> simp
 by_cases hj2:j<(Ls i).length
 case neg =>
  obtain rfl:j=(Ls i).length:=by omega
  have ar:AR Tryz.prog (ZjS G M5 A5 N none) rcI ⟨inT mo (Ls i) l i (Ls i).length,[]⟩ (fun e s=>e = .exit 2∧Weak s ⟨ouT mo l i,[]⟩):=by
   refine GO_AR mixed 1000 ?_
   simp -implicitDefEqProofs [rcI,rcB1,rcO3,rcO,lpB,issA,issBk,ZbB,Z6D,inT,ouT]
   exact (by (first|exact Weak.tm (by simp [lk,K2s])|exact Weak.sub (by simp [lk,keptA,AV.keys,K2s]) (by simp [lk,keptO,keptA,AV.keys,K2s])))
  refine wpIn_mono (ar cI okI _ a5 A5 hfr5) ?_
  rintro e a6 A6 ⟨s6,⟨rfl,w6⟩,hs6⟩
  have ar8:AR Tryz.prog (ZjS G M5 A5 N none) (ZbB rcO3) ⟨ouT mo l i,[]⟩ (fun e s=>e = .normal∧Weak s ⟨ouT mo l (i+1),[]⟩):=by
   have w1:IntKind.i64.wrap ((i:Int)+1)=((i+1:Nat):Int):=wrapI (by omega) (by omega)
   refine GO_AR mixed 1000 ?_
   simp -implicitDefEqProofs [rcO3,rcO,lpB,issA,issBk,ZbB,Z6D,ouT,w1]
   exact (by (first|exact Weak.tm (by simp [lk,K2s])|exact Weak.sub (by simp [lk,keptA,AV.keys,K2s]) (by simp [lk,keptO,keptA,AV.keys,K2s])))
  refine wpIn_mono (ar8 r8 okr8 _ a6 A6 (w6 _ _ _ hs6)) ?_
  rintro e a7 A7 ⟨s7,⟨rfl,w7⟩,hs7⟩
  obtain ⟨d7,n7,t7,e7⟩:=endG hs7 w7 (by simp [ouT,K2s,AV.pure])
  rw [kN]at hJ5
  exact ⟨2-(i+1),by omega,i+1,M5,by omega,rfl,hJe _ _ _ _ hJ5 e7,d7,n7,t7⟩
 obtain ⟨x,hx⟩ : ∃ x,x=(Ls i)[j]:=⟨_,rfl⟩
 have hLj:(Ls i)[j]=x:=hx.symm
 have hne:¬Ls i=[]:=fun h=>by rw [h]at hj2;simp at hj2
 have ev:orNil ((Ls i).map sa) = .vsl ((Ls i).map sa):=by simp [orNil,hne]
 have hsa:sa x=[.int .i64 x.fd,.int .i64 x.fl,.int .i64 x.td,.int .i64 x.tl,.int .i64 x.nu,.bool x.nt]:=rfl
 have helt:((Ls 0++Ls 1).map fun x=>AV.agg (sa x))[off i+j]? = some (.agg (sa x)):=by
  rw [hoff]
  rcases i01 with rfl|rfl
  · simp only [if_true,Nat.zero_add,List.getElem?_map]
    rw [List.getElem?_append_left hj2,List.getElem?_eq_getElem hj2,hLj];rfl
  · have eo:(if (1:Nat)=0 then 0 else if (1:Nat)=1 then (Ls 0).length else (Ls 0).length+(Ls 1).length)=(Ls 0).length:=rfl
    show (List.map (fun x=>AV.agg (sa x)) (Ls 0++Ls 1))[(if (1:Nat)=0 then 0 else if (1:Nat)=1 then (Ls 0).length else (Ls 0).length+(Ls 1).length)+j]? = _
    rw [eo,List.getElem?_map,List.getElem?_append_right (by omega),Nat.add_sub_cancel_left,List.getElem?_eq_getElem hj2,hLj];rfl
 obtain ⟨p1,u1,rfl,okp1,oku1⟩:=Zbn (a:=issA rcI) (b:=ZbB rcI) okI
 obtain ⟨kk,u2,rfl,okkk,oku2⟩:=Zbn (a:=issA (ZbB rcI)) (b:=rcI3) oku1
 obtain ⟨u3,r7,rfl,oku3,okr7⟩:=Zbn (a:=issA rcI3) (b:=ZbB rcI3) oku2
 obtain ⟨u4,rfl,oku4⟩:=Zbo (id:=3) (a:=rcB3) oku3
 obtain ⟨r5,u5,rfl,okr5,oku5⟩:=Zbn (a:=issA rcB3) (b:=ZbB rcB3) oku4
 obtain ⟨r6,k2,rfl,okr6,okk2⟩:=Zbn (a:=issA (ZbB rcB3)) (b:=ZbB (ZbB rcB3)) oku5
 obtain ⟨ops,rfl,hops⟩:=Zbq (id:=6) (rs:=ZbC (issA (ZbB rcB3))) okr6
 obtain ⟨hol,hoo⟩:=Zc hops
 have hol:ops.size=4:=hol
 have ar4:AR Tryz.prog (ZjS G M5 A5 N none) (issA rcI) ⟨inT mo (Ls i) l i j,[]⟩ (fun e s=>e = .normal∧Weak s ⟨(17,.bool true)::inT mo (Ls i) l i j,[]⟩):=by
  refine GO_AR mixed 1000 ?_
  simp -implicitDefEqProofs [rcB3,rcI3,rcI,rcB1,rcO3,rcO,lpB,issA,issBk,ZbB,Z6D,inT,ouT,ev,hj2]
  exact (by (first|exact Weak.tm (by simp [lk,K2s])|exact Weak.sub (by simp [lk,keptA,AV.keys,K2s]) (by simp [lk,keptO,keptA,AV.keys,K2s])))
 refine wpIn_seq (wpIn_mono (ar4 p1 okp1 _ a5 A5 hfr5) ?_)
 rintro e b1 B1 ⟨s1,⟨rfl,w1⟩,hs1⟩
 have ark:AR Tryz.prog (ZjS G M5 A5 N none) (issA (ZbB rcI)) ⟨(17,.bool true)::inT mo (Ls i) l i j,[]⟩ (fun e s=>e = .normal∧Weak s ⟨inT mo (Ls i) l i j,[]⟩):=by
  refine GO_AR mixed 1000 ?_
  simp -implicitDefEqProofs [rcB3,rcI3,rcI,rcB1,rcO3,rcO,lpB,issA,issBk,ZbB,Z6D,inT,ouT,ev]
  exact (by (first|exact Weak.tm (by simp [lk,K2s])|exact Weak.sub (by simp [lk,keptA,AV.keys,K2s]) (by simp [lk,keptO,keptA,AV.keys,K2s])))
 refine wpIn_seq (wpIn_mono (ark kk okkk _ b1 B1 (w1 _ _ _ hs1)) ?_)
 rintro e b2 B2 ⟨s2,⟨rfl,w2⟩,hs2⟩
 refine wpIn_seq (wpIn_block ?_)
 have ar5:AR Tryz.prog (ZjS G M5 A5 N none) (issA rcB3) ⟨inT mo (Ls i) l i j,[]⟩ (fun e s=>e = .normal∧Weak s ⟨(6,.ptr 6 0)::inT mo (Ls i) l i j,[(6,.box (sa x))]⟩):=by
  refine GO_AR mixed 1000 ?_
  simp -implicitDefEqProofs [rcB3,rcI3,rcI,rcB1,rcO3,rcO,lpB,issA,issBk,ZbB,Z6D,inT,ouT,ev,hj2,hLj,hsa]
  exact (by (first|exact Weak.tm (by simp [lk,K2s])|exact Weak.sub (by simp [lk,keptA,AV.keys,K2s]) (by simp [lk,keptO,keptA,AV.keys,K2s])))
 refine wpIn_seq (wpIn_mono (ar5 r5 okr5 _ b2 B2 (w2 _ _ _ hs2)) ?_)
 rintro e b3 B3 ⟨s3,⟨rfl,w3⟩,hs3⟩
 have hs3:=w3 _ _ _ hs3
 clear hs1 hs2 w1 w2 w3 ar4 ark ar5
 refine wpIn_seq (wpIn_region ?_)
 have hrg:List.range ops.size=[0,1]++[2,3]:=by rw [hol];rfl
 rw [hrg]
 have okAt:∀ (k:Nat) (r:ROper),(ZbC (issA (ZbB rcB3)))[k]? = some r→∃ o,ops[k]? = some o∧Z1z Tryz.prog N ops o r=true:=fun k r hk=>by
  have hlt:k<ops.size:=by
   have:=(List.getElem?_eq_some_iff.1 hk).1
   rw [hol];exact this
  exact ⟨ops[k],by simp [hlt],hoo k _ r (by simp [hlt]) hk⟩
 refine Zbr (R:=ZjS G M5 A5 N none) [2,3] _ ((ZbC (issA (ZbB rcB3))).take 2) ⟨(6,.ptr 6 0)::inT mo (Ls i) l i j,[(6,.box (sa x))]⟩
  (fun s=>Weak s ⟨(21,.agg (sa x))::(20,.func (.yield l) [] [])::inT mo (Ls i) l i j,[]⟩) b3 B3 ?_ rfl ?_ ?_ hs3
 · intro k r hk
   rw [List.getElem?_take]at hk
   split at hk
   · rename_i h7
     obtain ⟨o,h1,h2⟩:=okAt k r hk
     refine ⟨k,o,?_,h1,h2⟩
     match k,h7 with
     |0,_|1,_=>rfl
   · cases hk
 · intro s4 b4 B4 w4 hs4
   obtain ⟨κ4,hk4⟩:=w4 _ _ _ hs4
   obtain ⟨d4,n4,t4,e4⟩:=endG hs4 w4 (fun p hp=>by
    rcases List.mem_cons.1 hp with rfl|hp
    · simp [AV.pure,sa]
    · rcases List.mem_cons.1 hp with rfl|hp
      · simp [AV.pure]
      · exact pI j p hp)
   obtain ⟨o2,ho2,hk2⟩:=okAt 2 _ rfl
   rw [wpOpsIn_cons]
   refine Zbv (R:=ZjS G M5 A5 N none) (l:=l) (f:=.t 20) (y:=.t 21) rfl (by simp [evA,St.tmp,lk]) (by simp [wants]) ho2 hk2 hk4 fun u hu=>?_
   have hpu:PV M5 B4 (.agg (sa x)) u:=by
    have h21:evA (ZjS G M5 A5 N none).G ⟨(21,.agg (sa x))::(20,.func (.yield l) [] [])::inT mo (Ls i) l i j,[]⟩ (.t 21) = .agg (sa x):=by simp [evA,St.tmp,lk]
    rw [h21]at hu
    exact (hu.toPV (by simp [AV.pure,sa])).mono (fun b _ hb=>⟨fun h=>hb (.inl h),rfl⟩) (Nat.le_refl _)
   have hdst:o2.dst=some 22:=by
    simp only [Z1z,Bool.and_eq_true,decide_eq_true_eq]at hk2
    exact hk2.1.1.1
   have suffix:∀ (b:Bool) (T:List (Nat×AV)) (G':Nat→Option (List AV)) (M':Nat→Prop) (A':World),GR G' M' A'→(T=inT mo (Ls i) l i j∨T=[])→(∀ x,M' x→x<A'.heap.size)→TT' M' A' T b4→∀ (Qx:Exit→Act→World→Prop),
     (∀ a5 A5,SR (ZjS G' M' A' N none) ⟨(23,.bool (!b))::T,[]⟩ a5 A5→Qx .normal a5 A5)→wpOpsIn (FW none) n' Tryz.prog ops Qx [3] (b4.put (some 22) (.bool b)) A':=by
    intro b T G' M' A' hGR hTT hM' hT Qx hQx
    have n22:22<N:=by rw [hN];decide
    have hsr:SR (ZjS G' M' A' N none) ⟨(22,.bool b)::T,[]⟩ (b4.put (some 22) (.bool b)) A':=by
     refine ZjT hGR hM' d4 (by simpa [Act.put] using n4) fun k x hx=>?_
     show PV M' A' x ((b4.tmps.setIfInBounds 22 (.bool b)).getD k Go.undef)
     simp only [lk]at hx
     split at hx
     · rename_i e
       subst e
       cases hx
       have:(b4.tmps.setIfInBounds 22 (.bool b)).getD 22 Go.undef = .bool b:=by simp [Array.getD,n4,n22]
       rw [this];exact .bool b
     · rename_i e
       have h3:(b4.tmps.setIfInBounds 22 (.bool b)).getD k Go.undef=b4.tmps.getD k Go.undef:=by
        simp only [Array.getD_eq_getD_getElem?,Array.getElem?_setIfInBounds,if_neg e]
       rw [h3]
       exact hT k x hx
    refine Z27 (R:=ZjS G' M' A' N none) [3] ((ZbC (issA (ZbB rcB3))).drop 3) ⟨(22,.bool b)::T,[]⟩
     (fun e s=>e = .normal∧Weak s ⟨(23,.bool (!b))::T,[]⟩) Qx _ A' ?_ rfl ?_ ?_ hsr
    · intro k r hk
      rw [List.getElem?_drop]at hk
      obtain ⟨o,h1,h2⟩:=okAt (3+k) r hk
      have h7:k<1:=by
       have:=(List.getElem?_eq_some_iff.1 hk).1
       have e:(ZbC (issA (ZbB rcB3))).length=4:=rfl
       omega
      refine ⟨3+k,o,?_,h1,h2⟩
      match k,h7 with
      |0,_=>rfl
    · rintro e s5 a5 A5 ⟨rfl,w5⟩ hs5
      exact hQx a5 A5 (w5 _ _ _ hs5)
    · rcases hTT with rfl|rfl <;> cases b
      all_goals
       simp -implicitDefEqProofs [rcB3,rcI3,rcI,rcB1,rcO3,rcO,lpB,issA,issBk,ZbB,Z6D,inT,ouT,ZbC,ev]
       exact (by (first|exact Weak.tm (by simp [lk,K2s])|exact Weak.sub (by simp [lk,keptA,AV.keys,K2s]) (by simp [lk,keptO,keptA,AV.keys,K2s])))
   obtain ⟨fn,tm,asg,bo,y1,y2⟩:=hY (off i+j) _ u M5 B4 (hJe _ _ _ _ hJ5 e4) helt hpu
   refine ⟨fn,tm,asg,bo,y1,y2.mono ?_⟩
   rintro e A' (⟨rfl,M',hJ',hSi⟩ | ⟨rfl,hK'⟩)
   · show wpOpsIn (FW none) n' Tryz.prog ops _ [3] (b4.put o2.dst (.bool true)) A'
     rw [hdst]
     have hT':TT' M' A' (inT mo (Ls i) l i j) b4:=fun k x hx=>by
      refine (t4 k x ?_).mono hSi.2 hSi.1
      simp only [lk]
      rw [if_neg (by rintro rfl;simp [inT,ouT,lk]at hx),if_neg (by rintro rfl;simp [inT,ouT,lk]at hx)]
      exact hx
     refine suffix true _ G M' A' (hJG _ _ _ hJ') (.inl rfl) (hJM _ _ _ hJ') hT' _ fun a5 A5 h5=>?_
     have ark2:AR Tryz.prog (ZjS G M' A' N none) (ZbB (ZbB rcB3)) ⟨(23,.bool (!true))::inT mo (Ls i) l i j,[]⟩ (fun e s=>e = .normal∧Weak s ⟨inT mo (Ls i) l i j,[]⟩):=by
      refine GO_AR mixed 1000 ?_
      simp -implicitDefEqProofs [rcB3,rcI3,rcI,rcB1,rcO3,rcO,lpB,issA,issBk,ZbB,Z6D,inT,ouT,ev]
      exact (by (first|exact Weak.tm (by simp [lk,K2s])|exact Weak.sub (by simp [lk,keptA,AV.keys,K2s]) (by simp [lk,keptO,keptA,AV.keys,K2s])))
     refine wpIn_mono (ark2 k2 okk2 _ a5 A5 h5) ?_
     rintro e b6 B6 ⟨s6,⟨rfl,w6⟩,hs6⟩
     have ar7:AR Tryz.prog (ZjS G M' A' N none) (ZbB rcI3) ⟨inT mo (Ls i) l i j,[]⟩ (fun e s=>e = .normal∧Weak s ⟨inT mo (Ls i) l i (j+1),[]⟩):=by
      have hli:=hl i
      have w1:IntKind.i64.wrap ((j:Int)+1)=((j+1:Nat):Int):=wrapI (by omega) (by omega)
      refine GO_AR mixed 1000 ?_
      simp -implicitDefEqProofs [rcB3,rcI3,rcI,rcB1,rcO3,rcO,lpB,issA,issBk,ZbB,Z6D,inT,ouT,ev,w1]
      exact (by (first|exact Weak.tm (by simp [lk,K2s])|exact Weak.sub (by simp [lk,keptA,AV.keys,K2s]) (by simp [lk,keptO,keptA,AV.keys,K2s])))
     refine wpIn_mono (ar7 r7 okr7 _ b6 B6 (w6 _ _ _ hs6)) ?_
     rintro e b7 B7 ⟨s7,⟨rfl,w7⟩,hs7⟩
     obtain ⟨d7,n7,t7,e7⟩:=endG hs7 w7 (pI (j+1))
     exact ⟨(Ls i).length-(j+1),by omega,j+1,M',by omega,rfl,hJe _ _ _ _ hJ' e7,d7,n7,t7⟩
   · show wpOpsIn (FW none) n' Tryz.prog ops _ [3] (b4.put o2.dst (.bool false)) A'
     rw [hdst]
     refine suffix false [] (fun _=>none) (fun _=>False) A' (fun g cs hg=>by cases hg) (.inr rfl) (fun _ h=>h.elim) (fun k x hx=>by simp [lk]at hx) _ fun a5 A5 h5=>?_
     have ark2:AR Tryz.prog (ZjS (fun _=>none) (fun _=>False) A' N none) (ZbB (ZbB rcB3)) ⟨[(23,.bool (!false))],[]⟩ (fun e s=>e = .ret∧Weak s ⟨[],[]⟩):=by
      refine GO_AR mixed 1000 ?_
      simp -implicitDefEqProofs [rcB3,rcI3,rcI,rcB1,rcO3,rcO,lpB,issA,issBk,ZbB,Z6D,inT,ouT]
      exact (by (first|exact Weak.tm (by simp [lk])|exact Weak.sub (by simp [lk,keptA,AV.keys]) (by simp [lk,keptO,keptA,AV.keys])))
     refine wpIn_mono (ark2 k2 okk2 _ a5 A5 h5) ?_
     rintro e b6 B6 ⟨s6,⟨rfl,w6⟩,hs6⟩
     obtain ⟨d6,-,-,e6⟩:=endG hs6 w6 (by simp)
     exact (hfin b6 B6 d6 (.inr (hKe _ _ hK' e6))).1
 · simp -implicitDefEqProofs [rcB3,rcI3,rcI,rcB1,rcO3,rcO,lpB,issA,issBk,ZbB,Z6D,inT,ouT,ZbC,ev,hsa]
   exact (by (first|exact Weak.tm (by simp [lk,K2s])|exact Weak.sub (by simp [lk,keptA,AV.keys,K2s]) (by simp [lk,keptO,keptA,AV.keys,K2s])))
end
theorem ZjV {r:List Iss} {l:List Nte} {q:List Rul} {s:List Int} {m day:Int} (h:chS r l q=0):(st5 r l q s m day).length≤100:=by
 obtain ⟨hN,hR⟩:=Zhv h
 have h1:=Zhd (Zhb hN)
 have h2:=Zhw hR
 have h3:=ZhL (stF r l s m day) (dyN day l) (dyN day l).length (Nat.le_refl _)
 have h4:=ZhM day q q.length (Nat.le_refl _)
 have h5:=Zhy day l
 unfold st5
 rw [List.length_append]
 omega
section
variable {G:Nat→Option (List AV)}
end
theorem ZjW (E:List (Rf×Rf)) (y:Rf):(lnC E y).pure=true:=by simp [lnC,AV.pure,knA]
theorem ZjX (E:List (Rf×Rf)) (y:Rf):(lnC E y).keys=[]:=by simp [lnC,AV.keys]
def puN (r:List Iss) (l:List Nte) (q:List Rul) (s:List Int) (m d:Int) (a b:Rf):Int:=if aqN r l q s m d d=0 then if (knB r a.1 a.2&&knB r b.1 b.2)=true then 0 else 6 else aqN r l q s m d d
theorem ZjY {r:List Iss} {l:List Nte} {q:List Rul} {s:List Int} {m d:Int} {a b:Rf} (h:puN r l q s m d a b=0):aqN r l q s m d d=0∧knB r a.1 a.2=true∧knB r b.1 b.2=true:=by
 unfold puN at h
 split at h
 · rename_i h0
   split at h
   · rename_i h1
     rw [Bool.and_eq_true]at h1
     exact ⟨h0,h1⟩
   · cases h
 · rename_i h0;exact absurd h h0
section
variable {G:Nat→Option (List AV)}
theorem ZjZ (hG:GC G) (hN:GN G) (hQ:GQ G) (r:List Iss) (l:List Nte) (q:List Rul) (s:List Int) (m day:Int) (hw:WfN l) (hr:Wf r) (hq:Sml q) (hs:Sml s) (h:chS r l q=0) (ht:truB l s=true) :
  IterG Tryz.prog G 81 [.vptr (moC r l q s m day) 0] ((st5 r l q s m day).map fun x=>.agg (sa x)):=by
 obtain ⟨hN0,hR⟩:=Zhv h
 have hB:=Zhb hN0
 have h12:=Zhd hB
 have h16:=Zhw hR
 have pS:(shopA r l q).pure=true:=by unfold shopA rfA;split <;> simp [AV.pure,isa,na,ra,rfa]
 have hn:=Zim hG hN r l q s m day hw hr h12 hs (dyK day l) (Ziz day l) ZiB (fun h=>ZiC h)
 have hru:=Ziq (G:=G) r l q s m day h16
 have e:=ZiJ (m:=m) (day:=day) h ht
 have l1:=Zie (fcE r (l.take (dyK day l)) (sortI (tnN l s (dyK day l))) m).1 (l.take (dyK day l)) (l.take (dyK day l)).length (Nat.le_refl _)
 have l2:=Zip day q q.length (Nat.le_refl _)
 have l3:(l.take (dyK day l)).length≤12:=by simp;omega
 rw [← e]
 generalize nsP (fcE r (l.take (dyK day l)) (sortI (tnN l s (dyK day l))) m).1 (l.take (dyK day l)) (l.take (dyK day l)).length=A at *
 generalize rsP day q q.length=B at *
 exact ZjU hQ (moC r l q s m day) (by simp [moC,pS,AV.pure]) rfl (fun i=>if i=0 then A else B) (fun i=>by show (if i=0 then A else B).length≤100;split <;> omega) hn hru
theorem Zk0 (hG:GC G) (hN:GN G) (r:List Iss) (l:List Nte) (q:List Rul) (s:List Int) (m day a1 a2 b1 b2:Int) (hw:WfN l) (hr:Wf r) (hq:Sml q) (hs:Sml s) :
  PC Tryz.prog G 53 [swa r l q,.vsl (s.map ia),.int .i64 m,.int .i64 day,.agg [.int .i64 a1,.int .i64 a2],.agg [.int .i64 b1,.int .i64 b2]]
   (.tup [.agg (if puN r l q s m day (a1,a2) (b1,b2)=0 then moC r l q s m day else [.nilp,.nils,.int .i64 0,.int .i64 0]),.int .i64 (puN r l q s m day (a1,a2) (b1,b2))]):=by
 have ha:=Zis hG hN r l q s m day day hw hr hq hs
 have h1:=Zi5 (G:=G) r l q a1 a2 hr.1.1
 have h2:=Zi5 (G:=G) r l q b1 b2 hr.1.1
 have pS:(shopA r l q).pure=true:=by unfold shopA rfA;split <;> simp [AV.pure,isa,na,ra,rfa]
 have kS:(shopA r l q).keys=[]:=by unfold shopA;simp [AV.keys]
 unfold moA swa at ha
 (refine Z5Q rfl fun R hG hrd=>GO_AR mixed 1000 ?_;subst hG)
 unfold puN
 by_cases h0:aqN r l q s m day day=0
 · rw [if_pos h0,h0]at ha
   rw [if_pos h0]
   obtain ⟨cs,eS⟩ : ∃ cs,shopA r l q = .vptr cs 0:=⟨_,rfl⟩
   unfold moC at *
   rw [eS]at ha h1 h2 pS kS ⊢
   simp -implicitDefEqProofs [Z5O,Z5P,swa]
   (first|refine CallK.of (ha) (by simp) ?_|refine CallD.of (ha) (by simp) ?_)
   simp -implicitDefEqProofs []
   refine CallK.of h1 (by simp [AV.pure]at pS ⊢;try simp [pS]) ?_
   cases c1:knB r a1 a2
   · simp -implicitDefEqProofs []
   · simp -implicitDefEqProofs []
     refine CallK.of h2 (by simp [AV.pure]at pS ⊢;try simp [pS]) ?_
     cases c2:knB r b1 b2
     · simp -implicitDefEqProofs []
     · simp -implicitDefEqProofs []
 · rw [if_neg h0]at ha
   rw [if_neg h0,if_neg h0]
   simp -implicitDefEqProofs [Z5O,Z5P,swa]
   (first|refine CallK.of (ha) (by simp) ?_|refine CallD.of (ha) (by simp) ?_)
   simp -implicitDefEqProofs [h0]
theorem Zk1 (hG:GC G) (hN:GN G) (hQ:GQ G) (r:List Iss) (l:List Nte) (q:List Rul) (s:List Int) (m day a1 a2 b1 b2:Int) (hw:WfN l) (hr:Wf r) (hq:Sml q) (hs:Sml s) (h:chS r l q=0) (ht:truB l s=true) :
  PC Tryz.prog G 55 [.agg (moC r l q s m day),.agg [.int .i64 a1,.int .i64 a2],.agg [.int .i64 b1,.int .i64 b2]] (.bool (decide (diV (edg (st5 r l q s m day)) (b1,b2) (a1,a2)<1048576))):=by
 have pS:(shopA r l q).pure=true:=by unfold shopA rfA;split <;> simp [AV.pure,isa,na,ra,rfa]
 have pM:(AV.vptr (moC r l q s m day) 0).pure=true:=by simp [AV.pure,moC,pS]
 have hlen:=ZjV (s:=s) (m:=m) (day:=day) h
 have hf:=ZjR (G:=G) r l q s m day
 have hc:=ZjQ _ _ _ (by simpa using pM) (ZjZ hG hN hQ r l q s m day hw hr hq hs h ht) hlen
 have hln:=PC.sub (ZjF (G:=G) (st5 r l q s m day) false b1 b2 (by omega)) (xs:=[orNil ((st5 r l q s m day).map sa),.agg [.int .i64 b1,.int .i64 b2],.bool false]) ⟨.orNil _,.rfl',.rfl',trivial⟩
 have hv:=ZjE (G:=G) (edg (st5 r l q s m day)) (b1,b2) a1 a2
 have pV:=Zee (l:=(st5 r l q s m day).map sa) (by simp [sa,AV.pure])
 have e1:edT false (st5 r l q s m day)=edg (st5 r l q s m day):=rfl
 rw [e1,lnF]at hln
 have pC:=ZjW (edg (st5 r l q s m day)) (b1,b2)
 have kC:=ZjX (edg (st5 r l q s m day)) (b1,b2)
 have kV:=Zef ((st5 r l q s m day).map sa)
 replace hv:PC Tryz.prog G 95 [.agg [.int .i64 a1,.int .i64 a2],lnC (edg (st5 r l q s m day)) (b1,b2)] _:=hv
 generalize lnC (edg (st5 r l q s m day)) (b1,b2)=C at *
 generalize orNil ((st5 r l q s m day).map sa)=V at *
 generalize diV (edg (st5 r l q s m day)) (b1,b2) (a1,a2)=D at *
 (refine Z5Z rfl fun R hG hrd=>GO_AR mixed 1000 ?_;subst hG)
 obtain ⟨cs,eS⟩ : ∃ cs,shopA r l q = .vptr cs 0:=⟨_,rfl⟩
 unfold moC at *
 rw [eS]at hf hc pS pM ⊢
 simp -implicitDefEqProofs [Z5X,Z5Y]
 refine CallD.of hf (by simp [AV.pure]at pS ⊢;try simp [pS]) ?_
 simp -implicitDefEqProofs []
 refine CallD.of hc (by simp [AV.pure]at pS ⊢;try simp [pS]) ?_
 simp -implicitDefEqProofs []
 refine CallD.of hln (by simp [pV,AV.pure]) ?_
 simp -implicitDefEqProofs []
 refine CallD.of hv (by simp [pC,AV.pure]) ?_
 simp -implicitDefEqProofs [kC,kV]
 rfl
end
theorem Zk2 {r:List Iss} (h:r≠[]):rfA r = .vsl ((rfs r).map ita):=by rw [rfA,if_neg h,ZiQ]
section
variable {G:Nat→Option (List AV)}
end
theorem Zk3 {r:List Iss} {l:List Nte} {q:List Rul} (h:chS r l q=0):r.length≤60∧l.length≤16∧(l.map (·.nu)).Nodup∧q.length≤16:=by
 obtain ⟨h1,h2⟩:=Zhv h
 have hB:=Zhb h1
 exact ⟨Zjb (Zjf h),by have:=Zhd hB;omega,ZgN hB,Zhw h2⟩
theorem Zk4 (r:List Iss):(rfs r).length=r.length:=by simp [rfs]
section
variable {G:Nat→Option (List AV)}
theorem Zk5 (r:List Iss) (l:List Nte) (q:List Rul) (s:List Int) (m day a1 a2 b1 b2:Int) (hw:WfN l) (hr:Wf r) (hq:Sml q) (hs:Sml s) :
  PC Tryz.prog G 56 [swa r l q,.vsl (s.map ia),.int .i64 m,.int .i64 day,.agg [.int .i64 a1,.int .i64 a2],.agg [.int .i64 b1,.int .i64 b2]] (.int .i64 (puN r l q s m day (a1,a2) (b1,b2))):=by
 have ha:=ZhO (G:=G) r l q s m day day hw hr hq hs
 have h1:=Zhi (G:=G) r a1 a2 hr.1.1
 have h2:=Zhi (G:=G) r b1 b2 hr.1.1
 unfold swa at ha
 (refine Z5K rfl fun R hG hrd=>GO_AR mixed 1000 ?_;subst hG)
 unfold puN
 by_cases h0:aqN r l q s m day day=0
 · rw [h0]at ha
   rw [if_pos h0]
   simp -implicitDefEqProofs [Z5I,Z5J,swa]
   (first|refine CallK.of (ha) (by simp) ?_|refine CallD.of (ha) (by simp) ?_)
   simp -implicitDefEqProofs []
   (first|refine CallK.of (h1) (by simp) ?_|refine CallD.of (h1) (by simp) ?_)
   cases c1:knB r a1 a2
   · simp -implicitDefEqProofs []
   · simp -implicitDefEqProofs []
     (first|refine CallK.of (h2) (by simp) ?_|refine CallD.of (h2) (by simp) ?_)
     cases c2:knB r b1 b2
     · simp -implicitDefEqProofs []
     · simp -implicitDefEqProofs []
 · rw [if_neg h0]
   simp -implicitDefEqProofs [Z5I,Z5J,swa]
   (first|refine CallK.of (ha) (by simp) ?_|refine CallD.of (ha) (by simp) ?_)
   simp -implicitDefEqProofs [h0]
theorem Zk6 (r:List Iss) (l:List Nte) (q:List Rul) (s:List Int) (m day y1 y2:Int) (h:chS r l q=0) (hy:(y1,y2)∈rfs r) :
  PC Tryz.prog G 63 [.vsl ((rfs r).map ita),orNil ((st5 r l q s m day).map sa),.agg [.int .i64 y1,.int .i64 y2]] (.vsl (((rfs r).map (diV (edg (st5 r l q s m day)) (y1,y2))).map ia)):=by
 have hl:=Zk3 h
 have hn:=Zk4 r
 have hlen:=ZjV (s:=s) (m:=m) (day:=day) h
 exact PC.sub (Zj3 (G:=G) (rfs r) (st5 r l q s m day) y1 y2 (by omega) (by omega) (Zj7 (Zjf h)) hy (Zje h)) ⟨.rfl',.orNil _,.rfl',trivial⟩
theorem Zk7 (r:List Iss) (l:List Nte) (q:List Rul) (s:List Int) (m day a1 a2 b1 b2:Int) (hw:WfN l) (hr:Wf r) (hs:Sml s) (h:chS r l q=0) (hA:(a1,a2)∈rfs r) (hB:(b1,b2)∈rfs r) :
  PC Tryz.prog G 58 [swa r l q,.vsl (s.map ia),.int .i64 m,.int .i64 day,.agg [.int .i64 a1,.int .i64 a2],.agg [.int .i64 b1,.int .i64 b2]] (.bool (decide (diV (edg (st5 r l q s m day)) (b1,b2) (a1,a2)<1048576))):=by
 obtain ⟨h1,h2,h3,h4⟩:=Zk3 h
 have hn:=Zk4 r
 have hne:r≠[]:=by rintro rfl;simp [rfs]at hA
 have hR:=ZiU (G:=G) r hr.1.1
 have hS:=ZhR (G:=G) r l q s m day hw hr h4 hs h3 h2
 have hL:=Zk6 (G:=G) r l q s m day b1 b2 h hB
 have hAt:=ZiS (G:=G) (rfs r) a1 a2 (by unfold Sml;omega)
 obtain ⟨k,k1,k2,k3⟩:=ZiV hA
 rw [k2]at hAt
 rw [Zk2 hne]at hR
 have pV:=Zee (l:=(st5 r l q s m day).map sa) (by simp [sa,AV.pure])
 have kV:=Zef ((st5 r l q s m day).map sa)
 generalize orNil ((st5 r l q s m day).map sa)=V at *
 have e1:((rfs r).map (diV (edg (st5 r l q s m day)) (b1,b2)))[k]? = some (diV (edg (st5 r l q s m day)) (b1,b2) (a1,a2)):=by rw [List.getElem?_map,k3];rfl
 have lN:((rfs r).map (diV (edg (st5 r l q s m day)) (b1,b2))).length=r.length:=by simp [rfs]
 generalize (rfs r).map (diV (edg (st5 r l q s m day)) (b1,b2))=NL at *
 generalize diV (edg (st5 r l q s m day)) (b1,b2) (a1,a2)=D at *
 obtain ⟨q1,g1⟩:=List.getElem?_eq_some_iff.1 e1
 have kr:k<r.length:=by omega
 unfold swa at *
 (refine Z5N rfl fun R hG hrd=>GO_AR mixed 1000 ?_;subst hG)
 simp -implicitDefEqProofs [Z5L,Z5M]
 (first|refine CallK.of (hR) (by simp) ?_|refine CallD.of (hR) (by simp) ?_)
 simp -implicitDefEqProofs []
 refine CallD.of hS (by simp [AV.pure,isa,na,ra]) ?_
 simp -implicitDefEqProofs []
 refine CallD.of hL (by simp [AV.pure,ita,pV]) ?_
 simp -implicitDefEqProofs []
 refine CallD.of hAt (by simp [AV.pure,ita]) ?_
 simp -implicitDefEqProofs [q1,g1,lN,kr,ia,kV]
 rfl
end
section
variable {G:Nat→Option (List AV)}
end
section
variable {G:Nat→Option (List AV)}
end
def sbN (U:List Int) (v:Nat):Nat→List Int
 |0=>[]
 |i+1=>if v / 2 ^ i % 2=1 then sbN U v i++[U.getD i 0] else sbN U v i
def sbT (U:List Int) (v:Nat):List Int:=sbN U v U.length
theorem Zk8 (U:List Int) (v:Nat):∀ i,(sbN U v i).length≤i
 |0=>Nat.le_refl _
 | i+1=>by
   have:=Zk8 U v i
   rw [sbN];split
   · simp;omega
   · omega
theorem Zk9 {U:List Int} {v:Nat}:∀ i,i≤U.length→(sbN U v i).Sublist (U.take i)
 |0,_=>by simp [sbN]
 | i + 1,h=>by
   have hi:i<U.length:=h
   have ih:=Zk9 (U:=U) (v:=v) i (by omega)
   rw [sbN,List.take_succ_eq_append_getElem hi]
   split
   · have e:U.getD i 0=U[i]:=by simp [List.getD_eq_getElem?_getD,hi]
     rw [e]
     exact ih.append (List.Sublist.refl _)
   · exact ih.trans (List.sublist_append_left _ _)
theorem Zka (U:List Int) (v:Nat):(sbT U v).Sublist U:=by
 have:=Zk9 (v:=v) U.length (Nat.le_refl _)
 rwa [List.take_length]at this
theorem Zkb {l:List Nte} {s:List Int} (h1:s.Pairwise fun x y=>x<y) (h2:∀ n∈s,n∈opU l):truB l s=true:=by
 rw [Zgo]
 intro j hj
 have e:∀ k,k<s.length→∃ h:k<s.length,s.getD k 0=s[k]:=fun k h=>⟨h,by simp [List.getD_eq_getElem?_getD,h]⟩
 obtain ⟨q1,e1⟩:=e j hj
 rw [e1]
 refine ⟨h2 _ (List.getElem_mem q1),fun hp=>?_⟩
 obtain ⟨q2,e2⟩:=e (j-1) (by omega)
 rw [e2]
 exact List.pairwise_iff_getElem.1 h1 (j-1) j q2 q1 (by omega)
theorem Zkc (l:List Nte):∀ i,i≤l.length→((opI l i).map fun j=>(nAt l j).nu).Perm ((opN l i).map (·.nu))
 |0,_=>by simp [opI,opN]
 | i + 1,h=>by
   have ih:=Zkc l i (by omega)
   have hi:i<l.length:=by omega
   have e:=ZcQ hi
   have ea:=ZcP hi
   rw [e]
   unfold opI
   rw [ea]
   by_cases c:l[i].sg=1
   · rw [if_pos c,if_pos c]
     have:=(Ze2 (fun j=>(nAt l j).nu) (opI l i) i).map fun j=>(nAt l j).nu
     refine this.trans ?_
     rw [List.map_cons,List.map_append,List.map_cons,List.map_nil,ea]
     exact (List.Perm.cons _ ih).trans (List.perm_append_singleton _ _).symm
   · rw [if_neg c,if_neg c]
     exact ih
def opQ (l:List Nte):List Int:=sortI (opU l)
theorem Zkd (l:List Nte):nuI l=opQ l:=by
 refine (Zd3 (Zkc l l.length (Nat.le_refl _)) ?_).symm
 have:=Ze7 l l.length
 exact List.pairwise_map.2 this
theorem Zke {r:List Iss} {l:List Nte} (h:ZcS r l=true):(opQ l).Pairwise fun x y=>x<y:=by
 have h1:=Zd1 (opU l)
 have h2:(opQ l).Nodup:=(Zd0 (opU l)).nodup_iff.2 (ZgO h).1
 refine (h1.and (List.nodup_iff_pairwise_ne.1 h2)).imp ?_
 rintro a b ⟨p,q⟩
 omega
theorem Zkf {r:List Iss} {l:List Nte} (h:ZcS r l=true) (v:Nat):truB l (sbT (opQ l) v)=true :=
 Zkb ((Zke h).sublist (Zka _ v)) fun n hn=>Zd5.1 ((Zka _ v).subset hn)
theorem Zkg {r:List Iss} {l:List Nte} (h:ZcS r l=true):(opQ l).length≤5:=by
 simp only [ZcS,Bool.and_eq_true,decide_eq_true_eq]at h
 rw [opQ,Zd4,opU,List.length_map]
 exact h.2
theorem bitU {v i:Nat} (h:v<64) (hi:i<6):IntKind.i64.wrap ((((v:Int).fdiv (2 ^ (min i IntKind.i64.bits)) % 2 ^ IntKind.i64.bits).toNat &&& (1 % 2 ^ IntKind.i64.bits):Nat):Int)=if v / 2 ^ i % 2=1 then 1 else 0:=by
 have h1:∀ n:_root_.Fin 64,∀ k:_root_.Fin 6,IntKind.i64.wrap ((((n.val:Int).fdiv (2 ^ (min k.val IntKind.i64.bits)) % 2 ^ IntKind.i64.bits).toNat &&& (1 % 2 ^ IntKind.i64.bits):Nat):Int)=if n.val / 2 ^ k.val % 2=1 then 1 else 0:=by decide +kernel
 exact h1 ⟨v,h⟩ ⟨i,hi⟩
theorem shU {n:Nat} (h:n<6):IntKind.i64.wrap (2 ^ (min n IntKind.i64.bits))=((2 ^ n:Nat):Int):=by
 have h1:∀ k:_root_.Fin 6,IntKind.i64.wrap (2 ^ (min k.val IntKind.i64.bits))=((2 ^ k.val:Nat):Int):=by decide +kernel
 exact h1 ⟨n,h⟩
theorem pow5 {n:Nat} (h:n≤5):2 ^ n≤32:=by
 have:n=0∨n=1∨n=2∨n=3∨n=4∨n=5:=by omega
 rcases this with rfl|rfl|rfl|rfl|rfl|rfl <;> decide
theorem PC.out {P:Program} {G:Nat→Option (List AV)} {f:FuncId} {xs:List AV} {v w:AV} (h:PC P G f xs v) (hs:Nsub v w):PC P G f xs w :=
 ⟨h.1,fun M W vs a b c d=>(h.2 M W vs a b c d).mono fun _ _ ⟨u,h1,h2,h3⟩=>⟨u,h1,hs _ _ _ h2,h3⟩⟩
def trR (U:List Int) (v:Nat):List AV:=[.vsl ((sbT U v).map ia)]
def trK (U:List Int) (v:Nat):List (List AV):=(List.range v).map (trR U)
theorem Zkh (U:List Int) (v:Nat):trK U (v+1)=trK U v++[[.vsl ((sbT U v).map ia)]]:=by simp [trK,trR,List.range_succ]
theorem Zki (U:List Int) (v:Nat):(trK U v).length=v:=by simp [trK]
theorem Zkj (o:List (Nat×AObj)) (U:List Int) (v:Nat):keptO o (.row 1 (trK U v))=true:=by
 simp only [keptO,List.all_eq_true,trK,List.mem_map]
 rintro x ⟨y,-,rfl⟩ w hw
 simp only [trR,List.mem_singleton]at hw
 subst hw;simp [keptA,AV.keys]
theorem Zkk (U:List Int) (v:Nat):(trK U v).all (fun r=>r.all AV.pure)=true:=by simp [trK,trR,AV.pure,ia]
theorem Zkl (ok:Nat→Bool) (st:St) (U:List Int) (v:Nat):(trK U v).map (fun r=>r.map (frzA ok st))=trK U v:=by
 simp only [trK,List.map_map]
 congr 1
 funext w;simp [trR,frzA,frz,AV.keys]
def iaM (l:List Int):List (List AV):=l.map ia
theorem Zkm (l:List Int) (x:Int):iaM (l++[x])=iaM l++[[.int .i64 x]]:=by simp [iaM,ia]
theorem Zkn (l:List Int):(iaM l).length=l.length:=List.length_map _
theorem Zko (o:List (Nat×AObj)) (l:List Int):keptO o (.row 1 (iaM l))=true:=Zg6 o l
theorem Zkp (l:List Int):(iaM l).all (fun r=>r.all AV.pure)=true:=by simp [iaM,ia,AV.pure]
def thT (V:AV) (v:Nat):List (Nat×AV):=[(5,.int .i64 v),(3,V),(1,.ptr 1 0)]
def thO (r:List Iss) (l:List Nte) (v:Nat):List (Nat×AObj):=if v=0 then [(1,.box [.vsl (r.map isa),.vsl (l.map na)])] else [(44,.row 1 (trK (opQ l) v)),(1,.box [.vsl (r.map isa),.vsl (l.map na)])]
def thL (v:Nat):AV:=if v=0 then .nils else .osl 44 v
def thS (r:List Iss) (l:List Nte) (V:AV) (v:Nat):St:=⟨(4,thL v)::thT V v,thO r l v⟩
def thI (r:List Iss) (l:List Nte) (V:AV) (v i:Nat):St:=⟨(7,.int .i64 i)::(6,.osl 17 (sbN (opQ l) v i).length)::(4,thL v)::thT V v,(17,.row 1 (iaM (sbN (opQ l) v i)))::thO r l v⟩
section
variable {G:Nat→Option (List AV)}
theorem Zkq (U:List Int) (v i:Nat):sbN U v (i+1)=if v / 2 ^ i % 2=1 then sbN U v i++[U.getD i 0] else sbN U v i:=rfl
set_option maxHeartbeats 2000000 in
theorem Zkr (r:List Iss) (l:List Nte) (h:ZcS r l=true):PC Tryz.prog G 57 [.agg [.vsl (r.map isa),.vsl (l.map na)]] (.vsl (trK (opQ l) (2 ^ (opQ l).length))):=by
 have h12:=Zhd h
 have h5:=Zkg h
 have hO:=Zej (G:=G) r l h12
 have hp5:=pow5 h5
 have eU:=Zkd l
 have lU:(opQ l).length=(opI l l.length).length:=by rw [← eU,ZgZ]
 have hlt:=Ze3 l l.length
 have sh:=shU (n:=(opQ l).length) (by omega)
 rw [lU]at sh hp5 h5 ⊢
 have eget:∀ i (hi:i<(opI l l.length).length),(opQ l).getD i 0=(nAt l (opI l l.length)[i]).nu:=fun i hi=>by
  rw [← eU,nuI,List.getD_eq_getElem?_getD,List.getElem?_map,List.getElem?_eq_getElem hi];rfl
 have eT:∀ v,sbT (opQ l) v=sbN (opQ l) v (opI l l.length).length:=fun v=>by rw [sbT,lU]
 have hpos:0<2 ^ (opI l l.length).length:=Nat.pos_of_ne_zero (by simp)
 generalize hI:opI l l.length=I at *
 have hO:=PC.out hO (.orNil _)
 generalize hKe:2 ^ I.length=K at *
 (refine Z5m rfl fun R hG hrd=>GO_AR mixed 1000 ?_;subst hG)
 simp -implicitDefEqProofs [Z5k,Z5l]
 (first|refine CallK.of (hO) (by simp) ?_|refine CallD.of (hO) (by simp) ?_)
 simp -implicitDefEqProofs []
 refine Za2 (thS r l (.vsl (I.map ja))) (fun _=>True) K ?_ trivial ?_ ?_
 · simp only [thS,thT,thL,thO,if_true]
   ((try simp only [ja]);refine Weak.sub (by simp [lk,keptA,AV.keys,ja]) ?_;simp only [ja,Wkl,and_true];(try simp [lk,keptO,keptA,AV.keys,ja]))
 · intro v hv _
   have wv:IntKind.i64.wrap ((v:Int)+1)=(v:Int)+1:=wrapI (by omega) (by omega)
   have tk:=Zkh (opQ l) v
   have tln:=Zki (opQ l) v
   have eTv:=eT v
   have hT1:thL (v+1) = .osl 44 (v+1):=rfl
   have hO1:thO r l (v+1)=[(44,.row 1 (trK (opQ l) (v+1))),(1,.box [.vsl (r.map isa),.vsl (l.map na)])]:=rfl
   refine GO_AR mixed 1000 ?_
   by_cases v0:v=0
   case' pos =>
    have hT:thL v = .nils:=by simp [thL,v0]
    have hO:thO r l v=[(1,.box [.vsl (r.map isa),.vsl (l.map na)])]:=by simp [thO,v0]
    have tk0:trK (opQ l) v=[]:=by rw [v0];rfl
    rw [tk0,List.nil_append]at tk
    simp -implicitDefEqProofs [thS,thT,hT,hO,sh,hv]
   case' neg =>
    have hT:thL v = .osl 44 v:=by simp [thL,v0]
    have hO:thO r l v=[(44,.row 1 (trK (opQ l) v)),(1,.box [.vsl (r.map isa),.vsl (l.map na)])]:=by simp [thO,v0]
    simp -implicitDefEqProofs [thS,thT,hT,hO,sh,hv]
   all_goals
    refine Za2 (thI r l (.vsl (I.map ja)) v) (fun _=>True) I.length ?_ trivial ?_ ?_
    · have e0:sbN (opQ l) v 0=[]:=rfl
      have e1:iaM []=[]:=rfl
      simp only [thI,thT,hT,hO,e0,e1]
      ((try simp only [ja]);refine Weak.sub (by simp [lk,keptA,AV.keys,ja]) ?_;simp only [ja,Wkl,Zkj,and_true];(try simp [lk,keptO,keptA,AV.keys,ja]))
    · intro i hi _
      have wi:IntKind.i64.wrap ((i:Int)+1)=(i:Int)+1:=wrapI (by omega) (by omega)
      have bU:=bitU (v:=v) (i:=i) (by omega) (by omega)
      have sn:=Zkq (opQ l) v i
      rw [eget i hi]at sn
      have sl:=Zk8 (opQ l) v i
      obtain ⟨hj,-⟩:=hlt I[i] (List.getElem_mem hi)
      have hna:=ZcP hj
      have hnx:na l[I[i]]=[.int .i64 l[I[i]].nu,.int .i64 l[I[i]].dy,.int .u8 l[I[i]].sg,.int .i64 l[I[i]].dr,.int .i64 l[I[i]].lt,.int .i64 l[I[i]].fr,.int .i64 l[I[i]].tu,.int .i64 l[I[i]].ca,.bool l[I[i]].up,.int .u8 l[I[i]].wy]:=rfl
      have bb:((sbN (opQ l) v i).length+1)*8≤70368744177664:=by omega
      have lnm:=Zkn (sbN (opQ l) v i)
      have em:=Zkm (sbN (opQ l) v i) l[I[i]].nu
      rw [hna]at sn
      refine GO_AR mixed 1000 ?_
      by_cases cb:v / 2 ^ i % 2=1
      · rw [if_pos cb]at sn bU
        simp -implicitDefEqProofs [thI,thT,hT,hO,hi,bU,ja,wi,sn,hj,hnx,bb,lnm]
        refine ⟨rfl,?_⟩
        rw [← em]
        ((try simp only [ja]);refine Weak.sub (by simp [lk,keptA,AV.keys,ja]) ?_;simp only [ja,Wkl,Zkj,Zko,and_true];(try simp [lk,keptO,keptA,AV.keys,ja]))
      · rw [if_neg cb]at sn bU
        simp -implicitDefEqProofs [thI,thT,hT,hO,hi,bU,ja,wi,sn]
        ((try simp only [ja]);refine Weak.sub (by simp [lk,keptA,AV.keys,ja]) ?_;simp only [ja,Wkl,Zkj,Zko,and_true];(try simp [lk,keptO,keptA,AV.keys,ja]))
    · intro _
      have k5:=Zkp (sbN (opQ l) v I.length)
      have k6:=Zkn (sbN (opQ l) v I.length)
      have k7:(sbN (opQ l) v I.length).map ia=iaM (sbN (opQ l) v I.length):=rfl
      rw [eTv,k7]at tk
      have bb:(v+1)*24≤70368744177664:=by omega
      refine GO_AR mixed 1000 ?_
      simp -implicitDefEqProofs [thI,thT,hT,hO]
      refine Z2N mixed 2 ?_
      simp -implicitDefEqProofs []
      refine GO0 (Z2M (st':=⟨(6,.vsl (iaM (sbN (opQ l) v I.length)))::(4,thL v)::thT (.vsl (I.map ja)) v,thO r l v⟩) (Weak.trans (Weak.frz (fun k=>k == 17) _) ?_) ?_)
      · simp only [thT,hT,hO]
        ((try simp only [frzSt,frzA,frzO,frz,snapF,snapL,St.get,AV.pure,Zkp,Zkn,ja,k5,k6,Zkl]);refine Weak.sub (by simp [lk,keptA,AV.keys,frzSt,frzA,frzO,frz,snapF,snapL,St.get,AV.pure,Zkp,Zkn,ja,k5,k6,Zkl]) ?_;simp only [frzSt,frzA,frzO,frz,snapF,snapL,St.get,AV.pure,Zkp,Zkn,ja,k5,k6,Zkl,Wkl,Zkj,and_true];(try simp [lk,keptO,keptA,AV.keys,frzSt,frzA,frzO,frz,snapF,snapL,St.get,AV.pure,Zkp,Zkn,ja,k5,k6,Zkl]))
      refine GO_AR mixed 1000 ?_
      simp -implicitDefEqProofs [thT,hT,hO,bb,tln]
      refine Z2N mixed 1000 ?_
      simp -implicitDefEqProofs [thS,thT,hT1,hO1,wv]
      rw [← tk]
      ((try simp only [ja,v0]);refine Weak.sub (by simp [lk,keptA,AV.keys,ja,v0]) ?_;simp only [ja,v0,Wkl,Zkj,and_true];(try simp [lk,keptO,keptA,AV.keys,ja,v0]))
 · intro _
   have k0:¬K=0:=by omega
   have hT:thL K = .osl 44 K:=by simp [thL,k0]
   have hO:thO r l K=[(44,.row 1 (trK (opQ l) K)),(1,.box [.vsl (r.map isa),.vsl (l.map na)])]:=by simp [thO,k0]
   have tp:=Zkk (opQ l) K
   have tl:=Zki (opQ l) K
   refine GO_AR mixed 1000 ?_
   simp -implicitDefEqProofs [thS,thT,hT,hO,sh]
   refine Z2N mixed 1000 ?_
   simp -implicitDefEqProofs [tp,tl]
end
section
variable {G:Nat→Option (List AV)}
end
section
variable {G:Nat→Option (List AV)}
end
open Go.ChangeShapes Go.WideShapes Go.ChangeAt Go.WideMaps Go.WideElems Go.RowKit Go.Deep
theorem own:ownKnob Tryz.prog.godebug=none:=by kernel_rfl
theorem ZkA:laidOutB Tryz.prog=true:=by kernel_rfl
theorem cF:Tryz.prog.cellsOf 220=1:=by kernel_rfl
theorem ZkB {P:Program} {G:Nat→Option (List AV)} {f:FuncId} {args:List AV} {W:World} {vs:Array Value} (h:PC P G f args (.bool true)) (hG:GR G noM W) (hs:vs.size=args.length)
  (hv:∀ (i:Nat) (x:AV) (u:Value),args[i]? = some x→vs[i]? = some u→PV noM W x u):Calls P f vs W fun e W'=>e = .returned (.bool true)∧Ext W W' :=
 (h.2 noM W vs (fun _ h=>h.elim) hG hs hv).mono fun e W' ⟨v,h1,h2,h3⟩=>by
  cases h2
  exact ⟨h1,h3⟩
def itK:List TY:=[.int .i64,.int .i64]
def dmK:List TY:=[.int .i64,.int .i64,.int .i64]
def isK2:List TY:=[.int .i64,.int .i64,.int .u8,.sl itK,.sl dmK]
theorem ZkC {xs:List AV} (h:TVs itK xs):∃ p:Int×Int,xs=ita p:=by
 obtain ⟨x0,_,rfl,h0,h⟩:=h.cons_inv
 obtain ⟨x1,_,rfl,h1,h⟩:=h.cons_inv
 obtain rfl:=h.nil_inv
 obtain ⟨n,rfl,-⟩:=h0.int_inv
 obtain ⟨l,rfl,-⟩:=h1.int_inv
 exact ⟨(n,l),rfl⟩
theorem ZkD {xs:List AV} (h:TVs dmK xs):∃ d:Dm,xs=dma d:=by
 obtain ⟨x0,_,rfl,h0,h⟩:=h.cons_inv
 obtain ⟨x1,_,rfl,h1,h⟩:=h.cons_inv
 obtain ⟨x2,_,rfl,h2,h⟩:=h.cons_inv
 obtain rfl:=h.nil_inv
 obtain ⟨n,rfl,-⟩:=h0.int_inv
 obtain ⟨l,rfl,-⟩:=h1.int_inv
 obtain ⟨u,rfl,-⟩:=h2.int_inv
 exact ⟨⟨n,l,u⟩,rfl⟩
def KOk (x:Iss):Prop:=0≤x.k∧x.k≤255
theorem ZkE {xs:List AV} (h:TVs isK2 xs):∃ x:Iss,xs=isa x∧KOk x:=by
 obtain ⟨x0,_,rfl,h0,h⟩:=h.cons_inv
 obtain ⟨x1,_,rfl,h1,h⟩:=h.cons_inv
 obtain ⟨x2,_,rfl,h2,h⟩:=h.cons_inv
 obtain ⟨x3,_,rfl,h3,h⟩:=h.cons_inv
 obtain ⟨x4,_,rfl,h4,h⟩:=h.cons_inv
 obtain rfl:=h.nil_inv
 obtain ⟨n,rfl,-⟩:=h0.int_inv
 obtain ⟨l,rfl,-⟩:=h1.int_inv
 obtain ⟨k,rfl,hk⟩:=h2.int_inv
 obtain ⟨r3,rfl,-,g3⟩:=h3.sl_inv
 obtain ⟨r4,rfl,-,g4⟩:=h4.sl_inv
 obtain ⟨its,rfl⟩:=Zkx (f:=ita) fun r hr=>ZkC (g3 r hr)
 obtain ⟨dms,rfl⟩:=Zkx (f:=dma) fun r hr=>ZkD (g4 r hr)
 exact ⟨⟨n,l,k,its,dms⟩,rfl,bounds_u8 hk⟩
theorem ZkF {α β:Type} {f:α→β} {p:α→Prop} {rows:List β} (h:∀ r∈rows,∃ d,r=f d∧p d):∃ l:List α,rows=l.map f∧∀ x∈l,p x:=by
 induction rows with
 |nil=>exact ⟨[],rfl,by simp⟩
 | cons r rows ih =>
   obtain ⟨d,rfl,hd⟩:=h r (List.mem_cons_self ..)
   obtain ⟨l,rfl,hl⟩:=ih fun r hr=>h r (List.mem_cons_of_mem _ hr)
   exact ⟨d::l,rfl,fun x hx=>by
    rcases List.mem_cons.1 hx with rfl|hx
    · exact hd
    · exact hl x hx⟩
theorem ZkG {G:Nat→Option (List AV)} (r:List Iss):PC Tryz.prog G 73 [rega r] (.bool (Zag r)):=by
 by_cases h1:80<r.length
 · (refine Z9W rfl fun R hG hrd=>GO_AR mixed 1000 ?_;subst hG)
   have h1':(80:Int)<r.length:=by omega
   simp -implicitDefEqProofs [Z9U,Z9V,rega,h1',Zag,h1]
 · exact Zak r (by unfold Sml;omega)
theorem ZkH {r:List Iss} (h:Zag r=false) (hk:∀ x∈r,KOk x):Wf r:=by
 simp only [Zag,Bool.or_eq_false_iff,decide_eq_false_iff_not,List.any_eq_false,Bool.or_eq_true,decide_eq_true_eq,not_or]at h
 exact ⟨⟨by unfold Sml;omega,fun x hx=>by have:=h.2 x hx;unfold Sml;omega⟩,hk⟩
section
variable {G:Nat→Option (List AV)}
theorem ZkI (r:List Iss) (l:List Nte):PC Tryz.prog G 38 [.agg [.vsl (r.map isa),.vsl (l.map na)]] (.bool (Zag r||decide (16<l.length))):=by
 have hg:=ZkG (G:=G) r
 rw [rega]at hg
 (refine ZdR rfl fun R hG hrd=>GO_AR mixed 1000 ?_;subst hG)
 simp -implicitDefEqProofs [ZdP,ZdQ]
 (first|refine CallK.of (hg) (by simp) ?_|refine CallD.of (hg) (by simp) ?_)
 cases q:Zag r
 · have e:decide ((16:Int)<l.length)=decide (16<l.length):=by rw [decide_eq_decide];omega
   simp -implicitDefEqProofs [e]
 · simp -implicitDefEqProofs []
theorem ZkJ (r:List Iss) (l:List Nte) (q:List Rul):PC Tryz.prog G 7 [swa r l q] (.bool (Zag r||decide (16<l.length)||decide (20<q.length))):=by
 have hg:=ZkI (G:=G) r l
 (refine Z7v rfl fun R hG hrd=>GO_AR mixed 1000 ?_;subst hG)
 simp -implicitDefEqProofs [Z7t,Z7u,swa]
 (first|refine CallK.of (hg) (by simp) ?_|refine CallD.of (hg) (by simp) ?_)
 cases h1:(Zag r||decide (16<l.length))
 · have e:decide ((20:Int)<q.length)=decide (20<q.length):=by rw [decide_eq_decide];omega
   simp -implicitDefEqProofs [e]
 · simp -implicitDefEqProofs []
def NOk (x:Nte):Prop:=0≤x.sg∧x.sg≤255∧0≤x.wy∧x.wy≤255
end
def mB (r:List Iss) (l:List Nte) (q:List Rul) (m day:Int) (a b:Rf) (v:Nat):Bool:=decide (diV (edg (st5 r l q (sbT (opQ l) v) m day)) b a<1048576)
def anyT (f:Nat→Bool) (v:Nat):Bool:=(List.range v).any f
def anyF (f:Nat→Bool) (v:Nat):Bool:=(List.range v).any fun w=>!f w
theorem ZkK (f:Nat→Bool) (v:Nat):anyT f (v+1)=(anyT f v||f v):=by simp [anyT,List.range_succ,List.any_append]
theorem ZkL (f:Nat→Bool) (v:Nat):anyF f (v+1)=(anyF f v || !f v):=by simp [anyF,List.range_succ,List.any_append]
def suV (f:Nat→Bool) (K:Nat):Int:=if anyT f K=true then if anyF f K=true then 1 else 2 else 0
def suE (r:List Iss) (l:List Nte) (q:List Rul) (m day:Int) (a b:Rf):AV :=
 .tup [.int .u8 (if puN r l q [] m day a b=0 then suV (mB r l q m day a b) (2 ^ (opQ l).length) else 0),.int .i64 (puN r l q [] m day a b)]
def suB (S:AV) (m day a1 a2 b1 b2:Int) (C:AV):List (Nat×AObj):=[(12,.box [S,C,.int .i64 m,.int .i64 day]),(9,.box [.int .i64 b1,.int .i64 b2]),(8,.box [.int .i64 a1,.int .i64 a2])]
def suP:List (Nat×AV):=[(12,.ptr 12 0),(9,.ptr 9 0),(8,.ptr 8 0)]
def su1 (l:List Nte) (B:List (Nat×AObj)) (acc:List Int) (i:Nat):St :=
 if acc=[] then ⟨(37,.int .i64 i)::(36,.int .i64 l.length)::(35,.vsl (l.map na))::(14,.nils)::suP,B⟩
 else ⟨(37,.int .i64 i)::(36,.int .i64 l.length)::(35,.vsl (l.map na))::(14,.osl 48 acc.length)::suP,(48,.row 1 (iaM acc))::B⟩
def suU (l:List Nte):AV:=if opQ l=[] then .nils else .vsl ((opQ l).map ia)
def su2 (l:List Nte) (f:Nat→Bool) (K:Nat) (S:AV) (m day a1 a2 b1 b2:Int) (x:Nat×AV):St :=
 ⟨(55,.int .i64 x.1)::(54,.int .i64 K)::(17,.ptr 17 0)::(14,suU l)::suP,(17,.box [.bool (anyF f x.1),.bool (anyT f x.1)])::suB S m day a1 a2 b1 b2 x.2⟩
def su3 (l:List Nte) (f:Nat→Bool) (K:Nat) (S:AV) (m day a1 a2 b1 b2:Int) (v i:Nat) (s:List Int):St :=
 if s=[] then ⟨(61,.int .i64 i)::(60,.int .i64 (opQ l).length)::(59,suU l)::(18,.int .i64 v)::(55,.int .i64 v)::(54,.int .i64 K)::(17,.ptr 17 0)::(14,suU l)::suP,(17,.box [.bool (anyF f v),.bool (anyT f v)])::suB S m day a1 a2 b1 b2 .nils⟩
 else ⟨(61,.int .i64 i)::(60,.int .i64 (opQ l).length)::(59,suU l)::(18,.int .i64 v)::(55,.int .i64 v)::(54,.int .i64 K)::(17,.ptr 17 0)::(14,suU l)::suP,(75,.row 1 (iaM s))::(17,.box [.bool (anyF f v),.bool (anyT f v)])::suB S m day a1 a2 b1 b2 (.osl 75 s.length)⟩
section
variable {G:Nat→Option (List AV)}
theorem ZkM (r:List Iss) (l:List Nte) (q:List Rul) (m day a1 a2 b1 b2:Int) (hw:WfN l) (hr:Wf r) (hq:Sml q) :
  PC Tryz.prog G 56 [swa r l q,.nils,.int .i64 m,.int .i64 day,.agg [.int .i64 a1,.int .i64 a2],.agg [.int .i64 b1,.int .i64 b2]] (.int .i64 (puN r l q [] m day (a1,a2) (b1,b2))) :=
 PC.sub (Zk5 (G:=G) r l q [] m day a1 a2 b1 b2 hw hr hq (by simp [Sml])) ⟨.rfl',.nils,.rfl',.rfl',.rfl',.rfl',trivial⟩
theorem ZkN (r:List Iss) (l:List Nte) (q:List Rul) (m day a1 a2 b1 b2:Int) (hw:WfN l) (hr:Wf r) (hq:Sml q) :
  PC Tryz.prog G 19 [swa r l q,.int .i64 m,.int .i64 day,.agg [.int .i64 a1,.int .i64 a2],.agg [.int .i64 b1,.int .i64 b2]] (suE r l q m day (a1,a2) (b1,b2)):=by
 have hp:=ZkM (G:=G) r l q m day a1 a2 b1 b2 hw hr hq
 unfold suE
 by_cases h0:puN r l q [] m day (a1,a2) (b1,b2)=0
 case neg =>
  rw [if_neg h0]
  unfold swa at *
  (refine Z5p rfl fun R hG hrd=>GO_AR mixed 1000 ?_;subst hG)
  simp -implicitDefEqProofs [Z5n,Z5o]
  (first|refine CallK.of (hp) (by simp) ?_|refine CallD.of (hp) (by simp) ?_)
  simp -implicitDefEqProofs [h0]
 obtain ⟨h1,h2,h3⟩:=ZjY h0
 have hz:=ZhS h1
 have hB:=Zhb (Zhv hz.1).1
 have hT:=Zkr (G:=G) r l hB
 have h5:=Zkg hB
 have hm:∀ v,PC Tryz.prog G 58 [swa r l q,.vsl ((sbT (opQ l) v).map ia),.int .i64 m,.int .i64 day,.agg [.int .i64 a1,.int .i64 a2],.agg [.int .i64 b1,.int .i64 b2]] (.bool (mB r l q m day (a1,a2) (b1,b2) v)):=fun v =>
  Zk7 (G:=G) r l q (sbT (opQ l) v) m day a1 a2 b1 b2 hw hr (by have:=(Zka (opQ l) v).length_le;unfold Sml;omega) hz.1 (Zj8.1 h2) (Zj8.1 h3)
 have hK:=pow5 h5
 have tget:∀ v K,v<K→(trK (opQ l) K)[v]? = some [.vsl ((sbT (opQ l) v).map ia)]:=fun v K h=>by simp [trK,trR,h]
 rw [h0]at hp
 rw [if_pos h0,h0]
 have tlen:=Zki (opQ l)
 have tpur:=Zkk (opQ l)
 generalize mB r l q m day (a1,a2) (b1,b2)=f at *
 generalize 2 ^ (opQ l).length=K at *
 unfold swa at *
 (refine Z5p rfl fun R hG hrd=>GO_AR mixed 1000 ?_;subst hG)
 simp -implicitDefEqProofs [Z5n,Z5o]
 (first|refine CallK.of (hp) (by simp) ?_|refine CallD.of (hp) (by simp) ?_)
 simp -implicitDefEqProofs []
 (first|refine CallK.of (hT) (by simp) ?_|refine CallD.of (hT) (by simp) ?_)
 simp -implicitDefEqProofs []
 refine Za2 (fun v=>⟨[(16,.int .i64 v),(15,.vsl (trK (opQ l) K)),(14,.bool (anyF f v)),(13,.bool (anyT f v)),(9,.ptr 9 0),(8,.ptr 8 0),(5,.ptr 5 0),(2,.int .i64 day),(1,.int .i64 m)],
  [(9,.box [.int .i64 b1,.int .i64 b2]),(8,.box [.int .i64 a1,.int .i64 a2]),(5,.box [.vsl (r.map isa),.vsl (l.map na),.vsl (q.map ra)])]⟩) (fun _=>True) K ?_ trivial ?_ ?_
 · have e1:anyT f 0=false:=rfl
   have e2:anyF f 0=false:=rfl
   rw [e1,e2]
   (refine Weak.sub (by simp [lk,keptA,AV.keys]) ?_;simp only [Wkl,and_true];(try simp [lk,keptO,keptA,AV.keys]))
 · intro v hv _
   have wv:IntKind.i64.wrap ((v:Int)+1)=(v:Int)+1:=wrapI (by omega) (by omega)
   obtain ⟨q1,g1⟩:=List.getElem?_eq_some_iff.1 (tget v K hv)
   have t1:=ZkK f v
   have t2:=ZkL f v
   have hmv:=hm v
   have tl:=tlen K
   generalize trK (opQ l) K=Q at *
   refine GO_AR mixed 1000 ?_
   simp -implicitDefEqProofs [hv,q1,g1,tl]
   refine CallD.of hmv (by simp [AV.pure,isa,na,ra,ia]) ?_
   cases hf:f v
   all_goals
    rw [hf]at t1 t2
    simp only [Bool.or_false,Bool.or_true,Bool.not_true,Bool.not_false]at t1 t2
    simp -implicitDefEqProofs [wv,t1,t2]
    refine ⟨rfl,?_⟩
    (refine Weak.sub (by simp [lk,keptA,AV.keys]) ?_;simp only [Wkl,and_true];(try simp [lk,keptO,keptA,AV.keys]))
 · intro _
   have tl:=tlen K
   refine GO_AR mixed 1000 ?_
   cases c1:anyT f K
   all_goals
    cases c2:anyF f K
   all_goals
    simp -implicitDefEqProofs [tl]
    refine Z2N mixed 1000 ?_
    simp -implicitDefEqProofs [suV,c1,c2]
theorem ZkO (hG:GC G) (hN:GN G) (r:List Iss) (l:List Nte) (q:List Rul) (m day a1 a2 b1 b2:Int) (hw:WfN l) (hr:Wf r) (hq:Sml q) :
  PC Tryz.prog G 53 [swa r l q,.nils,.int .i64 m,.int .i64 day,.agg [.int .i64 a1,.int .i64 a2],.agg [.int .i64 b1,.int .i64 b2]]
   (.tup [.agg (if puN r l q [] m day (a1,a2) (b1,b2)=0 then moC r l q [] m day else [.nilp,.nils,.int .i64 0,.int .i64 0]),.int .i64 (puN r l q [] m day (a1,a2) (b1,b2))]) :=
 PC.sub (Zk0 hG hN r l q [] m day a1 a2 b1 b2 hw hr hq (by simp [Sml])) ⟨.rfl',.nils,.rfl',.rfl',.rfl',.rfl',trivial⟩
set_option maxHeartbeats 4000000 in
theorem ZkP (hG:GC G) (hN:GN G) (hQ:GQ G) (r:List Iss) (l:List Nte) (q:List Rul) (m day a1 a2 b1 b2:Int) (hw:WfN l) (hr:Wf r) (hq:Sml q) :
  PC Tryz.prog G 18 [swa r l q,.int .i64 m,.int .i64 day,.agg [.int .i64 a1,.int .i64 a2],.agg [.int .i64 b1,.int .i64 b2]] (suE r l q m day (a1,a2) (b1,b2)):=by
 have hp:=ZkO hG hN r l q m day a1 a2 b1 b2 hw hr hq
 unfold suE
 by_cases h0:puN r l q [] m day (a1,a2) (b1,b2)=0
 case neg =>
  rw [if_neg h0]at hp ⊢
  unfold swa at *
  (refine Z5s rfl fun R hG hrd=>GO_AR mixed 1000 ?_;subst hG)
  simp -implicitDefEqProofs [Z5q,Z5r]
  (first|refine CallK.of (hp) (by simp) ?_|refine CallD.of (hp) (by simp) ?_)
  simp -implicitDefEqProofs [h0]
 obtain ⟨h1,h2,h3⟩:=ZjY h0
 have hz:=ZhS h1
 have hB:=Zhb (Zhv hz.1).1
 have h12:=Zhd hB
 have h5:=Zkg hB
 have pS:(shopA r l q).pure=true:=by unfold shopA rfA;split <;> simp [AV.pure,isa,na,ra,rfa]
 have kS:(shopA r l q).keys=[]:=by unfold shopA;simp [AV.keys]
 have hm:∀ v,PC Tryz.prog G 55 [.agg (moC r l q (sbT (opQ l) v) m day),.agg [.int .i64 a1,.int .i64 a2],.agg [.int .i64 b1,.int .i64 b2]] (.bool (mB r l q m day (a1,a2) (b1,b2) v)):=fun v =>
  Zk1 hG hN hQ r l q (sbT (opQ l) v) m day a1 a2 b1 b2 hw hr hq (by have:=(Zka (opQ l) v).length_le;unfold Sml;omega) hz.1 (Zkf hB v)
 have hK:=pow5 h5
 have sh:=shU (n:=(opQ l).length) (by omega)
 rw [if_pos h0,h0]at hp
 rw [if_pos h0,h0]
 obtain ⟨cs,eS⟩ : ∃ cs,shopA r l q = .vptr cs 0:=⟨_,rfl⟩
 have sS:∀ ok st n,snapF ok st n (shopA r l q)=some (shopA r l q):=fun ok st n=>by
  rw [eS]at pS ⊢
  cases n <;> simp [snapF,pS]
 unfold moC at *
 rw [eS]at hp pS kS sS
 simp only [eS]at hm
 generalize mB r l q m day (a1,a2) (b1,b2)=f at *
 generalize hKe:2 ^ (opQ l).length=K at *
 unfold swa at *
 (refine Z5s rfl fun R hG hrd=>GO_AR mixed 1000 ?_;subst hG)
 simp -implicitDefEqProofs [Z5q,Z5r]
 (first|refine CallK.of (hp) (by simp) ?_|refine CallD.of (hp) (by simp) ?_)
 simp -implicitDefEqProofs []
 refine Za2 (fun i=>su1 l (suB (.vptr cs 0) m day a1 a2 b1 b2 (.vsl [])) (onu l i) i) (fun _=>True) l.length ?_ trivial ?_ ?_
 · have e0:onu l 0=[]:=rfl
   simp only [su1,suP,suB,e0,if_true]
   ((try simp only [kS]);refine Weak.sub (by simp [lk,keptA,AV.keys,kS]) ?_;simp only [kS,Wkl,and_true];(try simp [lk,keptO,keptA,AV.keys,kS]))
 · intro i hi _
   have wi:IntKind.i64.wrap ((i:Int)+1)=(i:Int)+1:=wrapI (by omega) (by omega)
   have sn:=Zgi hi
   have sl:=Zgj l i
   obtain ⟨x,hx⟩ : ∃ x,x=l[i]:=⟨_,rfl⟩
   have hnx:na x=[.int .i64 x.nu,.int .i64 x.dy,.int .u8 x.sg,.int .i64 x.dr,.int .i64 x.lt,.int .i64 x.fr,.int .i64 x.tu,.int .i64 x.ca,.bool x.up,.int .u8 x.wy]:=rfl
   rw [← hx]at sn
   have em:=Zkm (onu l i) x.nu
   have lnm:=Zkn (onu l i)
   have bb:((onu l i).length+1)*8≤70368744177664:=by omega
   generalize onu l i=acc at *
   refine GO_AR mixed 1000 ?_
   by_cases cg:x.sg=1
   · rw [if_pos cg]at sn
     by_cases cx:acc=[]
     · rw [cx,List.nil_append]at sn em
       have e0:iaM []=[]:=rfl
       rw [e0,List.nil_append]at em
       simp -implicitDefEqProofs [su1,suP,suB,cx,hi,← hx,hnx,cg,wi,sn]
       rw [← em]
       ((try simp only [kS]);refine Weak.sub (by simp [lk,keptA,AV.keys,kS]) ?_;simp only [kS,Wkl,Zko,and_true];(try simp [lk,keptO,keptA,AV.keys,kS]))
     · have cx2:¬onu l (i+1)=[]:=by rw [sn];simp
       simp -implicitDefEqProofs [su1,suP,suB,cx,hi,← hx,hnx,cg,wi,sn,bb,lnm]
       rw [← em]
       ((try simp only [kS]);refine Weak.sub (by simp [lk,keptA,AV.keys,kS]) ?_;simp only [kS,Wkl,Zko,and_true];(try simp [lk,keptO,keptA,AV.keys,kS]))
   · rw [if_neg cg]at sn
     by_cases cx:acc=[]
     all_goals
      simp -implicitDefEqProofs [su1,suP,suB,cx,hi,← hx,hnx,cg,wi,sn]
      ((try simp only [kS]);refine Weak.sub (by simp [lk,keptA,AV.keys,kS]) ?_;simp only [kS,Wkl,Zko,and_true];(try simp [lk,keptO,keptA,AV.keys,kS]))
 · intro _
   have eO:opU l=onu l l.length:=rfl
   have eQ:opQ l=sortI (onu l l.length):=rfl
   have hso:=Zgd (G:=R.G) (onu l l.length) (by have:=Zgj l l.length;omega)
   rw [← eQ]at hso
   have lQ:(onu l l.length).length=(opQ l).length:=by rw [eQ,Zd4]
   refine GO_AR mixed 1000 ?_
   have wK:IntKind.i64.wrap 1=1:=rfl
   by_cases cx:onu l l.length=[]
   case' pos =>
    have hq0:opQ l=[]:=by rw [eQ,cx];simp [sortI]
    have hU:suU l = .nils:=by simp [suU,hq0]
    have hl:(opQ l).length=0:=by rw [hq0];rfl
    have hK1:K=1:=by rw [← hKe,hl];try rfl
    simp -implicitDefEqProofs [su1,suP,suB,cx]
    refine Z2N mixed 1000 ?_
    simp -implicitDefEqProofs []
    (first|refine CallK.of (Zgg) (by simp) ?_|refine CallD.of (Zgg) (by simp) ?_)
    simp -implicitDefEqProofs []
   case' neg =>
    have hq0:¬opQ l=[]:=fun h=>cx (List.length_eq_zero_iff.1 (by rw [lQ,h];rfl))
    have hU:suU l = .vsl ((opQ l).map ia):=by simp [suU,hq0]
    have hl:True:=trivial
    have hK1:True:=trivial
    have sh2:=sh
    rw [← lQ]at sh2
    simp -implicitDefEqProofs [su1,suP,suB,cx]
    refine Z2N mixed 1000 ?_
    simp -implicitDefEqProofs []
    have e1:iaM (onu l l.length)=(onu l l.length).map ia:=rfl
    rw [e1]
    refine CallK.sem (Z1B.byref hso (fun _=>48) (by simp) (by simp) (by simp [St.get,lk,Zg5]) (by simp [Zg6]) (by simp [keptA,AV.keys,lk]) rfl (by simp [AV.ren]) rfl rfl) ?_
    simp -implicitDefEqProofs [setsB,Zg5,lQ,sh,sh2]
   all_goals
    refine Z1Q (su2 l f K (.vptr cs 0) m day a1 a2 b1 b2) (fun x=>x.1≤K∧x.2.keys=[]) (fun x=>K-x.1) (0,.vsl []) ?_ ⟨Nat.zero_le _,by simp [AV.keys]⟩ ?_
    · have t0:anyT f 0=false:=rfl
      have f0:anyF f 0=false:=rfl
      simp only [su2,suP,suB,hU,t0,f0]
      refine Weak.trans (Weak.frz (fun k=>k == 48) _) ?_
      ((try simp only [frzSt,frzA,frzO,frz,snapF,snapL,St.get,AV.pure,lQ,ia,kS,hK1,wK]);refine Weak.sub (by simp [lk,keptA,AV.keys,frzSt,frzA,frzO,frz,snapF,snapL,St.get,AV.pure,lQ,ia,kS,hK1,wK]) ?_;simp only [frzSt,frzA,frzO,frz,snapF,snapL,St.get,AV.pure,lQ,ia,kS,hK1,wK,Wkl,and_true];(try simp [lk,keptO,keptA,AV.keys,frzSt,frzA,frzO,frz,snapF,snapL,St.get,AV.pure,lQ,ia,kS,hK1,wK]))
    rintro ⟨v,C⟩ ⟨hv,kC⟩
    simp only at hv kC
    refine GO_AR mixed 1000 ?_
    by_cases hvK:v<K
    · have wv:IntKind.i64.wrap ((v:Int)+1)=(v:Int)+1:=wrapI (by omega) (by omega)
      have t1:=ZkK f v
      have t2:=ZkL f v
      simp -implicitDefEqProofs [su2,suP,suB,hvK,hU,hl]
      refine Za2 (fun i=>su3 l f K (.vptr cs 0) m day a1 a2 b1 b2 v i (sbN (opQ l) v i)) (fun _=>True) (opQ l).length ?_ trivial ?_ ?_
      · have e0:sbN (opQ l) v 0=[]:=rfl
        simp only [su3,suP,suB,e0,if_true,hU]
        ((try simp only [kS,hl,ia]);refine Weak.sub (by simp [lk,keptA,AV.keys,kS,hl,ia]) ?_;simp only [kS,hl,ia,Wkl,and_true];(try simp [lk,keptO,keptA,AV.keys,kS,hl,ia]))
      · intro i hi _
        have hq:¬opQ l=[]:=fun h=>by rw [h]at hi;simp at hi
        have hU':suU l = .vsl ((opQ l).map ia):=by simp [suU,hq]
        have wi:IntKind.i64.wrap ((i:Int)+1)=(i:Int)+1:=wrapI (by omega) (by omega)
        have bU:=bitU (v:=v) (i:=i) (by omega) (by omega)
        have sn:=Zkq (opQ l) v i
        have eg:(opQ l).getD i 0=(opQ l)[i]:=by simp [List.getD_eq_getElem?_getD,hi]
        rw [eg]at sn
        have sl:=Zk8 (opQ l) v i
        have em:=Zkm (sbN (opQ l) v i) (opQ l)[i]
        have lnm:=Zkn (sbN (opQ l) v i)
        have bb:((sbN (opQ l) v i).length+1)*8≤70368744177664:=by omega
        generalize sbN (opQ l) v i=s at *
        refine GO_AR mixed 1000 ?_
        by_cases cb:v / 2 ^ i % 2=1
        · rw [if_pos cb]at sn bU
          by_cases cx:s=[]
          · rw [cx,List.nil_append]at sn em
            have e0:iaM []=[]:=rfl
            rw [e0,List.nil_append]at em
            simp -implicitDefEqProofs [su3,suP,suB,cx,hU',hi,bU,ia,wi,sn]
            rw [← em]
            ((try simp only [kS,ia]);refine Weak.sub (by simp [lk,keptA,AV.keys,kS,ia]) ?_;simp only [kS,ia,Wkl,Zko,and_true];(try simp [lk,keptO,keptA,AV.keys,kS,ia]))
          · have cx2:¬s++[(opQ l)[i]]=[]:=by simp
            simp -implicitDefEqProofs [su3,suP,suB,cx,cx2,hU',hi,bU,ia,wi,sn,bb,lnm]
            rw [← em]
            ((try simp only [kS,ia]);refine Weak.sub (by simp [lk,keptA,AV.keys,kS,ia]) ?_;simp only [kS,ia,Wkl,Zko,and_true];(try simp [lk,keptO,keptA,AV.keys,kS,ia]))
        · rw [if_neg cb]at sn bU
          by_cases cx:s=[]
          all_goals
           simp -implicitDefEqProofs [su3,suP,suB,cx,hU',hi,bU,ia,wi,sn]
           ((try simp only [kS,ia]);refine Weak.sub (by simp [lk,keptA,AV.keys,kS,ia]) ?_;simp only [kS,ia,Wkl,Zko,and_true];(try simp [lk,keptO,keptA,AV.keys,kS,ia]))
      · intro _
        have hmv:=hm v
        have eT:sbN (opQ l) v (opQ l).length=sbT (opQ l) v:=rfl
        rw [eT]
        have s5:(sbT (opQ l) v).length≤5:=Nat.le_trans (Zka (opQ l) v).length_le h5
        generalize sbT (opQ l) v=s at *
        have sp:=Zkp s
        have lnm:=Zkn s
        have eM:s.map ia=iaM s:=rfl
        refine GO_AR mixed 1000 ?_
        by_cases cx:s=[]
        · simp -implicitDefEqProofs [su3,suP,suB,cx,hU]
          refine Z2N mixed 1000 ?_
          simp -implicitDefEqProofs []
          refine CallK.of (PC.sub hmv ⟨.agg ⟨.rfl',by rw [cx];exact .nils,.rfl',.rfl',trivial⟩,.rfl',.rfl',trivial⟩) (by simp [AV.pure,pS]) ?_
          cases hf:f v
          all_goals
           rw [hf]at t1 t2
           simp only [Bool.or_false,Bool.or_true,Bool.not_true,Bool.not_false]at t1 t2
           simp -implicitDefEqProofs [wv]
           refine ⟨(v+1,.nils),?_,⟨hvK,by simp [AV.keys]⟩,by show K-(v+1)<K-v;omega⟩
           simp only [su2,suP,suB,hU,t1,t2]
           ((try simp only [kS,ia]);refine Weak.sub (by simp [lk,keptA,AV.keys,kS,ia]) ?_;simp only [kS,ia,Wkl,and_true];(try simp [lk,keptO,keptA,AV.keys,kS,ia]))
        · simp -implicitDefEqProofs [su3,suP,suB,cx,hU]
          refine Z2N mixed 1000 ?_
          simp -implicitDefEqProofs []
          refine CallK.flat hmv (by simp [AV.flat]) (by simp [snapL,snap,snapF,sS,okAll,St.get,lk,sp,lnm,eM,AV.pure]) ?_
          cases hf:f v
          all_goals
           rw [hf]at t1 t2
           simp only [Bool.or_false,Bool.or_true,Bool.not_true,Bool.not_false]at t1 t2
           simp -implicitDefEqProofs [wv]
           refine ⟨(v+1,.vsl (s.map ia)),?_,⟨hvK,by simp [AV.keys]⟩,by show K-(v+1)<K-v;omega⟩
           simp only [su2,suP,suB,hU,t1,t2]
           refine Weak.trans (Weak.frz (fun k=>k == 75) _) ?_
           ((try simp only [frzSt,frzA,frzO,frz,snapF,snapL,St.get,AV.pure,ia,kS,pS,sp,lnm,eM]);refine Weak.sub (by simp [lk,keptA,AV.keys,frzSt,frzA,frzO,frz,snapF,snapL,St.get,AV.pure,ia,kS,pS,sp,lnm,eM]) ?_;simp only [frzSt,frzA,frzO,frz,snapF,snapL,St.get,AV.pure,ia,kS,pS,sp,lnm,eM,Wkl,and_true];(try simp [lk,keptO,keptA,AV.keys,frzSt,frzA,frzO,frz,snapF,snapL,St.get,AV.pure,ia,kS,pS,sp,lnm,eM]))
    · have hK2:v=K:=by omega
      subst hK2
      cases c1:anyT f v
      all_goals
       cases c2:anyF f v
      all_goals
       simp -implicitDefEqProofs [su2,suP,suB,hU,c1,c2]
       refine Z2N mixed 1000 ?_
       simp -implicitDefEqProofs [suV,c1,c2]
theorem ZkQ (hG:GC G) (hN:GN G) (hQ:GQ G) (r:List Iss) (l:List Nte) (q:List Rul) (m day a1 a2 b1 b2:Int) (hw:WfN l) (hr:Wf r) (hq:Sml q) :
  PC Tryz.prog G 4 [swa r l q,.int .i64 m,.int .i64 day,.agg [.int .i64 a1,.int .i64 a2],.agg [.int .i64 b1,.int .i64 b2]] (.bool true):=by
 have c6:=Zhn (G:=G) r l q hr.1.1
 have c7:=Zhp (G:=G) r l q hr.1 hw.1 hq
 have c8:=ZkP hG hN hQ r l q m day a1 a2 b1 b2 hw hr hq
 have c9:=ZkN (G:=G) r l q m day a1 a2 b1 b2 hw hr hq
 have c16:=Zhq (G:=G) r r l l q q hr.1 hw.1 hq
 unfold suE at c8 c9
 generalize (if puN r l q [] m day (a1,a2) (b1,b2)=0 then suV (mB r l q m day (a1,a2) (b1,b2)) (2 ^ (opQ l).length) else 0)=x at *
 generalize puN r l q [] m day (a1,a2) (b1,b2)=y at *
 unfold swa at *
 (refine Z5v rfl fun R hG hrd=>GO_AR mixed 1000 ?_;subst hG)
 simp -implicitDefEqProofs [Z5t,Z5u]
 (first|refine CallK.of (c6) (by simp) ?_|refine CallD.of (c6) (by simp) ?_)
 cases h6:(Zag r||decide (16<l.length)||decide (20<q.length))
 · simp -implicitDefEqProofs []
   (first|refine CallK.of (c7) (by simp) ?_|refine CallD.of (c7) (by simp) ?_)
   simp -implicitDefEqProofs []
   (first|refine CallK.of (c8) (by simp) ?_|refine CallD.of (c8) (by simp) ?_)
   simp -implicitDefEqProofs []
   (first|refine CallK.of (c9) (by simp) ?_|refine CallD.of (c9) (by simp) ?_)
   simp -implicitDefEqProofs []
   (first|refine CallK.of (c16) (by simp) ?_|refine CallD.of (c16) (by simp) ?_)
   simp -implicitDefEqProofs []
 · simp -implicitDefEqProofs []
theorem ZkR (hG:GC G) (hN:GN G) (hQ:GQ G) (r:List Iss) (l:List Nte) (q:List Rul) (m day a1 a2 b1 b2:Int) (hr:∀ x∈r,KOk x) (hl:∀ x∈l,NOk x) :
  PC Tryz.prog G 4 [swa r l q,.int .i64 m,.int .i64 day,.agg [.int .i64 a1,.int .i64 a2],.agg [.int .i64 b1,.int .i64 b2]] (.bool true):=by
 have c6:=ZkJ (G:=G) r l q
 by_cases h:(Zag r||decide (16<l.length)||decide (20<q.length))=true
 · rw [h]at c6
   unfold swa at *
   (refine Z5v rfl fun R hG hrd=>GO_AR mixed 1000 ?_;subst hG)
   simp -implicitDefEqProofs [Z5t,Z5u]
   (first|refine CallK.of (c6) (by simp) ?_|refine CallD.of (c6) (by simp) ?_)
   simp -implicitDefEqProofs []
 · have h':(Zag r||decide (16<l.length)||decide (20<q.length))=false:=by simpa using h
   simp only [Bool.or_eq_false_iff,decide_eq_false_iff_not]at h'
   exact ZkQ hG hN hQ r l q m day a1 a2 b1 b2 ⟨by unfold Sml;omega,hl⟩ (ZkH h'.1.1 hr) (by unfold Sml;omega)
end
open Go.ChangeShapes Go.WideShapes Go.ChangeAt Go.WideMaps Go.WideElems Go.RowKit Go.Deep
def laid5:List (String×DataW Unit):=[("blueline/sheet.checks",Rows.laid_blueline_sheet_checks),("blueline/note.checks",Rows.laid_blueline_note_checks),("blueline/swap.sources",Rows.laid_blueline_swap_sources)]
theorem ZkS (os:Os) (args:Array Value):laidMetH Tryz.prog laid5 ((World.doorLaid Tryz.prog 41 os).forCall (fun _ _=>0) ⟨#[],args,[]⟩).memory :=
 laidMetH_of_parts3 (fuel:=8) (laidMet_of_run' 8 (by kernel_rfl) (by kernel_rfl)) (by kernel_rfl) (by kernel_rfl)
theorem cellF {W:World} {fuel:Nat} {c:Value} {y:DataW (List UInt8)×List MemPlace} {tE:Nat} {fld:Field} {ps rs:Array TypeId} {vd:Bool} {b:UInt8} {s:List UInt8} {f0:FuncId}
  (uE:Tryz.prog.underlying tE=some (.struct #[fld])) (hfo:fld.offset=0) (uF:Tryz.prog.underlying fld.type=some (.func ps rs vd)) (cF:Tryz.prog.cellsOf fld.type=1)
  (hone:((List.range Tryz.prog.funcs.size).filter fun f=>(Tryz.prog.funcs[f]?).any (·.name.toUTF8.data.toList == b::s))=[f0])
  (h:DataW.trod (funcToken Tryz.prog) Tryz.prog W 0 (fun _=>true) true fuel tE [c]=some y) (hy:y.1 = .agg [.held (b::s)]):c = .func (.func f0) #[] #[]:=by
 obtain ⟨y0,n,rfl,-,h0⟩:=trod_struct1 uE h
 rw [hfo,List.drop_zero,cF]at h0
 simp only [DataW.agg.injEq,List.cons.injEq,and_true]at hy
 exact func_of_trod (q:=y0.2) uF hone (by rw [← hy];simpa using h0)
theorem ZkT {W:World} {laid:List (String×DataW Unit)} {nm:String} {d:DataW Unit} {g tA tE:Nat} {fld:Field} {ps rs:Array TypeId} {vd:Bool} {n:Nat} (toks:List (List UInt8)) (fs:List FuncId)
  (h:laidMetH Tryz.prog laid W) (hm:(nm,DataW.iface "func table" d)∈laid) (hg:Tryz.prog.globalNamed nm=some g) (ht:(Tryz.prog.globals[g]?).map (·.type)=some tA)
  (uA:Tryz.prog.underlying tA=some (.array n tE)) (uE:Tryz.prog.underlying tE=some (.struct #[fld])) (hfo:fld.offset=0) (uF:Tryz.prog.underlying fld.type=some (.func ps rs vd))
  (cA:Tryz.prog.cellsOf tA=n) (cE:Tryz.prog.cellsOf tE=1) (cF:Tryz.prog.cellsOf fld.type=1) (hl1:toks.length=n) (hl2:fs.length=n)
  (hd0:(d.funcsOut:DataW (List UInt8)) = .agg (toks.map fun s=>.agg [.held s]))
  (hone:∀ (i:Nat) (s:List UInt8) (f:FuncId),toks[i]? = some s→fs[i]? = some f→∃ b r,s=b::r∧((List.range Tryz.prog.funcs.size).filter fun f=>(Tryz.prog.funcs[f]?).any (·.name.toUTF8.data.toList == b::r))=[f]) :
  ∃ t fr,W.heap[g]? = some (.cells ((fs.map fun f=>Value.func (.func f) #[] #[]).toArray) t fr):=by
 obtain ⟨g',t,cs,fuel,p,hg',ht',hv,hd⟩:=h.funcs hm
 obtain rfl:=Option.some.inj (hg.symm.trans hg')
 obtain rfl:=Option.some.inj (ht.symm.trans ht')
 obtain ⟨xs,m,rfl,hx,hlen,hn,hel⟩:=DataW.trod_array uA hd
 rw [cA]at hlen
 rw [cE]at hel
 rw [hd0,Prod.mk.injEq,DataW.agg.injEq]at hx
 have hx:=hx.1
 have hcs:cs.toList=fs.map fun f=>Value.func (.func f) #[] #[]:=by
  refine List.ext_getElem? fun i=>?_
  by_cases hi:i<n
  · have e:=hel i hi
    have h1:i<xs.length:=by omega
    have h2:i<toks.length:=by omega
    have h3:i<fs.length:=by omega
    have h4:i<cs.toList.length:=by omega
    obtain ⟨b,r,hb,ho⟩:=hone i _ _ (List.getElem?_eq_getElem h2) (List.getElem?_eq_getElem h3)
    rw [Nat.mul_one,List.drop_eq_getElem_cons h4,List.take_succ_cons,List.take_zero,List.getElem?_eq_getElem h1]at e
    have ey:=congrArg (fun l=>l[i]?) hx
    simp only [List.getElem?_map,List.getElem?_eq_getElem h2,List.getElem?_eq_getElem h1,Option.map_some,Option.some.injEq]at ey
    rw [hb]at ey
    have:=cellF uE hfo uF cF ho e ey.symm
    rw [List.getElem?_eq_getElem h4,List.getElem?_map,List.getElem?_eq_getElem h3,this]
    rfl
  · rw [List.getElem?_eq_none (by omega),List.getElem?_eq_none (by simp;omega)]
 simp only [World.var?,hg,Option.bind_some]at hv
 split at hv
 · rename_i cs' t fr heq
   injection hv with hv
   have e:cs=(fs.map fun f=>Value.func (.func f) #[] #[]).toArray:=by rw [← hcs]
   exact ⟨t,fr,by rw [heq,hv,e]⟩
 · cases hv
def TabB (W:World) (g:Nat) (fs:List FuncId):Prop:=∃ t fr,W.heap[g]? = some (.cells ((fs.map fun f=>Value.func (.func f) #[] #[]).toArray) t fr)
def tabA (fs:List FuncId):List AV:=fs.map fun f=>.func (.func f) [] []
theorem ZkU {W:World} {g:Nat} {fs:List FuncId} (h:TabB W g fs):PV noM W (.vptr (tabA fs) 0) (.pointer (some ⟨g,0,none⟩)):=by
 obtain ⟨t,fr,hb⟩:=h
 refine .vptr _ 0 g 0 (fun j=>(((fs.map fun f=>Value.func (.func f) #[] #[]).toArray)[j]?).getD undef) (Array.getElem?_eq_some_iff.1 hb).1 id ?_ ?_
 · intro j hj
   have hj':j<fs.length:=by simpa [tabA] using hj
   simp [World.cell?,hb,hj']
 · intro j x hx
   unfold tabA at hx
   rw [List.getElem?_map,Option.map_eq_some_iff]at hx
   obtain ⟨f,hf,rfl⟩:=hx
   have hj':=(List.getElem?_eq_some_iff.1 hf).1
   have e:((fs.map fun f=>Value.func (.func f) #[] #[]).toArray)[j]? = some (.func (.func f) #[] #[]):=by simp [hf]
   rw [e]
   exact .func _ [] [] #[] #[] rfl rfl (by simp) (by simp)
def fsC:List FuncId:=[193,194,195,196]
def fsN:List FuncId:=[203,204,205,206,208,209,212,214]
def fsQ:List FuncId:=[191,192]
set_option maxRecDepth 100000 in
theorem ZkV {W:World} (h:laidMetH Tryz.prog laid5 W):TabB W 1 fsC :=
 ZkT [[98,108,117,101,108,105,110,101,47,115,104,101,101,116,46,99,104,101,99,107,115,36,49],[98,108,117,101,108,105,110,101,47,115,104,101,101,116,46,99,104,101,99,107,115,36,50],[98,108,117,101,108,105,110,101,47,115,104,101,101,116,46,99,104,101,99,107,115,36,51],[98,108,117,101,108,105,110,101,47,115,104,101,101,116,46,99,104,101,99,107,115,36,52]] fsC h (List.mem_cons_self ..) (by kernel_rfl) (by kernel_rfl) Tryz.underlying222 (fld:=_) Tryz.underlying221 rfl Tryz.underlying220 (by kernel_rfl) (by kernel_rfl) (by kernel_rfl) rfl rfl rfl
 (fun i s f hs hf=>by
  match i,hs,hf with
  |0,hs,hf=>cases hs;cases hf;exact ⟨_,_,rfl,by kernel_rfl⟩
  |1,hs,hf=>cases hs;cases hf;exact ⟨_,_,rfl,by kernel_rfl⟩
  |2,hs,hf=>cases hs;cases hf;exact ⟨_,_,rfl,by kernel_rfl⟩
  |3,hs,hf=>cases hs;cases hf;exact ⟨_,_,rfl,by kernel_rfl⟩
  |i+4,hs,_=>simp at hs)
set_option maxRecDepth 100000 in
theorem ZkW {W:World} (h:laidMetH Tryz.prog laid5 W):TabB W 2 fsN :=
 ZkT [[98,108,117,101,108,105,110,101,47,110,111,116,101,46,99,104,101,99,107,115,36,49],[98,108,117,101,108,105,110,101,47,110,111,116,101,46,99,104,101,99,107,115,36,50],[98,108,117,101,108,105,110,101,47,110,111,116,101,46,99,104,101,99,107,115,36,51],[98,108,117,101,108,105,110,101,47,110,111,116,101,46,99,104,101,99,107,115,36,52],[98,108,117,101,108,105,110,101,47,110,111,116,101,46,99,104,101,99,107,115,36,53],[98,108,117,101,108,105,110,101,47,110,111,116,101,46,99,104,101,99,107,115,36,54],[98,108,117,101,108,105,110,101,47,110,111,116,101,46,99,104,101,99,107,115,36,55],[98,108,117,101,108,105,110,101,47,110,111,116,101,46,99,104,101,99,107,115,36,56]] fsN h (List.mem_cons_of_mem _ (List.mem_cons_self ..)) (by kernel_rfl) (by kernel_rfl) Tryz.underlying233 (fld:=_) Tryz.underlying232 rfl Tryz.underlying199 (by kernel_rfl) (by kernel_rfl) (by kernel_rfl) rfl rfl rfl
 (fun i s f hs hf=>by
  match i,hs,hf with
  |0,hs,hf=>cases hs;cases hf;exact ⟨_,_,rfl,by kernel_rfl⟩
  |1,hs,hf=>cases hs;cases hf;exact ⟨_,_,rfl,by kernel_rfl⟩
  |2,hs,hf=>cases hs;cases hf;exact ⟨_,_,rfl,by kernel_rfl⟩
  |3,hs,hf=>cases hs;cases hf;exact ⟨_,_,rfl,by kernel_rfl⟩
  |4,hs,hf=>cases hs;cases hf;exact ⟨_,_,rfl,by kernel_rfl⟩
  |5,hs,hf=>cases hs;cases hf;exact ⟨_,_,rfl,by kernel_rfl⟩
  |6,hs,hf=>cases hs;cases hf;exact ⟨_,_,rfl,by kernel_rfl⟩
  |7,hs,hf=>cases hs;cases hf;exact ⟨_,_,rfl,by kernel_rfl⟩
  |i+8,hs,_=>simp at hs)
set_option maxRecDepth 100000 in
theorem ZkX {W:World} (h:laidMetH Tryz.prog laid5 W):TabB W 0 fsQ :=
 ZkT [[40,98,108,117,101,108,105,110,101,47,115,119,97,112,46,109,111,109,101,110,116,41,46,98,121,78,111,116,101,115],[40,98,108,117,101,108,105,110,101,47,115,119,97,112,46,109,111,109,101,110,116,41,46,98,121,82,117,108,101,115]] fsQ h (List.mem_cons_of_mem _ (List.mem_cons_of_mem _ (List.mem_cons_self ..))) (by kernel_rfl) (by kernel_rfl) Tryz.underlying159 (fld:=_) Tryz.underlying158 rfl Tryz.underlying156 (by kernel_rfl) (by kernel_rfl) (by kernel_rfl) rfl rfl rfl
 (fun i s f hs hf=>by
  match i,hs,hf with
  |0,hs,hf=>cases hs;cases hf;exact ⟨_,_,rfl,by kernel_rfl⟩
  |1,hs,hf=>cases hs;cases hf;exact ⟨_,_,rfl,by kernel_rfl⟩
  |i+2,hs,_=>simp at hs)
def G5:Nat→Option (List AV):=fun g=>if g=1 then some (tabA fsC) else if g=2 then some (tabA fsN) else if g=0 then some (tabA fsQ) else none
theorem ZkY:GC G5:=rfl
theorem ZkZ:GN G5:=rfl
theorem Zl0:GQ G5:=rfl
theorem Zl1 {W:World} (h:laidMetH Tryz.prog laid5 W):GR G5 noM W:=by
 intro g cs hg
 simp only [G5]at hg
 split at hg
 · rename_i e;subst e;cases hg;exact ZkU (ZkV h)
 · split at hg
   · rename_i e;subst e;cases hg;exact ZkU (ZkW h)
   · split at hg
     · rename_i e;subst e;cases hg;exact ZkU (ZkX h)
     · cases hg
def nteK:List TY:=[.int .i64,.int .i64,.int .u8,.int .i64,.int .i64,.int .i64,.int .i64,.int .i64,.bool,.int .u8]
def rulK:List TY:=[.int .i64,.int .i64,.int .i64,.int .i64,.int .i64,.int .i64,.bool,.int .i64]
def swpK:List TY:=[.sl isK2,.sl nteK,.sl rulK]
theorem Zl2 {xs:List AV} (h:TVs nteK xs):∃ x:Nte,xs=na x∧NOk x:=by
 obtain ⟨x0,_,rfl,h0,h⟩:=h.cons_inv
 obtain ⟨x1,_,rfl,h1,h⟩:=h.cons_inv
 obtain ⟨x2,_,rfl,h2,h⟩:=h.cons_inv
 obtain ⟨x3,_,rfl,h3,h⟩:=h.cons_inv
 obtain ⟨x4,_,rfl,h4,h⟩:=h.cons_inv
 obtain ⟨x5,_,rfl,h5,h⟩:=h.cons_inv
 obtain ⟨x6,_,rfl,h6,h⟩:=h.cons_inv
 obtain ⟨x7,_,rfl,h7,h⟩:=h.cons_inv
 obtain ⟨x8,_,rfl,h8,h⟩:=h.cons_inv
 obtain ⟨x9,_,rfl,h9,h⟩:=h.cons_inv
 obtain rfl:=h.nil_inv
 obtain ⟨v0,rfl,-⟩:=h0.int_inv
 obtain ⟨v1,rfl,-⟩:=h1.int_inv
 obtain ⟨v2,rfl,k2⟩:=h2.int_inv
 obtain ⟨v3,rfl,-⟩:=h3.int_inv
 obtain ⟨v4,rfl,-⟩:=h4.int_inv
 obtain ⟨v5,rfl,-⟩:=h5.int_inv
 obtain ⟨v6,rfl,-⟩:=h6.int_inv
 obtain ⟨v7,rfl,-⟩:=h7.int_inv
 obtain ⟨v8,rfl⟩:=h8.bool_inv
 obtain ⟨v9,rfl,k9⟩:=h9.int_inv
 obtain ⟨a2,b2⟩:=bounds_u8 k2
 obtain ⟨a9,b9⟩:=bounds_u8 k9
 exact ⟨⟨v0,v1,v2,v3,v4,v5,v6,v7,v8,v9⟩,rfl,a2,b2,a9,b9⟩
theorem Zl3 {xs:List AV} (h:TVs rulK xs):∃ x:Rul,xs=ra x:=by
 obtain ⟨x0,_,rfl,h0,h⟩:=h.cons_inv
 obtain ⟨x1,_,rfl,h1,h⟩:=h.cons_inv
 obtain ⟨x2,_,rfl,h2,h⟩:=h.cons_inv
 obtain ⟨x3,_,rfl,h3,h⟩:=h.cons_inv
 obtain ⟨x4,_,rfl,h4,h⟩:=h.cons_inv
 obtain ⟨x5,_,rfl,h5,h⟩:=h.cons_inv
 obtain ⟨x6,_,rfl,h6,h⟩:=h.cons_inv
 obtain ⟨x7,_,rfl,h7,h⟩:=h.cons_inv
 obtain rfl:=h.nil_inv
 obtain ⟨v0,rfl,-⟩:=h0.int_inv
 obtain ⟨v1,rfl,-⟩:=h1.int_inv
 obtain ⟨v2,rfl,-⟩:=h2.int_inv
 obtain ⟨v3,rfl,-⟩:=h3.int_inv
 obtain ⟨v4,rfl,-⟩:=h4.int_inv
 obtain ⟨v5,rfl,-⟩:=h5.int_inv
 obtain ⟨v6,rfl⟩:=h6.bool_inv
 obtain ⟨v7,rfl,-⟩:=h7.int_inv
 exact ⟨⟨v0,v1,v2,v3,v4,v5,v6,v7⟩,rfl⟩
theorem Zl4 {xs:List AV} (h:TVs swpK xs):∃ (r:List Iss) (l:List Nte) (q:List Rul),AV.agg xs=swa r l q∧(∀ x∈r,KOk x)∧∀ x∈l,NOk x:=by
 obtain ⟨x0,_,rfl,h0,h⟩:=h.cons_inv
 obtain ⟨x1,_,rfl,h1,h⟩:=h.cons_inv
 obtain ⟨x2,_,rfl,h2,h⟩:=h.cons_inv
 obtain rfl:=h.nil_inv
 obtain ⟨rows,rfl,-,g⟩:=h0.sl_inv
 obtain ⟨r,rfl,hr⟩:=ZkF (f:=isa) (p:=KOk) fun r hr=>ZkE (g r hr)
 obtain ⟨rows,rfl,-,g⟩:=h1.sl_inv
 obtain ⟨l,rfl,hl⟩:=ZkF (f:=na) (p:=NOk) fun r hr=>Zl2 (g r hr)
 obtain ⟨rows,rfl,-,g⟩:=h2.sl_inv
 obtain ⟨q,rfl⟩:=Zkx (f:=ra) fun r hr=>Zl3 (g r hr)
 exact ⟨r,l,q,rfl,hr,hl⟩
end Go.Proofs.YtpkfmfkccbnnjaaGreatDoor
