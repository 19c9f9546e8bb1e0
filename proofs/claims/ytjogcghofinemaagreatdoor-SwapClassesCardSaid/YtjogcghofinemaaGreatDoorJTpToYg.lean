/-
  The law SwapSures.
-/
import Derived.Test.YtjogcghofinemaaGreatDoorJTdToSu
import Derived.Test.YtjogcghofinemaaGreatDoorJEdToNd
import Derived.Test.YtjogcghofinemaaGreatDoorJRcWToEc
set_option linter.all false
set_option linter.unusedSimpArgs false
set_option linter.unusedVariables false
set_option linter.unusedSectionVars false
namespace Go.Proofs.YtjogcghofinemaaGreatDoor
open Go.RowKit
def mB (r:List Iss) (l:List Nte) (q:List Rul) (m day:Int) (a b:Rf) (v:Nat):Bool:=decide (diV (edg (st5 r l q (sbT (opQ l) v) m day)) b a<1048576)
def anyT (f:Nat->Bool) (v:Nat):Bool:=(List.range v).any f
def anyF (f:Nat->Bool) (v:Nat):Bool:=(List.range v).any λw=>!f w
theorem Zmx (f:Nat->Bool) (v:Nat):anyT f (v+1)=(anyT f v||f v):=by simp[anyT,List.range_succ,List.any_append]
theorem Zmy (f:Nat->Bool) (v:Nat):anyF f (v+1)=(anyF f v || !f v):=by simp[anyF,List.range_succ,List.any_append]
def suV (f:Nat->Bool) (K:Nat):Int:=if anyT f K=true then if anyF f K=true then 1 else 2 else 0
def suE (r:List Iss) (l:List Nte) (q:List Rul) (m day:Int) (a b:Rf):AV :=
 .tup [.int .u8 (if puN r l q [] m day a b=0 then suV (mB r l q m day a b) (2 ^ (opQ l).length) else 0),.int .i64 (puN r l q [] m day a b)]
def suB (S:AV) (m day a1 a2 b1 b2:Int) (C:AV):List (Nat×AObj):=[(12,.box [S,C,.int .i64 m,.int .i64 day]),(9,.box [.int .i64 b1,.int .i64 b2]),(8,.box [.int .i64 a1,.int .i64 a2])]
def suP:List (Nat×AV):=[(12,.ptr 12 0),(9,.ptr 9 0),(8,.ptr 8 0)]
def su1 (l:List Nte) (B:List (Nat×AObj)) (acc:List Int) (i:Nat):St :=
 if acc=[] then ⟨(37,.int .i64 i)::(36,.int .i64 l.length)::(35,.vsl (l.map na))::(14,.nils)::suP,B⟩
 else ⟨(37,.int .i64 i)::(36,.int .i64 l.length)::(35,.vsl (l.map na))::(14,.osl 48 acc.length)::suP,(48,.row 1 (iaM acc))::B⟩
def suU (l:List Nte):AV:=if opQ l=[] then .nils else .vsl ((opQ l).map ia)
def su2 (l:List Nte) (f:Nat->Bool) (K:Nat) (S:AV) (m day a1 a2 b1 b2:Int) (x:Nat×AV):St :=
 ⟨(55,.int .i64 x.1)::(54,.int .i64 K)::(17,.ptr 17 0)::(14,suU l)::suP,(17,.box [.bool (anyF f x.1),.bool (anyT f x.1)])::suB S m day a1 a2 b1 b2 x.2⟩
def su3 (l:List Nte) (f:Nat->Bool) (K:Nat) (S:AV) (m day a1 a2 b1 b2:Int) (v i:Nat) (s:List Int):St :=
 if s=[] then ⟨(61,.int .i64 i)::(60,.int .i64 (opQ l).length)::(59,suU l)::(18,.int .i64 v)::(55,.int .i64 v)::(54,.int .i64 K)::(17,.ptr 17 0)::(14,suU l)::suP,(17,.box [.bool (anyF f v),.bool (anyT f v)])::suB S m day a1 a2 b1 b2 .nils⟩
 else ⟨(61,.int .i64 i)::(60,.int .i64 (opQ l).length)::(59,suU l)::(18,.int .i64 v)::(55,.int .i64 v)::(54,.int .i64 K)::(17,.ptr 17 0)::(14,suU l)::suP,(75,.row 1 (iaM s))::(17,.box [.bool (anyF f v),.bool (anyT f v)])::suB S m day a1 a2 b1 b2 (.osl 75 s.length)⟩
section
variable {G:Nat->Option (List AV)}
theorem Zmz (hG:GC G) (hN:GN G) (r:List Iss) (l:List Nte) (q:List Rul) (m day a1 a2 b1 b2:Int) (hw:WfN l) (hr:Wf r) (hq:Sml q) :
  PC Tryz.prog G 53 [swa r l q,.nils,.int .i64 m,.int .i64 day,.agg [.int .i64 a1,.int .i64 a2],.agg [.int .i64 b1,.int .i64 b2]]
   (.tup [.agg (if puN r l q [] m day (a1,a2) (b1,b2)=0 then moC r l q [] m day else [.nilp,.nils,.int .i64 0,.int .i64 0]),.int .i64 (puN r l q [] m day (a1,a2) (b1,b2))]) :=
 PC.sub (Zkq hG hN r l q [] m day a1 a2 b1 b2 hw hr hq (by simp[Sml])) ⟨.rfl',.nils,.rfl',.rfl',.rfl',.rfl',trivial⟩
set_option maxHeartbeats 4000000 in
theorem ZmA (hG:GC G) (hN:GN G) (hQ:GQ G) (r:List Iss) (l:List Nte) (q:List Rul) (m day a1 a2 b1 b2:Int) (hw:WfN l) (hr:Wf r) (hq:Sml q) :
  PC Tryz.prog G 43 [swa r l q,.int .i64 m,.int .i64 day,.agg [.int .i64 a1,.int .i64 a2],.agg [.int .i64 b1,.int .i64 b2]] (suE r l q m day (a1,a2) (b1,b2)):=by
 have hp:=Zmz hG hN r l q m day a1 a2 b1 b2 hw hr hq;unfold suE;by_cases h0:puN r l q [] m day (a1,a2) (b1,b2)=0
 case neg =>
  rw[if_neg h0]at hp ⊢;unfold swa at *
  (refine ZlE rfl λR hG hrd=>Qga ?_;subst hG)
  simp -implicitDefEqProofs[ZlC,ZlD];refine Qco (hp) (by simp) ?_;simp -implicitDefEqProofs[h0]
 obtain ⟨h1,h2,h3⟩:=Zko h0;have hz:=Zi8 h1;have hB:=ZhG (ZhP hz.1).1;have h12:=ZhH hB;have h5:=ZlN hB;have pS:(Yl r l q).pure=true:=(by unfold Yl rfA;split <;> simp[AV.pure,isa,na,ra,rfa]);have kS:(Yl r l q).keys=[]:=by unfold Yl;simp[AV.keys]
 have hm:∀ v,PC Tryz.prog G 54 [.agg (moC r l q (sbT (opQ l) v) m day),.agg [.int .i64 a1,.int .i64 a2],.agg [.int .i64 b1,.int .i64 b2]] (.bool (mB r l q m day (a1,a2) (b1,b2) v)):=λv =>
  Zkr hG hN hQ r l q (sbT (opQ l) v) m day a1 a2 b1 b2 hw hr hq (by have:=(ZlH (opQ l) v).length_le;unfold Sml;omega) hz.1 (ZlM hB v)
 have hK:=pow5 h5;have sh:=shU (n:=(opQ l).length) (by omega);rw[if_pos h0,h0]at hp;rw[if_pos h0,h0];obtain ⟨cs,eS⟩ : ∃ cs,Yl r l q = .vptr cs 0:=⟨_,rfl⟩
 have sS:∀ ok st n,Yi ok st n (Yl r l q)=some (Yl r l q):=λok st n=>by
  rw[eS]at pS ⊢
  cases n <;> simp[Yi,pS]
 unfold moC at *;rw[eS]at hp pS kS sS;simp only[eS]at hm;generalize mB r l q m day (a1,a2) (b1,b2)=f at *;generalize hKe:2 ^ (opQ l).length=K at *;unfold swa at *
 (refine ZlE rfl λR hG hrd=>Qga ?_;subst hG)
 simp -implicitDefEqProofs[ZlC,ZlD];refine Qco (hp) (by simp) ?_;simp -implicitDefEqProofs[];refine Zb9 (λi=>su1 l (suB (.vptr cs 0) m day a1 a2 b1 b2 (.vsl [])) (onu l i) i) (λ_=>True) l.length ?_ trivial ?_ ?_
 . have e0:onu l 0=[]:=rfl;simp only[su1,suP,suB,e0,if_true]
   ((try simp only[kS]);refine Yn.sub (by simp[lk,Ya,AV.keys,kS]) ?_;simp only[kS,Wkl,and_true];(try simp[lk,Yd,Ya,AV.keys,kS]))
 . intro i hi _;have wi:IntKind.i64.wrap ((i:Int)+1)=(i:Int)+1:=Yg (by omega) (by omega);have sn:=ZgZ hi;have sl:=Zh0 l i;obtain ⟨x,hx⟩ : ∃ x,x=l[i]:=⟨_,rfl⟩;have hnx:na x=[.int .i64 x.nu,.int .i64 x.dy,.int .u8 x.sg,.int .i64 x.dr,.int .i64 x.lt,.int .i64 x.fr,.int .i64 x.tu,.int .i64 x.ca,.bool x.up,.int .u8 x.wy]:=rfl;rw[<- hx]at sn;have em:=ZlT (onu l i) x.nu;have lnm:=ZlU (onu l i);have bb:((onu l i).length+1)*8<=70368744177664:=(by omega);generalize onu l i=acc at *;refine Qga ?_;by_cases cg:x.sg=1
   . rw[if_pos cg]at sn;by_cases cx:acc=[]
     . rw[cx,List.nil_append]at sn em;have e0:iaM []=[]:=rfl;rw[e0,List.nil_append]at em;simp -implicitDefEqProofs[su1,suP,suB,cx,hi,<- hx,hnx,cg,wi,sn];rw[<- em]
       ((try simp only[kS]);refine Yn.sub (by simp[lk,Ya,AV.keys,kS]) ?_;simp only[kS,Wkl,ZlV,and_true];(try simp[lk,Yd,Ya,AV.keys,kS]))
     . have cx2:¬onu l (i+1)=[]:=(by rw[sn];simp);simp -implicitDefEqProofs[su1,suP,suB,cx,hi,<- hx,hnx,cg,wi,sn,bb,lnm];rw[<- em]
       ((try simp only[kS]);refine Yn.sub (by simp[lk,Ya,AV.keys,kS]) ?_;simp only[kS,Wkl,ZlV,and_true];(try simp[lk,Yd,Ya,AV.keys,kS]))
   . rw[if_neg cg]at sn;by_cases cx:acc=[]
     all_goals
      simp -implicitDefEqProofs[su1,suP,suB,cx,hi,<- hx,hnx,cg,wi,sn]
      ((try simp only[kS]);refine Yn.sub (by simp[lk,Ya,AV.keys,kS]) ?_;simp only[kS,Wkl,ZlV,and_true];(try simp[lk,Yd,Ya,AV.keys,kS]))
 . intro _;have eO:opU l=onu l l.length:=rfl;have eQ:opQ l=sortI (onu l l.length):=rfl;have hso:=ZgU (G:=R.G) (onu l l.length) (by have:=Zh0 l l.length;omega);rw[<- eQ]at hso;have lQ:(onu l l.length).length=(opQ l).length:=(by rw[eQ,Ze4]);refine Qga ?_;have wK:IntKind.i64.wrap 1=1:=rfl;by_cases cx:onu l l.length=[]
   case' pos =>
    have hq0:opQ l=[]:=(by rw[eQ,cx];simp[sortI]);have hU:suU l = .nils:=(by simp[suU,hq0]);have hl:(opQ l).length=0:=(by rw[hq0];rfl);have hK1:K=1:=(by rw[<- hKe,hl];try rfl);simp -implicitDefEqProofs[su1,suP,suB,cx];refine Qgr ?_;simp -implicitDefEqProofs[];refine Qco (ZgX) (by simp) ?_;simp -implicitDefEqProofs[]
   case' neg =>
    have hq0:¬opQ l=[]:=λh=>cx (List.length_eq_zero_iff.1 (by rw[lQ,h];rfl))
    have hU:suU l = .vsl ((opQ l).map ia):=(by simp[suU,hq0]);have hl:True:=trivial;have hK1:True:=trivial;have sh2:=sh;rw[<- lQ]at sh2;simp -implicitDefEqProofs[su1,suP,suB,cx];refine Qgr ?_;simp -implicitDefEqProofs[];have e1:iaM (onu l l.length)=(onu l l.length).map ia:=rfl;rw[e1];refine Ye.sem (Z1B.byref hso (λ_=>48) (by simp) (by simp) (by simp[St.get,lk,ZgM]) (by simp[ZgN]) (by simp[Ya,AV.keys,lk]) rfl (by simp[AV.ren]) rfl rfl) ?_;simp -implicitDefEqProofs[Ym,ZgM,lQ,sh,sh2]
   all_goals
    refine Z1Q (su2 l f K (.vptr cs 0) m day a1 a2 b1 b2) (λx=>x.1<=K/\x.2.keys=[]) (λx=>K-x.1) (0,.vsl []) ?_ ⟨Nat.zero_le _,by simp[AV.keys]⟩ ?_
    . have t0:anyT f 0=false:=rfl;have f0:anyF f 0=false:=rfl;simp only[su2,suP,suB,hU,t0,f0];refine Yn.trans (Yn.frz (λk=>k == 48) _) ?_
      ((try simp only[Yj,frzA,frzO,frz,Yi,Yk,St.get,AV.pure,lQ,ia,kS,hK1,wK]);refine Yn.sub (by simp[lk,Ya,AV.keys,Yj,frzA,frzO,frz,Yi,Yk,St.get,AV.pure,lQ,ia,kS,hK1,wK]) ?_;simp only[Yj,frzA,frzO,frz,Yi,Yk,St.get,AV.pure,lQ,ia,kS,hK1,wK,Wkl,and_true];(try simp[lk,Yd,Ya,AV.keys,Yj,frzA,frzO,frz,Yi,Yk,St.get,AV.pure,lQ,ia,kS,hK1,wK]))
    rintro ⟨v,C⟩ ⟨hv,kC⟩;simp only at hv kC;refine Qga ?_;by_cases hvK:v<K
    . have wv:IntKind.i64.wrap ((v:Int)+1)=(v:Int)+1:=Yg (by omega) (by omega);have t1:=Zmx f v;have t2:=Zmy f v;simp -implicitDefEqProofs[su2,suP,suB,hvK,hU,hl];refine Zb9 (λi=>su3 l f K (.vptr cs 0) m day a1 a2 b1 b2 v i (sbN (opQ l) v i)) (λ_=>True) (opQ l).length ?_ trivial ?_ ?_
      . have e0:sbN (opQ l) v 0=[]:=rfl;simp only[su3,suP,suB,e0,if_true,hU]
        ((try simp only[kS,hl,ia]);refine Yn.sub (by simp[lk,Ya,AV.keys,kS,hl,ia]) ?_;simp only[kS,hl,ia,Wkl,and_true];(try simp[lk,Yd,Ya,AV.keys,kS,hl,ia]))
      . intro i hi _;have hq:¬opQ l=[]:=λh=>by rw[h]at hi;simp at hi
        have hU':suU l = .vsl ((opQ l).map ia):=(by simp[suU,hq]);have wi:IntKind.i64.wrap ((i:Int)+1)=(i:Int)+1:=Yg (by omega) (by omega);have bU:=bitU (v:=v) (i:=i) (by omega) (by omega);have sn:=ZlX (opQ l) v i;have eg:(opQ l).getD i 0=(opQ l)[i]:=(by simp[List.getD_eq_getElem?_getD,hi]);rw[eg]at sn;have sl:=ZlF (opQ l) v i;have em:=ZlT (sbN (opQ l) v i) (opQ l)[i];have lnm:=ZlU (sbN (opQ l) v i);have bb:((sbN (opQ l) v i).length+1)*8<=70368744177664:=(by omega);generalize sbN (opQ l) v i=s at *;refine Qga ?_;by_cases cb:v / 2 ^ i % 2=1
        . rw[if_pos cb]at sn bU;by_cases cx:s=[]
          . rw[cx,List.nil_append]at sn em;have e0:iaM []=[]:=rfl;rw[e0,List.nil_append]at em;simp -implicitDefEqProofs[su3,suP,suB,cx,hU',hi,bU,ia,wi,sn];rw[<- em]
            ((try simp only[kS,ia]);refine Yn.sub (by simp[lk,Ya,AV.keys,kS,ia]) ?_;simp only[kS,ia,Wkl,ZlV,and_true];(try simp[lk,Yd,Ya,AV.keys,kS,ia]))
          . have cx2:¬s++[(opQ l)[i]]=[]:=(by simp);simp -implicitDefEqProofs[su3,suP,suB,cx,cx2,hU',hi,bU,ia,wi,sn,bb,lnm];rw[<- em]
            ((try simp only[kS,ia]);refine Yn.sub (by simp[lk,Ya,AV.keys,kS,ia]) ?_;simp only[kS,ia,Wkl,ZlV,and_true];(try simp[lk,Yd,Ya,AV.keys,kS,ia]))
        . rw[if_neg cb]at sn bU;by_cases cx:s=[]
          all_goals
           simp -implicitDefEqProofs[su3,suP,suB,cx,hU',hi,bU,ia,wi,sn]
           ((try simp only[kS,ia]);refine Yn.sub (by simp[lk,Ya,AV.keys,kS,ia]) ?_;simp only[kS,ia,Wkl,ZlV,and_true];(try simp[lk,Yd,Ya,AV.keys,kS,ia]))
      . intro _;have hmv:=hm v;have eT:sbN (opQ l) v (opQ l).length=sbT (opQ l) v:=rfl;rw[eT];have s5:(sbT (opQ l) v).length<=5:=Nat.le_trans (ZlH (opQ l) v).length_le h5;generalize sbT (opQ l) v=s at *;have sp:=ZlW s;have lnm:=ZlU s;have eM:s.map ia=iaM s:=rfl;refine Qga ?_;by_cases cx:s=[]
        . simp -implicitDefEqProofs[su3,suP,suB,cx,hU];refine Qgr ?_;simp -implicitDefEqProofs[];refine Ye.of (PC.sub hmv ⟨.agg ⟨.rfl',by rw[cx];exact .nils,.rfl',.rfl',trivial⟩,.rfl',.rfl',trivial⟩) (by simp[AV.pure,pS]) ?_
          cases hf:f v
          all_goals
           rw[hf]at t1 t2;simp only[Bool.or_false,Bool.or_true,Bool.not_true,Bool.not_false]at t1 t2;simp -implicitDefEqProofs[wv];refine ⟨(v+1,.nils),?_,⟨hvK,by simp[AV.keys]⟩,by show K-(v+1)<K-v;omega⟩;simp only[su2,suP,suB,hU,t1,t2]
           ((try simp only[kS,ia]);refine Yn.sub (by simp[lk,Ya,AV.keys,kS,ia]) ?_;simp only[kS,ia,Wkl,and_true];(try simp[lk,Yd,Ya,AV.keys,kS,ia]))
        . simp -implicitDefEqProofs[su3,suP,suB,cx,hU];refine Qgr ?_;simp -implicitDefEqProofs[];refine Ye.flat hmv (by simp[AV.flat]) (by simp[Yk,snap,Yi,sS,okAll,St.get,lk,sp,lnm,eM,AV.pure]) ?_
          cases hf:f v
          all_goals
           rw[hf]at t1 t2;simp only[Bool.or_false,Bool.or_true,Bool.not_true,Bool.not_false]at t1 t2;simp -implicitDefEqProofs[wv];refine ⟨(v+1,.vsl (s.map ia)),?_,⟨hvK,by simp[AV.keys]⟩,by show K-(v+1)<K-v;omega⟩;simp only[su2,suP,suB,hU,t1,t2];refine Yn.trans (Yn.frz (λk=>k == 75) _) ?_
           ((try simp only[Yj,frzA,frzO,frz,Yi,Yk,St.get,AV.pure,ia,kS,pS,sp,lnm,eM]);refine Yn.sub (by simp[lk,Ya,AV.keys,Yj,frzA,frzO,frz,Yi,Yk,St.get,AV.pure,ia,kS,pS,sp,lnm,eM]) ?_;simp only[Yj,frzA,frzO,frz,Yi,Yk,St.get,AV.pure,ia,kS,pS,sp,lnm,eM,Wkl,and_true];(try simp[lk,Yd,Ya,AV.keys,Yj,frzA,frzO,frz,Yi,Yk,St.get,AV.pure,ia,kS,pS,sp,lnm,eM]))
    . have hK2:v=K:=(by omega);subst hK2
      cases c1:anyT f v
      all_goals
       cases c2:anyF f v
      all_goals
       simp -implicitDefEqProofs[su2,suP,suB,hU,c1,c2];refine Qgr ?_;simp -implicitDefEqProofs[suV,c1,c2]
end
def exR:List Iss:=[
 ⟨10,1,1,[(20,2),(30,1)],[]⟩,⟨10,2,1,[(20,1),(30,2),(40,2)],[]⟩,⟨20,1,1,[(30,3),(50,1)],[]⟩,
 ⟨30,1,2,[],[⟨150,100,200⟩]⟩,⟨30,2,2,[],[⟨150,120,200⟩]⟩,⟨40,1,2,[],[]⟩,⟨50,1,3,[],[]⟩]
def exL:List Nte:=[⟨101,100,2,30,2,5,999,0,false,2⟩,⟨103,300,2,0,0,10,12,101,false,0⟩]
def exQ:List Rul:=[⟨1,50,40,1,30,2,false,0⟩,⟨2,150,50,1,40,1,true,0⟩,⟨3,300,0,0,0,0,false,2⟩]
theorem ex_aq:aqN exR exL exQ [] 9 200 200=0:=by decide +kernel
theorem ex_st:st5 exR exL exQ [] 9 200=[⟨30,2,30,1,101,true⟩,⟨40,1,30,2,1,false⟩,⟨50,1,40,1,2,false⟩,⟨40,1,50,1,2,false⟩]:=by decide +kernel
theorem ZmB:chE exR exL exQ [] 9 200 (50,1) (30,1)=([⟨50,1,40,1,2,false⟩,⟨40,1,30,2,1,false⟩,⟨30,2,30,1,101,true⟩],0):=by decide +kernel
theorem ZmC:ruE exR exL exQ 300=([1,3],0):=by decide +kernel
theorem ZmD:rcL exR (st5 exR exL exQ [] 9 200) false (30,1)=[(30,1),(30,2),(40,1),(50,1)]:=by decide +kernel
theorem ex_in:rcL exR (st5 exR exL exQ [] 9 200) true (40,1)=[(30,1),(30,2),(40,1),(50,1)]:=by decide +kernel
theorem ZmE:clX (mayT (edg (st5 exR exL exQ [] 9 200))) (rfs exR) 7=[[(40,1),(50,1)]]:=by decide +kernel
theorem ZmF:losX (mayT (edg (st5 exR exL exQ [] 9 200))) (mayT (edg (st5 exR exL exQ [] 9 300))) (rfs exR) 7=[((40,1),(50,1)),((50,1),(30,1)),((50,1),(30,2)),((50,1),(40,1))]:=by decide +kernel
theorem ZmG {a b:Int} (h0:0<=a) (h1:1<=b):0<=a.tmod b/\a.tmod b<b:=⟨Int.tmod_nonneg b h0,Int.tmod_lt_of_pos a (by omega)⟩
def mcV (n:Int):Int:=n.tmod 999+1
def dyV (n:Int):Int:=n.tmod 14611
theorem ZmH {n:Int} (h:0<=n):inR (mcV n) 1 999=true:=by
 have:=ZmG (b:=999) h (by omega);exact decide_eq_true (by unfold mcV;omega)
theorem ZmI {n:Int} (h:0<=n):inR (dyV n) 0 14610=true:=by
 have:=ZmG (b:=14611) h (by omega);exact decide_eq_true (by unfold dyV;omega)
def ttV (l:List Nte) (n:Int):List Int:=sbT (opQ l) (n.tmod (2 ^ (opQ l).length:Nat)).toNat
def isV (r:List Iss) (n:Int):Rf:=(rfs r).getD (n.tmod (rfs r).length).toNat default
theorem ZmJ {r:List Iss} (hr:rfs r≠[]) {n:Int} (h:0<=n):isV r n∈rfs r:=by
 have hl:0<(rfs r).length:=List.length_pos_iff.2 hr;have h1:=ZmG (b:=(rfs r).length) h (by omega);have hi:(n.tmod (rfs r).length).toNat<(rfs r).length:=(by omega);rw[isV,List.getD_eq_getElem?_getD,List.getElem?_eq_getElem hi];exact List.getElem_mem hi
def rfB (a b:Rf):Bool:=decide (a.1<b.1)||(decide (a.1=b.1)&&decide (a.2<b.2))
def rdB (r:List Iss) (l:List Nte) (q:List Rul):Bool:=!(Zbl r||decide (16<l.length)||decide (20<q.length))&&decide (chS r l q=0)
theorem ZmK {r:List Iss} {l:List Nte} {q:List Rul} (h:rdB r l q=true) (hr:∀ x∈r,KOk x) (hl:∀ x∈l,NOk x):Wf r/\WfN l/\Sml q/\chS r l q=0/\r.length<=80:=by
 simp only[rdB,Bool.and_eq_true,Bool.not_eq_true',decide_eq_true_eq,Bool.or_eq_false_iff,decide_eq_false_iff_not]at h;obtain ⟨⟨⟨h1,h2⟩,h3⟩,h4⟩:=h
 have h80:r.length<=80:=by
  simp only[Zbl,Bool.or_eq_false_iff,decide_eq_false_iff_not]at h1;omega
 exact ⟨Zmu h1 hr,⟨by unfold Sml;omega,hl⟩,by unfold Sml;omega,h4,h80⟩
def NsubR:List (List AV)->List (List AV)->Prop
 |[],[]=>True
 |x::xs,y::ys=>NsubL x y/\NsubR xs ys
 |_,_=>False
theorem NsubR.len:∀ {xs ys:List (List AV)},NsubR xs ys->xs.length=ys.length
 |[],[],_=>rfl
 |_::_,_::_,h=>by simp only[List.length_cons,NsubR.len h.2]
 |[],_::_,h=>h.elim
 |_::_,[],h=>h.elim
theorem NsubR.at:∀ {xs ys:List (List AV)},NsubR xs ys->∀ (i:Nat) (y:List AV),ys[i]? = some y->∃ x,xs[i]? = some x/\NsubL x y
 |[],[],_,i,y,h=>by simp at h
 | x::xs,y::ys,h,0,z,e=>by
   simp only[List.getElem?_cons_zero,Option.some.injEq]at e;subst e;exact ⟨x,rfl,h.1⟩
 | x::xs,y::ys,h,i+1,z,e=>by
   simp only[List.getElem?_cons_succ]at e;obtain ⟨w,h1,h2⟩:=NsubR.at h.2 i z e;exact ⟨w,by simpa using h1,h2⟩
 |[],_::_,h,_,_,_=>h.elim
 |_::_,[],h,_,_,_=>h.elim
theorem Nsub.vsl {xs ys:List (List AV)} (h:NsubR xs ys):Nsub (.vsl xs) (.vsl ys):=λM W u hu=>by
 have hl:=h.len
 cases hu with
 | vsl _ a cap sz b o f hcap hmax ha hn hs hc hr =>
   rw[hl];refine .vsl ys a cap sz b o f (by omega) hmax (λe=>ha λe2=>e ?_) (λe=>⟨?_,(hn e).2⟩) (λr hr=>?_) (λi j hi hj=>hc i j (by omega) hj) λi j ρ x hρ hx=>?_
   . rw[e2]at hl;exact List.eq_nil_of_length_eq_zero hl.symm
   . have:=(hn e).1;rw[this]at hl;exact List.eq_nil_of_length_eq_zero hl.symm
   . obtain ⟨i,hi,rfl⟩:=List.getElem_of_mem hr;obtain ⟨x,hx,h2⟩:=h.at i _ (List.getElem?_eq_getElem hi);rw[<- h2.len];exact hs x (List.mem_of_getElem? hx)
   . obtain ⟨y,hy,h2⟩:=h.at i ρ hρ;obtain ⟨z,hz,h3⟩:=h2.at j x hx;exact h3 _ _ _ (hr i j y z hy hz)
section
variable {G:Nat->Option (List AV)}
theorem ZmL (d l:Int):PC Tryz.prog G 24 [.int .i64 d,.int .i64 l] (.agg [.int .i64 d,.int .i64 l]):=by
 (refine Z5u rfl λR hG hrd=>Qga ?_;subst hG)
 simp -implicitDefEqProofs[Z5s,Z5t]
theorem ZmM:PC Tryz.prog G 72 [] (rega exR):=by
 refine PC.out (v:=.agg [.vsl [[.int .i64 10,.int .i64 1,.int .u8 1,.vsl [[.int .i64 20,.int .i64 2],[.int .i64 30,.int .i64 1]],.nils],
  [.int .i64 10,.int .i64 2,.int .u8 1,.vsl [[.int .i64 20,.int .i64 1],[.int .i64 30,.int .i64 2],[.int .i64 40,.int .i64 2]],.nils],
  [.int .i64 20,.int .i64 1,.int .u8 1,.vsl [[.int .i64 30,.int .i64 3],[.int .i64 50,.int .i64 1]],.nils],
  [.int .i64 30,.int .i64 1,.int .u8 2,.nils,.vsl [[.int .i64 150,.int .i64 100,.int .i64 200]]],
  [.int .i64 30,.int .i64 2,.int .u8 2,.nils,.vsl [[.int .i64 150,.int .i64 120,.int .i64 200]]],
  [.int .i64 40,.int .i64 1,.int .u8 2,.nils,.nils],[.int .i64 50,.int .i64 1,.int .u8 3,.nils,.nils]]]) ?_ ?_
 . (refine Z5r rfl λR hG hrd=>Qga ?_;subst hG)
   simp -implicitDefEqProofs[Z5p,Z5q]
   try rfl
 . refine .agg ⟨.vsl ?_,trivial⟩;have n:=@Nsub.rfl';exact ⟨⟨n,n,n,n,.nils,trivial⟩,⟨n,n,n,n,.nils,trivial⟩,⟨n,n,n,n,.nils,trivial⟩,⟨n,n,n,.nils,n,trivial⟩,⟨n,n,n,.nils,n,trivial⟩,⟨n,n,n,.nils,.nils,trivial⟩,⟨n,n,n,.nils,.nils,trivial⟩,trivial⟩
theorem ZmN:PC Tryz.prog G 41 [] (swa exR exL exQ):=by
 have hR:=ZmM (G:=G);have r2:List.range 2=[0,1]:=rfl;have r3:List.range 3=[0,1,2]:=rfl;rw[rega]at hR
 (refine Z5x rfl λR hG hrd=>Qga ?_;subst hG)
 simp -implicitDefEqProofs[Z5v,Z5w,r2,r3];refine Qco (hR) (by simp) ?_;simp -implicitDefEqProofs[r2,r3];refine Qco (ZmL 40 1) (by simp) ?_;simp -implicitDefEqProofs[r2,r3];refine Qco (ZmL 30 2) (by simp) ?_;simp -implicitDefEqProofs[r2,r3];refine Qco (ZmL 50 1) (by simp) ?_;simp -implicitDefEqProofs[r2,r3];refine Qco (ZmL 40 1) (by simp) ?_;simp -implicitDefEqProofs[swa,exL,exQ,na,ra,r2,r3]
 try rfl
theorem ex_wr:Wf exR:=by
 refine ⟨⟨by unfold Sml;decide,?_⟩,by decide⟩;unfold Sml;decide
theorem ex_wl:WfN exL:=⟨by unfold Sml;decide,by decide⟩
theorem ex_wq:Sml exQ:=by unfold Sml;decide
theorem ZmO:Sml ([]:List Int):=by simp[Sml]
theorem ZmP (hG:GC G) (hN:GN G) (hQ:GQ G) (m day a1 a2 b1 b2:Int) (w B:Bool) (h:maE exR exL exQ [] m day (a1,a2) (b1,b2) = .tup [.bool B,.int .i64 0]) :
  PC Tryz.prog G 40 [.int .i64 m,.int .i64 day,.agg [.int .i64 a1,.int .i64 a2],.agg [.int .i64 b1,.int .i64 b2],.bool w] (.bool (B == w)):=by
 have hs:=ZmN (G:=G);have hm:=PC.sub (Zky hG hN hQ exR exL exQ [] m day a1 a2 b1 b2 ex_wl ex_wr ex_wq ZmO) (xs:=[swa exR exL exQ,.nils,.int .i64 m,.int .i64 day,.agg [.int .i64 a1,.int .i64 a2],.agg [.int .i64 b1,.int .i64 b2]]) ⟨.rfl',.nils,.rfl',.rfl',.rfl',.rfl',trivial⟩;rw[h]at hm;unfold swa at *
 (refine Z5A rfl λR hG hrd=>Qga ?_;subst hG)
 simp -implicitDefEqProofs[Z5y,Z5z];refine Qco (hs) (by simp) ?_;simp -implicitDefEqProofs[];refine Qco (hm) (by simp) ?_;simp -implicitDefEqProofs[]
 try rfl
theorem ZmQ (n:Int) (h0:0<=n) (h1:n<=65535):PC Tryz.prog G 52 [.int .u16 n] (.int .i64 (mcV n)):=by
 have b:=ZmG (b:=999) h0 (by omega);have w1:IntKind.i64.wrap n=n:=Yg (by omega) (by omega);have w2:IntKind.i64.wrap (n.tmod 999+1)=n.tmod 999+1:=Yg (by omega) (by omega)
 (refine Z5J rfl λR hG hrd=>Qga ?_;subst hG)
 simp -implicitDefEqProofs[Z5H,Z5I,w1,w2,mcV]
theorem ZmR (n:Int) (h0:0<=n) (h1:n<=65535):PC Tryz.prog G 35 [.int .u16 n] (.int .i64 (dyV n)):=by
 have w1:IntKind.i64.wrap n=n:=Yg (by omega) (by omega)
 (refine Z5M rfl λR hG hrd=>Qga ?_;subst hG)
 simp -implicitDefEqProofs[Z5K,Z5L,w1,dyV]
theorem ZmS (r:List Iss) (l:List Nte) (n:Int) (hB:ZdS r l=true) (h0:0<=n) (h1:n<=255):PC Tryz.prog G 51 [.agg [.vsl (r.map isa),.vsl (l.map na)],.int .u8 n] (.vsl ((ttV l n).map ia)):=by
 have hT:=ZlY (G:=G) r l hB;have h5:=ZlN hB;have hK:=pow5 h5;have tlen:=ZlP (opQ l) (2 ^ (opQ l).length);have tpur:=ZlR (opQ l) (2 ^ (opQ l).length);have tget:∀ v K,v<K->(trK (opQ l) K)[v]? = some [.vsl ((sbT (opQ l) v).map ia)]:=λv K h=>by simp[trK,trR,h]
 unfold ttV;have hp:0<2 ^ (opQ l).length:=Nat.pow_pos (by omega);have tg:=tget (n.tmod (2 ^ (opQ l).length:Nat)).toNat (2 ^ (opQ l).length);generalize 2 ^ (opQ l).length=K at *;have b:=ZmG (b:=(K:Int)) h0 (by omega);have w1:IntKind.i64.wrap n=n:=Yg (by omega) (by omega);have k0:¬(K:Int)=0:=(by omega);have k0':¬K=0:=(by omega);have hi:(n.tmod (K:Int)).toNat<K:=(by omega);have tg2:=tg hi;obtain ⟨q1,q2⟩:=List.getElem?_eq_some_iff.1 tg2;generalize trK (opQ l) K=T at *
 (refine Z5P rfl λR hG hrd=>Qga ?_;subst hG)
 simp -implicitDefEqProofs[Z5N,Z5O];refine Qco (hT) (by simp) ?_;simp -implicitDefEqProofs[w1,k0,k0',b.1,b.2,tlen,hi,q2]
theorem ZmT (r:List Iss) (n:Int) (hr:Sml r) (hne:r≠[]) (h0:0<=n) (h1:n<=255):PC Tryz.prog G 26 [.agg [.vsl (r.map isa)],.int .u8 n] (.agg [.int .i64 (isV r n).1,.int .i64 (isV r n).2]):=by
 have hR:=Zjh (G:=G) r hr;rw[Zkt hne]at hR;have hl:0<(rfs r).length:=(by rw[ZkC];exact List.length_pos_iff.2 hne);have b:=ZmG (b:=(rfs r).length) h0 (by omega);have w1:IntKind.i64.wrap n=n:=Yg (by omega) (by omega);have k0:¬((rfs r).length:Int)=0:=(by omega);have k0':¬(rfs r).length=0:=(by omega);have hi:(n.tmod (rfs r).length).toNat<(rfs r).length:=(by omega);have e:isV r n=(rfs r)[(n.tmod (rfs r).length).toNat]:=(by rw[isV,List.getD_eq_getElem?_getD,List.getElem?_eq_getElem hi];rfl);rw[e];generalize rfs r=R0 at *
 (refine Z5S rfl λR hG hrd=>Qga ?_;subst hG)
 simp -implicitDefEqProofs[Z5Q,Z5R];refine Qco (hR) (by simp) ?_;simp -implicitDefEqProofs[w1,k0,k0',b.1,b.2,hi,ita]
theorem ZmU (r:List Iss) (l:List Nte) (q:List Rul) (hr:∀ x∈r,KOk x) (hl:∀ x∈l,NOk x):PC Tryz.prog G 15 [swa r l q] (.bool (rdB r l q)):=by
 have hg:=Zmw (G:=G) r l q;have hc:=λ(h:(Zbl r||decide (16<l.length)||decide (20<q.length))=false)=>ZhO (G:=G) r l q ⟨by simp only[Bool.or_eq_false_iff,decide_eq_false_iff_not]at h;unfold Sml;omega,hl⟩ (Zmu (by simp only[Bool.or_eq_false_iff]at h;exact h.1.1) hr) (by simp only[Bool.or_eq_false_iff,decide_eq_false_iff_not]at h;unfold Sml;omega)
 unfold rdB;unfold swa at *;generalize (Zbl r||decide (16<l.length)||decide (20<q.length))=g at *
 (refine Z5G rfl λR hG hrd=>Qga ?_;subst hG)
 simp -implicitDefEqProofs[Z5E,Z5F];refine Qco (hg) (by simp) ?_
 cases g
 . simp -implicitDefEqProofs[];refine Qco (hc rfl) (by simp) ?_;simp -implicitDefEqProofs[]
 . simp -implicitDefEqProofs[]
theorem ZmV (l:List Int) (n:Int) (hl:Sml l):PC Tryz.prog G 23 [.vsl (l.map ia),.int .i64 n] (.bool (decide (n∈l))):=by
 unfold Sml at hl
 (refine Z5Y rfl λR hG hrd=>Qga ?_;subst hG)
 simp -implicitDefEqProofs[Z5W,Z5X];refine Z1Q (λj:Nat=>⟨[(9,.int .i64 j),(8,.int .i64 l.length),(7,.vsl (l.map ia)),(1,.int .i64 n)],[]⟩) (λj=>j<=l.length/\∀ k (hk:k<l.length),k<j->l[k]≠n) (λj=>l.length-j) 0 ?_ ⟨Nat.zero_le _,λk _ h=>by omega⟩ ?_
 . (refine Yn.sub (by simp[lk,Ya,AV.keys]) ?_;simp only[Wkl,and_true];(try simp[lk,Yd,Ya,AV.keys]))
 rintro j ⟨hj,hno⟩;have wj:IntKind.i64.wrap ((j:Int)+1)=(j:Int)+1:=Yg (by omega) (by omega);refine Qga ?_;by_cases hlt:j<l.length
 . by_cases he:l[j]=n
   . have hm:n∈l:=he ▸ List.getElem_mem hlt;simp -implicitDefEqProofs[hlt,ia,he];refine Qgr ?_;simp -implicitDefEqProofs[hm]
   . simp -implicitDefEqProofs[hlt,ia,he,wj];refine ⟨j+1,?_,⟨hlt,λk hk h=>?_⟩,(by show l.length-(j+1)<l.length-j;omega)⟩
     . (refine Yn.sub (by simp[lk,Ya,AV.keys]) ?_;simp only[Wkl,and_true];(try simp[lk,Yd,Ya,AV.keys]))
     . rcases Nat.lt_or_ge k j with q|q
       . exact hno k hk q
       . obtain rfl:k=j:=(by omega);exact he
 . have hm:n ∉ l:=λh=>by
    obtain ⟨k,hk,e⟩:=List.getElem_of_mem h;exact hno k hk (by omega) e
   simp -implicitDefEqProofs[hlt];refine Qgr ?_;simp -implicitDefEqProofs[hm]
theorem ZmW (l:List Rf) (a b:Int) (hl:Sml l):PC Tryz.prog G 29 [.vsl (l.map ita),.agg [.int .i64 a,.int .i64 b]] (.bool (decide ((a,b)∈l))):=by
 unfold Sml at hl
 (refine Z61 rfl λR hG hrd=>Qga ?_;subst hG)
 simp -implicitDefEqProofs[Z5Z,Z60];refine Z1Q (λj:Nat=>⟨[(9,.int .i64 j),(8,.int .i64 l.length),(7,.vsl (l.map ita)),(3,.ptr 3 0)],[(3,.box [.int .i64 a,.int .i64 b])]⟩) (λj=>j<=l.length/\∀ k (hk:k<l.length),k<j->l[k]≠(a,b)) (λj=>l.length-j) 0 ?_ ⟨Nat.zero_le _,λk _ h=>by omega⟩ ?_
 . (refine Yn.sub (by simp[lk,Ya,AV.keys]) ?_;simp only[Wkl,and_true];(try simp[lk,Yd,Ya,AV.keys]))
 rintro j ⟨hj,hno⟩;have wj:IntKind.i64.wrap ((j:Int)+1)=(j:Int)+1:=Yg (by omega) (by omega);refine Qga ?_;by_cases hlt:j<l.length
 . by_cases he:l[j]=(a,b)
   . have hm:(a,b)∈l:=he ▸ List.getElem_mem hlt;simp -implicitDefEqProofs[hlt,ita,he];refine Qgr ?_;simp -implicitDefEqProofs[hm]
   . have h2:(decide (l[j].1=a)&&decide (l[j].2=b))=false:=by
      cases hh:(decide (l[j].1=a)&&decide (l[j].2=b))
      . rfl
      . simp only[Bool.and_eq_true,decide_eq_true_eq]at hh;exact absurd (Prod.ext hh.1 hh.2) he
     simp -implicitDefEqProofs[hlt,ita,h2,wj];refine ⟨j+1,?_,⟨hlt,λk hk h=>?_⟩,(by show l.length-(j+1)<l.length-j;omega)⟩
     . (refine Yn.sub (by simp[lk,Ya,AV.keys]) ?_;simp only[Wkl,and_true];(try simp[lk,Yd,Ya,AV.keys]))
     . rcases Nat.lt_or_ge k j with q|q
       . exact hno k hk q
       . obtain rfl:k=j:=(by omega);exact he
 . have hm:(a,b) ∉ l:=λh=>by
    obtain ⟨k,hk,e⟩:=List.getElem_of_mem h;exact hno k hk (by omega) e
   simp -implicitDefEqProofs[hlt];refine Qgr ?_;simp -implicitDefEqProofs[hm]
theorem ZmX (a b:Rf):PC Tryz.prog G 30 [.agg [.int .i64 a.1,.int .i64 a.2],.agg [.int .i64 b.1,.int .i64 b.2]] (.bool (rfB a b)):=by
 unfold rfB
 (refine Z6d rfl λR hG hrd=>Qga ?_;subst hG)
 by_cases h1:a.1<b.1
 . simp -implicitDefEqProofs[Z6b,Z6c,h1]
 . by_cases h2:a.1=b.1
   . simp -implicitDefEqProofs[Z6b,Z6c,h2]
   . simp -implicitDefEqProofs[Z6b,Z6c,h1,h2]
def akA (s:List Int) (m d:Int) (a b:Rf):AV:=.agg [.vsl (s.map ia),.int .i64 m,.int .i64 d,.int .i64 a.1,.int .i64 a.2,.int .i64 b.1,.int .i64 b.2]
theorem ZmY (r:List Iss) (l:List Nte) (q:List Rul) (t m d a b:Int) (hB:ZdS r l=true) (hr:Sml r) (hne:r≠[]) (ht:0<=t/\t<=255) (hm:0<=m/\m<=65535) (hd:0<=d/\d<=65535) (ha:0<=a/\a<=255) (hb:0<=b/\b<=255) :
  PC Tryz.prog G 16 [swa r l q,.int .u8 t,.int .u16 m,.int .u16 d,.int .u8 a,.int .u8 b] (akA (ttV l t) (mcV m) (dyV d) (isV r a) (isV r b)):=by
 have h1:=ZmS (G:=G) r l t hB ht.1 ht.2;have h2:=ZmQ (G:=G) m hm.1 hm.2;have h3:=ZmR (G:=G) d hd.1 hd.2;have h4:=ZmT (G:=G) r a hr hne ha.1 ha.2;have h5:=ZmT (G:=G) r b hr hne hb.1 hb.2;unfold swa akA;generalize isV r a=A at *;generalize isV r b=B at *
 (refine Z5V rfl λR hG hrd=>Qga ?_;subst hG)
 simp -implicitDefEqProofs[Z5T,Z5U];refine Qco (h1) (by simp) ?_;simp -implicitDefEqProofs[];refine Qco (h2) (by simp) ?_;simp -implicitDefEqProofs[];refine Qco (h3) (by simp) ?_;simp -implicitDefEqProofs[];refine Qco (h4) (by simp) ?_;simp -implicitDefEqProofs[];refine Qco (h5) (by simp) ?_;simp -implicitDefEqProofs[]
 try rfl
end
def plT (ds ls:List Int) (i:Nat):List (Nat×AV):=[(49,.int .i64 i),(48,.int .i64 ds.length),(47,.vsl (ds.map ia)),(12,Yh (ls.map ia)),(10,.ptr 10 0)]
def plS (M:List AV) (ds ls:List Int) (X:List (Rf×List Rf)) (i:Nat):St :=
 if i=0 then ⟨(16,.nils)::plT ds ls i,[(10,.box M)]⟩ else ⟨(16,.osl 67 i)::plT ds ls i,[(67,.row 3 (plM false (X.take i))),(10,.box M)]⟩
section
variable {G:Nat->Option (List AV)}
set_option maxHeartbeats 2000000 in
theorem ZmZ (hG:GC G) (hN:GN G) (hQ:GQ G) (r:List Iss) (l:List Nte) (q:List Rul) (s:List Int) (m day:Int) (hw:WfN l) (hr:Wf r) (hq:Sml q) (hs:Sml s) :
  PC Tryz.prog G 37 [swa r l q,.vsl (s.map ia),.int .i64 m,.int .i64 day] (plE false r l q s m day):=by
 have ha:=ZiJ hG hN r l q s m day day hw hr hq hs;unfold plE;unfold moA at ha;by_cases h0:aqN r l q s m day day=0
 case neg =>
  rw[if_neg h0]at ha ⊢;unfold swa at *
  (refine Z6o rfl λR hG hrd=>Qga ?_;subst hG)
  simp -implicitDefEqProofs[Z6m,Z6n];refine Qco (ha) (by simp) ?_;simp -implicitDefEqProofs[h0]
 have hz:=Zi8 h0;have hne:=ch_ne hz.1;have has:=aq_as h0;have hlt:=Zm7 hG hN r l s m hw hr hs;have ho:=Zm4 (Zm3 has).1;have hdr:=Zds hG r hr;have h20:=(Zm5 ho).2;have hrc:=λb1 b2=>Zkw hG hN hQ r l q s m day b1 b2 false hw hr hq hs hz.1 hz.2.1 hne (by have:=ZkB hz.1;omega)
 have pS:(Yl r l q).pure=true:=(by unfold Yl rfA;split <;> simp[AV.pure,isa,na,ra,rfa]);have kS:(Yl r l q).keys=[]:=(by unfold Yl;simp[AV.keys]);have pM:∀ x∈moC r l q s m day,x.pure=true:=(by simp[moC,AV.pure,pS,ia]);rw[if_pos h0,h0]at ha ⊢;unfold ltA at hlt;rw[if_pos has,has]at hlt;rw[if_pos ho,ho]at hdr;unfold rega at hdr;have hll:(ltL s m l (nums r)).length=(nums r).length:=(by simp[ltL]);have hsc:=λi (hi:i<(nums r).length)=>Zme (r:=r) (L:=st5 r l q s m day) hll hi
 have hXl:=Zmd (r:=r) (L:=st5 r l q s m day) hll;generalize ltL s m l (nums r)=ls at *;generalize nums r=ds at *;obtain ⟨cs,eS⟩ : ∃ cs,Yl r l q = .vptr cs 0:=⟨_,rfl⟩;unfold moC at *;rw[eS]at ha hrc pS kS pM;have pV:=ZeV (l:=ls.map ia) (by simp[ia,AV.pure]);have kV:=ZeW (ls.map ia);have sV:=λok st=>Zm6 pV ok st
 generalize hX:plX r (st5 r l q s m day) ds ls=X at *;unfold swa at *
 (refine Z6o rfl λR hG hrd=>Qga ?_;subst hG)
 simp -implicitDefEqProofs[Z6m,Z6n];refine Qco (ha) (by simp) ?_;simp -implicitDefEqProofs[];refine Qco (hlt) (by simp) ?_;simp -implicitDefEqProofs[];refine Qco (hdr) (by simp) ?_;simp -implicitDefEqProofs[];generalize hM:[AV.vptr cs 0,.vsl (s.map ia),.int .i64 m,.int .i64 day]=M at *;have hk:∀ x∈M,x.keys=[]:=by rw[<- hM];simp[AV.keys]
 have hMk:∀ o,Yd o (.box M)=true:=λo=>by
  simp only[Yd,List.all_eq_true];intro x hx;simp[Ya,hk x hx]
 refine Zb9 (plS M ds ls X) (λ_=>True) ds.length ?_ trivial ?_ ?_
 . simp only[plS,plT,if_true,<- hM]
   ((try simp only[kV]);refine Yn.sub (by simp[lk,Ya,AV.keys,kV]) ?_;simp only[kV,Wkl,and_true];(try simp[lk,Yd,Ya,AV.keys,kV]))
 . intro i hi _;have wi:IntKind.i64.wrap ((i:Int)+1)=(i:Int)+1:=Yg (by omega) (by omega)
   have hne2:¬ls.map ia=[]:=λh=>by
    have:ls.length=0:=(by rw[<- List.length_map (f:=ia),h];rfl);omega
   have eV:Yh (ls.map ia) = .vsl (ls.map ia):=(by rw[Yh,if_neg hne2]);have hil:i<ls.length:=(by omega);have sc:=hsc i hi;have hm:=hrc ds[i] ls[i];have hrow:∀ (d e:Int) (V:List Rf),plR false ((d,e),V)=[.int .i64 d,.int .i64 e,.vsl (acM V)]:=λd e V=>rfl
   generalize rcL r (st5 r l q s m day) false (ds[i],ls[i])=V at *;have em:=Zm8 false (X.take i) ((ds[i],ls[i]),V);rw[<- sc,hrow]at em;have lm:=Zm9 false (X.take i);rw[List.length_take,hXl,Nat.min_eq_left (by omega)]at lm;have bb:(i+1)*40<=70368744177664:=(by omega);have eA:V.map ita=acM V:=rfl;rw[eA]at hm;refine Qga ?_;by_cases i0:i=0
   case' pos =>
    have hS:plS M ds ls X i=⟨(16,.nils)::plT ds ls i,[(10,.box M)]⟩:=(by unfold plS;rw[if_pos i0]);have e1:plM false (X.take i)=[]:=(by rw[i0]at lm ⊢;exact List.length_eq_zero_iff.1 lm);rw[e1,List.nil_append]at em
   case' neg =>
    have hS:plS M ds ls X i=⟨(16,.osl 67 i)::plT ds ls i,[(67,.row 3 (plM false (X.take i))),(10,.box M)]⟩:=by unfold plS;rw[if_neg i0]
   all_goals
    rw[hS];simp -implicitDefEqProofs[plT,eV,hi,hil,ia,<- hM];rw[hM];refine Yf.of hm (by simp[AV.pure];exact pM) ?_;simp -implicitDefEqProofs[bb,lm];refine ⟨rfl,?_⟩;have hS1:plS M ds ls X (i+1)=⟨(16,.osl 67 (i+1))::plT ds ls (i+1),[(67,.row 3 (plM false (X.take (i+1)))),(10,.box M)]⟩:=(by unfold plS;rw[if_neg (by omega)]);rw[hS1,<- em];simp only[plT,eV];have w1:IntKind.i64.wrap 1=1:=rfl
    ((try simp only[wi,w1,i0]);refine Yn.sub (by simp[lk,Ya,AV.keys,wi,w1,i0]) ?_;simp only[wi,w1,i0,Wkl,Zmc,hMk,and_true];(try simp[lk,Yd,Ya,AV.keys,wi,w1,i0]))
 . intro _;have hall:X.take ds.length=X:=(by rw[<- hXl];exact List.take_length);have lm:=Zm9 false X;have k5:=Zmb false X;rw[hXl]at lm;refine Qga ?_;by_cases i0:ds.length=0
   . have hS:plS M ds ls X ds.length=⟨(16,.nils)::plT ds ls ds.length,[(10,.box M)]⟩:=(by unfold plS;rw[if_pos i0]);have e0:plM false X=[]:=(by rw[i0]at lm;exact List.length_eq_zero_iff.1 lm);rw[hS];simp -implicitDefEqProofs[plT];refine Qgr ?_;simp -implicitDefEqProofs[Yh,e0]
   . have hS:plS M ds ls X ds.length=⟨(16,.osl 67 ds.length)::plT ds ls ds.length,[(67,.row 3 (plM false (X.take ds.length))),(10,.box M)]⟩:=(by unfold plS;rw[if_neg i0]);rw[hall]at hS;have e0:¬plM false X=[]:=λh=>i0 (by rw[<- lm,h];rfl)
     rw[hS];simp -implicitDefEqProofs[plT];refine Qgr ?_;simp -implicitDefEqProofs[Yh,e0,k5,lm]
end
section
variable {G:Nat->Option (List AV)}
end
section
variable {G:Nat->Option (List AV)}
end
section
variable {G:Nat->Option (List AV)}
theorem Zn0 (X:List Pr) (hX:X.length<=4000):PC Tryz.prog G 48 [.vsl (prM X),.vsl (prM X)] (.bool true):=by
 have ll:=Zlv X
 (refine Z6A rfl λR hG hrd=>Qga ?_;subst hG)
 simp -implicitDefEqProofs[Z6y,Z6z,ll];refine Zb9 (λi=>⟨[(5,.int .i64 i),(0,.vsl (prM X)),(1,.vsl (prM X))],[]⟩) (λ_=>True) X.length ?_ trivial ?_ ?_
 . (refine Yn.sub (by simp[lk,Ya,AV.keys]) ?_;simp only[Wkl,and_true];(try simp[lk,Yd,Ya,AV.keys]))
 . intro i hi _;have wi:IntKind.i64.wrap ((i:Int)+1)=(i:Int)+1:=Yg (by omega) (by omega);have ha:(prM X)[i]'(by rw[ll];exact hi)=[.int .i64 X[i].1.1,.int .i64 X[i].1.2,.int .i64 X[i].2.1,.int .i64 X[i].2.2]:=(by simp[prM,pra]);refine Qga ?_;simp -implicitDefEqProofs[hi,ll,ha,wi];refine ⟨rfl,?_⟩
   (refine Yn.sub (by simp[lk,Ya,AV.keys]) ?_;simp only[Wkl,and_true];(try simp[lk,Yd,Ya,AV.keys]))
 . intro _;refine Qga ?_;simp -implicitDefEqProofs[ll];refine Qgr ?_;simp -implicitDefEqProofs[]
end
def exS:List Stq:=[⟨30,2,30,1,101,true⟩,⟨40,1,30,2,1,false⟩,⟨50,1,40,1,2,false⟩,⟨40,1,50,1,2,false⟩]
def exC:List Stq:=[⟨50,1,40,1,2,false⟩,⟨40,1,30,2,1,false⟩,⟨30,2,30,1,101,true⟩]
def exA:List Rf:=[(30,1),(30,2),(40,1),(50,1)]
def exK:List Rf:=[(40,1),(50,1)]
def exX:List Pr:=[((40,1),(50,1)),((50,1),(30,1)),((50,1),(30,2)),((50,1),(40,1))]
def exP:List (Rf×List Rf):=[((10,1),[(10,1)]),((20,1),[(20,1)]),((30,2),[(30,2),(40,1),(50,1)]),((40,1),[(40,1),(50,1)]),((50,1),[(40,1),(50,1)])]
theorem Zn1:plX exR (st5 exR exL exQ [] 9 200) (nums exR) (ltL [] 9 exL (nums exR))=exP:=by decide +kernel
theorem ex_pu (a b:Rf) (h:(knB exR a.1 a.2&&knB exR b.1 b.2)=true):puN exR exL exQ [] 9 200 a b=0:=by
 rw[puN,if_pos ex_aq,if_pos h]
theorem Zn2:stA exR exL exQ [] 9 200 = .tup [.vsl (exS.map sa),.int .i64 0]:=by
 have h:=ex_aq
 have:stE exR exL exQ [] 9 200=(exS,0):=by
  have e:=ex_st;unfold stE;rw[if_pos h,e];rfl
 rw[stA,this];rfl
theorem Zn3:chA exR exL exQ [] 9 200 (50,1) (30,1) = .tup [.vsl (exC.map sa),.int .i64 0]:=by rw[chA,ZmB];rfl
theorem Zn4:ruA exR exL exQ 300 = .tup [.vsl (([1,3]:List Int).map ia),.int .i64 0]:=by rw[ruA,ZmC];rfl
theorem Zn5:foE exR exL exQ [] 9 200 false (30,1) = .tup [.vsl (exA.map ita),.int .i64 0]:=by
 have h:=ex_pu (30,1) (30,1) (by decide +kernel);rw[foE,h,if_pos rfl,ZmD];rfl
theorem Zn6:foE exR exL exQ [] 9 200 true (40,1) = .tup [.vsl (exA.map ita),.int .i64 0]:=by
 have h:=ex_pu (40,1) (40,1) (by decide +kernel);rw[foE,h,if_pos rfl,ex_in];rfl
theorem Zn7:(rfs exR).length=7:=rfl
theorem Zn8:clE exR exL exQ [] 9 200 = .tup [.vsl (clM [exK]),.int .i64 0]:=by
 rw[clE,ex_aq,if_pos rfl,Zn7,ZmE];rfl
theorem Zn9:loE exR exL exQ [] 9 200 300 = .tup [.vsl (prM exX),.int .i64 0]:=by
 have h:aqN exR exL exQ [] 9 200 300=0:=(by decide +kernel);rw[loE,h,if_pos rfl,Zn7,ZmF];rfl
theorem Zna:suE exR exL exQ 9 200 (30,2) (30,1) = .tup [.int .u8 2,.int .i64 0]:=by
 have h:=ex_pu (30,2) (30,1) (by decide +kernel);have h2:suV (mB exR exL exQ 9 200 (30,2) (30,1)) (2 ^ (opQ exL).length)=2:=(by decide +kernel);rw[suE,h,if_pos rfl,h2]
theorem Znb:plE false exR exL exQ [] 9 200 = .tup [.vsl (plM false exP),.int .i64 0]:=by
 rw[plE,ex_aq,if_pos rfl,Zn1];rfl
theorem ex_m1:maE exR exL exQ [] 11 299 (30,2) (30,1) = .tup [.bool true,.int .i64 0]:=by
 have h:puN exR exL exQ [] 11 299 (30,2) (30,1)=0:=(by decide +kernel);have h2:decide (diV (edg (st5 exR exL exQ [] 11 299)) (30,1) (30,2)<1048576)=true:=(by decide +kernel);rw[maE,h,if_pos rfl,h2]
theorem ex_m2:maE exR exL exQ [] 11 300 (30,2) (30,1) = .tup [.bool false,.int .i64 0]:=by
 have h:puN exR exL exQ [] 11 300 (30,2) (30,1)=0:=(by decide +kernel);have h2:decide (diV (edg (st5 exR exL exQ [] 11 300)) (30,1) (30,2)<1048576)=false:=(by decide +kernel);rw[maE,h,if_pos rfl,h2]
section
variable {G:Nat->Option (List AV)}
set_option maxRecDepth 100000 in
set_option maxHeartbeats 4000000 in
theorem Znc (hG:GC G) (hN:GN G) (hQ:GQ G):PC Tryz.prog G 14 [] (.bool true):=by
 have hs:=ZmN (G:=G);have cSt:=PC.sub (Zkl hG hN hQ exR exL exQ [] 9 200 ex_wl ex_wr ex_wq ZmO) (xs:=[swa exR exL exQ,.nils,.int .i64 9,.int .i64 200]) ⟨.rfl',.nils,.rfl',.rfl',trivial⟩;have cCh:=PC.sub (ZkN hG hN hQ exR exL exQ [] 9 200 50 1 30 1 ex_wl ex_wr ex_wq ZmO) (xs:=[swa exR exL exQ,.nils,.int .i64 9,.int .i64 200,.agg [.int .i64 50,.int .i64 1],.agg [.int .i64 30,.int .i64 1]]) ⟨.rfl',.nils,.rfl',.rfl',.rfl',.rfl',trivial⟩;have cRu:=Zis hG hN exR exL exQ 300 ex_wl ex_wr ex_wq;have cFo:=PC.sub (Zkz hG hN hQ exR exL exQ [] 9 200 30 1 ex_wl ex_wr ex_wq ZmO (by decide)) (xs:=[swa exR exL exQ,.nils,.int .i64 9,.int .i64 200,.agg [.int .i64 30,.int .i64 1]]) ⟨.rfl',.nils,.rfl',.rfl',.rfl',trivial⟩;have cIn:=PC.sub (ZkA hG hN hQ exR exL exQ [] 9 200 40 1 ex_wl ex_wr ex_wq ZmO (by decide)) (xs:=[swa exR exL exQ,.nils,.int .i64 9,.int .i64 200,.agg [.int .i64 40,.int .i64 1]]) ⟨.rfl',.nils,.rfl',.rfl',.rfl',trivial⟩;have cCl:=PC.sub (Zlm hG hN hQ exR exL exQ [] 9 200 ex_wl ex_wr ex_wq ZmO) (xs:=[swa exR exL exQ,.nils,.int .i64 9,.int .i64 200]) ⟨.rfl',.nils,.rfl',.rfl',trivial⟩;have cLo:=PC.sub (Zly hG hN hQ exR exL exQ [] 9 200 300 ex_wl ex_wr ex_wq ZmO) (xs:=[swa exR exL exQ,.nils,.int .i64 9,.int .i64 200,.int .i64 300]) ⟨.rfl',.nils,.rfl',.rfl',.rfl',trivial⟩;have cSu:=ZmA hG hN hQ exR exL exQ 9 200 30 2 30 1 ex_wl ex_wr ex_wq;have cPl:=PC.sub (ZmZ hG hN hQ exR exL exQ [] 9 200 ex_wl ex_wr ex_wq ZmO) (xs:=[swa exR exL exQ,.nils,.int .i64 9,.int .i64 200]) ⟨.rfl',.nils,.rfl',.rfl',trivial⟩;rw[Zn2]at cSt;rw[Zn3]at cCh;rw[Zn4]at cRu;rw[Zn5]at cFo;rw[Zn6]at cIn;rw[Zn8]at cCl;rw[Zn9]at cLo;rw[Zna]at cSu;rw[Znb]at cPl;have cM1:=ZmP hG hN hQ 11 299 30 2 30 1 true true ex_m1;have cM2:=ZmP hG hN hQ 11 300 30 2 30 1 false false ex_m2;have s1:=ZhL (G:=G) exS exS (by unfold Sml;decide);have s2:=ZhL (G:=G) exC exC (by unfold Sml;decide);have s3:=Zbg (G:=G) [1,3] [1,3] (by unfold Sml;decide);have s4:=ZeU (G:=G) exA exA (by unfold Sml;decide);have s5:=ZeU (G:=G) exK exK (by unfold Sml;decide);have s6:=Zn0 (G:=G) exX (by decide);have s7:=ZeU (G:=G) [(30,2),(40,1),(50,1)] [(30,2),(40,1),(50,1)] (by unfold Sml;decide);rw[decide_eq_true rfl]at s1 s2 s3 s4 s5 s7;simp only[beq_self_eq_true]at cM1 cM2;simp only[exS,exC,exA,exK,exX,exP,clM,prM,plM,plR,pra,acM,List.map_cons,List.map_nil,ia,ita,sa,Bool.false_eq_true,if_false]at cSt cCh cRu cFo cIn cCl cLo cPl s1 s2 s3 s4 s5 s6 s7;unfold swa at *
 (refine Z5D rfl λR hG hrd=>Qga ?_;subst hG)
 simp -implicitDefEqProofs[Z5B,Z5C]
 repeat
  first
   |refine Qco (ZmL _ _) (by simp) ?_
   |refine Qco (hs) (by simp) ?_
   |refine Qco (cSt) (by simp) ?_
   |refine Qco (cCh) (by simp) ?_
   |refine Qco (cRu) (by simp) ?_
   |refine Qco (cFo) (by simp) ?_
   |refine Qco (cIn) (by simp) ?_
   |refine Qco (cCl) (by simp) ?_
   |refine Qco (cLo) (by simp) ?_
   |refine Qco (cSu) (by simp) ?_
   |refine Qco (cPl) (by simp) ?_
   |refine Qco (s1) (by simp) ?_
   |refine Qco (s2) (by simp) ?_
   |refine Qco (s3) (by simp) ?_
   |refine Qco (s4) (by simp) ?_
   |refine Qco (s5) (by simp) ?_
   |refine Qco (s6) (by simp) ?_
   |refine Qco (s7) (by simp) ?_
   |refine Qco (cM1) (by simp) ?_
   |refine Qco (cM2) (by simp) ?_
  simp -implicitDefEqProofs[]
 refine ⟨rfl,?_⟩
 repeat
  first
   |refine Qco (ZmL _ _) (by simp) ?_
   |refine Qco (hs) (by simp) ?_
   |refine Qco (cSt) (by simp) ?_
   |refine Qco (cCh) (by simp) ?_
   |refine Qco (cRu) (by simp) ?_
   |refine Qco (cFo) (by simp) ?_
   |refine Qco (cIn) (by simp) ?_
   |refine Qco (cCl) (by simp) ?_
   |refine Qco (cLo) (by simp) ?_
   |refine Qco (cSu) (by simp) ?_
   |refine Qco (cPl) (by simp) ?_
   |refine Qco (s1) (by simp) ?_
   |refine Qco (s2) (by simp) ?_
   |refine Qco (s3) (by simp) ?_
   |refine Qco (s4) (by simp) ?_
   |refine Qco (s5) (by simp) ?_
   |refine Qco (s6) (by simp) ?_
   |refine Qco (s7) (by simp) ?_
   |refine Qco (cM1) (by simp) ?_
   |refine Qco (cM2) (by simp) ?_
  simp -implicitDefEqProofs[]
 exact rfl
end
theorem Znd {E:List (Rf×Rf)} (hE:E.length<=1000) {a b:Rf}:mayT E a b=true↔∃ n,pth E b n a=true:=by
 unfold mayT;rw[decide_eq_true_eq,Zjb hE]
 cases h:diN E b a with
 | none =>
   have:=Zj6.1 h;simp only[Option.isSome_none,Bool.false_eq_true,false_iff];rintro ⟨n,hn⟩;rw[this n]at hn;cases hn
 |some n=>exact ⟨λ_=>⟨n,(Zj5.1 h).1⟩,λ_=>rfl⟩
theorem Zne {E:List (Rf×Rf)} {x y:Rf}:pth E y 0 x=true↔x=y:=by simp[pth]
theorem Znf {E:List (Rf×Rf)} {z y:Rf} {m:Nat} (h2:pth E z m y=true):∀ (n:Nat) {x:Rf},pth E y n x=true->pth E z (n+m) x=true
 |0,x,h=>by rw[Zne]at h;subst h;rw[Nat.zero_add];exact h2
 | n+1,x,h=>by
   obtain ⟨e,he,h1,h3⟩:=Zj1.1 h;rw[show n+1+m=(n+m)+1 by omega];exact Zj1.2 ⟨e,he,h1,Znf h2 n h3⟩
theorem Zng {E:List (Rf×Rf)} (hE:E.length<=1000) {a b c:Rf} (h1:mayT E a b=true) (h2:mayT E b c=true):mayT E a c=true:=by
 obtain ⟨n,hn⟩:=(Znd hE).1 h1;obtain ⟨m,hm⟩:=(Znd hE).1 h2;exact (Znd hE).2 ⟨n+m,Znf hm n hn⟩
theorem Znh {E:List (Rf×Rf)} (hE:E.length<=1000) {a b:Rf}:mayT (tuE E) a b=mayT E b a:=by
 have hE2:(tuE E).length<=1000:=(by simpa [tuE] using hE);rw[Bool.eq_iff_iff,Znd hE2,Znd hE];exact exists_congr λn=>by rw[Zjd]
theorem Zni {r:List Iss} {L:List Stq} (hL:L.length<=1000) {t:Bool} {a b:Rf} (h1:mayT (edT t L) a b=true) (h2:mayT (edT t L) b a=true):rcL r L t a=rcL r L t b:=by
 have hE:(edT t L).length<=1000:=(by unfold edT;split <;> simp[edg,tuE,hL]);unfold rcL;refine List.filter_congr λy _=>?_
 have e:∀ x,decide (diV (edT t L) x y=1048576) = !mayT (edT t L) y x:=λx=>by
  have hle:=Zj9 (y:=x) (x:=y) hE;unfold mayT;rw[Bool.eq_iff_iff];simp only[decide_eq_true_eq,Bool.not_eq_true',decide_eq_false_iff_not];omega
 rw[e,e,Bool.not_not,Bool.not_not,Bool.eq_iff_iff];exact ⟨λh=>Zng hE h h1,λh=>Zng hE h h2⟩
def lkd:Rf->List Stq->Rf->Prop
 |x,[],y=>x=y
 |x,s::r,y=>frS s=x/\lkd (toS s) r y
theorem Znj {L:List Stq} (hL:L.length<=1000) {y:Rf}:∀ (n:Nat) {x:Rf},diN (edg L) y x=some n->lkd x (chP L y n x) y/\(∀ s∈chP L y n x,s∈L)/\(chP L y n x).length=n
 | 0,x,h=>by
   have:=ZkJ.1 h;subst this;exact ⟨rfl,λs hs=>(by cases hs),rfl⟩
 | n+1,x,h=>by
   obtain ⟨i,hi,f1,f2,f3,f4⟩:=ZkK hL h;obtain ⟨g1,g2,g3⟩:=Znj hL n f3;rw[f4];refine ⟨⟨f2,g1⟩,λs hs=>?_,by rw[List.length_cons,g3]⟩;rcases List.mem_cons.1 hs with rfl|hs
   . exact List.getElem_mem hi
   . exact g2 s hs
theorem Nsub.tup {xs ys:List AV} (h:NsubL xs ys):Nsub (.tup xs) (.tup ys):=λM W u hu=>by
 cases hu with
 | tup _ us h1 hx =>
   refine .tup ys us (by rw[h1,h.len]) λi y u hy hu=>?_
   obtain ⟨x,h2,h3⟩:=h.at i y hy;exact h3 _ _ _ (hx i x u h2 hu)
theorem PC.vs {P:Program} {G:Nat->Option (List AV)} {f:FuncId} {xs:List AV} {l:List (List AV)} {e:Int} (h:PC P G f xs (.tup [Yh l,.int .i64 e])):PC P G f xs (.tup [.vsl l,.int .i64 e]):=h.out (.tup ⟨.orNil l,.rfl',trivial⟩)
structure Rq (r:List Iss) (l:List Nte) (q:List Rul) (s:List Int) (m d:Int):Prop where
 wr:Wf r
 wl:WfN l
 wq:Sml q
 ws:Sml s
 h0:chS r l q=0
 h80:r.length<=80
 tr:truB l s=true
 mi:inR m 1 999=true
 di:inR d 0 14610=true
section
variable {r:List Iss} {l:List Nte} {q:List Rul} {s:List Int} {m d:Int}
theorem Rq.nB (h:Rq r l q s m d):ZdS r l=true:=ZhG (ZhP h.h0).1
theorem Rq.rB (h:Rq r l q s m d):Zee r q=true:=(ZhP h.h0).2
theorem Rq.li (h:Rq r l q s m d):Zbt r=true:=Zjo h.h0
theorem Rq.ne (h:Rq r l q s m d):r≠[]:=ch_ne h.h0
theorem Rq.len (h:Rq r l q s m d):(st5 r l q s m d).length<=100:=Zkk h.h0
theorem Rq.l1000 (h:Rq r l q s m d):(st5 r l q s m d).length<=1000:=by have:=h.len;omega
theorem Rq.e1000 (h:Rq r l q s m d):(edg (st5 r l q s m d)).length<=1000:=by simpa [edg] using h.l1000
theorem Rq.aq (h:Rq r l q s m d) {e:Int} (he:inR e 0 14610=true):aqN r l q s m d e=0:=by
 rw[aqN,if_pos h.h0,if_pos h.tr,if_pos (by rw[h.mi,h.di,he];rfl)]
theorem Rq.pu (h:Rq r l q s m d) {a b:Rf} (ha:a∈rfs r) (hb:b∈rfs r):puN r l q s m d a b=0:=by
 rw[puN,if_pos (h.aq h.di),if_pos (by rw[Zjl.2 (show (a.1,a.2)∈rfs r from ha),Zjl.2 (show (b.1,b.2)∈rfs r from hb)];rfl)]
theorem Rq.day (h:Rq r l q s m d) {e:Int} (he:inR e 0 14610=true):Rq r l q s m e:=⟨h.wr,h.wl,h.wq,h.ws,h.h0,h.h80,h.tr,h.mi,he⟩
theorem Rq.truth (h:Rq r l q s m d) {s':List Int} (h1:Sml s') (h2:truB l s'=true):Rq r l q s' m d:=⟨h.wr,h.wl,h.wq,h1,h.h0,h.h80,h2,h.mi,h.di⟩
theorem Rq.rlen (h:Rq r l q s m d):(rfs r).length<=80:=by rw[ZkC];exact h.h80
theorem Rq.rne (h:Rq r l q s m d):rfs r≠[]:=by have:=h.ne;simpa [rfs] using this
theorem Znk {t m d:Int} (h:rdB r l q=true) (hr:∀ x∈r,KOk x) (hl:∀ x∈l,NOk x) (hm:0<=m) (hd:0<=d):Rq r l q (ttV l t) (mcV m) (dyV d):=by
 obtain ⟨h1,h2,h3,h4,h5⟩:=ZmK h hr hl;have hB:=ZhG (ZhP h4).1;exact ⟨h1,h2,h3,by have:=(ZlH (opQ l) (t.tmod (2 ^ (opQ l).length:Nat)).toNat).length_le;have:=ZlN hB;unfold ttV Sml;omega,h4,h5,ZlM hB _,ZmH hm,ZmI hd⟩
variable {G:Nat->Option (List AV)}
theorem Rq.may_pc (h:Rq r l q s m d) (hG:GC G) (hN:GN G) (hQ:GQ G) {a b:Rf} (ha:a∈rfs r) (hb:b∈rfs r) :
  PC Tryz.prog G 17 [swa r l q,.vsl (s.map ia),.int .i64 m,.int .i64 d,.agg [.int .i64 a.1,.int .i64 a.2],.agg [.int .i64 b.1,.int .i64 b.2]] (.tup [.bool (mayT (edg (st5 r l q s m d)) a b),.int .i64 0]):=by
 have:=Zky hG hN hQ r l q s m d a.1 a.2 b.1 b.2 h.wl h.wr h.wq h.ws
 have e:maE r l q s m d (a.1,a.2) (b.1,b.2) = .tup [.bool (mayT (edg (st5 r l q s m d)) a b),.int .i64 0]:=by
  rw[maE,show puN r l q s m d (a.1,a.2) (b.1,b.2)=0 from h.pu ha hb,if_pos rfl];rfl
 rwa [e]at this
def chX (L:List Stq) (a b:Rf):List Stq:=match diN (edg L) b a with
 |some n=>chP L b n a
 |none=>[]
theorem Rq.chain_pc (h:Rq r l q s m d) (hG:GC G) (hN:GN G) (hQ:GQ G) {a b:Rf} (ha:a∈rfs r) (hb:b∈rfs r) :
  PC Tryz.prog G 18 [swa r l q,.vsl (s.map ia),.int .i64 m,.int .i64 d,.agg [.int .i64 a.1,.int .i64 a.2],.agg [.int .i64 b.1,.int .i64 b.2]]
   (.tup [.vsl ((chX (st5 r l q s m d) a b).map sa),.int .i64 (if mayT (edg (st5 r l q s m d)) a b=true then 0 else 6)]):=by
 refine PC.vs ?_;have:=ZkN hG hN hQ r l q s m d a.1 a.2 b.1 b.2 h.wl h.wr h.wq h.ws
 have e:chE r l q s m d (a.1,a.2) (b.1,b.2)=(chX (st5 r l q s m d) a b,if mayT (edg (st5 r l q s m d)) a b=true then 0 else 6):=by
  rw[chE,show puN r l q s m d (a.1,a.2) (b.1,b.2)=0 from h.pu ha hb,if_pos rfl]
  have hm:mayT (edg (st5 r l q s m d)) a b=(diN (edg (st5 r l q s m d)) b a).isSome:=by
   rw[mayT,Bool.eq_iff_iff,decide_eq_true_eq,Zjb h.e1000]
  rw[hm];unfold chX;show (match diN (edg (st5 r l q s m d)) b a with|some n=>(chP (st5 r l q s m d) b n a,(0:Int))|none=>([],6))=_
  cases diN (edg (st5 r l q s m d)) b a <;> rfl
 rwa [chA,e]at this
theorem Rq.steps_pc (h:Rq r l q s m d) (hG:GC G) (hN:GN G) (hQ:GQ G):PC Tryz.prog G 19 [swa r l q,.vsl (s.map ia),.int .i64 m,.int .i64 d] (.tup [.vsl ((st5 r l q s m d).map sa),.int .i64 0]):=by
 refine PC.vs ?_;have:=Zkl hG hN hQ r l q s m d h.wl h.wr h.wq h.ws
 have e:stE r l q s m d=(st5 r l q s m d,0):=by
  have h1:=h.aq h.di;unfold stE;rw[if_pos h1]
 rwa [stA,e]at this
theorem Rq.rules_pc (h:Rq r l q s m d) (hG:GC G) (hN:GN G):PC Tryz.prog G 20 [swa r l q,.int .i64 d] (.tup [.vsl ((ruN d q q.length).map ia),.int .i64 0]):=by
 refine PC.vs ?_;have:=Zis hG hN r l q d h.wl h.wr h.wq;have e:ruE r l q d=(ruN d q q.length,0):=by rw[ruE,if_pos h.h0,if_pos h.di]
 rwa [ruA,e]at this
theorem Rq.for_pc (h:Rq r l q s m d) (hG:GC G) (hN:GN G) (hQ:GQ G) {a:Rf} (ha:a∈rfs r):PC Tryz.prog G 27 [swa r l q,.vsl (s.map ia),.int .i64 m,.int .i64 d,.agg [.int .i64 a.1,.int .i64 a.2]] (.tup [.vsl ((rcL r (st5 r l q s m d) false a).map ita),.int .i64 0]):=by
 have:=Zkz hG hN hQ r l q s m d a.1 a.2 h.wl h.wr h.wq h.ws (by have:=h.h80;omega)
 have e:foE r l q s m d false (a.1,a.2) = .tup [.vsl ((rcL r (st5 r l q s m d) false a).map ita),.int .i64 0]:=by
  rw[foE,show puN r l q s m d (a.1,a.2) (a.1,a.2)=0 from h.pu ha ha,if_pos rfl];rfl
 rwa [e]at this
theorem Rq.in_pc (h:Rq r l q s m d) (hG:GC G) (hN:GN G) (hQ:GQ G) {a:Rf} (ha:a∈rfs r):PC Tryz.prog G 28 [swa r l q,.vsl (s.map ia),.int .i64 m,.int .i64 d,.agg [.int .i64 a.1,.int .i64 a.2]] (.tup [.vsl ((rcL r (st5 r l q s m d) true a).map ita),.int .i64 0]):=by
 have:=ZkA hG hN hQ r l q s m d a.1 a.2 h.wl h.wr h.wq h.ws (by have:=h.h80;omega)
 have e:foE r l q s m d true (a.1,a.2) = .tup [.vsl ((rcL r (st5 r l q s m d) true a).map ita),.int .i64 0]:=by
  rw[foE,show puN r l q s m d (a.1,a.2) (a.1,a.2)=0 from h.pu ha ha,if_pos rfl];rfl
 rwa [e]at this
theorem Rq.classes_pc (h:Rq r l q s m d) (hG:GC G) (hN:GN G) (hQ:GQ G):PC Tryz.prog G 32 [swa r l q,.vsl (s.map ia),.int .i64 m,.int .i64 d] (.tup [.vsl (clM (clX (mayT (edg (st5 r l q s m d))) (rfs r) (rfs r).length)),.int .i64 0]):=by
 refine PC.vs ?_;have:=Zlm hG hN hQ r l q s m d h.wl h.wr h.wq h.ws
 rwa [clE,h.aq h.di,if_pos rfl]at this
end
open Go.ChangeShapes Go.WideShapes Go.ChangeAt Go.WideMaps Go.WideElems Go.RowKit Go.Deep
def laid5:List (String×DataW Unit):=[("blueline/sheet.checks",Rows.laid_blueline_sheet_checks),("blueline/note.checks",Rows.laid_blueline_note_checks),("blueline/swap.sources",Rows.laid_blueline_swap_sources)]
theorem Znl (os:Os) (args:Array Value):laidMetH Tryz.prog laid5 ((World.doorLaid Tryz.prog 41 os).forCall (λ_ _=>0) ⟨#[],args,[]⟩).memory :=
 laidMetH_of_parts3 (fuel:=8) (laidMet_of_run' 8 (by kernel_rfl) (by kernel_rfl)) (by kernel_rfl) (by kernel_rfl)
theorem cellF {W:World} {fuel:Nat} {c:Value} {y:DataW (List UInt8)×List MemPlace} {tE:Nat} {fld:Field} {ps rs:Array TypeId} {vd:Bool} {b:UInt8} {s:List UInt8} {f0:FuncId}
  (uE:Tryz.prog.underlying tE=some (.struct #[fld])) (hfo:fld.offset=0) (uF:Tryz.prog.underlying fld.type=some (.func ps rs vd)) (cF:Tryz.prog.cellsOf fld.type=1)
  (hone:((List.range Tryz.prog.funcs.size).filter λf=>(Tryz.prog.funcs[f]?).any (·.name.toUTF8.data.toList == b::s))=[f0])
  (h:DataW.trod (funcToken Tryz.prog) Tryz.prog W 0 (λ_=>true) true fuel tE [c]=some y) (hy:y.1 = .agg [.held (b::s)]):c = .func (.func f0) #[] #[]:=by
 obtain ⟨y0,n,rfl,-,h0⟩:=trod_struct1 uE h;rw[hfo,List.drop_zero,cF]at h0;simp only[DataW.agg.injEq,List.cons.injEq,and_true]at hy;exact func_of_trod (q:=y0.2) uF hone (by rw[<- hy];simpa using h0)
theorem Znm {W:World} {laid:List (String×DataW Unit)} {nm:String} {d:DataW Unit} {g tA tE:Nat} {fld:Field} {ps rs:Array TypeId} {vd:Bool} {n:Nat} (toks:List (List UInt8)) (fs:List FuncId)
  (h:laidMetH Tryz.prog laid W) (hm:(nm,DataW.iface "func table" d)∈laid) (hg:Tryz.prog.globalNamed nm=some g) (ht:(Tryz.prog.globals[g]?).map (·.type)=some tA)
  (uA:Tryz.prog.underlying tA=some (.array n tE)) (uE:Tryz.prog.underlying tE=some (.struct #[fld])) (hfo:fld.offset=0) (uF:Tryz.prog.underlying fld.type=some (.func ps rs vd))
  (cA:Tryz.prog.cellsOf tA=n) (cE:Tryz.prog.cellsOf tE=1) (cF:Tryz.prog.cellsOf fld.type=1) (hl1:toks.length=n) (hl2:fs.length=n)
  (hd0:(d.funcsOut:DataW (List UInt8)) = .agg (toks.map λs=>.agg [.held s]))
  (hone:∀ (i:Nat) (s:List UInt8) (f:FuncId),toks[i]? = some s->fs[i]? = some f->∃ b r,s=b::r/\((List.range Tryz.prog.funcs.size).filter λf=>(Tryz.prog.funcs[f]?).any (·.name.toUTF8.data.toList == b::r))=[f]) :
  ∃ t fr,W.heap[g]? = some (.cells ((fs.map λf=>Value.func (.func f) #[] #[]).toArray) t fr):=by
 obtain ⟨g',t,cs,fuel,p,hg',ht',hv,hd⟩:=h.funcs hm;obtain rfl:=Option.some.inj (hg.symm.trans hg');obtain rfl:=Option.some.inj (ht.symm.trans ht');obtain ⟨xs,m,rfl,hx,hlen,hn,hel⟩:=DataW.trod_array uA hd;rw[cA]at hlen;rw[cE]at hel;rw[hd0,Prod.mk.injEq,DataW.agg.injEq]at hx;have hx:=hx.1
 have hcs:cs.toList=fs.map λf=>Value.func (.func f) #[] #[]:=by
  refine List.ext_getElem? λi=>?_
  by_cases hi:i<n
  . have e:=hel i hi;have h1:i<xs.length:=(by omega);have h2:i<toks.length:=(by omega);have h3:i<fs.length:=(by omega);have h4:i<cs.toList.length:=(by omega);obtain ⟨b,r,hb,ho⟩:=hone i _ _ (List.getElem?_eq_getElem h2) (List.getElem?_eq_getElem h3);rw[Nat.mul_one,List.drop_eq_getElem_cons h4,List.take_succ_cons,List.take_zero,List.getElem?_eq_getElem h1]at e;have ey:=congrArg (λl=>l[i]?) hx;simp only[List.getElem?_map,List.getElem?_eq_getElem h2,List.getElem?_eq_getElem h1,Option.map_some,Option.some.injEq]at ey;rw[hb]at ey;have:=cellF uE hfo uF cF ho e ey.symm;rw[List.getElem?_eq_getElem h4,List.getElem?_map,List.getElem?_eq_getElem h3,this];rfl
  . rw[List.getElem?_eq_none (by omega),List.getElem?_eq_none (by simp;omega)]
 simp only[World.var?,hg,Option.bind_some]at hv
 split at hv
 . rename_i cs' t fr heq;injection hv with hv
   have e:cs=(fs.map λf=>Value.func (.func f) #[] #[]).toArray:=(by rw[<- hcs]);exact ⟨t,fr,by rw[heq,hv,e]⟩
 . cases hv
def TabB (W:World) (g:Nat) (fs:List FuncId):Prop:=∃ t fr,W.heap[g]? = some (.cells ((fs.map λf=>Value.func (.func f) #[] #[]).toArray) t fr)
def tabA (fs:List FuncId):List AV:=fs.map λf=>.func (.func f) [] []
theorem Znn {W:World} {g:Nat} {fs:List FuncId} (h:TabB W g fs):PV noM W (.vptr (tabA fs) 0) (.pointer (some ⟨g,0,none⟩)):=by
 obtain ⟨t,fr,hb⟩:=h;refine .vptr _ 0 g 0 (λj=>(((fs.map λf=>Value.func (.func f) #[] #[]).toArray)[j]?).getD undef) (Array.getElem?_eq_some_iff.1 hb).1 id ?_ ?_
 . intro j hj;have hj':j<fs.length:=(by simpa [tabA] using hj);simp[World.cell?,hb,hj']
 . intro j x hx;unfold tabA at hx;rw[List.getElem?_map,Option.map_eq_some_iff]at hx;obtain ⟨f,hf,rfl⟩:=hx;have hj':=(List.getElem?_eq_some_iff.1 hf).1;have e:((fs.map λf=>Value.func (.func f) #[] #[]).toArray)[j]? = some (.func (.func f) #[] #[]):=(by simp[hf]);rw[e];exact .func _ [] [] #[] #[] rfl rfl (by simp) (by simp)
def fsC:List FuncId:=[199,200,201,202]
def fsN:List FuncId:=[184,185,186,187,189,190,193,195]
def fsQ:List FuncId:=[182,183]
set_option maxRecDepth 100000 in
theorem Zno {W:World} (h:laidMetH Tryz.prog laid5 W):TabB W 2 fsC :=
 Znm [[98,108,117,101,108,105,110,101,47,115,104,101,101,116,46,99,104,101,99,107,115,36,49],[98,108,117,101,108,105,110,101,47,115,104,101,101,116,46,99,104,101,99,107,115,36,50],[98,108,117,101,108,105,110,101,47,115,104,101,101,116,46,99,104,101,99,107,115,36,51],[98,108,117,101,108,105,110,101,47,115,104,101,101,116,46,99,104,101,99,107,115,36,52]] fsC h (List.mem_cons_self ..) (by kernel_rfl) (by kernel_rfl) Tryz.underlying203 (fld:=_) Tryz.underlying202 rfl Tryz.underlying201 (by kernel_rfl) (by kernel_rfl) (by kernel_rfl) rfl rfl rfl
 (λi s f hs hf=>by
  match i,hs,hf with
  |0,hs,hf=>cases hs;cases hf;exact ⟨_,_,rfl,by kernel_rfl⟩
  |1,hs,hf=>cases hs;cases hf;exact ⟨_,_,rfl,by kernel_rfl⟩
  |2,hs,hf=>cases hs;cases hf;exact ⟨_,_,rfl,by kernel_rfl⟩
  |3,hs,hf=>cases hs;cases hf;exact ⟨_,_,rfl,by kernel_rfl⟩
  |i+4,hs,_=>simp at hs)
set_option maxRecDepth 100000 in
theorem Znp {W:World} (h:laidMetH Tryz.prog laid5 W):TabB W 1 fsN :=
 Znm [[98,108,117,101,108,105,110,101,47,110,111,116,101,46,99,104,101,99,107,115,36,49],[98,108,117,101,108,105,110,101,47,110,111,116,101,46,99,104,101,99,107,115,36,50],[98,108,117,101,108,105,110,101,47,110,111,116,101,46,99,104,101,99,107,115,36,51],[98,108,117,101,108,105,110,101,47,110,111,116,101,46,99,104,101,99,107,115,36,52],[98,108,117,101,108,105,110,101,47,110,111,116,101,46,99,104,101,99,107,115,36,53],[98,108,117,101,108,105,110,101,47,110,111,116,101,46,99,104,101,99,107,115,36,54],[98,108,117,101,108,105,110,101,47,110,111,116,101,46,99,104,101,99,107,115,36,55],[98,108,117,101,108,105,110,101,47,110,111,116,101,46,99,104,101,99,107,115,36,56]] fsN h (List.mem_cons_of_mem _ (List.mem_cons_self ..)) (by kernel_rfl) (by kernel_rfl) Tryz.underlying189 (fld:=_) Tryz.underlying188 rfl Tryz.underlying186 (by kernel_rfl) (by kernel_rfl) (by kernel_rfl) rfl rfl rfl
 (λi s f hs hf=>by
  match i,hs,hf with
  |0,hs,hf=>cases hs;cases hf;exact ⟨_,_,rfl,by kernel_rfl⟩
  |1,hs,hf=>cases hs;cases hf;exact ⟨_,_,rfl,by kernel_rfl⟩
  |2,hs,hf=>cases hs;cases hf;exact ⟨_,_,rfl,by kernel_rfl⟩
  |3,hs,hf=>cases hs;cases hf;exact ⟨_,_,rfl,by kernel_rfl⟩
  |4,hs,hf=>cases hs;cases hf;exact ⟨_,_,rfl,by kernel_rfl⟩
  |5,hs,hf=>cases hs;cases hf;exact ⟨_,_,rfl,by kernel_rfl⟩
  |6,hs,hf=>cases hs;cases hf;exact ⟨_,_,rfl,by kernel_rfl⟩
  |7,hs,hf=>cases hs;cases hf;exact ⟨_,_,rfl,by kernel_rfl⟩
  |i+8,hs,_=>simp at hs)
set_option maxRecDepth 100000 in
theorem Znq {W:World} (h:laidMetH Tryz.prog laid5 W):TabB W 0 fsQ :=
 Znm [[40,98,108,117,101,108,105,110,101,47,115,119,97,112,46,109,111,109,101,110,116,41,46,98,121,78,111,116,101,115],[40,98,108,117,101,108,105,110,101,47,115,119,97,112,46,109,111,109,101,110,116,41,46,98,121,82,117,108,101,115]] fsQ h (List.mem_cons_of_mem _ (List.mem_cons_of_mem _ (List.mem_cons_self ..))) (by kernel_rfl) (by kernel_rfl) Tryz.underlying167 (fld:=_) Tryz.underlying166 rfl Tryz.underlying164 (by kernel_rfl) (by kernel_rfl) (by kernel_rfl) rfl rfl rfl
 (λi s f hs hf=>by
  match i,hs,hf with
  |0,hs,hf=>cases hs;cases hf;exact ⟨_,_,rfl,by kernel_rfl⟩
  |1,hs,hf=>cases hs;cases hf;exact ⟨_,_,rfl,by kernel_rfl⟩
  |i+2,hs,_=>simp at hs)
def G5:Nat->Option (List AV):=λg=>if g=2 then some (tabA fsC) else if g=1 then some (tabA fsN) else if g=0 then some (tabA fsQ) else none
theorem Znr:GC G5:=rfl
theorem Zns:GN G5:=rfl
theorem Znt:GQ G5:=rfl
theorem Znu {W:World} (h:laidMetH Tryz.prog laid5 W):GR G5 noM W:=by
 intro g cs hg;simp only[G5]at hg
 split at hg
 . rename_i e;subst e;cases hg;exact Znn (Zno h)
 . split at hg
   . rename_i e;subst e;cases hg;exact Znn (Znp h)
   . split at hg
     . rename_i e;subst e;cases hg;exact Znn (Znq h)
     . cases hg
def nteK:List TY:=[.int .i64,.int .i64,.int .u8,.int .i64,.int .i64,.int .i64,.int .i64,.int .i64,.bool,.int .u8]
def rulK:List TY:=[.int .i64,.int .i64,.int .i64,.int .i64,.int .i64,.int .i64,.bool,.int .i64]
def swpK:List TY:=[.sl isK2,.sl nteK,.sl rulK]
theorem Znv {xs:List AV} (h:TVs nteK xs):∃ x:Nte,xs=na x/\NOk x:=by
 obtain ⟨x0,_,rfl,h0,h⟩:=h.cons_inv;obtain ⟨x1,_,rfl,h1,h⟩:=h.cons_inv;obtain ⟨x2,_,rfl,h2,h⟩:=h.cons_inv;obtain ⟨x3,_,rfl,h3,h⟩:=h.cons_inv;obtain ⟨x4,_,rfl,h4,h⟩:=h.cons_inv;obtain ⟨x5,_,rfl,h5,h⟩:=h.cons_inv;obtain ⟨x6,_,rfl,h6,h⟩:=h.cons_inv;obtain ⟨x7,_,rfl,h7,h⟩:=h.cons_inv;obtain ⟨x8,_,rfl,h8,h⟩:=h.cons_inv;obtain ⟨x9,_,rfl,h9,h⟩:=h.cons_inv;obtain rfl:=h.nil_inv;obtain ⟨v0,rfl,-⟩:=h0.int_inv;obtain ⟨v1,rfl,-⟩:=h1.int_inv;obtain ⟨v2,rfl,k2⟩:=h2.int_inv;obtain ⟨v3,rfl,-⟩:=h3.int_inv;obtain ⟨v4,rfl,-⟩:=h4.int_inv;obtain ⟨v5,rfl,-⟩:=h5.int_inv;obtain ⟨v6,rfl,-⟩:=h6.int_inv;obtain ⟨v7,rfl,-⟩:=h7.int_inv;obtain ⟨v8,rfl⟩:=h8.bool_inv;obtain ⟨v9,rfl,k9⟩:=h9.int_inv;obtain ⟨a2,b2⟩:=bounds_u8 k2;obtain ⟨a9,b9⟩:=bounds_u8 k9;exact ⟨⟨v0,v1,v2,v3,v4,v5,v6,v7,v8,v9⟩,rfl,a2,b2,a9,b9⟩
theorem Znw {xs:List AV} (h:TVs rulK xs):∃ x:Rul,xs=ra x:=by
 obtain ⟨x0,_,rfl,h0,h⟩:=h.cons_inv;obtain ⟨x1,_,rfl,h1,h⟩:=h.cons_inv;obtain ⟨x2,_,rfl,h2,h⟩:=h.cons_inv;obtain ⟨x3,_,rfl,h3,h⟩:=h.cons_inv;obtain ⟨x4,_,rfl,h4,h⟩:=h.cons_inv;obtain ⟨x5,_,rfl,h5,h⟩:=h.cons_inv;obtain ⟨x6,_,rfl,h6,h⟩:=h.cons_inv;obtain ⟨x7,_,rfl,h7,h⟩:=h.cons_inv;obtain rfl:=h.nil_inv;obtain ⟨v0,rfl,-⟩:=h0.int_inv;obtain ⟨v1,rfl,-⟩:=h1.int_inv;obtain ⟨v2,rfl,-⟩:=h2.int_inv;obtain ⟨v3,rfl,-⟩:=h3.int_inv;obtain ⟨v4,rfl,-⟩:=h4.int_inv;obtain ⟨v5,rfl,-⟩:=h5.int_inv;obtain ⟨v6,rfl⟩:=h6.bool_inv;obtain ⟨v7,rfl,-⟩:=h7.int_inv;exact ⟨⟨v0,v1,v2,v3,v4,v5,v6,v7⟩,rfl⟩
theorem Znx {xs:List AV} (h:TVs swpK xs):∃ (r:List Iss) (l:List Nte) (q:List Rul),AV.agg xs=swa r l q/\(∀ x∈r,KOk x)/\∀ x∈l,NOk x:=by
 obtain ⟨x0,_,rfl,h0,h⟩:=h.cons_inv;obtain ⟨x1,_,rfl,h1,h⟩:=h.cons_inv;obtain ⟨x2,_,rfl,h2,h⟩:=h.cons_inv;obtain rfl:=h.nil_inv;obtain ⟨rows,rfl,-,g⟩:=h0.sl_inv;obtain ⟨r,rfl,hr⟩:=Zms (f:=isa) (p:=KOk) λr hr=>Zmr (g r hr)
 obtain ⟨rows,rfl,-,g⟩:=h1.sl_inv;obtain ⟨l,rfl,hl⟩:=Zms (f:=na) (p:=NOk) λr hr=>Znv (g r hr)
 obtain ⟨rows,rfl,-,g⟩:=h2.sl_inv;obtain ⟨q,rfl⟩:=Zmk (f:=ra) λr hr=>Znw (g r hr)
 exact ⟨r,l,q,rfl,hr,hl⟩
open Go.ChangeShapes Go.WideShapes Go.ChangeAt Go.WideMaps Go.WideElems Go.RowKit Go.Deep
theorem Zny {n:Int} (h:(Lit.int .u16 n).wf=true):0<=n/\n<=65535:=by
 simp[Lit.wf,IntKind.min,IntKind.max,IntKind.signed,IntKind.bits]at h;omega
theorem Znz {r:List Iss} {q:List Rul} (h:Zee r q=true) {i j:Nat} (hi:i<q.length) (hj:j<q.length) (e:q[i].nu=q[j].nu):i=j:=by
 have key:∀ a b (ha:a<q.length) (hb:b<q.length),a<b->q[a].nu≠q[b].nu:=λa b ha hb hab e=>by
  simp only[Zee,Bool.and_eq_true]at h;have h1:=Zbq.1 h.2 b hb;simp only[ruleB,Bool.and_eq_true]at h1;have h2:=h1.1.1.2;simp only[cR3,Bool.not_eq_true',List.any_eq_false,Zed hb]at h2;exact h2 q[a] (List.mem_take_iff_getElem.2 ⟨a,by omega,rfl⟩) (by simpa using e)
 rcases Nat.lt_trichotomy i j with c|c|c
 . exact absurd e (key i j hi hj c)
 . exact c
 . exact absurd e.symm (key j i hj hi c)
theorem ZnA {r:List Iss} {q:List Rul} (h:Zee r q=true) {day:Int} {i:Nat} (hi:i<q.length):q[i].nu∈ruN day q q.length↔sB day q i=true:=by
 unfold ruN;rw[List.mem_map]
 constructor
 . rintro ⟨j,hj,e⟩;obtain ⟨h1,h2⟩:=List.mem_filter.1 hj
   have hj2:j<q.length:=by
    have:=List.mem_of_mem_take h1;exact List.mem_range.1 this
   rw[Zed hj2]at e;obtain rfl:=Znz h hj2 hi e;exact h2
 . intro hs;refine ⟨i,List.mem_filter.2 ⟨?_,hs⟩,by rw[Zed hi]⟩;have:(List.range q.length).take q.length=List.range q.length:=List.take_of_length_le (by simp);rw[this];exact List.mem_range.2 hi
def rfLt (a b:Rf):Prop:=a.1<b.1∨a.1=b.1/\a.2<b.2
theorem ZnB {a:Rf} (h:rfLt a a):False:=by unfold rfLt at h;omega
theorem ZnC {r:List Iss} (h:Zbt r=true):(rfs r).Pairwise rfLt:=by
 refine List.pairwise_iff_getElem.2 λi j hi hj hij=>?_
 simp only[rfs,List.length_map]at hi hj;obtain ⟨n,rfl⟩ : ∃ n,j=i+1+n:=⟨j-i-1,by omega⟩;have:=Zjj h n i hj;simp only[rfs,List.getElem_map,rfLt];exact this
theorem ZnD {T:Rf->Rf->Bool} {bs:List Rf} (h:bs.Pairwise rfLt) (a:Rf):(ownT T bs a).Pairwise rfLt:=by
 unfold ownT;rw[ZjQ];exact h.sublist List.filter_sublist
theorem ZnE {T:Rf->Rf->Bool} {bs:List Rf} {c:List Rf}:c∈clX T bs bs.length↔∃ a∈bs,hdT T bs a=true/\c=ownT T bs a:=by
 unfold clX;rw[ZjQ,List.mem_map]
 constructor
 . rintro ⟨a,ha,rfl⟩;obtain ⟨h1,h2⟩:=List.mem_filter.1 ha;exact ⟨a,h1,by simpa using h2,rfl⟩
 . rintro ⟨a,h1,h2,rfl⟩;exact ⟨a,List.mem_filter.2 ⟨h1,by simpa using h2⟩,rfl⟩
theorem ZnF {T:Rf->Rf->Bool} {bs:List Rf} (h:bs.Pairwise rfLt):(clX T bs bs.length).Pairwise λc e=>∃ a b,c.head? = some a/\e.head? = some b/\rfLt a b:=by
 unfold clX;rw[ZjQ,List.pairwise_map];have h2:((bs.filter λa=>!!hdT T bs a)).Pairwise rfLt:=h.sublist List.filter_sublist;refine h2.imp_of_mem λ{a b} ha hb hab=>⟨a,b,?_,?_,hab⟩
 . have:=(List.mem_filter.1 ha).2;simp only[Bool.not_not,hdT,Bool.and_eq_true,decide_eq_true_eq]at this;exact this.2
 . have:=(List.mem_filter.1 hb).2;simp only[Bool.not_not,hdT,Bool.and_eq_true,decide_eq_true_eq]at this;exact this.2
theorem ZnG {E:List (Rf×Rf)} (hE:E.length<=1000) {bs:List Rf} {a b:Rf} (h1:mayT E a b=true) (h2:mayT E b a=true):ownT (mayT E) bs a=ownT (mayT E) bs b:=by
 unfold ownT;rw[ZjQ,ZjQ];refine List.filter_congr λc _=>?_
 unfold ownP;rw[Bool.not_not,Bool.not_not,Bool.eq_iff_iff];simp only[Bool.and_eq_true];exact ⟨λh=>⟨Zng hE h2 h.1,Zng hE h.2 h1⟩,λh=>⟨Zng hE h1 h.1,Zng hE h.2 h2⟩⟩
theorem ZnH {E:List (Rf×Rf)} (hE:E.length<=1000) {bs:List Rf} {a b:Rf} (ha:a∈bs) (hb:b∈bs) (hab:a≠b) :
  (∃ c∈clX (mayT E) bs bs.length,a∈c/\b∈c)↔mayT E a b=true/\mayT E b a=true:=by
 constructor
 . rintro ⟨c,hc,h1,h2⟩;obtain ⟨x,hx,-,rfl⟩:=ZnE.1 hc;obtain ⟨-,p1,p2⟩:=Zlc.1 h1;obtain ⟨-,q1,q2⟩:=Zlc.1 h2;exact ⟨Zng hE p2 q1,Zng hE q2 p1⟩
 . rintro ⟨h1,h2⟩;have ma:a∈ownT (mayT E) bs a:=Zlc.2 ⟨ha,Zll hE a,Zll hE a⟩;have mb:b∈ownT (mayT E) bs a:=Zlc.2 ⟨hb,h1,h2⟩
   cases q:ownT (mayT E) bs a with
   |nil=>rw[q]at ma;cases ma
   | cons x rest =>
     have mx:x∈ownT (mayT E) bs a:=(by rw[q];exact List.mem_cons_self ..);obtain ⟨hx,x1,x2⟩:=Zlc.1 mx;have es:ownT (mayT E) bs x=ownT (mayT E) bs a:=ZnG hE x2 x1;refine ⟨ownT (mayT E) bs x,ZnE.2 ⟨x,hx,?_,rfl⟩,by rw[es];exact ma,by rw[es];exact mb⟩;unfold hdT;rw[es,q];simp only[List.head?_cons,decide_true,Bool.and_true,decide_eq_true_eq,List.length_cons]
     cases rest with
     | nil =>
       rw[q]at ma mb;rw[List.mem_singleton]at ma mb;exact absurd (ma.trans mb.symm) hab
     |cons y rest=>simp
theorem ZnI {E:List (Rf×Rf)} (hE:E.length<=1000) {bs:List Rf} (hs:bs.Pairwise rfLt) {a:Rf}:(clX (mayT E) bs bs.length).Pairwise λc e=>¬(a∈c/\a∈e):=by
 refine (ZnF hs).imp_of_mem λ{c e} hc he ⟨x,y,h1,h2,h3⟩ ⟨m1,m2⟩=>?_
 obtain ⟨u,hu,-,rfl⟩:=ZnE.1 hc;obtain ⟨v,hv,-,rfl⟩:=ZnE.1 he;obtain ⟨-,p1,p2⟩:=Zlc.1 m1;obtain ⟨-,q1,q2⟩:=Zlc.1 m2;have:=ZnG (bs:=bs) hE (Zng hE p1 q2) (Zng hE q1 p2);rw[this,h2]at h1
 cases h1
 exact ZnB h3
theorem ZnJ {r:List Iss} {l:List Nte} (h:ZdS r l=true):∀ x∈l,x.wy<=3:=by
 intro x hx;obtain ⟨i,hi,rfl⟩:=List.getElem_of_mem hx;simp only[ZdS,Bool.and_eq_true]at h;have h1:=Zbq.1 h.1.2 i hi;simp only[noteB,Bool.and_eq_true]at h1;have h2:=h1.1.1.1.1.1.1.2;rw[ZdP hi]at h2;simp only[cN2,Bool.and_eq_true,decide_eq_true_eq]at h2;exact h2.2
def bnN (F:List Int) (x:Nte):List Stq:=if x.nu ∉ F∨x.lt<2 then [] else
 (if x.wy=1∨x.wy=3 then [⟨x.dr,x.lt-1,x.dr,x.lt,x.nu,true⟩] else [])++(if x.wy=2∨x.wy=3 then [⟨x.dr,x.lt,x.dr,x.lt-1,x.nu,true⟩] else [])
def bnR (rules:List Int) (x:Rul):List Stq:=if x.nu ∉ rules∨(x.fd=0/\x.fl=0) then [] else [⟨x.fd,x.fl,x.td,x.tl,x.nu,false⟩]++(if x.bo=true then [⟨x.td,x.tl,x.fd,x.fl,x.nu,false⟩] else [])
theorem ZnK {r:List Iss} {l:List Nte} (hB:ZdS r l=true) {x:Nte} (hx:x∈l) (h2:¬x.lt<2):(x.dr,x.lt)∈rfs r:=by
 obtain ⟨i,hi,rfl⟩:=List.getElem_of_mem hx;simp only[ZdS,Bool.and_eq_true]at hB;have h1:=Zbq.1 hB.1.2 i hi;simp only[noteB,Bool.and_eq_true]at h1;have h4:=h1.1.1.1.1.2;rw[ZdP hi]at h4;simp only[cN4]at h4;rw[if_neg (by omega)]at h4;exact Zjl.1 h4
theorem ZnL {r:List Iss} (h:Zbt r=true) {d l:Int} (hm:(d,l)∈rfs r):1<=d:=by
 obtain ⟨x,hx,e⟩:=List.mem_map.1 hm;rw[Prod.mk.injEq]at e;obtain ⟨rfl,rfl⟩:=e;simp only[Zbt,Bool.and_eq_true]at h;have h1:=List.all_eq_true.1 h.1.1.1.2 x hx;simp only[issB,headB,Bool.and_eq_true]at h1;have h2:=h1.1.1.1.1.1;simp only[inR,decide_eq_true_eq]at h2;exact h2.1
theorem ZnM {r:List Iss} {l:List Nte} (hL:Zbt r=true) (hB:ZdS r l=true) {F:List Int} {x:Nte} (hx:x∈l) (h0:0<=x.wy):ntR F x=bnN F x:=by
 have h3:=ZnJ hB x hx;unfold ntR bnN;by_cases c:x.nu ∉ F∨x.lt<2
 . rw[if_pos c,if_neg];rintro ⟨h1,-,h2⟩;rcases c with c|c
   . exact c h1
   . exact h2 c
 . have c1:x.nu∈F:=Classical.byContradiction λh=>c (.inl h)
   have c2:¬x.lt<2:=λh=>c (.inr h)
   have hm:=ZnK hB hx c2;have hp:=ZnL hL hm;have hl:=Zjm hL hm;have w:IntKind.i64.wrap (x.lt-1)=x.lt-1:=Yg (by omega) (by omega);rw[if_neg c,if_pos ⟨c1,by omega,c2⟩,w];have e1:(x.wy % 2=1)=(x.wy=1∨x.wy=3):=propext (by omega);have e2:(2<=x.wy % 4)=(x.wy=2∨x.wy=3):=propext (by omega);simp only[e1,e2]
theorem ZnN {r:List Iss} {q:List Rul} (h:Zee r q=true) {day:Int} {i:Nat} (hi:i<q.length):rlR (sB day q i) (rAt q i)=bnR (ruN day q q.length) q[i]:=by
 have hm:=ZnA (day:=day) h hi;rw[Zed hi];unfold rlR bnR;by_cases c:sB day q i=true/\¬(q[i].fd=0/\q[i].fl=0)
 . have n:¬(q[i].nu ∉ ruN day q q.length∨(q[i].fd=0/\q[i].fl=0)):=by
    rintro (h1|h1)
    . exact h1 (hm.2 c.1)
    . exact c.2 h1
   rw[if_pos c,if_neg n]
 . rw[if_neg c,if_pos];by_cases c1:q[i].nu∈ruN day q q.length
   . exact .inr (Classical.byContradiction λh2=>c ⟨hm.1 c1,h2⟩)
   . exact .inl c1
theorem ZnO {r:List Iss} {l:List Nte} {q:List Rul} {s:List Int} {m day:Int} (hw:∀ x∈l,0<=x.wy) (h:chS r l q=0) :
  st5 r l q s m day=(dyN day l).flatMap (bnN (stF r l s m day))++q.flatMap (bnR (ruN day q q.length)):=by
 obtain ⟨h1,h2⟩:=ZhP h;have hB:=ZhG h1;have hL:=Zjo h;unfold st5 nsR rsR;have t:(List.range q.length).take q.length=List.range q.length:=List.take_of_length_le (by simp);rw[List.take_length,t]
 congr 1
 . rw[List.flatMap_def,List.flatMap_def]
   congr 1
   exact List.map_congr_left λx hx=>by
    have:=(List.mem_filter.1 hx).1;exact ZnM hL hB this (hw x this)
 . rw[List.flatMap_def,List.flatMap_def]
   congr 1
   refine List.ext_getElem (by simp) λi k1 k2=>?_
   have hi:i<q.length:=(by simpa using k1);simp only[List.getElem_map,List.getElem_range];exact ZnN h2 hi
theorem ZnP {l:List Nte} {k i:Nat} (h:i<k):nAt (l.take k) i=nAt l i:=by
 simp[nAt,List.getD_eq_getElem?_getD,List.getElem?_take,h]
theorem ZnQ {r:List Iss} {l:List Nte} {k i:Nat} (h:i<k):noteB r (l.take k) i=noteB r l i:=by
 have e:(l.take k).take i=l.take i:=by rw[List.take_take];congr 1;omega
 have e8:cN8 (l.take k) i (nAt l i)=cN8 l i (nAt l i):=by
  cases i with
  |zero=>rfl
  |succ i=>simp only[cN8,ZnP (show i<k by omega)]
 have e6:cN6 (l.take k) i (nAt l i)=cN6 l i (nAt l i):=(by simp only[cN6,e]);have e7:cN7 (l.take k) i (nAt l i)=cN7 l i (nAt l i):=(by simp only[cN7,e]);unfold noteB;rw[ZnP h,e6,e7,e8]
theorem ZnR {r:List Iss} {l:List Nte} (h:ZdS r l=true) (k:Nat):ZdS r (l.take k)=true:=by
 simp only[ZdS,Bool.and_eq_true,decide_eq_true_eq]at h ⊢;obtain ⟨⟨h1,h2⟩,h3⟩:=h;refine ⟨⟨by simp;omega,Zbq.2 λi hi=>?_⟩,?_⟩
 . have hk:i<k:=(by simp at hi;omega);rw[ZnQ hk];exact Zbq.1 h2 i (by simp at hi;omega)
 . refine Nat.le_trans ?_ h3;unfold opN;rw[List.take_length,List.take_length];exact ((List.take_sublist k l).filter _).length_le
theorem ZnS {l:List Nte} {s:List Int} {n:Int} (h:truB l s=true) (hn:n∈s):n∈opU l:=by
 obtain ⟨i,hi,e⟩:=List.getElem_of_mem hn;have h1:=Zbq.1 h i hi;simp only[Bool.and_eq_true,decide_eq_true_eq]at h1;have h2:=h1.1
 rwa [List.getD_eq_getElem?_getD,List.getElem?_eq_getElem hi,Option.getD_some,e]at h2
theorem ZnT {r:List Iss} {l:List Nte} {d:Int} {n:Int} (h:ZdS r l=true) (hn:n∈opU l) (ha:(dyN d l).any (λx=>decide (x.nu=n))=true):n∈opU (dyN d l):=by
 obtain ⟨x,hx,e⟩:=List.any_eq_true.1 ha;rw[decide_eq_true_eq]at e;have hxl:=(List.mem_filter.1 hx).1;obtain ⟨y,hy,e2⟩:=List.mem_map.1 hn;unfold opN at hy;rw[List.take_length]at hy;obtain ⟨hy1,hy2⟩:=List.mem_filter.1 hy
 have hxy:x=y:=by
  have hnd:=Zhu h;obtain ⟨i,hi,ei⟩:=List.getElem_of_mem hxl;obtain ⟨j,hj,ej⟩:=List.getElem_of_mem hy1
  have:i=j:=by
   have h1:(l.map (·.nu))[i]'(by simpa using hi)=(l.map (·.nu))[j]'(by simpa using hj):=by
    simp only[List.getElem_map,ei,ej];omega
   exact (List.getElem_inj hnd).1 h1
  subst this;rw[<- ei,<- ej]
 subst hxy;refine List.mem_map.2 ⟨x,?_,e2⟩;unfold opN;rw[List.take_length];exact List.mem_filter.2 ⟨hx,hy2⟩
section
variable {r:List Iss} {l:List Nte} {q:List Rul} {s:List Int} {m d:Int}
theorem Rq.nD (h:Rq r l q s m d):ZdS r (dyN d l)=true:=by rw[<- ZiU h.nB];exact ZnR h.nB _
theorem Rq.asD (h:Rq r l q s m d):asN r (dyN d l) (dyT (dyN d l) s) m=0:=by
 have h1:chN r (dyN d l)=0:=by rw[chN,if_pos (Zm4 (ZhP h.h0).1),if_pos h.nD]
 have h2:truB (dyN d l) (dyT (dyN d l) s)=true:=by
  have ht:=ZiV h.tr;refine ZlI ?_ λn hn=>?_
  . have hs:=(List.filter_sublist (p:=λn=>(dyN d l).any λx=>decide (x.nu=n)) (l:=s));have h3:(dyT (dyN d l) s).Pairwise λx y=>x<=y:=ht.1.sublist hs
    have h4:(dyT (dyN d l) s).Nodup:=ht.2.sublist hs;exact (h3.and h4).imp λ⟨a,b⟩=>by omega
  . obtain ⟨h3,h4⟩:=List.mem_filter.1 hn;exact ZnT h.nB (ZnS h.tr h3) h4
 rw[asN,if_pos h1,if_pos h2,if_pos h.mi]
theorem Rq.wD (h:Rq r l q s m d):WfN (dyN d l):=⟨by have:=ZhS d l;have:=h.wl.1;unfold Sml at *;omega,λx hx=>h.wl.2 x (List.mem_filter.1 hx).1⟩
theorem Rq.sD (h:Rq r l q s m d):Sml (dyT (dyN d l) s):=by have:=ZhU (dyN d l) s;have:=h.ws;unfold Sml at *;omega
theorem Rq.nodup (h:Rq r l q s m d):(l.map (·.nu)).Nodup:=(ZkB h.h0).2.2.1
variable {G:Nat->Option (List AV)}
theorem Rq.upto_pc (h:Rq r l q s m d):PC Tryz.prog G 21 [.agg [.vsl (r.map isa),.vsl (l.map na)],.vsl (s.map ia),.int .i64 d] (.tup [.agg [.vsl (r.map isa),.vsl ((dyN d l).map na)],.vsl ((dyT (dyN d l) s).map ia)]):=by
 have:=Zi0 (G:=G) r l s d (ZkB h.h0).2.1 h.ws h.nodup;exact this.out (.tup ⟨.agg ⟨.rfl',.orNil _,trivial⟩,.rfl',trivial⟩)
theorem Rq.force_pc (h:Rq r l q s m d) (hG:GC G) (hN:GN G):PC Tryz.prog G 22 [.agg [.vsl (r.map isa),.vsl ((dyN d l).map na)],.vsl ((dyT (dyN d l) s).map ia),.int .i64 m] (.tup [.vsl ((stF r l s m d).map ia),.int .i64 0]):=by
 refine PC.vs ?_;have:=ZhE hG hN r (dyN d l) (dyT (dyN d l) s) m h.wD h.wr h.sD
 have e:fcE r (dyN d l) (dyT (dyN d l) s) m=(stF r l s m d,0):=by
  unfold stF fcE;rw[if_pos h.asD]
 rwa [fcA,e]at this
theorem Rq.fLen (h:Rq r l q s m d):Sml (stF r l s m d):=by
 unfold stF fcE
 split
 . have h1:=ZdZ (dyT (dyN d l) s) [] m (dyN d l) (dyN d l).length;have:=ZhS d l;have:=h.wl.1;unfold Sml at *;simp only;omega
 . simp[Sml]
end
theorem ZnU {r:List Iss} {l:List Nte} {q:List Rul} {s:List Int} {m d:Int} (hq:Rq r l q s m d) {x:Stq} (h:x∈st5 r l q s m d):if x.nt=true then x.nu∈stF r l s m d else x.nu∈ruN d q q.length:=by
 rw[ZnO (λy hy=>(hq.wl.2 y hy).2.2.1) hq.h0]at h;rcases List.mem_append.1 h with h|h
 . obtain ⟨y,-,h2⟩:=List.mem_flatMap.1 h;unfold bnN at h2
   split at h2
   . cases h2
   . rename_i c;have c1:y.nu∈stF r l s m d:=Classical.byContradiction λh=>c (.inl h)
     rcases List.mem_append.1 h2 with h2|h2
     . split at h2
       . rw[List.mem_singleton]at h2;subst h2;exact c1
       . cases h2
     . split at h2
       . rw[List.mem_singleton]at h2;subst h2;exact c1
       . cases h2
 . obtain ⟨y,-,h2⟩:=List.mem_flatMap.1 h;unfold bnR at h2
   split at h2
   . cases h2
   . rename_i c;have c1:y.nu∈ruN d q q.length:=Classical.byContradiction λh=>c (.inl h)
     rcases List.mem_append.1 h2 with h2|h2
     . rw[List.mem_singleton]at h2;subst h2;exact c1
     . split at h2
       . rw[List.mem_singleton]at h2;subst h2;exact c1
       . cases h2
theorem ZnV {d:Int} {q:List Rul} {i:Nat} (hi:i<q.length) (h:sB d q i=true):(ruN d q q.length)[(ruN d q i).length]? = some q[i].nu:=by
 have h1:=Zef (day:=d) hi;rw[if_pos h]at h1;obtain ⟨n,hn⟩ : ∃ n,q.length=i+1+n:=⟨q.length-i-1,by omega⟩
 have h2:∀ n,∃ t,ruN d q (i+1+n)=ruN d q (i+1)++t:=λn=>by
  refine ⟨((((List.range q.length).take (i+1+n)).drop (i+1)).filter (sB d q)).map λj=>(rAt q j).nu,?_⟩;unfold ruN;rw[<- List.map_append,<- List.filter_append]
  congr 2
  conv=>lhs;rw[<- List.take_append_drop (i+1) ((List.range q.length).take (i+1+n)),List.take_take]
  congr 2;omega
 obtain ⟨t,ht⟩:=h2 n;have h3:ruN d q q.length=ruN d q i++[q[i].nu]++t:=(by rw[<- h1,<- ht];congr 1);rw[h3,List.append_assoc,List.getElem?_append_right (Nat.le_refl _)];simp
theorem ZnW {d:Int} {q:List Rul} {i:Nat} (hi:i<q.length):(ruN d q (i+1)).length=(ruN d q i).length+(if sB d q i=true then 1 else 0):=by
 rw[Zef hi];split <;> simp
end Go.Proofs.YtjogcghofinemaaGreatDoor
