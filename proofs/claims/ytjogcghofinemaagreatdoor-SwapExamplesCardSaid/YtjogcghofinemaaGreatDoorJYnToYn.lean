/-
  The law SwapExamples.
-/
import Derived.Test.YtjogcghofinemaaGreatDoorJWaToYo
set_option linter.all false
set_option linter.unusedSimpArgs false
set_option linter.unusedVariables false
set_option linter.unusedSectionVars false
namespace Go.Proofs.YtjogcghofinemaaGreatDoor
open Go.RowKit
def exQo:List Rul:=[⟨1,50,40,1,40,1,false,0⟩,⟨2,150,50,1,40,1,true,0⟩,⟨3,300,0,0,0,0,false,2⟩]
def exLt:List Nte:=[⟨101,100,2,30,2,0,999,0,false,2⟩,⟨103,300,2,0,0,10,12,101,false,0⟩]
def exLo:List Nte:=[⟨101,100,1,30,2,5,999,0,false,2⟩,⟨103,300,2,0,0,10,12,101,false,0⟩]
theorem ez_wt:WfN exLt:=⟨by unfold Sml;decide,by decide⟩
theorem ez_wo:WfN exLo:=⟨by unfold Sml;decide,by decide⟩
theorem ez_wq:Sml exQo:=by unfold Sml;decide
theorem ez_sm (n:Int):Sml [n]:=by simp[Sml]
theorem ez_m1:maE exR exL exQ [] 9 300 (50,1) (30,1) = .tup [.bool false,.int .i64 0]:=by
 have h:puN exR exL exQ [] 9 300 (50,1) (30,1)=0:=(by decide +kernel);have h2:decide (diV (edg (st5 exR exL exQ [] 9 300)) (30,1) (50,1)<1048576)=false:=(by decide +kernel);rw[maE,h,if_pos rfl,h2]
theorem ez_m2:maE exR exL exQ [] 9 300 (40,1) (30,1) = .tup [.bool true,.int .i64 0]:=by
 have h:puN exR exL exQ [] 9 300 (40,1) (30,1)=0:=(by decide +kernel);have h2:decide (diV (edg (st5 exR exL exQ [] 9 300)) (30,1) (40,1)<1048576)=true:=(by decide +kernel);rw[maE,h,if_pos rfl,h2]
theorem ez_m3:maE exR exL exQ [] 1000 0 (60,1) (60,1) = .tup [.bool false,.int .i64 2]:=by
 have h:puN exR exL exQ [] 1000 0 (60,1) (60,1)=2:=(by decide +kernel);rw[maE,h,if_neg (by decide)]
theorem ez_m4:maE exR exL exQ [] 1 0 (60,1) (10,1) = .tup [.bool false,.int .i64 6]:=by
 have h:puN exR exL exQ [] 1 0 (60,1) (10,1)=6:=(by decide +kernel);rw[maE,h,if_neg (by decide)]
theorem ez_r1:ruA exR exL exQ 200 = .tup [.vsl (([1,2]:List Int).map ia),.int .i64 0]:=by
 have h:ruE exR exL exQ 200=([1,2],0):=(by decide +kernel);rw[ruA,h];rfl
theorem ez_r2:ruA exR exL exQo (-1) = .tup [.nils,.int .i64 50]:=by
 have h:ruE exR exL exQo (-1)=([],50):=(by decide +kernel);rw[ruA,h];rfl
theorem ez_r3:ruA exR exL exQ (-1) = .tup [.nils,.int .i64 2]:=by
 have h:ruE exR exL exQ (-1)=([],2):=(by decide +kernel);rw[ruA,h];rfl
theorem ez_ck:chS exR exL exQo=50:=by decide +kernel
theorem ez_cl:clE exR exL exQ [] 9 300 = .tup [.nils,.int .i64 0]:=by
 have h:aqN exR exL exQ [] 9 300 300=0:=(by decide +kernel);have h2:clX (mayT (edg (st5 exR exL exQ [] 9 300))) (rfs exR) 7=[]:=(by decide +kernel);rw[clE,h,if_pos rfl,Zn6,h2];rfl
theorem ez_c1:chA exR exL exQ [] 9 200 (10,1) (10,1) = .tup [.nils,.int .i64 0]:=by
 have h:chE exR exL exQ [] 9 200 (10,1) (10,1)=([],0):=(by decide +kernel);rw[chA,h];rfl
theorem ez_c2:chA exR exL exQ [] 1 0 (10,1) (20,1) = .tup [.nils,.int .i64 6]:=by
 have h:chE exR exL exQ [] 1 0 (10,1) (20,1)=([],6):=(by decide +kernel);rw[chA,h];rfl
theorem ez_s1:stA exR exLt exQ [1] 0 0 = .tup [.nils,.int .i64 30]:=by
 have h:aqN exR exLt exQ [1] 0 0 0=30:=(by decide +kernel);have h2:stE exR exLt exQ [1] 0 0=([],30):=(by unfold stE;rw[if_neg (by rw[h];decide),h]);rw[stA,h2];rfl
theorem ez_s2:stA exR exL exQ [101] 0 0 = .tup [.nils,.int .i64 31]:=by
 have h:aqN exR exL exQ [101] 0 0 0=31:=(by decide +kernel);have h2:stE exR exL exQ [101] 0 0=([],31):=(by unfold stE;rw[if_neg (by rw[h];decide),h]);rw[stA,h2];rfl
theorem ez_l:loE exR exL exQ [] 1 0 14611 = .tup [.nils,.int .i64 2]:=by
 have h:aqN exR exL exQ [] 1 0 14611=2:=(by decide +kernel);rw[loE,h,if_neg (by decide)]
theorem ez_u1:suE exR exLo exQ 9 200 (30,2) (30,1) = .tup [.int .u8 1,.int .i64 0]:=by
 have h:puN exR exLo exQ [] 9 200 (30,2) (30,1)=0:=by decide +kernel
 have h2:suV (mB exR exLo exQ 9 200 (30,2) (30,1)) (2 ^ (opQ exLo).length)=1:=by
  have e:opQ exLo=[101]:=Zea (by decide +kernel) (by simp[SrtI])
  have e1:mB exR exLo exQ 9 200 (30,2) (30,1) 0=false:=by
   unfold mB;rw[e];decide +kernel
  have e2:mB exR exLo exQ 9 200 (30,2) (30,1) 1=true:=by
   unfold mB;rw[e];decide +kernel
  rw[e];simp[suV,anyT,anyF,List.range_succ,e1,e2]
 rw[suE,h,if_pos rfl,h2]
theorem ez_u2:suE exR exLo exQ 9 99 (30,2) (30,1) = .tup [.int .u8 0,.int .i64 0]:=by
 have h:puN exR exLo exQ [] 9 99 (30,2) (30,1)=0:=by decide +kernel
 have h2:suV (mB exR exLo exQ 9 99 (30,2) (30,1)) (2 ^ (opQ exLo).length)=0:=by
  have e:opQ exLo=[101]:=Zea (by decide +kernel) (by simp[SrtI])
  have e1:mB exR exLo exQ 9 99 (30,2) (30,1) 0=false:=by
   unfold mB;rw[e];decide +kernel
  have e2:mB exR exLo exQ 9 99 (30,2) (30,1) 1=false:=by
   unfold mB;rw[e];decide +kernel
  rw[e];simp[suV,anyT,List.range_succ,e1,e2]
 rw[suE,h,if_pos rfl,h2]
def exK2:Nat->Bool:=λk=>decide (k<1000) && !decide (k=4) && !decide (k=13)
section
variable {G:Nat->Option (List AV)}
theorem ZoB:PB Tryz.prog G 41 [] [] (.agg [.vsl (exR.map isa),.osl 4 2,.osl 13 3]) [(4,.row 10 (exL.map na)),(13,.row 8 (exQ.map ra))]:=by
 have hR:=ZmO (G:=G);have r2:List.range 2=[0,1]:=rfl;have r3:List.range 3=[0,1,2]:=rfl;rw[rega]at hR;refine Z5d exK2 (by intro k hk;simp[exK2]at hk;omega) Tryz.func41 rfl (by kernel_rfl) (rc:=Z5v) (by kernel_rfl) (rs:=Z5w) (by kernel_rfl) (Nat.le_of_ble_eq_true rfl) λR _ hG' hrd=>Qga ?_
 subst hG';simp -implicitDefEqProofs[Z5v,Z5w,r2,r3];refine Qco (hR) (by simp) ?_;simp -implicitDefEqProofs[r2,r3];refine Qco (ZmN 40 1) (by simp) ?_;simp -implicitDefEqProofs[r2,r3];refine Qco (ZmN 30 2) (by simp) ?_;simp -implicitDefEqProofs[r2,r3];refine Qco (ZmN 50 1) (by simp) ?_;simp -implicitDefEqProofs[r2,r3];refine Qco (ZmN 40 1) (by simp) ?_;simp -implicitDefEqProofs[exL,exQ,na,ra,r2,r3,FinO,Yj,exK2,frzA,frz,AV.keys];exact ⟨Zoq _ _ exL,ZnM _ _ exQ⟩
set_option maxRecDepth 100000 in
set_option maxHeartbeats 4000000 in
theorem ZoC (hG:GC G) (hN:GN G) (hQ:GQ G):PC Tryz.prog G 12 [] (.bool true):=by
 have hA:=Znb hG hN hQ;have hs:=ZmP (G:=G);have hp:=ZoB (G:=G);have m1:=ZmR hG hN hQ 9 300 50 1 30 1 false false ez_m1;have m2:=ZmR hG hN hQ 9 300 40 1 30 1 true true ez_m2;have m3:=PC.sub (ZkA hG hN hQ exR exL exQ [] 1000 0 60 1 60 1 ex_wl ex_wr ex_wq ZmQ) (xs:=[swa exR exL exQ,.nils,.int .i64 1000,.int .i64 0,.agg [.int .i64 60,.int .i64 1],.agg [.int .i64 60,.int .i64 1]]) ⟨.rfl',.nils,.rfl',.rfl',.rfl',.rfl',trivial⟩;have m4:=PC.sub (ZkA hG hN hQ exR exL exQ [] 1 0 60 1 10 1 ex_wl ex_wr ex_wq ZmQ) (xs:=[swa exR exL exQ,.nils,.int .i64 1,.int .i64 0,.agg [.int .i64 60,.int .i64 1],.agg [.int .i64 10,.int .i64 1]]) ⟨.rfl',.nils,.rfl',.rfl',.rfl',.rfl',trivial⟩;have r1:=Ziw hG hN exR exL exQ 200 ex_wl ex_wr ex_wq;have r2:=Ziw hG hN exR exL exQo (-1) ex_wl ex_wr ez_wq;have r3:=Ziw hG hN exR exL exQ (-1) ex_wl ex_wr ex_wq;have ck:=Ziv hG hN exR exL exQo ex_wl ex_wr ez_wq;have cl:=PC.sub (Zlo hG hN hQ exR exL exQ [] 9 300 ex_wl ex_wr ex_wq ZmQ) (xs:=[swa exR exL exQ,.nils,.int .i64 9,.int .i64 300]) ⟨.rfl',.nils,.rfl',.rfl',trivial⟩;have c1:=PC.sub (ZkP hG hN hQ exR exL exQ [] 9 200 10 1 10 1 ex_wl ex_wr ex_wq ZmQ) (xs:=[swa exR exL exQ,.nils,.int .i64 9,.int .i64 200,.agg [.int .i64 10,.int .i64 1],.agg [.int .i64 10,.int .i64 1]]) ⟨.rfl',.nils,.rfl',.rfl',.rfl',.rfl',trivial⟩;have c2:=PC.sub (ZkP hG hN hQ exR exL exQ [] 1 0 10 1 20 1 ex_wl ex_wr ex_wq ZmQ) (xs:=[swa exR exL exQ,.nils,.int .i64 1,.int .i64 0,.agg [.int .i64 10,.int .i64 1],.agg [.int .i64 20,.int .i64 1]]) ⟨.rfl',.nils,.rfl',.rfl',.rfl',.rfl',trivial⟩;have s1:=Zkn hG hN hQ exR exLt exQ [1] 0 0 ez_wt ex_wr ex_wq (ez_sm 1);have s2:=Zkn hG hN hQ exR exL exQ [101] 0 0 ex_wl ex_wr ex_wq (ez_sm 101);have lo:=PC.sub (ZlA hG hN hQ exR exL exQ [] 1 0 14611 ex_wl ex_wr ex_wq ZmQ) (xs:=[swa exR exL exQ,.nils,.int .i64 1,.int .i64 0,.int .i64 14611]) ⟨.rfl',.nils,.rfl',.rfl',.rfl',trivial⟩;have u1:=ZmC hG hN hQ exR exLo exQ 9 200 30 2 30 1 ez_wo ex_wr ex_wq;have u2:=ZmC hG hN hQ exR exLo exQ 9 99 30 2 30 1 ez_wo ex_wr ex_wq;have i1:=Zbh (G:=G) [1,2] [1,2] (by unfold Sml;decide);rw[decide_eq_true rfl]at i1;rw[ez_m3]at m3;rw[ez_m4]at m4;rw[ez_r1]at r1;rw[ez_r2]at r2;rw[ez_r3]at r3;rw[ez_ck]at ck;rw[ez_cl]at cl;rw[ez_c1]at c1;rw[ez_c2]at c2;rw[ez_s1]at s1;rw[ez_s2]at s2;rw[ez_l]at lo;rw[ez_u1]at u1;rw[ez_u2]at u2;simp only[beq_self_eq_true]at m1 m2;simp only[List.map_cons,List.map_nil,ia]at i1 r1 s1 s2;obtain ⟨NL,hNL⟩ : ∃ NL,NL=exL.map na:=⟨_,rfl⟩;obtain ⟨QL,hQL⟩ : ∃ QL,QL=exQ.map ra:=⟨_,rfl⟩;unfold swa at *;refine Z64 rfl λR hG hrd=>Yc Yb 500 ?_
 subst hG;simp -implicitDefEqProofs[Z62,Z63];refine Qco (hA) (by simp) ?_;simp -implicitDefEqProofs[];refine Qco (ZmN 50 1) (by simp) ?_;simp -implicitDefEqProofs[];refine Qco (ZmN 30 1) (by simp) ?_;simp -implicitDefEqProofs[];refine Qco (m1) (by simp) ?_;simp -implicitDefEqProofs[];refine Qco (ZmN 40 1) (by simp) ?_;simp -implicitDefEqProofs[];refine Qco (ZmN 30 1) (by simp) ?_;simp -implicitDefEqProofs[];refine Qco (m2) (by simp) ?_;simp -implicitDefEqProofs[];refine Qco (hs) (by simp) ?_;simp -implicitDefEqProofs[];refine Qco (r1) (by simp) ?_;simp -implicitDefEqProofs[];refine Qco (hs) (by simp) ?_;simp -implicitDefEqProofs[];refine Qco (cl) (by simp) ?_;simp -implicitDefEqProofs[];refine Qco (hs) (by simp) ?_;simp -implicitDefEqProofs[];refine Qco (ZmN 10 1) (by simp) ?_;simp -implicitDefEqProofs[];refine Qco (ZmN 10 1) (by simp) ?_;simp -implicitDefEqProofs[];refine Qco (c1) (by simp) ?_;simp -implicitDefEqProofs[];refine Qco (i1) (by simp) ?_;simp -implicitDefEqProofs[];refine Ye.sem (Z1B.objs hp (λk=>k+700) (by simp) (by simp[St.get,lk]) (by simp) rfl rfl) ?_;simp -implicitDefEqProofs[Ym,ZnP,Zor,AV.ren];refine Ye.sem (Z1B.objs hp (λk=>k+800) (by simp) (by simp[St.get,lk]) (by simp) rfl rfl) ?_;simp -implicitDefEqProofs[Ym,ZnP,Zor,AV.ren];refine Ye.sem (Z1B.objs hp (λk=>k+900) (by simp) (by simp[St.get,lk]) (by simp) rfl rfl) ?_;simp -implicitDefEqProofs[Ym,ZnP,Zor,AV.ren];refine Qco (ZmN 40 1) (by simp) ?_;simp -implicitDefEqProofs[exL,exQ,na,ra];refine ⟨rfl,?_⟩;refine Ye.flat r2 (by simp[AV.flat]) (by simp[Yk,snap,Yi,okAll,St.get,lk,AV.pure,exL,exQo,na,ra]) ?_;simp -implicitDefEqProofs[];refine Qco (hs) (by simp) ?_;simp -implicitDefEqProofs[];refine Qco (r3) (by simp) ?_;simp -implicitDefEqProofs[];refine Ye.flat s1 (by simp[AV.flat]) (by simp[Yk,snap,Yi,okAll,St.get,lk,AV.pure,exLt,exQ,na,ra,ia]) ?_;simp -implicitDefEqProofs[];refine Qco (hs) (by simp) ?_;simp -implicitDefEqProofs[];refine Qco (s2) (by simp) ?_;simp -implicitDefEqProofs[];refine Qco (hs) (by simp) ?_;simp -implicitDefEqProofs[];refine Qco (ZmN 60 1) (by simp) ?_;simp -implicitDefEqProofs[];refine Qco (ZmN 60 1) (by simp) ?_;simp -implicitDefEqProofs[];refine Qco (m3) (by simp) ?_;simp -implicitDefEqProofs[];refine Qco (hs) (by simp) ?_;simp -implicitDefEqProofs[];refine Qco (ZmN 60 1) (by simp) ?_;simp -implicitDefEqProofs[];refine Qco (ZmN 10 1) (by simp) ?_;simp -implicitDefEqProofs[];refine Qco (m4) (by simp) ?_;simp -implicitDefEqProofs[];refine Qco (hs) (by simp) ?_;simp -implicitDefEqProofs[];refine Qco (ZmN 10 1) (by simp) ?_;simp -implicitDefEqProofs[];refine Qco (ZmN 20 1) (by simp) ?_;simp -implicitDefEqProofs[];refine Qco (c2) (by simp) ?_;simp -implicitDefEqProofs[];refine Qco (hs) (by simp) ?_;simp -implicitDefEqProofs[];refine Qco (lo) (by simp) ?_;simp -implicitDefEqProofs[];refine Qco (ZmN 30 2) (by simp) ?_;simp -implicitDefEqProofs[];refine Qco (ZmN 30 1) (by simp) ?_;simp -implicitDefEqProofs[];refine Yf.flat u1 (by simp[AV.flat]) (by simp[Yk,snap,Yi,okAll,St.get,lk,AV.pure,exLo,exQ,na,ra,ia]) ?_;simp -implicitDefEqProofs[];refine ⟨rfl,?_⟩;refine Qco (ZmN 30 2) (by simp) ?_;simp -implicitDefEqProofs[];refine Qco (ZmN 30 1) (by simp) ?_;simp -implicitDefEqProofs[];refine Yf.flat u2 (by simp[AV.flat]) (by simp[Yk,snap,Yi,okAll,St.get,lk,AV.pure,exLo,exQ,na,ra,ia]) ?_;simp -implicitDefEqProofs[];refine ⟨rfl,?_⟩;refine Ye.flat ck (by simp[AV.flat]) (by simp[Yk,snap,Yi,okAll,St.get,lk,AV.pure,exL,exQo,na,ra,ia]) ?_;simp -implicitDefEqProofs[]
end
end Go.Proofs.YtjogcghofinemaaGreatDoor

