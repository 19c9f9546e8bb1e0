/-
  What the program's works computes: the letters by which a holder may work on a drawing.
-/
import Derived.Test.YtcdlimgkliklhaaGreatDoorNRceToZa
import Derived.Test.YtcdlimgkliklhaaGreatDoorNAmXToAmXb
import Derived.Test.YtcdlimgkliklhaaGreatDoorNOpenToOpen
import Derived.Test.YtcdlimgkliklhaaGreatDoorNRowToRow
set_option linter.all false
set_option maxHeartbeats 8000000
namespace Go.Proofs.YtcdlimgkliklhaaGreatDoor
open Go.Proofs.Tryz (prog)
open IntKind (i64)
open Go.RowKit
variable {G:Jg}
def sqP (id d:Int) (x:Prt):Bool:=decide (x.ho=id)&&decide (x.dw=d) && !decide (x.lo=1)
def pqP (id d:Int) (x:Prt):Bool:=decide (x.ho=id)&&decide (x.dw=d)&&decide (x.lo=1)
def suK (id d:Int) (L:Jp) (k:Nat):Int:=(pkL (sqP id d) (·.lt) L k).foldl max 0
def peK (id d:Int) (L:Jp) (k:Nat):List Int:=pkL (pqP id d) (·.lt) L k
def Zjm {id d:Int} {L:Jp} {k:Nat} (h:k<L.length):suK id d L (k+1)=if sqP id d L[k]=true then max (suK id d L k) L[k].lt else suK id d L k:=by
 unfold suK;rw[Zii h]
 split
 . rw[W1q];rfl
 . rfl
def Zjn {ps:Jp} {day id d:Int} (hlo:∀ x∈ps,0<=x.lo/\x.lo<=2):suK id d (outP ps day) (outP ps day).length=sureM ps day id d:=by
 unfold suK sureM outP;rw[Zil,List.filter_filter]
 congr 2
 refine List.filter_congr λx hx=>?_
 have:=hlo x hx;rw[W2h];simp only[sqP,herB,outB,W01,W0b,W1C,W1b,W0T]
 constructor
 . rintro ⟨⟨⟨h1,h2⟩,h3⟩,h4,h5⟩;exact ⟨⟨⟨h1,h4,h5⟩,h2⟩,by omega⟩
 . rintro ⟨⟨⟨h1,h4,h5⟩,h2⟩,h3⟩;exact ⟨⟨⟨h1,h2⟩,by omega⟩,h4,h5⟩
def Zjo {ps:Jp} {day id d:Int} (hlo:∀ x∈ps,0<=x.lo/\x.lo<=2):peK id d (outP ps day) (outP ps day).length=perhL ps day id d:=by
 unfold peK perhL outP;rw[Zil,List.filter_filter]
 congr 1
 refine List.filter_congr λx hx=>?_
 have:=hlo x hx;rw[W2h];simp only[pqP,herB,outB,W01,W0b,W1C,W1b,W0T]
 constructor
 . rintro ⟨⟨⟨h1,h2⟩,h3⟩,h4,h5⟩;exact ⟨⟨⟨h1,h4,h5⟩,h2⟩,by omega⟩
 . rintro ⟨⟨⟨h1,h4,h5⟩,h2⟩,h3⟩;exact ⟨⟨⟨h1,h2⟩,by omega⟩,h4,h5⟩
def r1K (k:Nat):Nat:=if 1000<=k then k-1000 else k
def nlV (k:Nat) (S:List Int):AV:=if S=[] then .nils else .osl k S.length
def nlO (k:Nat) (S:List Int):List (Nat×AObj):=if S=[] then [] else [(k,.row 1 (S.map ia))]
def nlN (k:Nat) (S:List Int):Nat:=if S=[] then k-1000 else k
def woB (id d su:Int) (S:List Int):List (Nat×AObj):=[(1006,.box [.int .i64 id]),(1007,.box [.int .i64 d]),(1009,.box [.int .i64 su]),(1010,.box [nlV 1038 S])]++nlO 1038 S
def woU (id d su:Int) (S T:List Int):List (Nat×AObj):=[(1006,.box [.int .i64 id]),(1007,.box [.int .i64 d]),(1009,.box [.int .i64 su]),(1010,.box [nlV (nlN 1038 S) T])]++nlO (nlN 1038 S) T
def Zjp {α β:Type} {p:α->Bool} {f:α->β} {L:List α} {k:Nat} (h:pkL p f L (k+1)=[]):pkL p f L k=[]:=by
 by_cases c:k<L.length
 . rw[Zii c]at h
   split at h
   . exact absurd h (by simp)
   . exact h
 . unfold pkL at *;rw[W0J (by omega)]at *;exact h
def Zjq (o:List (Nat×AObj)) (k:Nat) (S:List Int):∀ q∈nlO k S,Yc o q.2=true:=by
 intro q hq;unfold nlO at hq
 split at hq
 . cases hq
 . simp at hq;subst hq;exact ZdJ o S
def Zjr (ρ:Nat->Nat) (l:List Int):(AObj.row 1 (l.map ia)).ren ρ = .row 1 (l.map ia):=by
 simp only[AObj.ren,W10]
 congr 2
 funext p;simp[ia,AV.ren]
def Zjs (r:Jr) (l:Jl) (hs:Jh) (ps:Jp) (day:Int):PC prog G 70 [ofA r l hs ps,.int .i64 day] (.func (.func 128) [] [.vptr [ofA r l hs ps] 0,.vptr [.int .i64 day] 0]):=by
 have pO:=Zi9 r l hs ps;obtain ⟨cs,eS⟩ : ∃ cs,ofA r l hs ps = .vptr cs 0:=⟨_,rfl⟩;rw[eS]at pO ⊢
 (refine Zht rfl λR hG hrd=>Qga ?_;subst hG)
 simp -implicitDefEqProofs[Zhr,Zhs,pO]
def Zjt (r:Jr) (l:Jl) (hs:Jh) (ps:Jp) (day id d:Int) (hp:ps.length<=41) (hb:∀ x∈ps,0<=x.lt/\x.lt<=8) :
  PC prog G 74 [ofA r l hs ps,.int .i64 day,.int .i64 id,.int .i64 d] (.vsl (((setI (peK id d (outP ps day) (outP ps day).length++[suK id d (outP ps day) (outP ps day).length])).drop ((setI (peK id d (outP ps day) (outP ps day).length++[suK id d (outP ps day) (outP ps day).length])).idxOf (suK id d (outP ps day) (outP ps day).length))).map ia)):=by
 have hO:=Zjs (G:=G) r l hs ps day;have hit:=outIt (G:=G) r l hs ps day hp;have pO:=Zi9 r l hs ps;have eN:=Zig ps day;have hat:=λk x h=>Zih (ps:=ps) (day:=day) (k:=k) (x:=x) h
 have hL:(outP ps day).length<=41:=W0O (W0D ..) hp;have hLb:∀ x∈outP ps day,0<=x.lt/\x.lt<=8:=λx hx=>hb x (W0G.1 hx).1
 generalize outP ps day=L at *;generalize outE ps day=E at *;generalize ofA r l hs ps=O at *;refine ZhA rfl λR hG hrd=>?_
 subst hG;refine Qga ?_;simp -implicitDefEqProofs[Zhy,Zhz];refine Yd.of hO (by simp[pO,AV.pure]) ?_;simp -implicitDefEqProofs
 refine ZiD hrd (by decide) hit (by simp[evA,St.tmp,lk]) (by simp[AV.pure,pO]) (λk=>k == 12) (by intro k hk;simp at hk;omega) r1K [(6,.ptr 1006 0),(7,.ptr 1007 0),(9,.ptr 1009 0),(10,.ptr 1010 0)]
  (λk=>woB id d (suK id d L k) (peK id d L k)) (λk=>woU id d (suK id d L (k+1)) (peK id d L k) (peK id d L (k+1))) (λk=>k<=L.length) (W1f _) ?_ ?_ ?_ ?_ ?_ ?_ ?_ ?_ ?_ ?_ ?_
 . intro k q hq;simp only[woB,nlO]at hq
   split at hq <;> simp at hq
   . rcases hq with rfl|rfl|rfl|rfl <;> simp
   . rcases hq with rfl|rfl|rfl|rfl|rfl <;> simp
 . intro k;simp only[woB,nlO]
   split <;> simp[r1K]
 . intro k;simp only[woU,nlO,nlN]
   split <;> split <;> simp[r1K]
 . intro k q hq;have hne:=Zjp (p:=pqP id d) (f:=(·.lt)) (L:=L) (k:=k);simp only[woB,woU,nlO,nlN]at *;by_cases c:peK id d L k=[]
   . simp only[c,if_true]at *
     split <;> simp at hq ⊢ <;> rcases hq with rfl|rfl|rfl|rfl <;> simp[isK,lk]
   . have c2:¬peK id d L (k+1)=[]:=λh=>c (hne h)
     simp only[c,c2,if_false]at *;simp at hq ⊢;rcases hq with rfl|rfl|rfl|rfl|rfl <;> simp[isK,lk]
 . intro k q hq;simp only[woB,woU,nlO,nlN]at *;by_cases c:peK id d L k=[]
   . simp only[c,if_true]at *
     split at hq <;> simp at hq
     . rcases hq with rfl|rfl|rfl|rfl <;> exact .inl (by simp[isK,lk])
     . rcases hq with rfl|rfl|rfl|rfl|rfl
       . exact .inl (by simp[isK,lk])
       . exact .inl (by simp[isK,lk])
       . exact .inl (by simp[isK,lk])
       . exact .inl (by simp[isK,lk])
       . exact .inr (by simp[Yl,r1K,St.get,St.set,putO,lk])
   . simp only[c,if_false]at *
     split at hq <;> simp at hq
     . rcases hq with rfl|rfl|rfl|rfl <;> exact .inl (by simp[isK,lk])
     . rcases hq with rfl|rfl|rfl|rfl|rfl <;> exact .inl (by simp[isK,lk])
 . intro k;have hne:=Zjp (p:=pqP id d) (f:=(·.lt)) (L:=L) (k:=k);simp only[woB,woU,nlO,nlV,nlN];by_cases c:peK id d L k=[] <;> by_cases c2:peK id d L (k+1)=[]
   . simp[c,c2,Yl,r1K,AV.ren,AObj.ren]
   . simp[c,c2,Yl,r1K,AV.ren,ZeV,Zjr]
   . exact absurd (hne c2) c
   . simp[c,c2,Yl,r1K,AV.ren,ZeV,Zjr]
 . have e0:peK id d L 0=[]:=Zik _ _ _;have e1:suK id d L 0=0:=(by unfold suK;rw[Zik];rfl);simp[woB,nlO,nlV,e0,e1,Yl,r1K,St.set,putO,AObj.ren,AV.ren]
 . intro k q hq;simp only[woB,W0h]at hq;rcases hq with hq|hq
   . simp only[woB,nlO];simp at hq;rcases hq with rfl|rfl|rfl|rfl
     . simp[Yc,Ya,AV.keys]
     . simp[Yc,Ya,AV.keys]
     . simp[Yc,Ya,AV.keys]
     . unfold nlV
       split <;> simp[Yc,Ya,AV.keys,lk]
   . exact Zjq _ _ _ q hq
 . intro q hq;simp at hq;rcases hq with rfl|rfl|rfl|rfl
   all_goals
    refine ⟨by simp[lk,AV.ren,r1K],by simp,by simp,λj k hk=>?_⟩;simp[AV.keys]at hk;subst hk;simp only[woB];simp[isK,lk]
 . intro k x hx hk R' hG hN;obtain ⟨i,hkl,rfl⟩:=hat k x hx;have sc:=Zjm (id:=id) (d:=d) hkl;have pc:=Zii (p:=pqP id d) (f:=(·.lt)) hkl;have hle:=Zij (pqP id d) (·.lt) L k;have hLx:=hLb _ (W0e hkl);obtain ⟨y,hy⟩:=Qex (L[k]);rw[<- hy]at sc pc hLx ⊢;have hpt:ptA y=[.int .i64 y.no,.int .i64 y.dy,.int .i64 y.ho,.int .i64 y.dw,.int .i64 y.lt,.int .i64 y.bk,.int .u8 y.lo]:=rfl;have e1:pkL (pqP id d) (·.lt) L k=peK id d L k:=rfl;have e2:pkL (pqP id d) (·.lt) L (k+1)=peK id d L (k+1):=rfl;rw[e1,e2]at pc;rw[e1]at hle;generalize suK id d L k=su at *;generalize suK id d L (k+1)=su' at *;generalize peK id d L k=S at *;generalize peK id d L (k+1)=T at *;have bb:(S.length+1)*8<=70368744177664:=by omega
   have no:sqP id d y=false->pqP id d y=false->su'=su/\T=S:=λh1 h2=>by
    rw[h1]at sc;rw[h2]at pc;exact ⟨sc,pc⟩
   have f0:Zeu=Zeu:=rfl;by_cases cS:S=[]
   case' pos =>
    have hV:nlV 1038 S = .nils:=(by simp[nlV,cS]);have hQ:nlO 1038 S=[]:=(by simp[nlO,cS]);have hM:nlN 1038 S=38:=by simp[nlN,cS]
   case' neg =>
    have hV:nlV 1038 S = .osl 1038 S.length:=(by simp[nlV,cS]);have hQ:nlO 1038 S=[(1038,.row 1 (S.map ia))]:=(by simp[nlO,cS]);have hM:nlN 1038 S=1038:=by simp[nlN,cS]
   all_goals
    refine Qga ?_;simp only[woB,hV,hQ,W1e,W18];simp -implicitDefEqProofs[hpt];intro R'' hG'' hN'';refine Qga ?_;by_cases q1:y.ho=id
    case neg =>
     obtain ⟨rfl,rfl⟩:=no (by simp[sqP,q1]) (by simp[pqP,q1]);simp -implicitDefEqProofs[hpt,q1];refine ⟨?_,by omega⟩;simp only[woU,hV,hQ,hM];simp[hV,hQ,Yi,Zeu,Zj6,frzA,frz,AV.keys,nlV,nlO,cS]
    by_cases q2:y.dw=d
    case neg =>
     obtain ⟨rfl,rfl⟩:=no (by simp[sqP,q2]) (by simp[pqP,q2]);simp -implicitDefEqProofs[hpt,q1,q2];refine ⟨?_,by omega⟩;simp only[woU,hV,hQ,hM];simp[hV,hQ,Yi,Zeu,Zj6,frzA,frz,AV.keys,nlV,nlO,cS]
    by_cases q3:y.lo=1
    . have b1:sqP id d y=false:=(by simp[sqP,q3]);have b2:pqP id d y=true:=(by simp[pqP,q1,q2,q3]);rw[b1]at sc;rw[b2,if_pos rfl]at pc;have sc:su'=su:=sc;subst sc;have hne:¬T=[]:=(by rw[pc];simp);have hTl:T.length=S.length+1:=(by rw[pc];simp);have em:T.map ia=S.map ia++[[.int .i64 y.lt]]:=(by rw[pc,W0r];rfl);simp -implicitDefEqProofs[hpt,q1,q2,q3,bb];refine ⟨?_,by omega⟩;simp only[woU,hM,nlV,nlO,hne,if_false,hTl,em];simp[cS,Yi,Zeu,frzO,frzA,frz,AV.keys,ia,W0y]
    . have b1:sqP id d y=true:=(by simp[sqP,q1,q2,q3]);have b2:pqP id d y=false:=(by simp[pqP,q3]);rw[b2]at pc;rw[b1,if_pos rfl]at sc;have pc:T=S:=pc;subst pc;simp -implicitDefEqProofs[hpt,q1,q2,q3];refine ⟨?_,by omega⟩;rw[sc];simp only[woU,hV,hQ,hM];simp[hV,hQ,Yi,Zeu,Zj6,frzA,frz,AV.keys,nlV,nlO,cS]
 . intro _;rw[eN];have hle:=Zij (pqP id d) (·.lt) L L.length;have e1:pkL (pqP id d) (·.lt) L L.length=peK id d L L.length:=rfl;rw[e1]at hle;generalize suK id d L L.length=su at *;generalize peK id d L L.length=S at *;have bb:(S.length+1)*8<=70368744177664:=(by omega);obtain ⟨U,hU⟩:=Qex (S++[su]);have hUl:U.length=S.length+1:=(by rw[hU];simp);have hsp:=Zjl (G:=R.G) U (by omega);have sl:(sortI U).length=U.length:=Zbc U;have hcp:=Zjj (G:=R.G) (sortI U) (by omega);rw[sl]at hcp;have hC:cpcI (sortI U)=setI U:=Zji _;have hCm:su∈setI U:=Zbq.2 (by rw[hU];simp)
   have hCl:(setI U).length<=U.length:=by
    have:=Zj7 (sortI U) (sortI U).length;rw[<- hC];unfold cpcI;omega
   have hix:=Ze2 (G:=R.G) (setI U) su (by unfold Sml;omega);have hid:idx (setI U) su=(((setI U).idxOf su:Nat):Int):=(by unfold idx;rw[if_pos hCm]);rw[hid]at hix;have hlt:(setI U).idxOf su<(setI U).length:=List.idxOf_lt_length_of_mem hCm
   have hOl:(cpoI (sortI U)).length=U.length:=by
    unfold cpoI;rw[W0s,W0N,W1H,hC,sl];omega
   have hOt:(cpoI (sortI U)).take (setI U).length=(setI U).map ia:=by
    unfold cpoI;rw[hC];exact List.take_left' (by simp)
   have hOf:(setI U).length=U.length->cpoI (sortI U)=(setI U).map ia:=λh=>by
    rw[<- hOt,h,<- hOl,W0v]
   have hcv:∀ k,cpvI k (sortI U)=if (setI U).length=U.length then .osl k U.length else .oss k U.length 0 (setI U).length:=λk=>by unfold cpvI;rw[hC,sl]
   rw[hcv]at hcp;have em:U.map ia=S.map ia++[[.int .i64 su]]:=by rw[hU,W0r];rfl
   have kO:∀ o,Yc o (.row 1 (cpoI (sortI U)))=true:=λo=>by
    unfold cpoI;rw[show List.replicate ((sortI U).length-(cpcI (sortI U)).length) zrO=(List.replicate ((sortI U).length-(cpcI (sortI U)).length) (0:Int)).map ia by rw[List.map_replicate];rfl,<- W0r];exact ZdJ _ _
   have rO:∀ ρ,AObj.ren ρ (.row 1 (cpoI (sortI U))) = .row 1 (cpoI (sortI U)):=λρ=>by
    unfold cpoI;rw[show List.replicate ((sortI U).length-(cpcI (sortI U)).length) zrO=(List.replicate ((sortI U).length-(cpcI (sortI U)).length) (0:Int)).map ia by rw[List.map_replicate];rfl,<- W0r];exact ZdI _ _
   have pu:((setI U).map ia).all (λr=>r.all AV.pure)=true:=(by simp[ia,AV.pure]);rw[<- hU]
   have fin:∀ st',Ym st' ⟨[(13,.vsl ((setI U).map ia)),(9,.ptr 9 0)],[(9,.box [.int .i64 su])]⟩->GO prog R 0 (.run ((RCode.reg 12 false [{ d:=some 52,op:=ROp.mov (RA.t 13) },{ d:=some 53,op:=ROp.mov (RA.t 13) },{ d:=some 54,op:=ROp.load false 1 (RA.t 9) },{ d:=some 55,op:=ROp.call 129 [RA.t 53,RA.t 54] },{ d:=some 56,op:=ROp.slc 1 (RA.t 52) (some (RA.t 55)) none },{ d:=some 8,op:=ROp.mov (RA.t 56) }]).seq RCode.ret)) [] (Fin [RRes.t 8] (AV.vsl (List.drop (List.idxOf su (setI U)) (List.map ia (setI U))))) st':=λst' hw=>by
    refine GO0 (Z2Q hw (Qga ?_));have hle:(setI U).idxOf su<=(setI U).length:=(by omega);have hln:∀ x:Int,(ia x).length=1:=λ_=>rfl
    simp -implicitDefEqProofs;refine Qco (hix) ?_;have ht:List.take (setI U).length (List.map ia (setI U))=List.map ia (setI U):=W0J (by simp)
    have hd:∀ x∈List.drop (List.idxOf su (setI U)) (List.map ia (setI U)),∀ y∈x,y.pure=true:=λx hx y hy=>by
     obtain ⟨z,-,rfl⟩:=W0i.1 (W1S hx);simp[ia]at hy;subst hy;simp[AV.pure]
    simp -implicitDefEqProofs[hle,hln,ht];refine Qgr ?_;generalize List.drop (List.idxOf su (setI U)) (List.map ia (setI U))=D at *;simp -implicitDefEqProofs
   by_cases cS:S=[]
   . have hU1:U=[su]:=(by rw[hU,cS];rfl);have hl1:U.length=1:=(by rw[hU1];rfl);have emU:U.map ia=[[.int .i64 su]]:=(by rw[hU1];rfl);simp -implicitDefEqProofs[woB,nlV,nlO,cS,Yl,r1K,AV.ren,AObj.ren];refine Z2R mixed 11 ?_;simp -implicitDefEqProofs;rw[<- emU];rw[hl1]at hsp hcp;refine Yd.sem (Z1B.byref hsp (λ_=>47) (by simp) (by simp) (by simp[St.get,lk,ZdI]) (by simp[ZdJ]) (by simp[Ya,AV.keys,lk]) rfl (by simp[AV.ren]) rfl rfl) ?_;simp -implicitDefEqProofs[Yl,ZdI];refine Yd.sem (Z1B.byref hcp (λ_=>47) (by simp) (by simp) (by simp[St.get,lk,ZdI]) (by simp[ZdJ]) (by simp[Ya,AV.keys,lk]) rfl (by simp[AV.ren]) rfl rfl) ?_;simp -implicitDefEqProofs[Yl,rO];refine fin _ (Ym.trans (Ym.frz (λk=>k == 47) _) ?_);rw[hl1]at hOl hOf;by_cases hq:(setI U).length=1
     . have hOf:=hOf hq;rw[hOf]at *
       ((try simp only[Yi,frzA,frzO,frz,Yh,Yj,St.get,hq,hOl,pu,AV.ren]);refine Ym.sub (by simp[lk,Ya,AV.keys,Yi,frzA,frzO,frz,Yh,Yj,St.get,hq,hOl,pu,AV.ren]) ?_;simp only[Yi,frzA,frzO,frz,Yh,Yj,St.get,hq,hOl,pu,AV.ren,Wkl,and_true];(try simp[lk,Yc,Ya,AV.keys,Yi,frzA,frzO,frz,Yh,Yj,St.get,hq,hOl,pu,AV.ren]))
     . ((try simp only[Yi,frzA,frzO,frz,Yh,Yj,St.get,hq,hOl,hOt,pu,AV.ren]);refine Ym.sub (by simp[lk,Ya,AV.keys,Yi,frzA,frzO,frz,Yh,Yj,St.get,hq,hOl,hOt,pu,AV.ren]) ?_;simp only[Yi,frzA,frzO,frz,Yh,Yj,St.get,hq,hOl,hOt,pu,AV.ren,Wkl,and_true];(try simp[lk,Yc,Ya,AV.keys,Yi,frzA,frzO,frz,Yh,Yj,St.get,hq,hOl,hOt,pu,AV.ren]))
   . simp -implicitDefEqProofs[woB,nlV,nlO,cS,Yl,r1K,AV.ren,ZeV,Zjr];refine Z2R mixed 11 ?_;simp -implicitDefEqProofs[bb];have ei:(S.map ia)++[[AV.int .i64 su]]=U.map ia:=em.symm;rw[ei,<- hUl];refine Yd.sem (Z1B.byref hsp (λ_=>38) (by simp) (by simp) (by simp[St.get,lk,ZdI]) (by simp[ZdJ]) (by simp[Ya,AV.keys,lk]) rfl (by simp[AV.ren]) rfl rfl) ?_;simp -implicitDefEqProofs[Yl,ZdI];refine Yd.sem (Z1B.byref hcp (λ_=>38) (by simp) (by simp) (by simp[St.get,lk,ZdI]) (by simp[ZdJ]) (by simp[Ya,AV.keys,lk]) rfl (by simp[AV.ren]) rfl rfl) ?_;simp -implicitDefEqProofs[Yl,rO];refine fin _ (Ym.trans (Ym.frz (λk=>k == 38) _) ?_);by_cases hq:(setI U).length=U.length
     . have hOf:=hOf hq;rw[hOf]at *
       ((try simp only[Yi,frzA,frzO,frz,Yh,Yj,St.get,hq,hOl,pu,AV.ren]);refine Ym.sub (by simp[lk,Ya,AV.keys,Yi,frzA,frzO,frz,Yh,Yj,St.get,hq,hOl,pu,AV.ren]) ?_;simp only[Yi,frzA,frzO,frz,Yh,Yj,St.get,hq,hOl,pu,AV.ren,Wkl,and_true];(try simp[lk,Yc,Ya,AV.keys,Yi,frzA,frzO,frz,Yh,Yj,St.get,hq,hOl,pu,AV.ren]))
     . ((try simp only[Yi,frzA,frzO,frz,Yh,Yj,St.get,hq,hOl,hOt,pu,AV.ren]);refine Ym.sub (by simp[lk,Ya,AV.keys,Yi,frzA,frzO,frz,Yh,Yj,St.get,hq,hOl,hOt,pu,AV.ren]) ?_;simp only[Yi,frzA,frzO,frz,Yh,Yj,St.get,hq,hOl,hOt,pu,AV.ren,Wkl,and_true];(try simp[lk,Yc,Ya,AV.keys,Yi,frzA,frzO,frz,Yh,Yj,St.get,hq,hOl,hOt,pu,AV.ren]))
def Zju (r:Jr) (l:Jl) (hs:Jh) (ps:Jp) (day id d:Int) (hp:ps.length<=41) (hb:∀ x∈ps,0<=x.lt/\x.lt<=8) (hlo:∀ x∈ps,0<=x.lo/\x.lo<=2) :
  PC prog G 74 [ofA r l hs ps,.int .i64 day,.int .i64 id,.int .i64 d] (.vsl ((wkL ps day id d).map ia)):=by
 have h:=Zjt (G:=G) r l hs ps day id d hp hb
 rw[Zjn hlo,Zjo hlo,Zbu λx hx=>by
  obtain ⟨y,hy,-,rfl⟩:=Zfa.1 hx;exact hb y hy]at h
 exact h
def smS (U:List Int) (v i:Nat):St:=⟨[(10,.int .i64 i),(9,.int .i64 U.length),(8,.vsl (U.map ia)),(5,nlV 23 (sbN U v i)),(1,.int .i64 v)],nlO 23 (sbN U v i)⟩
def drA (r:Jr) (l:Jl) (d m:Int):AV:=.tup [if asN r l [] m=0/\d∈nums r then fileA r l else .nilp,.int .i64 (if asN r l [] m=0 then if d∈nums r then 0 else 6 else asN r l [] m)]
def truE (U:List Int):List (AV×AV):=(List.range (2 ^ U.length)).map λ(v:Nat)=>(.int .i64 (v:Int),Yg ((sbT U v).map ia))
def Zjv {U:List Int} {v:Nat} (h:v<2 ^ U.length):(truE U)[v]? = some (.int .i64 v,Yg ((sbT U v).map ia)):=by
 unfold truE;rw[W09,W0L h];rfl
def Zjw (U:List Int):(truE U).length=2 ^ U.length:=by simp[truE]
def Zjx (U:List Int) (v:Nat) (hv:v<64) (hU:U.length<=5):PC prog G 161 [.vsl (U.map ia),.int .i64 v] (Yg ((sbT U v).map ia)):=by
 refine Zgv rfl λR hG hrd=>?_
 subst hG;refine Qga ?_;simp -implicitDefEqProofs[Zgt,Zgu];refine Z8a (smS U v) (λ_=>True) U.length ?_ trivial ?_ ?_
 . have e0:sbN U v 0=[]:=rfl;simp only[smS,nlV,nlO,e0,if_true]
   (refine Wkc ?_;simp only[Wkl,and_true];(try simp[lk,Yc,Ya,AV.keys]))
 . intro i hi _;have sc:sbN U v (i+1)=if v / 2 ^ i % 2=1 then sbN U v i++[U.getD i 0] else sbN U v i:=rfl
   have hle:=ZeY U v i;have bU:=bitU (v:=v) (i:=i) hv (by omega);have hg:U.getD i 0=U[i]:=(by rw[W0j,W07 hi];rfl);rw[hg]at sc;have wi:i64.wrap ((i:Int)+1)=(i:Int)+1:=Yf;obtain ⟨S,hS⟩:=Qex (sbN U v i);rw[<- hS]at sc hle;obtain ⟨T,hT⟩:=Qex (sbN U v (i+1));rw[<- hT]at sc;have bb:(S.length+1)*8<=70368744177664:=(by omega);by_cases cS:S=[]
   case' pos =>
    have hV:nlV 23 S = .nils:=(by simp[nlV,cS]);have hQ:nlO 23 S=[]:=by simp[nlO,cS]
   case' neg =>
    have hV:nlV 23 S = .osl 23 S.length:=(by simp[nlV,cS]);have hQ:nlO 23 S=[(23,.row 1 (S.map ia))]:=by simp[nlO,cS]
   all_goals
    refine Qga ?_;by_cases q:v / 2 ^ i % 2=1
    . rw[if_pos q]at sc bU;have hne:¬T=[]:=(by rw[sc];simp);have hV2:nlV 23 T = .osl 23 (S.length+1):=(by rw[nlV,if_neg hne,sc];simp);have hQ2:nlO 23 T=[(23,.row 1 (S.map ia++[ia U[i]]))]:=(by rw[nlO,if_neg hne,sc];simp);simp -implicitDefEqProofs[smS,<- hS,hV,hQ,hi,ia,bU,wi,bb];simp only[smS,<- hT,hV2,hQ2]
      ((try simp only[ia,cS]);refine Ym.sub (by simp[lk,Ya,AV.keys,ia,cS]) ?_;simp only[ia,cS,Wkl,ZdJ,and_true];(try simp[lk,Yc,Ya,AV.keys,ia,cS]))
    . rw[if_neg q]at sc bU;have sc:T=S:=sc;subst sc;simp -implicitDefEqProofs[smS,<- hS,hV,hQ,hi,ia,bU,wi];simp only[smS,<- hT,hV,hQ]
      ((try simp only[ia]);refine Ym.sub (by simp[lk,Ya,AV.keys,ia]) ?_;simp only[ia,Wkl,ZdJ,and_true];(try simp[lk,Yc,Ya,AV.keys,ia]))
 . intro _;obtain ⟨S,hS⟩:=Qex (sbN U v U.length);have eT:sbT U v=S:=hS.symm;refine Qga ?_;by_cases cS:S=[]
   . have hV:nlV 23 S = .nils:=(by simp[nlV,cS]);have hQ:nlO 23 S=[]:=(by simp[nlO,cS]);simp -implicitDefEqProofs[smS,<- hS,hV,hQ];refine Qgr ?_;simp -implicitDefEqProofs[eT,cS,Yg]
   . have hV:nlV 23 S = .osl 23 S.length:=(by simp[nlV,cS]);have hQ:nlO 23 S=[(23,.row 1 (S.map ia))]:=(by simp[nlO,cS]);simp -implicitDefEqProofs[smS,<- hS,hV,hQ];refine Qgr ?_;simp -implicitDefEqProofs[eT,cS,Yg,ia]
def Zjy (hG:GC G) (hN:GN G) (r:Jr) (l:Jl) (d m:Int) (hw:WfN l) (hr:Wf r) (hd:Sml (nums r)):PC prog G 111 [.agg [.vsl (r.map isa),.vsl (l.map na)],.nils,.int .i64 m,.int .i64 d] (drA r l d m):=by
 have ha:=PC.sub (ZeD hG hN r l [] m hw hr (by simp[Sml])) (xs:=[.agg [.vsl (r.map isa),.vsl (l.map na)],.nils,.int .i64 m]) ⟨.rfl',.nils,.rfl',trivial⟩;have hc:=Ze3 (G:=G) (nums r) d hd;have pF:=Zez r l;have kF:(fileA r l).keys=[]:=AV.pure_keys _ pF;have hF:fileA r l = .vptr [.vsl (r.map isa),.vsl (l.map na),.vsl ((nums r).map ia),opA l] 0:=rfl;unfold drA;unfold askA at ha;by_cases h0:asN r l [] m=0
 . rw[h0]at ha ⊢;rw[hF]at ha pF ⊢
   (refine Zgo rfl λR hG hrd=>Qga ?_;subst hG)
   simp -implicitDefEqProofs[Zgm,Zgn];refine Qco (ha) ?_;simp -implicitDefEqProofs[pF];refine Qco (hc) ?_;by_cases h1:d∈nums r
   . simp -implicitDefEqProofs[h1,pF]
   . simp -implicitDefEqProofs[h1,pF]
 . rw[if_neg h0]at ha
   (refine Zgo rfl λR hG hrd=>Qga ?_;subst hG)
   simp -implicitDefEqProofs[Zgm,Zgn];refine Qco (ha) ?_;simp -implicitDefEqProofs[h0]
def Zjz (r:Jr) (l:Jl):PC prog G 112 [fileA r l] (.func (.func 160) [] [.vptr [fileA r l] 0]):=by
 have pO:=Zez r l;obtain ⟨cs,eS⟩ : ∃ cs,fileA r l = .vptr cs 0:=⟨_,rfl⟩;rw[eS]at pO ⊢
 (refine Zgr rfl λR hG hrd=>Qga ?_;subst hG)
 simp -implicitDefEqProofs[Zgp,Zgq,pO]
def toT (F:AV) (K:Nat) (l i:Nat):List (Nat×AV):=[(10,.int .i64 i),(9,.int .i64 K),(1,.vptr [F] 0),(0,.func (.yield l) [] [])]
def ZjA (S:List Int):(Yg (S.map ia)).pure=true:=by unfold Yg;split <;> simp_all [AV.pure,ia]
def ZjB (r:Jr) (l:Jl) (hU:(opQ l).length<=5) :
  ZiB prog G 160 [.vptr [fileA r l] 0] (truE (opQ l)):=by
 have pO:=Zez r l;have hpw:=pow5 hU;have sh:=shU (n:=(opQ l).length) (by omega)
 have oA:opA l=Yg ((opQ l).map ia):=by
  unfold opA Yg opQ;by_cases c:opU l=[]
  . simp[c,sortI]
  . have h2:sortI (opU l)≠[]:=λh=>c (by have:=congrArg List.length h;rw[Zbc]at this;exact W0l.1 this)
    rw[if_neg c,if_neg (by simpa using h2)]
 have hA:=λ(v:Nat) (hv:v<64)=>PC.sub (Zjx (G:=G) (opQ l) v hv hU) (xs:=[opA l,.int .i64 v]) ⟨by rw[oA];exact .orNil _,.rfl',trivial⟩
 have eO:fileA r l = .vptr [.vsl (r.map isa),.vsl (l.map na),.vsl ((nums r).map ia),opA l] 0:=rfl;have pA:(opA l).pure=true:=by rw[oA];exact ZjA _
 have lenO:opA l = .nils/\(opQ l).length=0∨opA l = .vsl ((opQ l).map ia):=by
  rw[oA];unfold Yg
  split
  . rename_i h;left;exact ⟨rfl,by simpa using h⟩
  . right;rfl
 have hat:=λv (h:v<2 ^ (opQ l).length)=>Zjv (U:=opQ l) h
 have hln:=Zjw (opQ l);refine ZiT Tryz.func160 (by kernel_rfl) (rc:=Zgs) (by kernel_rfl) rfl (W0C rfl) λn l' J K hn H hY=>?_
 generalize truE (opQ l)=E at *;obtain ⟨k,hk⟩:=Qex (2 ^ (opQ l).length);rw[<- hk]at hpw sh hat hln
 have pT:∀ i,∀ q∈toT (fileA r l) k l' i,q.2.pure=true:=λi q hq=>by
  simp only[toT,W0g,W0Q,or_false]at hq;rcases hq with rfl|rfl|rfl|rfl <;> simp[AV.pure,pO]
 unfold Zgs;refine ZiJ ⟨toT (fileA r l) k l' 0,[]⟩ (λM A=>?_) (ZiL (ZiM (λi=>i) (λi=>⟨toT (fileA r l) k l' i,[]⟩) (λi=>i<=k) (λi=>k-i) 0 rfl rfl (W1f _) λi hi=>?_))
 . refine Qga ?_;rcases lenO with ⟨h1,h2⟩|h1
   . rw[h2]at sh;have k1:k=1:=(by rw[hk,h2]);have sh0:i64.wrap 1=(k:Int):=(by rw[k1];rfl);simp -implicitDefEqProofs[iniT,eO,toT,h1,sh0]
     (refine Wkc ?_;simp only[Wkl,and_true];(try simp[lk,Yc,Ya,AV.keys]))
   . simp -implicitDefEqProofs[iniT,eO,toT,h1,sh]
     (refine Wkc ?_;simp only[Wkl,and_true];(try simp[lk,Yc,Ya,AV.keys]))
 by_cases hlt:i<k
 case neg =>
  obtain rfl:i=k:=(by omega);refine ZiJ ⟨(11,.bool false)::toT (fileA r l) i l' i,[]⟩ (λM A=>?_) (ZiH (ZiK (.exit 0) ⟨[],[]⟩ (λM A=>?_) ?_))
  . refine Qga ?_;simp -implicitDefEqProofs[toT];exact (by (first|exact Wka|exact Wkb))
  . refine Qga ?_;simp -implicitDefEqProofs[toT];exact (by (first|exact Wka|exact Wkb))
  . simp only[ItBk,if_true];refine ⟨by simp,by simp[hln],λ_ _ _ h=>h⟩
 have wi:i64.wrap ((i:Int)+1)=((i+1:Nat):Int):=Yf;have hA:=hA i (by omega);have hat:=hat i hlt;have pV:=ZjA (sbT (opQ l) i);obtain ⟨V,hV⟩:=Qex (Yg ((sbT (opQ l) i).map ia));rw[<- hV]at hA hat pV;refine ZiJ ⟨(11,.bool true)::toT (fileA r l) k l' i,[]⟩ (λM A=>?_) (ZiJ ⟨toT (fileA r l) k l' i,[]⟩ (λM A=>?_) (ZiI (ZiL ?_)))
 . refine Qga ?_;simp -implicitDefEqProofs[toT,hlt];exact (by (first|exact Wka|exact Wkb))
 . refine Qga ?_;simp -implicitDefEqProofs[toT];exact (by (first|exact Wka|exact Wkb))
 refine ZiJ ⟨(3,.int .i64 i)::toT (fileA r l) k l' i,[]⟩ (λM A=>?_) ?_
 . refine Qga ?_;simp -implicitDefEqProofs[toT];exact (by (first|exact Wka|exact Wkb))
 refine ZiO H hY 8 (d:=21) (f:=.t 13) (ys:=[.t 14,.t 20]) (gd:=none) rfl (xs:=[.int .i64 i,V])
  ((20,V)::(14,.int .i64 i)::(13,.func (.yield l') [] [])::toT (fileA r l) k l' i) ⟨(22,.bool false)::toT (fileA r l) k l' i,[]⟩ [] [(22,.bool true)] (W0C rfl) ?_ ?_ ?_ ?_ rfl rfl ?_ ?_ ?_ ?_ ?_ ?_
 . rw[W09,hat];rfl
 . intro x hx;simp only[W0g,W0Q,or_false]at hx;rcases hx with rfl|rfl
   . simp[AV.pure]
   . exact pV
 . intro q hq;simp only[W0g]at hq;rcases hq with rfl|rfl|rfl|hq
   . exact pV
   . simp[AV.pure]
   . simp[AV.pure]
   . exact pT i q hq
 . simp -implicitDefEqProofs[toT,eO]
   first|refine Yd.of hA (by simp[pA]) ?_|refine Ye.of hA (by simp[pA]) ?_
   simp -implicitDefEqProofs[pV]
   ((try simp only[AV.pure_keys _ pV]);refine Ym.sub (by simp[lk,Ya,AV.keys,AV.pure_keys _ pV]) ?_;simp only[AV.pure_keys _ pV,Wkl,and_true];(try simp[lk,Yc,Ya,AV.keys,AV.pure_keys _ pV]))
 . rfl
 . simp -implicitDefEqProofs[toT];exact (by (first|exact Wka|exact Wkb))
 . refine ZiK .normal ⟨toT (fileA r l) k l' i,[]⟩ (λM A=>?_) ⟨rfl,ZiK .normal ⟨toT (fileA r l) k l' (i+1),[]⟩ (λM A=>?_) ⟨i+1,rfl,rfl,by omega,by omega⟩⟩
   . refine Qga ?_;simp -implicitDefEqProofs[toT];exact (by (first|exact Wka|exact Wkb))
   . refine Qga ?_;simp -implicitDefEqProofs[toT,wi];exact (by (first|exact Wka|exact Wkb))
 . intro q hq
   cases hq
 . simp -implicitDefEqProofs;exact (by (first|exact Wka|exact Wkb))
 . intro A;refine Qga ?_;simp -implicitDefEqProofs;exact (by (first|exact Wka|exact Wkb))
def Z1B.sub {P:Program} {G:Jg} {st st1:St} {f:FuncId} {xs ys:List AV} {v:AV} (h:Z1B P G st f ys v st1) (hp:xs.all AV.pure=true) (hs:NsubL xs ys):Z1B P G st f xs v st1 :=
 λR a W κ vs hG hk ha=>h R a W κ vs hG hk ⟨ha.1.trans hs.len,λi y u hi hu=>by
  obtain ⟨x,h2,h3⟩:=hs.at i y hi;exact .pv (h3 _ _ _ ((ha.2 i x u h2 hu).toPV (W03.1 hp x (W0d h2))))⟩
def NewS.sub {P:Program} {G:Jg} {st:St} {ρ:Nat->Nat} {os:List (Nat×AObj)} {f:FuncId} {xs ys:List AV} {v:AV} (h:NewS P G st ρ os f ys v) (hp:xs.all AV.pure=true) (hs:NsubL xs ys):NewS P G st ρ os f xs v:=by
 obtain ⟨pre,h1,h2⟩:=h;exact ⟨pre,h1,λst' h'=>(h2 st' h').sub hp hs⟩
structure SetP (P:Program) (G:Jg) (so co:FuncId) (U:List Int):Prop where
 hsp:PB P G so [(1000,.row 1 (U.map ia))] [.osl 1000 U.length] (.tup []) [(1000,.row 1 ((sortI U).map ia))]
 hcp:PB P G co [(1000,.row 1 ((sortI U).map ia))] [.osl 1000 U.length] (if (setI U).length=U.length then .osl 1000 U.length else .oss 1000 U.length 0 (setI U).length) [(1000,.row 1 (cpoI (sortI U)))]
 hOl:(cpoI (sortI U)).length=U.length
 hOt:(cpoI (sortI U)).take (setI U).length=(setI U).map ia
 hOf:(setI U).length=U.length->cpoI (sortI U)=(setI U).map ia
 kO:∀ o,Yc o (.row 1 (cpoI (sortI U)))=true
 rO:∀ ρ,AObj.ren ρ (.row 1 (cpoI (sortI U))) = .row 1 (cpoI (sortI U))
 hCl:(setI U).length<=U.length
def poK (l:Jl) (d m:Int) (k:Nat):List Int:=(List.range k).map (ltV l d m)
def ZjN {l:Jl} {d m:Int} {k:Nat}:poK l d m (k+1)=poK l d m k++[ltV l d m k]:=by simp[poK,W1y]
def ZjO {l:Jl} {d m:Int} {k:Nat}:(poK l d m k).length=k:=by simp[poK]
def poB (F:AV) (d m:Int) (S:List Int):List (Nat×AObj):=[(1004,.box [.int .i64 d]),(1005,.box [.int .i64 m]),(1008,.box [F]),(1010,.box [nlV 1037 S])]++nlO 1037 S
def poU (F:AV) (d m:Int) (S T:List Int):List (Nat×AObj):=[(1004,.box [.int .i64 d]),(1005,.box [.int .i64 m]),(1008,.box [F]),(1010,.box [nlV (nlN 1037 S) T])]++nlO (nlN 1037 S) T
def poF (k:Nat):Bool:=decide (k<1000)&&(k == 12||k == 204||k == 205||k == 206||k == 207||k == 209||k == 210||k == 211)
def poA (r:Jr) (l:Jl) (d m:Int):AV:=.tup [if asN r l [] m=0/\d∈nums r then .vsl ((posL l d m).map ia) else .nils,.int .i64 (if asN r l [] m=0 then if d∈nums r then 0 else 6 else asN r l [] m)]
def ZjP (U:List Int) (h:U.length<=1000):SetP prog G 115 116 U:=by
 have hsp:=Zjl (G:=G) U (by omega);have sl:(sortI U).length=U.length:=Zbc U;have hcp:=Zjj (G:=G) (sortI U) (by omega);rw[sl]at hcp;have hC:cpcI (sortI U)=setI U:=Zji _
 have hCl:(setI U).length<=U.length:=by
  have:=Zj7 (sortI U) (sortI U).length;rw[<- hC];unfold cpcI;omega
 have hOl:(cpoI (sortI U)).length=U.length:=by
  unfold cpoI;rw[W0s,W0N,W1H,hC,sl];omega
 have hOt:(cpoI (sortI U)).take (setI U).length=(setI U).map ia:=by
  unfold cpoI;rw[hC];exact List.take_left' (by simp)
 have hOf:(setI U).length=U.length->cpoI (sortI U)=(setI U).map ia:=λh=>by
  rw[<- hOt,h,<- hOl,W0v]
 have hcv:∀ k,cpvI k (sortI U)=if (setI U).length=U.length then .osl k U.length else .oss k U.length 0 (setI U).length:=λk=>by unfold cpvI;rw[hC,sl]
 rw[hcv]at hcp;have hz:∀ n,List.replicate n zrO=(List.replicate n (0:Int)).map ia:=λn=>by rw[List.map_replicate];rfl
 exact ⟨hsp,hcp,hOl,hOt,hOf,λo=>by unfold cpoI;rw[hz,<- W0r];exact ZdJ _ _,λρ=>by unfold cpoI;rw[hz,<- W0r];exact ZdI _ _,hCl⟩
def ZjQ (hG:GC G) (hN:GN G) (r:Jr) (l:Jl) (d m:Int) (hw:WfN l) (hr:Wf r) (hd:Sml (nums r)):PC prog G 61 [.agg [.vsl (r.map isa),.vsl (l.map na)],.int .i64 d,.int .i64 m] (poA r l d m):=by
 have c1:=Zjy hG hN r l d m hw hr hd;unfold drA at c1;unfold poA;by_cases h0:asN r l [] m=0/\d∈nums r
 case neg =>
  rw[if_neg h0]at c1 ⊢;obtain ⟨e,he⟩:=Qex ((if asN r l [] m=0 then if d∈nums r then (0:Int) else 6 else asN r l [] m))
  have e0:¬e=0:=by
   rw[he];by_cases h1:asN r l [] m=0
   . rw[if_pos h1,if_neg λh=>h0 ⟨h1,h⟩];decide
   . rw[if_neg h1];exact h1
  rw[<- he]at c1 ⊢
  (refine Zgy rfl λR hG hrd=>Qga ?_;subst hG)
  simp -implicitDefEqProofs[Zgw,Zgx];refine Qco (c1) ?_;simp -implicitDefEqProofs[e0]
 rw[if_pos h0,if_pos h0.1,if_pos h0.2]at c1;rw[if_pos h0,if_pos h0.1,if_pos h0.2];have hop:=Zj0 (ZeG h0.1).1;have hB:=ZeF (ZeG h0.1).1;have hU:=ZeZ hB;have h12:=ZeH hB;have hp2:=pow5 hU;have hpos:0<2 ^ (opQ l).length:=Nat.pos_of_ne_zero (by simp);have hps:=ZhQ (l:=l) (d:=d) (m:=m) λv _=>ZhX hop hB h0.2 m v
 have e3:(List.range (2 ^ (opQ l).length)).map (ltV l d m)=poK l d m (2 ^ (opQ l).length):=rfl;rw[e3]at hps;have hlv:∀ v,ltV l d m v=(byV (sbT (opQ l) v) m l d l.length).lt:=λv=>rfl
 have tf:=Zjz (G:=G) r l;have hit:=ZjB (G:=G) r l hU;have hat:=λv (h:v<2 ^ (opQ l).length)=>Zjv (U:=opQ l) h
 have hln:=Zjw (opQ l);have sbl:=λv=>ZeY (opQ l) v (opQ l).length
 have hSP:=ZjP (G:=G) (poK l d m (2 ^ (opQ l).length)) (by rw[ZjO];omega);have hff:=λv=>ZeE (G:=G) r l false true (sbT (opQ l) v) [] m
 have hby:=λv=>by_pb (G:=G) r l (sbT (opQ l) v) m d [] h12 (by have:=sbl v;unfold Sml sbT;omega) (λ_ _ h=>by cases h)
 have l1:∀ s,liA false s = .vsl (s.map ia):=λs=>by simp[liA]
 have l2:liA true [] = .nils:=(by simp[liA]);simp only[l1,l2]at hff;generalize truE (opQ l)=E at *;obtain ⟨N,hN'⟩:=Qex (2 ^ (opQ l).length);rw[<- hN']at hp2 hpos hps hat hln hSP;have pF:=Zez r l;have kF:(fileA r l).keys=[]:=AV.pure_keys _ pF;have rF:=λρ=>AV.ren_pure (ρ:=ρ) (fileA r l) pF
 have fF:∀ ok st,frz ok st 6 (fileA r l)=some (fileA r l):=λok st=>by unfold fileA;simp[frz,AV.keys]
 obtain ⟨cs,hF⟩ : ∃ cs,fileA r l = .vptr cs 0:=⟨_,rfl⟩;simp only[hF]at c1 tf hit hff hby pF kF rF fF;clear hF;refine Zgy rfl λR hG' hrd=>?_
 subst hG';refine Qga ?_;simp -implicitDefEqProofs[Zgw,Zgx];refine Qco (c1) ?_;simp -implicitDefEqProofs;refine Yd.of tf (by simp[pF]) ?_;simp -implicitDefEqProofs
 refine ZiD hrd (by decide) hit (by simp[evA,St.tmp,lk]) (by simp[AV.pure,pF]) poF (by intro k hk;simp[poF]at hk;omega) r1K [(4,.ptr 1004 0),(5,.ptr 1005 0),(8,.ptr 1008 0),(10,.ptr 1010 0)]
  (λk=>poB (.vptr cs 0) d m (poK l d m k)) (λk=>poU (.vptr cs 0) d m (poK l d m k) (poK l d m (k+1))) (λk=>k<=N) (W1f _) ?_ ?_ ?_ ?_ ?_ ?_ ?_ ?_ ?_ ?_ ?_
 . intro k q hq;simp only[poB,nlO]at hq
   split at hq <;> simp at hq
   . rcases hq with rfl|rfl|rfl|rfl <;> simp
   . rcases hq with rfl|rfl|rfl|rfl|rfl <;> simp
 . intro k;simp only[poB,nlO]
   split <;> simp[r1K]
 . intro k;simp only[poU,nlO,nlN]
   split <;> split <;> simp[r1K]
 . intro k q hq;have hne:poK l d m (k+1)≠[]:=(by rw[ZjN];simp);simp only[poB,poU,nlO,nlN]at *;by_cases c:poK l d m k=[]
   . simp only[c,if_true]at *
     split <;> simp at hq ⊢ <;> rcases hq with rfl|rfl|rfl|rfl <;> simp[isK,lk]
   . simp only[c,hne,if_false]at *;simp at hq ⊢;rcases hq with rfl|rfl|rfl|rfl|rfl <;> simp[isK,lk]
 . intro k q hq;simp only[poB,poU,nlO,nlN]at *;by_cases c:poK l d m k=[]
   . simp only[c,if_true]at *
     split at hq <;> simp at hq
     . rcases hq with rfl|rfl|rfl|rfl <;> exact .inl (by simp[isK,lk])
     . rcases hq with rfl|rfl|rfl|rfl|rfl
       . exact .inl (by simp[isK,lk])
       . exact .inl (by simp[isK,lk])
       . exact .inl (by simp[isK,lk])
       . exact .inl (by simp[isK,lk])
       . exact .inr (by simp[Yl,r1K,St.get,St.set,putO,lk])
   . simp only[c,if_false]at *
     split at hq <;> simp at hq
     . rcases hq with rfl|rfl|rfl|rfl <;> exact .inl (by simp[isK,lk])
     . rcases hq with rfl|rfl|rfl|rfl|rfl <;> exact .inl (by simp[isK,lk])
 . intro k;have hne:poK l d m (k+1)≠[]:=(by rw[ZjN];simp);simp only[poB,poU,nlO,nlV,nlN];by_cases c:poK l d m k=[]
   . simp[c,hne,Yl,r1K,AV.ren,ZeV,Zjr]
   . simp[c,hne,Yl,r1K,AV.ren,ZeV,Zjr]
 . have e0:poK l d m 0=[]:=rfl;simp[poB,nlO,nlV,e0,Yl,r1K,St.set,putO,AObj.ren,AV.ren,rF]
 . intro k q hq;simp only[poB,W0h]at hq;rcases hq with hq|hq
   . simp only[poB,nlO];simp at hq;rcases hq with rfl|rfl|rfl|rfl
     . simp[Yc,Ya,AV.keys]
     . simp[Yc,Ya,AV.keys]
     . simp[Yc,Ya,kF]
     . unfold nlV
       split <;> simp[Yc,Ya,AV.keys,lk]
   . exact Zjq _ _ _ q hq
 . intro q hq;simp at hq;rcases hq with rfl|rfl|rfl|rfl
   all_goals
    refine ⟨by simp[lk,AV.ren,r1K],by simp,by simp,λj k hk=>?_⟩;simp[AV.keys]at hk;subst hk;simp only[poB];simp[isK,lk]
 . intro k x hx hk R' hG hN;have hkl:k<N:=(by rw[<- hln];exact (W02.1 hx).1);rw[hat k hkl]at hx;obtain rfl:=W1L hx;have hff:=hff k;have hby:=hby k;have sc:=ZjN (l:=l) (d:=d) (m:=m) (k:=k);have hle:=ZjO (l:=l) (d:=d) (m:=m) (k:=k);rw[hlv]at sc;have pV:=ZjA (sbT (opQ l) k);have kV:=AV.pure_keys _ pV;have nV:Nsub (Yg ((sbT (opQ l) k).map ia)) (.vsl ((sbT (opQ l) k).map ia)):=.orNil _;obtain ⟨V,hV'⟩:=Qex (Yg ((sbT (opQ l) k).map ia));rw[<- hV']at pV kV nV ⊢;obtain ⟨x,hx'⟩:=Qex (byV (sbT (opQ l) k) m l d l.length);have hnx:na x=[.int .i64 x.nu,.int .i64 x.dy,.int .u8 x.sg,.int .i64 x.dr,.int .i64 x.lt,.int .i64 x.fr,.int .i64 x.tu,.int .i64 x.ca,.bool x.up,.int .u8 x.wy]:=rfl;rw[<- hx',hnx]at hby;rw[<- hx']at sc;obtain ⟨B,hB'⟩:=Qex (AV.vsl ((sbT (opQ l) k).map ia));rw[<- hB']at hff hby nV;have pB:B.pure=true:=(by rw[hB'];simp[AV.pure,ia]);have rB:=λρ=>AV.ren_pure (ρ:=ρ) B pB
   have kB:B.keys=[]:=AV.pure_keys _ pB;generalize byK (sbT (opQ l) k) m l d l.length []=K at *;clear hB';generalize poK l d m k=S at *;generalize poK l d m (k+1)=T at *;have bb:(S.length+1)*8<=70368744177664:=(by omega);have hne:¬T=[]:=(by rw[sc];simp);have hTl:T.length=S.length+1:=(by rw[sc];simp);have em:T.map ia=S.map ia++[[.int .i64 x.lt]]:=(by rw[sc,W0r];rfl);by_cases cS:S=[]
   case' pos =>
    have hV:nlV 1037 S = .nils:=(by simp[nlV,cS]);have hQ:nlO 1037 S=[]:=(by simp[nlO,cS]);have hM:nlN 1037 S=37:=by simp[nlN,cS]
   case' neg =>
    have hV:nlV 1037 S = .osl 1037 S.length:=(by simp[nlV,cS]);have hQ:nlO 1037 S=[(1037,.row 1 (S.map ia))]:=(by simp[nlO,cS]);have hM:nlN 1037 S=1037:=by simp[nlN,cS]
   all_goals
    refine Qga ?_;simp only[poB,hV,hQ,W1e,W18];simp -implicitDefEqProofs;intro R'' hG'' hN'';refine Z1P (ZjK mixed ?_);rw[hG'']
    iterate 5 (rw[RE_op (by simp[wants]) (by simp[Z1y])];simp -implicitDefEqProofs[execE])
    rw[ZjM (by simp[wants])];simp -implicitDefEqProofs;refine CallE.new (NewS.sub (ys:=[.vptr cs 0,B,.nils,.int .i64 m]) (NewS.of hff (λk=>k+200) (by simp[ffO]) (by simp[ffO,St.get,lk]) (by simp[AV.pure,pF,pB]) rfl) (by simp[AV.pure,pF,pV]) ⟨.rfl',nV,.rfl',.rfl',trivial⟩) ?_;simp -implicitDefEqProofs[Yl,ffO,ffC,AV.ren,AObj.ren,rF,rB,kV,kF,kB]
    iterate 1 (rw[RE_op (by simp[wants]) (by simp[Z1y])];simp -implicitDefEqProofs[execE])
    rw[ZjM (by simp[wants])];simp -implicitDefEqProofs;refine CallE.new (NewS.ref hby (λk=>k-800) (by simp[fcO]) (by simp[fcO]) (by simp[fcO,St.get,lk,AV.ren,AObj.ren,mpA,rF,rB,fcC]) (by simp only[fcO,W0g,W0Q,or_false,W1M,forall_eq,Zen,and_true];simp[lk,Yc,Ya,AV.keys,kF,kB,fcC]) (by simp[Ya,AV.keys,kF,lk,fcC,fcO]) rfl (by simp[AV.ren,rF,fcC]) rfl) ?_;simp -implicitDefEqProofs[Yl,fcO,fcC,AV.ren,AObj.ren,Zeo,rF,rB,kV,kF,kB]
    iterate 4 (rw[RE_op (by simp[wants]) (by simp[Z1y])];simp -implicitDefEqProofs[execE,bb])
    refine ⟨rfl,?_⟩;refine ⟨rfl,?_,by omega⟩;simp only[poU,hM,nlV,nlO,hne,if_false,hTl,em];simp[cS,Yi,poF,Zeu,frzO,frzA,frz,AV.keys,ia,fF,W0y]
 . intro _;rw[hln];have hUl:=ZjO (l:=l) (d:=d) (m:=m) (k:=N);generalize poK l d m N=U at *;obtain ⟨hsp,hcp,hOl,hOt,hOf,kO,rO,hCl⟩:=hSP;have cU:¬U=[]:=λh=>by rw[h]at hUl;simp at hUl;omega
   rw[<- hps];have pu:((setI U).map ia).all (λr=>r.all AV.pure)=true:=(by simp[ia,AV.pure]);simp -implicitDefEqProofs[poB,nlV,nlO,cU,Yl,r1K,AV.ren,ZeV,Zjr,rF];refine Qgr ?_;simp -implicitDefEqProofs;refine Yd.sem (Z1B.byref hsp (λ_=>37) (by simp) (by simp) (by simp[St.get,lk,ZdI]) (by simp[ZdJ]) (by simp[Ya,AV.keys,lk]) rfl (by simp[AV.ren]) rfl rfl) ?_;simp -implicitDefEqProofs[Yl,ZdI];refine Yd.sem (Z1B.byref hcp (λ_=>37) (by simp) (by simp) (by simp[St.get,lk,ZdI]) (by simp[ZdJ]) (by simp[Ya,AV.keys,lk]) rfl (by simp[AV.ren]) rfl rfl) ?_;by_cases hq:(setI U).length=U.length
   . have hOf:=hOf hq;rw[hOf]at *;simp -implicitDefEqProofs[Yl,ZdI,hq,AV.ren,ia]
   . skip
     simp -implicitDefEqProofs[Yl,rO,hq,AV.ren,hOl,hOt,hCl,ia]
section
open Qq Go.Proofs.Tryz
def ZjR:RCode :=
 S [r 0 [n 6 (.bool false)],r 1 [m 7 0,m 8 1,o 9 .geq 7 8,m 10 9,g 10 true (m 11 0),g 10 true (m 12 2),g 10 true (o 13 .leq 11 12),v 14 10 13,m 6 14],.ret]
def ZjS:List RRes:=[.t 6]
def ZjT:PCt prog 147 f147 ZjR ZjS:=pcT func147 rfl
def ZjU:RCode :=
 S [r 0 [n 4 (.bool false)],S [r 1 [n 5 O],.block 0 (.loop (S [S [r 2 [m 6 5,m 7 0,e 8 7,o 9 .lss 6 8],.cond (.t 9) .skip (.exit 0)],.block 1 (S [r 4 [m 12 0,m 13 5,i 14 1 12 13,l 15 14,m 16 1,o 17 .eql 15 16],K 17 5 [n 4 (.bool true)]]),r 3 [m 10 5,k 11 .add 10 I,m 5 11]]))],r 6 [n 4 (.bool false)],.ret]
def ZjV:List RRes:=[.t 4]
def ZjW:PCt prog 104 f104 ZjU ZjV:=pcT func104 rfl
def ZjX:RCode :=
 S [r 0 [b 2 0,n 4 (.bool false)],r 1 [f 8 2 2,l 9 8,m 10 1,i 11 4 9 10,L 12 4 11,w 5 (.alloc [O,O,O,.nils]),s 4 5 12],S [R 2 [f 13 0 5,a [0] (l 14 13),a [1] (w 15 (.call 147 [.t 14,.c I,.c (.int .i64 9999)])),a [2] (t 16 15),a [3,2] (m 17 16),a [4] (g 17 false (m 18 1)),a [5,4] (g 17 false (k 19 .gtr 18 O)),a [6,4,4] (g 17 false (m 20 19)),a [7] (g 20 true (f 21 0 5)),a [8,7] (g 20 true (l 22 21)),a [7] (g 20 true (f 23 2 2)),a [10,7] (g 20 true (l 24 23)),a [7] (g 20 true (m 25 1)),a [12,7] (g 20 true (k 26 .sub 25 I)),a [11,13,7] (g 20 true (i 27 4 24 26)),a [14,7] (g 20 true (f 28 0 27)),a [15,7] (g 20 true (l 29 28)),a [9,16,7] (g 20 true (o 30 .leq 22 29)),a [7,17,4] (g 17 false (v 31 20 30)),a [4,18] (u 32 17 31),a [19,7] (m 33 32),a [20] (g 33 false (f 34 1 5)),a [21,20] (g 33 false (l 35 34)),a [20] (g 33 false (f 36 2 5)),a [23,20] (g 33 false (l 37 36)),a [22,24,20,20] (g 33 false (w 38 (.call 147 [.t 35,.c I,.t 37]))),a [25,20] (g 33 false (t 39 38)),a [20,26] (u 40 33 39),a [27,25] (m 41 40),a [28] (g 41 false (f 42 2 5)),a [29,28] (g 41 false (l 43 42)),a [30,28] (g 41 false (k 44 .gtr 43 (.int .i64 999))),a [28,31] (u 45 41 44),a [32,28] (m 46 45),a [33] (g 46 false (f 47 3 5)),a [34,33] (g 46 false (l 48 47)),a [35,33] (g 46 false (e 49 48)),a [36,33] (g 46 false (k 50 .gtr 49 (.int .i64 8))),a [33,37] (u 51 46 50)],K 51 3 [n 4 (.bool false)]],r 4 [f 52 0 2,f 53 0 52,L 54 1 53,c 55 54 [54],m 6 55],S [r 5 [n 7 O],.block 0 (.loop (S [S [r 6 [m 56 7,f 57 3 5,l 58 57,e 59 58,o 60 .lss 56 59],.cond (.t 60) .skip (.exit 0)],.block 1 (S [R 8 [m 63 6,f 64 3 5,a [1] (l 65 64),m 66 7,a [2,3] (i 67 1 65 66),a [4] (l 68 67),a [0,5] (c 69 104 [63,68]),a [6] (t 70 69),a [7,6] (m 71 70),a [8] (g 71 false (m 72 7)),a [9,8] (g 71 false (k 73 .gtr 72 O)),a [10,8,8] (g 71 false (m 74 73)),a [11] (g 74 true (f 75 3 5)),a [12,11] (g 74 true (l 76 75)),a [11] (g 74 true (m 77 7)),a [13,14,11] (g 74 true (i 78 1 76 77)),a [15,11] (g 74 true (l 79 78)),a [11] (g 74 true (f 80 3 5)),a [17,11] (g 74 true (l 81 80)),a [11] (g 74 true (m 82 7)),a [19,11] (g 74 true (k 83 .sub 82 I)),a [18,20,11] (g 74 true (i 84 1 81 83)),a [21,11] (g 74 true (l 85 84)),a [16,22,11] (g 74 true (o 86 .leq 79 85)),a [11,23,8] (g 71 false (v 87 74 86)),a [8,24] (u 88 71 87)],K 88 9 [n 4 (.bool false)]]),r 7 [m 61 7,k 62 .add 61 I,m 7 62]]))],r 10 [n 4 (.bool true)],.ret]
def ZjY:List RRes:=[.t 4]
def ZjZ:PCt prog 135 f135 ZjX ZjY:=pcT func135 rfl
def Zk0:RCode :=
 S [r 0 [b 2 0,n 4 O],S [r 1 [n 5 O],.block 0 (.loop (S [S [r 2 [m 6 5,f 7 2 2,l 8 7,e 9 8,o 10 .lss 6 9],.cond (.t 10) .skip (.exit 0)],.block 1 (S [r 4 [f 13 2 2,l 14 13,m 15 5,i 16 4 14 15,f 17 0 16,l 18 17,m 19 1,o 20 .eql 18 19],K 20 5 [m 21 5,m 4 21]]),r 3 [m 11 5,k 12 .add 11 I,m 5 12]]))],r 6 [n 4 (.int .i64 (-1))],.ret]
def Zk1:List RRes:=[.t 4]
def Zk2:PCt prog 83 f83 Zk0 Zk1:=pcT func83 rfl
def Zk3:RCode :=
 S [r 0 [b 2 0,n 4 (.bool false)],r 1 [f 8 3 2,l 9 8,m 10 1,i 11 7 9 10,L 12 7 11,w 5 (.alloc [O,O,O,O,O,O,.int .u8 0]),s 7 5 12],S [R 2 [f 13 0 5,a [0] (l 14 13),a [1] (w 15 (.call 147 [.t 14,.c I,.c (.int .i64 9999)])),a [2] (t 16 15),a [3,2] (m 17 16),a [4] (g 17 false (m 18 1)),a [5,4] (g 17 false (k 19 .gtr 18 O)),a [6,4,4] (g 17 false (m 20 19)),a [7] (g 20 true (f 21 0 5)),a [8,7] (g 20 true (l 22 21)),a [7] (g 20 true (f 23 3 2)),a [10,7] (g 20 true (l 24 23)),a [7] (g 20 true (m 25 1)),a [12,7] (g 20 true (k 26 .sub 25 I)),a [11,13,7] (g 20 true (i 27 7 24 26)),a [14,7] (g 20 true (f 28 0 27)),a [15,7] (g 20 true (l 29 28)),a [9,16,7] (g 20 true (o 30 .leq 22 29)),a [7,17,4] (g 17 false (v 31 20 30)),a [4,18] (u 32 17 31),a [19,7] (m 33 32),a [20] (g 33 false (f 34 1 5)),a [21,20] (g 33 false (l 35 34)),a [22,20,20] (g 33 false (w 36 (.call 147 [.t 35,.c O,.c (.int .i64 14610)]))),a [23,20] (g 33 false (t 37 36)),a [20,24] (u 38 33 37),a [25,23] (m 39 38),a [26] (g 39 false (L 40 4 2)),a [26] (g 39 false (f 41 2 5)),a [28,26] (g 39 false (l 42 41)),a [27,29,26,26] (g 39 false (c 43 83 [40,42])),a [30,26] (g 39 false (k 44 .lss 43 O)),a [26,31] (u 45 39 44),a [32,30] (m 46 45),a [33] (g 46 false (f 47 6 5)),a [34,33] (g 46 false (l 48 47)),a [35,33] (g 46 false (k 49 .gtr 48 (.int .u8 2))),a [33,36] (u 50 46 49)],K 50 3 [n 4 (.bool false)]],S [r 4 [f 52 0 2,f 53 0 52,L 54 1 53,f 55 3 5,L 56 2 55,c 57 172 [54,56],m 51 57,x 58 0 51,x 59 1 51,w 6 (.alloc [O,O,.int .u8 0,.nils,.nils]),s 5 6 58,m 7 59],r 5 [m 60 7,t 61 60],K 61 6 [n 4 (.bool false)]],r 7 [f 62 5 5,l 63 62,k 64 .eql 63 (.int .i64 (-1)),m 65 64,g 65 false (f 66 5 5),g 65 false (l 67 66),g 65 false (f 68 1 5),g 65 false (l 69 68),g 65 false (w 70 (.call 147 [.t 67,.t 69,.c (.int .i64 14610)])),g 65 false (m 71 70),g 71 true (f 72 6 5),g 71 true (l 73 72),g 71 true (k 74 .eql 73 (.int .u8 0)),g 65 false (v 75 71 74),u 76 65 75,m 4 76],.ret]
def Zk4:List RRes:=[.t 4]
def Zk5:PCt prog 136 f136 Zk3 Zk4:=pcT func136 rfl
def Zk6:RCode :=
 S [r 0 [b 1 0,n 2 (.bool false)],S [r 1 [f 5 2 1,l 6 5,e 7 6,k 8 .gtr 7 (.int .i64 6),m 9 8,g 9 false (f 10 3 1),g 9 false (l 11 10),g 9 false (e 12 11),g 9 false (k 13 .gtr 12 (.int .i64 30)),u 14 9 13],K 14 2 [n 2 (.bool false)]],S [r 3 [n 3 O],.block 0 (.loop (S [S [r 4 [m 15 3,f 16 2 1,l 17 16,e 18 17,o 19 .lss 15 18],.cond (.t 19) .skip (.exit 0)],.block 1 (S [r 6 [L 22 4 1,m 23 3,c 24 135 [22,23],t 25 24],K 25 7 [n 2 (.bool false)]]),r 5 [m 20 3,k 21 .add 20 I,m 3 21]]))],S [r 8 [n 4 O],.block 2 (.loop (S [S [r 9 [m 26 4,f 27 3 1,l 28 27,e 29 28,o 30 .lss 26 29],.cond (.t 30) .skip (.exit 2)],.block 3 (S [r 11 [L 33 4 1,m 34 4,c 35 136 [33,34],t 36 35],K 36 12 [n 2 (.bool false)]]),r 10 [m 31 4,k 32 .add 31 I,m 4 32]]))],r 13 [n 2 (.bool true)],.ret]
def Zk7:List RRes:=[.t 2]
def Zk8:PCt prog 78 f78 Zk6 Zk7:=pcT func78 rfl
def Zk9:RCode :=
 S [r 0 [b 1 0,n 2 O],S [r 1 [f 4 0 1,L 5 2 4,c 6 77 [5],m 3 6],r 2 [m 7 3,k 8 .neq 7 O],K 8 3 [m 9 3,m 2 9]],S [r 4 [L 10 4 1,c 11 78 [10],t 12 11],K 12 5 [n 2 (.int .i64 70)]],r 6 [n 2 O],.ret]
def Zka:List RRes:=[.t 2]
def Zkb:PCt prog 24 f24 Zk9 Zka:=pcT func24 rfl
def Zkc:RCode :=
 S [r 0 [b 2 0,n 4 (.bool false)],r 1 [f 5 1 2,l 6 5,m 7 1,o 8 .leq 6 7,m 9 8,g 9 true (f 10 5 2),g 9 true (l 11 10),g 9 true (k 12 .eql 11 (.int .i64 (-1))),g 9 true (m 13 12),g 13 false (f 14 5 2),g 13 false (l 15 14),g 13 false (m 16 1),g 13 false (o 17 .gtr 15 16),g 9 true (u 18 13 17),v 19 9 18,m 20 19,g 20 true (f 21 6 2),g 20 true (l 22 21),g 20 true (k 23 .neq 22 (.int .u8 2)),v 24 20 23,m 4 24],.ret]
def Zkd:List RRes:=[.t 4]
def Zke:PCt prog 57 f57 Zkc Zkd:=pcT func57 rfl
def Zkf:RCode :=
 S [r 0 [b 1 0,n 2 (.bool false)],S [r 1 [f 4 0 1,L 5 2 4,c 6 67 [5],m 7 6,g 7 false (f 8 2 1),g 7 false (l 9 8),g 7 false (e 10 9),g 7 false (k 11 .gtr 10 (.int .i64 8)),u 12 7 11,m 13 12,g 13 false (f 14 3 1),g 13 false (l 15 14),g 13 false (e 16 15),g 13 false (k 17 .gtr 16 (.int .i64 40)),u 18 13 17],K 18 2 [n 2 (.bool true)]],S [r 3 [n 3 O],.block 0 (.loop (S [S [r 4 [m 19 3,f 20 2 1,l 21 20,e 22 21,o 23 .lss 19 22],.cond (.t 23) .skip (.exit 0)],.block 1 (S [r 6 [f 26 2 1,l 27 26,m 28 3,i 29 4 27 28,f 30 3 29,l 31 30,e 32 31,k 33 .gtr 32 (.int .i64 20)],K 33 7 [n 2 (.bool true)]]),r 5 [m 24 3,k 25 .add 24 I,m 3 25]]))],r 8 [n 2 (.bool false)],.ret]
def Zkg:List RRes:=[.t 2]
def Zkh:PCt prog 17 f17 Zkf Zkg:=pcT func17 rfl
end
def Zki {r:Jr} (h:openV r=0):r≠[]:=by
 rintro rfl;exact absurd h (by decide)
def Zkj (n lo hi:Int):PC prog G 147 [.int .i64 n,.int .i64 lo,.int .i64 hi] (.bool (inR n lo hi)):=by
 (refine ZjT rfl λR hG hrd=>Qga ?_;subst hG)
 by_cases h1:lo<=n <;> by_cases h2:n<=hi <;> simp -implicitDefEqProofs[ZjR,ZjS,inR,h1,h2]
def Zkk (l:List Int) (n:Int) (h:Sml l):PC prog G 104 [.vsl (l.map ia),.int .i64 n] (.bool (decide (n∈l))):=by
 (refine ZjW rfl λR hG hrd=>Qga ?_;subst hG)
 unfold Sml at h;simp -implicitDefEqProofs[ZjU,ZjV];refine Z8a (λi=>⟨[(5,.int .i64 i),(0,.vsl (l.map ia)),(1,.int .i64 n)],[]⟩) (λi=>∀ j (h:j<l.length),j<i->¬l[j]=n) l.length (by (first|exact Wka|exact Wkb)) (by simp) ?_ ?_
 . intro i hi he;refine Qga ?_;have w1:i64.wrap ((i:Int)+1)=(i:Int)+1:=Yf;by_cases e:l[i]=n
   . have hm:n∈l:=e ▸ W0e hi;simp -implicitDefEqProofs[hi,ia,e];refine Qgr ?_;simp -implicitDefEqProofs[hm]
   . simp -implicitDefEqProofs[hi,ia,e,w1];refine ⟨by (first|exact Wka|exact Wkb),λj hj hji=>?_⟩;rcases W0q j i with h2|h2
     . exact he j hj h2
     . obtain rfl:j=i:=(by omega);exact e
 . intro he;refine Qga ?_
   have hm:¬n∈l:=λhm=>by
    obtain ⟨j,hj,e⟩:=W0k hm;exact he j hj hj e
   simp -implicitDefEqProofs;refine Qgr ?_;simp -implicitDefEqProofs[hm]
def Zkl (r:Jr) (l:Jl) (hs:Jh) (ps:Jp) (id:Int) (hh:Sml hs):PC prog G 83 [prA r l hs ps,.int .i64 id] (.int .i64 (hoI hs id)):=by
 unfold Sml at hh;unfold prA
 (refine Zk2 rfl λR hG hrd=>Qga ?_;subst hG)
 simp -implicitDefEqProofs[Zk0,Zk1];refine Z8a (λi=>⟨[(5,.int .i64 i),(2,.ptr 2 0),(1,.int .i64 id)],[(2,.box [.vsl (r.map isa),.vsl (l.map na),.vsl (hs.map hoa),.vsl (ps.map ptA)])]⟩) (λi=>∀ j (h:j<hs.length),j<i->decide (hs[j].id=id)=false) hs.length ?_ (by simp) ?_ ?_
 . (refine Wkc ?_;simp only[Wkl,and_true];(try simp[lk,Yc,Ya,AV.keys]))
 . intro i hi he;refine Qga ?_;have w1:i64.wrap ((i:Int)+1)=(i:Int)+1:=Yf;by_cases h:hs[i].id=id
   . have hf:hoI hs id=i:=(by unfold hoI;exact Z8X hi (by simpa using h) he);simp -implicitDefEqProofs[hi,hoa,h];refine Qgr ?_;simp -implicitDefEqProofs[hf]
   . simp -implicitDefEqProofs[hi,hoa,h,w1];refine ⟨?_,λj q1 q2=>?_⟩
     . (refine Wkc ?_;simp only[Wkl,and_true];(try simp[lk,Yc,Ya,AV.keys]))
     . by_cases e:j=i
       . subst e;simpa using h
       . simpa using he j q1 (by omega)
 . intro he;refine Qga ?_;have hf:hoI hs id = -1:=(by unfold hoI;exact Z8Y (λj hj=>he j hj hj));simp -implicitDefEqProofs;refine Qgr ?_;simp -implicitDefEqProofs[hf]
def Zkm (x:Prt) (day:Int):PC prog G 57 [.agg (ptA x),.int .i64 day] (.bool (outB x day)):=by
 (refine Zke rfl λR hG hrd=>Qga ?_;subst hG)
 by_cases h1:x.dy<=day
 . by_cases h2:x.bk = -1
   . by_cases h3:x.lo=2
     . simp -implicitDefEqProofs[Zkc,Zkd,ptA,h1,h2,h3,outB]
     . simp -implicitDefEqProofs[Zkc,Zkd,ptA,h1,h2,h3,outB]
   . by_cases h4:day<x.bk
     . by_cases h3:x.lo=2
       . simp -implicitDefEqProofs[Zkc,Zkd,ptA,h1,h2,h3,h4,outB]
       . simp -implicitDefEqProofs[Zkc,Zkd,ptA,h1,h2,h3,h4,outB]
     . simp -implicitDefEqProofs[Zkc,Zkd,ptA,h1,h2,h4,outB]
 . simp -implicitDefEqProofs[Zkc,Zkd,ptA,h1,outB]
def Zkn (r:Jr) (l:Jl) (hs:Jh) (ps:Jp) (i:Nat) (hi:i<hs.length) (hr:Sml r) (hne:r≠[]) (hd:Sml (nums r)) (hw:WfP hs ps) :
  PC prog G 135 [prA r l hs ps,.int .i64 i] (.bool (hoB (nums r) hs i)):=by
 have hl:=hw.hl;have hn:=Z8s (G:=G) r hr hne;rw[rega]at hn;have hC:=λn=>Zkk (G:=G) (nums r) n hd
 have hx:=Zi0 hi;have hds:=hw.dl _ (W0e hi);have heq:=ZiX (nums r) hs i;obtain ⟨h,hhe⟩:=Qex (hs[i]);rw[<- hhe]at hx hds;have hlx:hs[i]=h:=hhe.symm;have hho:hoa h=[.int .i64 h.id,.int .i64 h.fr,.int .i64 h.to,.vsl (h.ds.map ia)]:=rfl;have hC0:hoC hs i=(inR h.id 1 9999&&(i == 0||decide ((hAt hs (i-1)).id<h.id))&&inR h.fr 1 h.to&&decide (h.to<=999)&&decide (h.ds.length<=8)):=(by unfold hoC;rw[hx]);have hno2:hoC hs i=false->hoB (nums r) hs i=false:=λq=>by rw[heq,q];rfl
 have c1:=Zkj (G:=G) h.id 1 9999;have c2:=Zkj (G:=G) h.fr 1 h.to;unfold prA;refine ZjZ rfl λR hG hrd=>?_
 subst hG;refine Qga ?_
 cases q1:inR h.id 1 9999
 . have e:=hno2 (by rw[hC0,q1];rfl);rw[q1]at c1
   cases i
   case' zero=>simp -implicitDefEqProofs[ZjX,ZjY,hi,hlx,hho]
   case' succ k =>
    have k1:(k:Int)+1<hs.length:=(by omega);have k2:((k:Int)+1).toNat=k+1:=(by omega);have k3:(0:Int)<=(k:Int)+1:=(by omega);simp -implicitDefEqProofs[ZjX,ZjY,k1,k2,k3,hi,hlx,hho]
   all_goals
    refine Qco (c1) ?_;simp -implicitDefEqProofs;exact ⟨rfl,e⟩
 rw[q1]at c1;obtain ⟨I,hIe⟩:=Qex i
 cases i
 case' zero =>
  have q2:hoC hs 0=(inR h.fr 1 h.to&&decide (h.to<=999)&&decide (h.ds.length<=8)):=(by rw[hC0,q1];rfl);simp -implicitDefEqProofs[ZjX,ZjY,hi,hlx,hho];refine Qco (c1) ?_;simp -implicitDefEqProofs
 case' succ k =>
  have hk:k<hs.length:=(by omega);have w0:i64.wrap ((k:Int)+1-1)=(k:Int):=(by rw[Yf (by omega) (by omega)];omega);have w2:i64.wrap (k:Int)=(k:Int):=Yf;have g0:(0:Int)<(k:Int)+1:=(by omega);have k1:(k:Int)+1<hs.length:=(by omega);have k2:((k:Int)+1).toNat=k+1:=(by omega);have k3:(0:Int)<=(k:Int)+1:=(by omega);have hhk:hoa hs[k]=[.int .i64 hs[k].id,.int .i64 hs[k].fr,.int .i64 hs[k].to,.vsl (hs[k].ds.map ia)]:=rfl;simp -implicitDefEqProofs[ZjX,ZjY,k1,k2,k3,hi,hlx,hho];refine Qco (c1) ?_;by_cases hp:hs[k].id<h.id
  case' neg =>
   have e:=hno2 (by rw[hC0,W19,Zi0 hk,W0S hp];simp);have hp2:h.id<=hs[k].id:=(by omega);simp -implicitDefEqProofs[hk,w0,w2,g0,hhk,hp2,hho];exact ⟨rfl,e⟩
  have hp2:¬h.id<=hs[k].id:=(by omega);have q2:hoC hs (k+1)=(inR h.fr 1 h.to&&decide (h.to<=999)&&decide (h.ds.length<=8)):=(by rw[hC0,q1,W19,Zi0 hk,W0M hp];simp);simp -implicitDefEqProofs[hk,w0,w2,g0,hhk,hp2,hho]
 all_goals
  refine Qco (c2) ?_
  cases q3:inR h.fr 1 h.to
  case false =>
   have e:=hno2 (by rw[q2,q3];rfl);simp -implicitDefEqProofs;exact ⟨rfl,e⟩
  by_cases q4:999<h.to
  case pos =>
   have e:=hno2 (by rw[q2,W0S (show ¬h.to<=999 by omega)];simp);simp -implicitDefEqProofs[hho,q4];exact ⟨rfl,e⟩
  by_cases q5:8<h.ds.length
  case pos =>
   have q5':(8:Int)<h.ds.length:=(by omega);have e:=hno2 (by rw[q2,W0S (show ¬h.ds.length<=8 by omega)];simp);simp -implicitDefEqProofs[hho,q4,q5'];exact ⟨rfl,e⟩
  have q5':¬(8:Int)<h.ds.length:=(by omega);rw[q3,W0M (show h.to<=999 by omega),W0M (show h.ds.length<=8 by omega)]at q2;simp -implicitDefEqProofs[hho,q4,q5'];refine ⟨rfl,?_⟩;refine Qco (hn) ?_;simp -implicitDefEqProofs;refine Z8a (λk=>⟨[(7,.int .i64 k),(6,.vsl ((nums r).map ia)),(5,.ptr 5 0)],[(5,.box (hoa h))]⟩) (λk=>∀ j,j<k->wkC (nums r) h.ds j=true) h.ds.length ?_ (by simp) ?_ ?_
  . ((try simp only[hho]);refine Ym.sub (by simp[lk,Ya,AV.keys,hho]) ?_;simp only[hho,Wkl,and_true];(try simp[lk,Yc,Ya,AV.keys,hho]))
  . intro k hk hK
    have hwf:wkC (nums r) h.ds k=false->hoB (nums r) hs I=false:=λq=>by
     rw[hIe,heq,hx]
     cases q6:(List.range h.ds.length).all (wkC (nums r) h.ds)
     . rw[W2a]
     . have:=Z8r.1 q6 k hk;rw[q]at this;cases this
    rw[hIe]at hwf;have hcd:=hC h.ds[k];have gd:h.ds.getD k 0=h.ds[k]:=(by simp[W0j,hk]);refine Qga ?_;by_cases m1:h.ds[k]∈nums r
    case neg =>
     have e:=hwf (by rw[wkC,gd];simp[m1]);rw[W0S m1]at hcd
     cases k
     case' zero=>simp -implicitDefEqProofs[hk,ia,hho]
     case' succ p =>
      have k1:(p:Int)+1<h.ds.length:=(by omega);have k2:((p:Int)+1).toNat=p+1:=(by omega);have k3:(0:Int)<=(p:Int)+1:=(by omega);simp -implicitDefEqProofs[k1,k2,k3,hk,ia,hho]
     all_goals
      refine Qco (hcd) ?_;simp -implicitDefEqProofs;refine ⟨rfl,?_⟩;refine Qgr ?_;simp -implicitDefEqProofs[e]
      done
    rw[W0M m1]at hcd
    cases k with
    | zero =>
      have e:wkC (nums r) h.ds 0=true:=(by rw[wkC,gd];simp[m1]);have w1:i64.wrap 1=1:=rfl;simp -implicitDefEqProofs[hk,ia,hho];refine Qco (hcd) ?_;simp -implicitDefEqProofs[w1];refine ⟨rfl,?_,e⟩
      ((try simp only[hho]);refine Ym.sub (by simp[lk,Ya,AV.keys,hho]) ?_;simp only[hho,Wkl,and_true];(try simp[lk,Yc,Ya,AV.keys,hho]))
    | succ p =>
      have hp:p<h.ds.length:=(by omega);have g2:h.ds.getD p 0=h.ds[p]:=(by simp[W0j,hp]);have w0:i64.wrap ((p:Int)+1-1)=(p:Int):=(by rw[Yf (by omega) (by omega)];omega);have w2:i64.wrap (p:Int)=(p:Int):=Yf;have g0:(0:Int)<(p:Int)+1:=(by omega);have k1:(p:Int)+1<h.ds.length:=(by omega);have k2:((p:Int)+1).toNat=p+1:=(by omega);have k3:(0:Int)<=(p:Int)+1:=(by omega);have wk2:i64.wrap ((p:Int)+1+1)=(p:Int)+1+1:=Yf;by_cases m2:h.ds[p]<h.ds[p+1]
      . have e:wkC (nums r) h.ds (p+1)=true:=(by rw[wkC,gd,W19,g2];simp[m1,m2]);have m3:¬h.ds[p+1]<=h.ds[p]:=(by omega);simp -implicitDefEqProofs[k1,k2,k3,hk,ia,hho];refine Qco (hcd) ?_;simp -implicitDefEqProofs[hp,w0,w2,g0,hho,ia,m3,wk2,k1,k2,k3,hk];refine ⟨rfl,?_,λj hj=>?_⟩
        . ((try simp only[hho]);refine Ym.sub (by simp[lk,Ya,AV.keys,hho]) ?_;simp only[hho,Wkl,and_true];(try simp[lk,Yc,Ya,AV.keys,hho]))
        . rcases W0q j (p+1) with h4|h4
          . exact hK j h4
          . obtain rfl:j=p+1:=(by omega);exact e
      . have e:=hwf (by rw[wkC,gd,W19,g2];simp[m2]);have m3:h.ds[p+1]<=h.ds[p]:=(by omega);simp -implicitDefEqProofs[k1,k2,k3,hk,ia,hho];refine Qco (hcd) ?_;simp -implicitDefEqProofs[hp,w0,w2,g0,hho,ia,m3,k1,k2,k3,hk];refine ⟨rfl,?_⟩;refine Qgr ?_;simp -implicitDefEqProofs[e]
  . intro hK
    have e:hoB (nums r) hs I=true:=by
     rw[hIe,heq,q2,hx];simp only[W1k,Bool.and_self];exact Z8r.2 hK
    rw[hIe]at e;refine Qga ?_;simp -implicitDefEqProofs[hho];refine Qgr ?_;simp -implicitDefEqProofs[e]
def Zko (r:Jr) (l:Jl) (hs:Jh) (ps:Jp) (i:Nat) (hi:i<ps.length) (hr:Sml r) (hw:WfP hs ps) :
  PC prog G 136 [prA r l hs ps,.int .i64 i] (.bool (shB r hs ps i)):=by
 have hpl:=hw.pl;have hh:Sml hs:=(by have:=hw.hl;unfold Sml;omega);have hx:=Zi1 hi;obtain ⟨x,hxe⟩:=Qex (ps[i]);have hpo:=hw.po _ (W0e hi);rw[<- hxe]at hx hpo;have hlx:ps[i]=x:=hxe.symm;have hpt:ptA x=[.int .i64 x.no,.int .i64 x.dy,.int .i64 x.ho,.int .i64 x.dw,.int .i64 x.lt,.int .i64 x.bk,.int .u8 x.lo]:=rfl;have hsh:shB r hs ps i=((i == 0||decide ((pAt ps (i-1)).no<x.no))&&prB r hs x):=(by unfold shB;rw[hx]);have c1:=Zkj (G:=G) x.no 1 9999;have c2:=Zkj (G:=G) x.dy 0 14610;have c3:=Zkl (G:=G) r l hs ps x.ho hh;have c4:=Z8q (G:=G) r x.dw x.lt hr;have c5:=Zkj (G:=G) x.bk x.dy 14610;rw[rega]at c4;have hI:=hoF_I hs x.ho;have hfst:∀ c:Bool,prB r hs x=false->(c&&prB r hs x)=false:=λc h=>by rw[h,W2a]
 unfold prA at *;refine Zk5 rfl λR hG hrd=>?_
 subst hG;refine Qga ?_
 cases q1:inR x.no 1 9999
 . have e:shB r hs ps i=false:=(by rw[hsh];exact hfst _ (by simp[prB,q1]));rw[q1]at c1
   cases i
   case' zero=>simp -implicitDefEqProofs[Zk3,Zk4,hi,hlx,hpt]
   case' succ k =>
    have k1:(k:Int)+1<ps.length:=(by omega);have k2:((k:Int)+1).toNat=k+1:=(by omega);have k3:(0:Int)<=(k:Int)+1:=(by omega);simp -implicitDefEqProofs[Zk3,Zk4,k1,k2,k3,hi,hlx,hpt]
   all_goals
    refine Qco (c1) ?_;simp -implicitDefEqProofs;exact ⟨rfl,e⟩
 rw[q1]at c1;obtain ⟨P,hP⟩:=Qex (shB r hs ps i);rw[<- hP]
 cases i
 case' zero =>
  have q2:P=prB r hs x:=(by rw[hP,hsh];rfl);simp -implicitDefEqProofs[Zk3,Zk4,hi,hlx,hpt];refine Qco (c1) ?_;simp -implicitDefEqProofs
 case' succ k =>
  have hk:k<ps.length:=(by omega);have w0:i64.wrap ((k:Int)+1-1)=(k:Int):=(by rw[Yf (by omega) (by omega)];omega);have w2:i64.wrap (k:Int)=(k:Int):=Yf;have g0:(0:Int)<(k:Int)+1:=(by omega);have k1:(k:Int)+1<ps.length:=(by omega);have k2:((k:Int)+1).toNat=k+1:=(by omega);have k3:(0:Int)<=(k:Int)+1:=(by omega);have hpk:ptA ps[k]=[.int .i64 ps[k].no,.int .i64 ps[k].dy,.int .i64 ps[k].ho,.int .i64 ps[k].dw,.int .i64 ps[k].lt,.int .i64 ps[k].bk,.int .u8 ps[k].lo]:=rfl;simp -implicitDefEqProofs[Zk3,Zk4,k1,k2,k3,hi,hlx,hpt];refine Qco (c1) ?_;by_cases hp:ps[k].no<x.no
  case' neg =>
   have e:P=false:=(by rw[hP,hsh,W19,Zi1 hk,W0S hp];simp);have hp2:x.no<=ps[k].no:=(by omega);simp -implicitDefEqProofs[hk,w0,w2,g0,hpk,hp2,hpt];exact ⟨rfl,e⟩
  have hp2:¬x.no<=ps[k].no:=(by omega);have q2:P=prB r hs x:=(by rw[hP,hsh,W19,Zi1 hk,W0M hp];simp);simp -implicitDefEqProofs[hk,w0,w2,g0,hpk,hp2,hpt]
 all_goals
  clear hP hsh;subst q2;refine Qco (c2) ?_
  cases q3:inR x.dy 0 14610
  case false =>
   have e:prB r hs x=false:=(by simp[prB,q3]);simp -implicitDefEqProofs;exact ⟨rfl,e⟩
  simp -implicitDefEqProofs;refine Qco (c3) ?_;by_cases q4:hoI hs x.ho<0
  case pos =>
   have e:prB r hs x=false:=by
    rw[W0S (show ¬0<=hoI hs x.ho by omega)]at hI;simp[prB,<- hI]
   simp -implicitDefEqProofs[q4];exact ⟨rfl,e⟩
  rw[W0M (show 0<=hoI hs x.ho by omega)]at hI;by_cases q5:2<x.lo
  case pos =>
   have e:prB r hs x=false:=by
    have:¬x.lo<=2:=(by omega);simp[prB,this]
   simp -implicitDefEqProofs[q4,hpt,q5];exact ⟨rfl,e⟩
  have q5':x.lo<=2:=(by omega);simp -implicitDefEqProofs[q4,hpt,q5];refine ⟨rfl,?_⟩;refine Qco (c4) ?_
  cases q6:findN x.dw x.lt r with
  | none =>
    have e:prB r hs x=false:=(by simp[prB,q6]);simp -implicitDefEqProofs[q6,fndA,noIs,e]
  | some y =>
    have ey:isa y=[.int .i64 y.d,.int .i64 y.l,.int .u8 y.k,.vsl (y.its.map ita),.vsl (y.dms.map dma)]:=rfl;have e:prB r hs x=(decide (x.bk = -1)||(inR x.bk x.dy 14610&&decide (x.lo=0))):=(by simp[prB,q1,q3,<- hI,q5',q6]);rw[e];by_cases q7:x.bk = -1
    . simp -implicitDefEqProofs[q6,fndA,ey,hpt,q7]
    . simp -implicitDefEqProofs[q6,fndA,ey,hpt,q7];refine Qco (c5) ?_
      cases inR x.bk x.dy 14610
      . simp -implicitDefEqProofs
      . simp -implicitDefEqProofs[hpt]
def Zkp (r:Jr) (l:Jl) (hs:Jh) (ps:Jp) (hr:Sml r) (hne:r≠[]) (hd:Sml (nums r)) (hw:WfP hs ps):PC prog G 78 [prA r l hs ps] (.bool (ptsB r hs ps)):=by
 have hl:=hw.hl;have hp:=hw.pl;have c1:=λi hi=>Zkn (G:=G) r l hs ps i hi hr hne hd hw
 have c2:=λi hi=>Zko (G:=G) r l hs ps i hi hr hw
 unfold prA at *;refine Zk8 rfl λR hG hrd=>?_
 subst hG;refine Qga ?_;by_cases h6:6<hs.length
 . have h6':(6:Int)<hs.length:=by omega
   have e:ptsB r hs ps=false:=by
    have:¬hs.length<=6:=(by omega);simp[ptsB,this]
   simp -implicitDefEqProofs[Zk6,Zk7,h6',e]
 have h6':¬(6:Int)<hs.length:=(by omega);by_cases h30:30<ps.length
 . have h30':(30:Int)<ps.length:=by omega
   have e:ptsB r hs ps=false:=by
    have:¬ps.length<=30:=(by omega);simp[ptsB,this]
   simp -implicitDefEqProofs[Zk6,Zk7,h6',h30',e]
 have h30':¬(30:Int)<ps.length:=(by omega);simp -implicitDefEqProofs[Zk6,Zk7,h6',h30'];refine Z8a (λi=>⟨[(3,.int .i64 i),(1,.ptr 1 0)],[(1,.box [.vsl (r.map isa),.vsl (l.map na),.vsl (hs.map hoa),.vsl (ps.map ptA)])]⟩) (λi=>∀ j,j<i->hoB (nums r) hs j=true) hs.length ?_ (by simp) ?_ ?_
 . (refine Wkc ?_;simp only[Wkl,and_true];(try simp[lk,Yc,Ya,AV.keys]))
 . intro i hi he;have c1:=c1 i hi;have wi:i64.wrap ((i:Int)+1)=(i:Int)+1:=Yf;refine Qga ?_
   cases q:hoB (nums r) hs i
   . have e:=ZiV (ps:=ps) hi q;rw[q]at c1;simp -implicitDefEqProofs[hi];refine Qco (c1) ?_;simp -implicitDefEqProofs;refine Qgr ?_;simp -implicitDefEqProofs[e]
   . rw [q]at c1;simp -implicitDefEqProofs[hi];refine Qco (c1) ?_;simp -implicitDefEqProofs[wi];refine ⟨?_,λj hj=>?_⟩
     . (refine Wkc ?_;simp only[Wkl,and_true];(try simp[lk,Yc,Ya,AV.keys]))
     . rcases W0q j i with h4|h4
       . exact he j h4
       . obtain rfl:j=i:=(by omega);exact q
 . intro he;refine Qga ?_;simp -implicitDefEqProofs;refine Qgr ?_;simp -implicitDefEqProofs;refine Z8a (λi=>⟨[(4,.int .i64 i),(1,.ptr 1 0)],[(1,.box [.vsl (r.map isa),.vsl (l.map na),.vsl (hs.map hoa),.vsl (ps.map ptA)])]⟩) (λi=>∀ j,j<i->shB r hs ps j=true) ps.length ?_ (by simp) ?_ ?_
   . (refine Wkc ?_;simp only[Wkl,and_true];(try simp[lk,Yc,Ya,AV.keys]))
   . intro i hi hE;have c2:=c2 i hi;have wi:i64.wrap ((i:Int)+1)=(i:Int)+1:=Yf;refine Qga ?_
     cases q:shB r hs ps i
     . have e:=ZiW hi q;rw[q]at c2;simp -implicitDefEqProofs[hi];refine Qco (c2) ?_;simp -implicitDefEqProofs;refine Qgr ?_;simp -implicitDefEqProofs[e]
     . rw [q]at c2;simp -implicitDefEqProofs[hi];refine Qco (c2) ?_;simp -implicitDefEqProofs[wi];refine ⟨?_,λj hj=>?_⟩
       . (refine Wkc ?_;simp only[Wkl,and_true];(try simp[lk,Yc,Ya,AV.keys]))
       . rcases W0q j i with h4|h4
         . exact hE j h4
         . obtain rfl:j=i:=(by omega);exact q
   . intro hE
     have e:ptsB r hs ps=true:=by
      simp only[ptsB,W01,W0b];exact ⟨⟨⟨by omega,by omega⟩,Z8r.2 he⟩,Z8r.2 hE⟩
     refine Qga ?_;simp -implicitDefEqProofs;refine Qgr ?_;simp -implicitDefEqProofs[e]
def Zkq (r:Jr) (l:Jl) (hs:Jh) (ps:Jp) (hl:WfN l) (hr:Wf r) (hd:Sml (nums r)) (hw:WfP hs ps):PC prog G 24 [prA r l hs ps] (.int .i64 (ck7 r l hs ps)):=by
 have c1:=ZbZ (G:=G) r l hl hr;by_cases h0:chN r l=0
 . have c2:=Zkp (G:=G) r l hs ps hr.1.1 (Zki (Zj0 h0)) hd hw;rw[h0]at c1;unfold prA at *;unfold ck7;rw[if_pos h0]
   (refine Zkb rfl λR hG hrd=>Qga ?_;subst hG)
   simp -implicitDefEqProofs[Zk9,Zka];refine Qco (c1) ?_;simp -implicitDefEqProofs;refine Qco (c2) ?_
   cases q:ptsB r hs ps
   . simp -implicitDefEqProofs
   . simp -implicitDefEqProofs
 . have e:ck7 r l hs ps=chN r l:=(by rw[ck7,if_neg h0]);rw[e];unfold prA
   (refine Zkb rfl λR hG hrd=>Qga ?_;subst hG)
   simp -implicitDefEqProofs[Zk9,Zka];refine Qco (c1) ?_;simp -implicitDefEqProofs[h0]
def Zkr {r:Jr} {l:Jl} {hs:Jh} {ps:Jp} {day m:Int} (h:as7 r l hs ps day m=0):ck7 r l hs ps=0/\inR day 0 14610=true/\inR m 1 999=true:=by
 unfold as7 at h;by_cases c:ck7 r l hs ps=0
 . rw[if_pos c]at h;by_cases c2:inR day 0 14610=true/\inR m 1 999=true
   . exact ⟨c,c2⟩
   . rw[if_neg c2]at h;cases h
 . rw[if_neg c]at h;exact absurd h c
def Zks {r:Jr} {l:Jl} {hs:Jh} {ps:Jp} {day m id:Int} {ds:List Int} (h:ab7 r l hs ps day m id ds=0):as7 r l hs ps day m=0/\0<=hoI hs id/\∀ d∈ds,d∈nums r:=by
 unfold ab7 at h;by_cases c:as7 r l hs ps day m=0
 . rw[if_pos c]at h
   split at h
   . rename_i c2;exact ⟨c,c2.1,λd hd=>by simpa using W03.1 c2.2 d hd⟩
   . cases h
 . rw[if_neg c]at h;exact absurd h c
def helP (id day lo:Int) (x:Prt):Bool:=decide (x.ho=id)&&outB x day&&decide (x.lo=lo)
def helK (id day lo:Int) (ps:Jp) (i:Nat):List Int:=pkL (helP id day lo) (·.no) ps i
def heE (r:Jr) (l:Jl) (hs:Jh) (ps:Jp) (day id:Int):List Int×List Int×Int :=
 if ab7 r l hs ps day 1 id []=0 then (helK id day 0 ps ps.length,helK id day 1 ps ps.length,0) else ([],[],ab7 r l hs ps day 1 id [])
def heA (r:Jr) (l:Jl) (hs:Jh) (ps:Jp) (day id:Int):AV:=.tup [Yg ((heE r l hs ps day id).1.map ia),Yg ((heE r l hs ps day id).2.1.map ia),.int .i64 (heE r l hs ps day id).2.2]
def shP (id:Int) (x:Prt):Bool:=decide (x.ho=id) && !decide (x.lo=1)
def phP (id:Int) (x:Prt):Bool:=decide (x.ho=id)&&decide (x.lo=1)
def shK (id:Int) (L:Jp) (k:Nat):List Int:=pkL (shP id) (·.no) L k
def phK (id:Int) (L:Jp) (k:Nat):List Int:=pkL (phP id) (·.no) L k
def Zkt {ps:Jp} {day id:Int} (hlo:∀ x∈ps,0<=x.lo/\x.lo<=2):shK id (outP ps day) (outP ps day).length=helK id day 0 ps ps.length:=by
 unfold shK helK outP;rw[Zil,Zil,List.filter_filter]
 congr 1
 refine List.filter_congr λx hx=>?_
 have:=hlo x hx;rw[W2h];simp only[shP,helP,outB,W01,W0b,W1C,W1b,W0T]
 constructor
 . rintro ⟨⟨h1,h3⟩,h4,h5⟩;exact ⟨⟨h1,h4,h5⟩,by omega⟩
 . rintro ⟨⟨h1,h4,h5⟩,h3⟩;exact ⟨⟨h1,by omega⟩,h4,h5⟩
def Zku {ps:Jp} {day id:Int}:phK id (outP ps day) (outP ps day).length=helK id day 1 ps ps.length:=by
 unfold phK helK outP;rw[Zil,Zil,List.filter_filter]
 congr 1
 refine List.filter_congr λx hx=>?_
 simp only[phP,helP,Bool.and_assoc,Bool.and_comm,Bool.and_left_comm]
def Zkv {α β:Type} {p:α->Bool} {f:α->β} {L:List α} {j:Nat} (h:pkL p f L j=[]):∀ {i},i<=j->pkL p f L i=[]:=by
 intro i hi
 induction j with
 | zero => obtain rfl:i=0:=by omega
           exact h
 | succ j ih =>
   rcases W0q i (j+1) with c|c
   . exact ih (Zjp h) (by omega)
   . obtain rfl:i=j+1:=(by omega);exact h
def Zkw {α β γ:Type} (p:α->Bool) (f:α->β) (q:α->Bool) (g:α->γ) (L:List α):∃ w:Bool,(∀ k,pkL p f L k=[]->pkL q g L k≠[]->w=true)/\∀ k,pkL q g L k=[]->pkL p f L k≠[]->w=false:=by
 by_cases h:∃ k,pkL p f L k=[]/\pkL q g L k≠[]
 . refine ⟨true,λ_ _ _=>rfl,λk h1 h2=>?_⟩;obtain ⟨j,h3,h4⟩:=h;rcases Nat.le_total j k with c|c
   . exact absurd (Zkv h1 c) h4
   . exact absurd (Zkv h3 c) h2
 . exact ⟨false,λk h1 h2=>absurd ⟨k,h1,h2⟩ h,λ_ _ _=>rfl⟩
def hpB (id:Int) (w:Bool) (S P:List Int):List (Nat×AObj):=[(1005,.box [.int .i64 id]),(1006,.box [nlV 1031 S]),(1007,.box [nlV 1045 P])]++(if w=true then nlO 1045 P++nlO 1031 S else nlO 1031 S++nlO 1045 P)
def hpU (id:Int) (w:Bool) (S T P Q:List Int):List (Nat×AObj):=[(1005,.box [.int .i64 id]),(1006,.box [nlV (nlN 1031 S) T]),(1007,.box [nlV (nlN 1045 P) Q])] ++
 (if w=true then (if P=[] then [] else nlO 1045 Q)++(if S=[] then [] else nlO 1031 T) else (if S=[] then [] else nlO 1031 T)++(if P=[] then [] else nlO 1045 Q))++(if S=[] then nlO 31 T else [])++(if P=[] then nlO 45 Q else [])
def Zkx (hG:GC G) (hN:GN G) (hP:GP G) (r:Jr) (l:Jl) (hs:Jh) (ps:Jp) (day id d:Int) (hl:WfN l) (hr:Wf r) (hd:Sml (nums r)) (hw:WfP hs ps) (hb:ck7 r l hs ps=0->(∀ x∈ps,0<=x.lt/\x.lt<=8)/\∀ x∈ps,0<=x.lo/\x.lo<=2) :
  PC prog G 21 [prA r l hs ps,.int .i64 day,.int .i64 id,.int .i64 d] (if ab7 r l hs ps day 1 id [d]=0 then .tup [.vsl ((wkL ps day id d).map ia),.int .i64 0] else .tup [.nils,.int .i64 (ab7 r l hs ps day 1 id [d])]):=by
 have ha:=Zj5 hG hN hP r l hs ps day 1 id [d] hl hr hd hw (by simp[Sml]);have pO:=Zi9 r l hs ps;have kO:=Zia r l hs ps;have e1:[d].map ia=[[.int .i64 d]]:=rfl;rw[e1]at ha;unfold abP at ha;by_cases h0:ab7 r l hs ps day 1 id [d]=0
 . obtain ⟨g1,g2⟩:=hb (Zkr (Zks h0).1).1;have hW:=Zju (G:=G) r l hs ps day id d hw.pl g1 g2;rw[if_pos h0,h0]at ha;rw[if_pos h0];unfold prA at *;generalize ofA r l hs ps=O at *
   (refine ZhD rfl λR hG hrd=>Qga ?_;subst hG)
   simp -implicitDefEqProofs[ZhB,ZhC];refine Qco (ha) ?_;simp -implicitDefEqProofs;refine Yd.of hW (by simp[pO,AV.pure]) ?_;simp -implicitDefEqProofs[ia]
 . rw[if_neg h0]at ha ⊢;unfold prA at *
   (refine ZhD rfl λR hG hrd=>Qga ?_;subst hG)
   simp -implicitDefEqProofs[ZhB,ZhC];refine Qco (ha) ?_;simp -implicitDefEqProofs[h0]
def Zky (hG:GC G) (hN:GN G) (hP:GP G) (r:Jr) (l:Jl) (hs:Jh) (ps:Jp) (day id:Int) (hl:WfN l) (hr:Wf r) (hd:Sml (nums r)) (hw:WfP hs ps) (hlo:ck7 r l hs ps=0->∀ x∈ps,0<=x.lo/\x.lo<=2) :
  PC prog G 19 [prA r l hs ps,.int .i64 day,.int .i64 id] (heA r l hs ps day id):=by
 have ha0:=Zj5 hG hN hP r l hs ps day 1 id [] hl hr hd hw (by simp[Sml]);have ha:=PC.sub ha0 (xs:=[prA r l hs ps,.int .i64 day,.int .i64 1,.int .i64 id,.nils]) ⟨.rfl',.rfl',.rfl',.rfl',.nils,trivial⟩;have pO:=Zi9 r l hs ps;unfold abP at ha;unfold heA heE;by_cases h0:ab7 r l hs ps day 1 id []=0
 case neg =>
  rw[if_neg h0]at ha ⊢;unfold prA at *
  (refine Zhx rfl λR hG hrd=>Qga ?_;subst hG)
  simp -implicitDefEqProofs[Zhv,Zhw];refine Qco (ha) ?_;simp -implicitDefEqProofs[h0,Yg]
 have g2:=hlo (Zkr (Zks h0).1).1;rw[if_pos h0,h0]at ha;rw[if_pos h0,<- Zkt g2,<- Zku];have hO:=Zjs (G:=G) r l hs ps day;have hit:=outIt (G:=G) r l hs ps day hw.pl;have eN:=Zig ps day;have hat:=λk x h=>Zih (ps:=ps) (day:=day) (k:=k) (x:=x) h
 have hL:(outP ps day).length<=41:=W0O (W0D ..) hw.pl;unfold prA at *;generalize outP ps day=L at *;generalize outE ps day=E at *;obtain ⟨B,hB⟩ : ∃ B:List AV,B=[.vsl (r.map isa),.vsl (l.map na),.vsl (hs.map hoa),.vsl (ps.map ptA)]:=⟨_,rfl⟩;generalize ofA r l hs ps=O at *;refine Zhx rfl λR hG hrd=>?_
 subst hG;refine Qga ?_;simp -implicitDefEqProofs[Zhv,Zhw];refine Qco (ha) ?_;simp -implicitDefEqProofs;refine Yd.of hO (by simp[pO,AV.pure]) ?_;simp -implicitDefEqProofs;obtain ⟨w,hwA,hwB⟩:=Zkw (shP id) (·.no) (phP id) (·.no) L
 refine ZiD hrd (by decide) hit (by simp[evA,St.tmp,lk]) (by simp[AV.pure,pO]) (λk=>k == 11) (by intro k hk;simp at hk;omega) r1K [(5,.ptr 1005 0),(6,.ptr 1006 0),(7,.ptr 1007 0)]
  (λk=>hpB id w (shK id L k) (phK id L k)) (λk=>hpU id w (shK id L k) (shK id L (k+1)) (phK id L k) (phK id L (k+1))) (λk=>k<=L.length) (W1f _) ?_ ?_ ?_ ?_ ?_ ?_ ?_ ?_ ?_ ?_ ?_
 . intro k q hq
   cases w <;> by_cases c1:shK id L k=[] <;> by_cases c2:phK id L k=[] <;> simp[hpB,nlO,c1,c2]at hq
   all_goals
    first
     |(rcases hq with rfl|rfl|rfl <;> simp;done)
     |(rcases hq with rfl|rfl|rfl|rfl <;> simp;done)
     |(rcases hq with rfl|rfl|rfl|rfl|rfl <;> simp;done)
 . intro k
   cases w <;> by_cases c1:shK id L k=[] <;> by_cases c2:phK id L k=[] <;> simp[hpB,nlO,c1,c2,r1K]
 . intro k;simp only[hpU,nlO]
   cases w <;> by_cases c1:shK id L k=[] <;> by_cases c2:phK id L k=[] <;> by_cases c3:shK id L (k+1)=[] <;> by_cases c4:phK id L (k+1)=[] <;> simp[c1,c2,c3,c4,r1K]
 . intro k q hq;have n1:=Zjp (p:=shP id) (f:=(·.no)) (L:=L) (k:=k);have n2:=Zjp (p:=phP id) (f:=(·.no)) (L:=L) (k:=k);simp only[hpB,hpU,nlO]at *
   cases w <;> by_cases c1:shK id L k=[] <;> by_cases c2:phK id L k=[] <;> by_cases c3:shK id L (k+1)=[] <;> by_cases c4:phK id L (k+1)=[]
   all_goals
    first
     |exact absurd (n1 c3) c1
     |exact absurd (n2 c4) c2
     | (simp[c1,c2]at hq
        rcases hq with rfl|rfl|rfl <;> simp[isK,lk,c1,c2,c3,c4];done)
     | (simp[c1,c2]at hq
        rcases hq with rfl|rfl|rfl|rfl <;> simp[isK,lk,c1,c2,c3,c4];done)
     | (simp[c1,c2]at hq
        rcases hq with rfl|rfl|rfl|rfl|rfl <;> simp[isK,lk,c1,c2,c3,c4];done)
 . intro k q hq;simp only[hpB,hpU,nlO]at *
   cases w <;> by_cases c1:shK id L k=[] <;> by_cases c2:phK id L k=[] <;> by_cases c3:shK id L (k+1)=[] <;> by_cases c4:phK id L (k+1)=[]
   all_goals
    simp[c1,c2,c3,c4]at hq
    first
     |(rcases hq with rfl|rfl|rfl <;> first|(left;simp[isK,lk,c1,c2];done)|(right;simp[Yl,r1K,St.get,St.set,putO,lk,c1,c2];done))
     |(rcases hq with rfl|rfl|rfl|rfl <;> first|(left;simp[isK,lk,c1,c2];done)|(right;simp[Yl,r1K,St.get,St.set,putO,lk,c1,c2];done))
     |(rcases hq with rfl|rfl|rfl|rfl|rfl <;> first|(left;simp[isK,lk,c1,c2];done)|(right;simp[Yl,r1K,St.get,St.set,putO,lk,c1,c2];done))
 . intro k;have n1:=Zjp (p:=shP id) (f:=(·.no)) (L:=L) (k:=k);have n2:=Zjp (p:=phP id) (f:=(·.no)) (L:=L) (k:=k);have m1:shK id L k=[]->¬phK id L k=[]->w=true:=hwA k;have m2:phK id L k=[]->¬shK id L k=[]->w=false:=hwB k
   have m3:shK id L k=[]->phK id L k=[]->shK id L (k+1)=[]∨phK id L (k+1)=[]:=λh1 h2=>by
    by_cases c:k<L.length
    . have a1:=Zii (p:=shP id) (f:=(·.no)) c;have a2:=Zii (p:=phP id) (f:=(·.no)) c;by_cases b:shP id L[k]=true
      . right
        have b2:phP id L[k]=false:=by
         simp only[shP,phP,W01,W1C,W1b,Bool.and_eq_false_iff]at b ⊢;exact .inr b.2
        rw[b2]at a2;exact a2.trans h2
      . left
        rw[if_neg b]at a1;exact a1.trans h1
    . left
      unfold shK pkL at *;rw[W0J (by omega)]at *;exact h1
   simp only[hpB,hpU,nlO,nlV,nlN];by_cases c1:shK id L k=[] <;> by_cases c2:phK id L k=[] <;> by_cases c3:shK id L (k+1)=[] <;> by_cases c4:phK id L (k+1)=[]
   all_goals
    first
     |exact absurd (n1 c3) c1
     |exact absurd (n2 c4) c2
     |(have:=m3 c1 c2;simp[c3,c4]at this;done)
     |(simp[m1 c1 c2,c1,c2,c3,c4,Yl,r1K,AV.ren,ZeV,Zjr];done)
     |(simp[m2 c2 c1,c1,c2,c3,c4,Yl,r1K,AV.ren,ZeV,Zjr];done)
     |(cases w <;> simp[c1,c2,c3,c4,Yl,r1K,AV.ren,ZeV,Zjr];done)
 . have e0:shK id L 0=[]:=Zik _ _ _;have e1:phK id L 0=[]:=Zik _ _ _;simp[hpB,nlO,nlV,e0,e1,Yl,r1K,St.set,putO,AObj.ren,AV.ren]
 . intro k q hq;have hk1:∀ o:List (Nat×AObj),Yc o (.row 1 ((shK id L k).map ia))=true:=λo=>ZdJ o _
   have hk2:∀ o:List (Nat×AObj),Yc o (.row 1 ((phK id L k).map ia))=true:=λo=>ZdJ o _
   cases w <;> by_cases c1:shK id L k=[] <;> by_cases c2:phK id L k=[] <;> simp only[hpB,nlO,nlV,c1,c2,if_true,if_false,W05,W1e,W18,W1G,W0g,W0Q,or_false]at hq ⊢
   all_goals
    first
     |(rcases hq with rfl|rfl|rfl <;> first|exact hk1 _|exact hk2 _|(simp[Yc,Ya,AV.keys,lk];done))
     |(rcases hq with rfl|rfl|rfl|rfl <;> first|exact hk1 _|exact hk2 _|(simp[Yc,Ya,AV.keys,lk];done))
     |(rcases hq with rfl|rfl|rfl|rfl|rfl <;> first|exact hk1 _|exact hk2 _|(simp[Yc,Ya,AV.keys,lk];done))
 . intro q hq;simp at hq;rcases hq with rfl|rfl|rfl
   all_goals
    refine ⟨by simp[lk,AV.ren,r1K],by simp,by simp,λj k hk=>?_⟩;simp[AV.keys]at hk;subst hk;simp only[hpB];simp[isK,lk]
 . intro k x hx hk R' hG hN;obtain ⟨i,hkl,rfl⟩:=hat k x hx;have sc:=Zii (p:=shP id) (f:=(·.no)) hkl;have pc:=Zii (p:=phP id) (f:=(·.no)) hkl;have hle:=Zij (shP id) (·.no) L k;have hle2:=Zij (phP id) (·.no) L k;obtain ⟨y,hy⟩:=Qex (L[k]);rw[<- hy]at sc pc ⊢;have hpt:ptA y=[.int .i64 y.no,.int .i64 y.dy,.int .i64 y.ho,.int .i64 y.dw,.int .i64 y.lt,.int .i64 y.bk,.int .u8 y.lo]:=rfl;have e1:∀ k,pkL (shP id) (·.no) L k=shK id L k:=λ_=>rfl
   have e2:∀ k,pkL (phP id) (·.no) L k=phK id L k:=λ_=>rfl
   rw[e1,e1]at sc;rw[e2,e2]at pc;rw[e1]at hle;rw[e2]at hle2;clear hwA hwB;generalize shK id L k=S at *;generalize shK id L (k+1)=T at *;generalize phK id L k=P at *;generalize phK id L (k+1)=Q at *;have bb:(S.length+1)*8<=70368744177664:=(by omega);have bb2:(P.length+1)*8<=70368744177664:=by omega
   cases w <;> by_cases cS:S=[] <;> by_cases cP:P=[]
   all_goals
    refine Qga ?_;simp only[hpB,nlV,nlO,cS,cP,if_true,if_false,W05,W1e,W18,W1G];simp -implicitDefEqProofs[hpt];intro R'' hG'' hN'';refine Qga ?_;by_cases q1:y.ho=id
    case neg =>
     have b1:shP id y=false:=(by simp[shP,q1]);have b2:phP id y=false:=(by simp[phP,q1]);rw[b1]at sc;rw[b2]at pc;have sc:T=S:=sc;have pc:Q=P:=pc;subst sc pc;simp -implicitDefEqProofs[hpt,q1];refine ⟨?_,by omega⟩;simp[hpU,Yi,Zeu,Zj6,frzA,frz,AV.keys,nlV,nlO,nlN,cS,cP]
    by_cases q3:y.lo=1
    . have b1:shP id y=false:=(by simp[shP,q3]);have b2:phP id y=true:=(by simp[phP,q1,q3]);rw[b1]at sc;rw[b2,if_pos rfl]at pc;have sc:T=S:=sc;subst sc;have hne:¬Q=[]:=(by rw[pc];simp);have hTl:Q.length=P.length+1:=(by rw[pc];simp);have em:Q.map ia=P.map ia++[[.int .i64 y.no]]:=(by rw[pc,W0r];rfl);simp -implicitDefEqProofs[hpt,q1,q3,bb2];refine ⟨?_,by omega⟩;simp only[hpU,nlV,nlO,nlN,hne,if_false,hTl,em,cS,cP];simp[cS,cP,Yi,Zeu,frzO,frzA,frz,AV.keys,ia,W0y]
    . have b1:shP id y=true:=(by simp[shP,q1,q3]);have b2:phP id y=false:=(by simp[phP,q3]);rw[b2]at pc;rw[b1,if_pos rfl]at sc;have pc:Q=P:=pc;subst pc;have hne:¬T=[]:=(by rw[sc];simp);have hTl:T.length=S.length+1:=(by rw[sc];simp);have em:T.map ia=S.map ia++[[.int .i64 y.no]]:=(by rw[sc,W0r];rfl);simp -implicitDefEqProofs[hpt,q1,q3,bb];refine ⟨?_,by omega⟩;simp only[hpU,nlV,nlO,nlN,hne,if_false,hTl,em,cS,cP];simp[cS,cP,Yi,Zeu,frzO,frzA,frz,AV.keys,ia,W0y]
 . intro _;rw[eN];generalize shK id L L.length=S at *;generalize phK id L L.length=P at *
   cases w <;> by_cases cS:S=[] <;> by_cases cP:P=[]
   all_goals
    simp only[hpB,nlV,nlO,cS,cP,if_true,if_false,W05,W1e,W18,W1G];simp -implicitDefEqProofs[Yl,r1K,AV.ren,ZeV,Zjr];refine Qgr ?_;simp -implicitDefEqProofs[Yg,cS,cP,ia];rfl
section
open Qq Go.Proofs.Tryz
end
open Go.ChangeShapes Go.WideShapes Go.ChangeAt Go.WideMaps Go.WideElems Go.RowKit Go.Deep
def own:ownKnob prog.godebug=none:=by kernel_rfl
def ZkH:laidOutB prog=true:=by kernel_rfl
def cF:prog.cellsOf 262=1:=by kernel_rfl
def ZkI {P:Program} {G:Jg} {f:FuncId} {args:List AV} {W:World} {vs:Array Value} (h:PC P G f args (.bool true)) (hG:GR G noM W) (hs:vs.size=args.length)
  (hv:∀ (i:Nat) (x:AV) (u:Value),args[i]? = some x->vs[i]? = some u->PV noM W x u):Calls P f vs W λe W'=>e = .returned (.bool true)/\Ext W W' :=
 (h.2 noM W vs (λ_ h=>h.elim) hG hs hv).mono λe W' ⟨v,h1,h2,h3⟩=>by
  cases h2
  exact ⟨h1,h3⟩
def itK:List TY:=[.int .i64,.int .i64]
def dmK:List TY:=[.int .i64,.int .i64,.int .i64]
def isK2:List TY:=[.int .i64,.int .i64,.int .u8,.sl itK,.sl dmK]
def ZkJ {xs:List AV} (h:TVs itK xs):∃ p:Int×Int,xs=ita p:=by
 obtain ⟨x0,_,rfl,h0,h⟩:=h.cons_inv;obtain ⟨x1,_,rfl,h1,h⟩:=h.cons_inv;obtain rfl:=h.nil_inv;obtain ⟨n,rfl,-⟩:=h0.int_inv;obtain ⟨l,rfl,-⟩:=h1.int_inv;exact ⟨(n,l),rfl⟩
def ZkK {xs:List AV} (h:TVs dmK xs):∃ d:Dm,xs=dma d:=by
 obtain ⟨x0,_,rfl,h0,h⟩:=h.cons_inv;obtain ⟨x1,_,rfl,h1,h⟩:=h.cons_inv;obtain ⟨x2,_,rfl,h2,h⟩:=h.cons_inv;obtain rfl:=h.nil_inv;obtain ⟨n,rfl,-⟩:=h0.int_inv;obtain ⟨l,rfl,-⟩:=h1.int_inv;obtain ⟨u,rfl,-⟩:=h2.int_inv;exact ⟨⟨n,l,u⟩,rfl⟩
def KOk (x:Iss):Prop:=0<=x.k/\x.k<=255
def ZkL {xs:List AV} (h:TVs isK2 xs):∃ x:Iss,xs=isa x/\KOk x:=by
 obtain ⟨x0,_,rfl,h0,h⟩:=h.cons_inv;obtain ⟨x1,_,rfl,h1,h⟩:=h.cons_inv;obtain ⟨x2,_,rfl,h2,h⟩:=h.cons_inv;obtain ⟨x3,_,rfl,h3,h⟩:=h.cons_inv;obtain ⟨x4,_,rfl,h4,h⟩:=h.cons_inv;obtain rfl:=h.nil_inv;obtain ⟨n,rfl,-⟩:=h0.int_inv;obtain ⟨l,rfl,-⟩:=h1.int_inv;obtain ⟨k,rfl,hk⟩:=h2.int_inv;obtain ⟨r3,rfl,-,g3⟩:=h3.sl_inv;obtain ⟨r4,rfl,-,g4⟩:=h4.sl_inv;obtain ⟨its,rfl⟩:=ZkE (f:=ita) λr hr=>ZkJ (g3 r hr)
 obtain ⟨dms,rfl⟩:=ZkE (f:=dma) λr hr=>ZkK (g4 r hr)
 exact ⟨⟨n,l,k,its,dms⟩,rfl,bounds_u8 hk⟩
def ZkM {α β:Type} {f:α->β} {p:α->Prop} {rows:List β} (h:∀ r∈rows,∃ d,r=f d/\p d):∃ l:List α,rows=l.map f/\∀ x∈l,p x:=by
 induction rows with
 |nil=>exact ⟨[],rfl,by simp⟩
 | cons r rows ih =>
   obtain ⟨d,rfl,hd⟩:=h r (W0H ..);obtain ⟨l,rfl,hl⟩:=ih λr hr=>h r (W0z _ hr)
   exact ⟨d::l,rfl,λx hx=>by
    rcases W0g.1 hx with rfl|hx
    . exact hd
    . exact hl x hx⟩
def ZkN {G:Jg} (r:Jr):PC prog G 125 [rega r] (.bool (Z8m r)):=by
 by_cases h1:80<r.length
 . (refine Z84 rfl λR hG hrd=>Qga ?_;subst hG)
   have h1':(80:Int)<r.length:=(by omega);simp -implicitDefEqProofs[Z82,Z83,rega,h1',Z8m,h1]
 . exact Z8p r (by unfold Sml;omega)
def ZkO {r:Jr} (h:Z8m r=false) (hk:∀ x∈r,KOk x):Wf r:=by
 simp only[Z8m,W1T,W1b,W26,W0T,W0b,not_or]at h;exact ⟨⟨by unfold Sml;omega,λx hx=>by have:=h.2 x hx;unfold Sml;omega⟩,hk⟩
def gr7 (r:Jr) (l:Jl) (hs:Jh) (ps:Jp):Bool:=Z8m r||decide (16<l.length)||decide (8<hs.length)||decide (40<ps.length)||hs.any λh=>decide (20<h.ds.length)
def ZkP (o:List (Nat×AObj)) (l:Jh):Yc o (.row 4 (l.map hoa))=true:=by
 simp only[Yc,W03,W0i];rintro x ⟨y,-,rfl⟩ v hv;simp only[hoa,W0g,W0Q,or_false]at hv;rcases hv with rfl|rfl|rfl|rfl <;> simp[Ya,AV.keys]
def ZkQ (o:List (Nat×AObj)) (l:Jp):Yc o (.row 7 (l.map ptA))=true:=by
 simp only[Yc,W03,W0i];rintro x ⟨y,-,rfl⟩ v hv;simp only[ptA,W0g,W0Q,or_false]at hv;rcases hv with rfl|rfl|rfl|rfl|rfl|rfl|rfl <;> simp[Ya,AV.keys]
def hlV (k:Nat) (H:Jh):AV:=if H=[] then .nils else .osl k H.length
def hlO (k:Nat) (H:Jh):List (Nat×AObj):=if H=[] then [] else [(k,.row 4 (H.map hoa))]
def ZkR (r:Jr) (l:Jl):PC prog G 67 [.agg [.vsl (r.map isa),.vsl (l.map na)]] (.bool (Z8m r||decide (16<l.length))):=by
 have hg:=ZkN (G:=G) r;rw[rega]at hg
 (refine ZbQ rfl λR hG hrd=>Qga ?_;subst hG)
 simp -implicitDefEqProofs[ZbO,ZbP];refine Qco (hg) ?_
 cases q:Z8m r
 . have e:decide ((16:Int)<l.length)=decide (16<l.length):=(by rw[decide_eq_decide];omega);simp -implicitDefEqProofs[e]
 . simp -implicitDefEqProofs
def ZkS (r:Jr) (l:Jl) (hs:Jh) (ps:Jp):PC prog G 17 [prA r l hs ps] (.bool (gr7 r l hs ps)):=by
 have hg:=ZkR (G:=G) r l;unfold gr7 prA;generalize (Z8m r||decide (16<l.length))=g at *;refine Zkh rfl λR hG hrd=>?_
 subst hG;refine Qga ?_;simp -implicitDefEqProofs[Zkf,Zkg];refine Qco (hg) ?_
 cases g
 case true=>simp -implicitDefEqProofs
 by_cases h8:8<hs.length
 . have h8':(8:Int)<hs.length:=(by omega);simp -implicitDefEqProofs[h8,h8']
 have h8':¬(8:Int)<hs.length:=(by omega);by_cases h40:40<ps.length
 . have h40':(40:Int)<ps.length:=(by omega);simp -implicitDefEqProofs[h8,h8',h40,h40']
 have h40':¬(40:Int)<ps.length:=(by omega);simp -implicitDefEqProofs[h8',h40'];refine Z8a (λi=>⟨[(3,.int .i64 i),(1,.ptr 1 0)],[(1,.box [.vsl (r.map isa),.vsl (l.map na),.vsl (hs.map hoa),.vsl (ps.map ptA)])]⟩) (λi=>∀ j (h:j<hs.length),j<i->¬20<hs[j].ds.length) hs.length ?_ (by simp) ?_ ?_
 . (refine Wkc ?_;simp only[Wkl,and_true];(try simp[lk,Yc,Ya,AV.keys]))
 . intro i hi he;have wi:i64.wrap ((i:Int)+1)=(i:Int)+1:=Yf;refine Qga ?_;by_cases q:20<hs[i].ds.length
   . have q':(20:Int)<hs[i].ds.length:=(by omega);have e:(hs.any λh=>decide (20<h.ds.length))=true:=W14.2 ⟨_,W0e hi,by simpa using q⟩;simp -implicitDefEqProofs[hi,hoa,q'];refine Qgr ?_;rw[e];simp -implicitDefEqProofs
   . have q':¬(20:Int)<hs[i].ds.length:=(by omega);simp -implicitDefEqProofs[hi,hoa,q',wi];refine ⟨?_,λj h1 h2=>?_⟩
     . (refine Wkc ?_;simp only[Wkl,and_true];(try simp[lk,Yc,Ya,AV.keys]))
     . rcases W0q j i with h4|h4
       . have:=he j h1 h4;omega
       . obtain rfl:j=i:=(by omega);omega
 . intro he
   have e:(hs.any λh=>decide (20<h.ds.length))=false:=W26.2 λx hx=>by
    obtain ⟨j,hj,rfl⟩:=W0k hx;simpa using he j hj hj
   refine Qga ?_;simp -implicitDefEqProofs;refine Qgr ?_;simp -implicitDefEqProofs[h8,h40,e]
def ZkT {r:Jr} (hr:openV r=0) {d:Int} {y:Int} (h:(findN d y r).isSome=true):0<=y/\y<=8:=by
 obtain ⟨x,hx⟩:=W0t.1 h;obtain ⟨h1,h2,h3⟩:=Z8U hx;have h4:=ZhV hr;simp only[Z8u,W01,W03]at h4;have h5:=h4.1.1.1.2 _ h1;simp only[issB,headB,W01]at h5;have h6:1<=x.l/\x.l<=8:=(by simpa [inR] using h5.1.1.1.1.2);omega
def ZkU {r:Jr} {l:Jl} {hs:Jh} {ps:Jp} (hp:∀ x∈ps,POk x) (h:ck7 r l hs ps=0):(∀ x∈ps,0<=x.lt/\x.lt<=8)/\∀ x∈ps,0<=x.lo/\x.lo<=2:=by
 obtain ⟨h1,h2⟩:=ZiZ.1 h;have h3:=(Zi5.1 h2).2.2.2;refine ⟨λx hx=>?_,λx hx=>?_⟩
 . have h4:=h3 x hx;simp only[prB,W01]at h4;exact ZkT (Zj0 h1) h4.1.2
 . have h4:=h3 x hx;simp only[prB,W01,W0b]at h4;exact ⟨(hp x hx).1,h4.1.1.2⟩
def ZkV {r:Jr} {l:Jl} {hs:Jh} {ps:Jp} (h:gr7 r l hs ps=false) (hr:∀ x∈r,KOk x) (hl:∀ x∈l,NOk7 x) (hp:∀ x∈ps,POk x):WfN l/\Wf r/\Sml (nums r)/\WfP hs ps:=by
 simp only[gr7,W1T,W1b,W26,W0b]at h;have hw:=ZkO h.1.1.1.1 hr;exact ⟨⟨by unfold Sml;omega,hl⟩,hw,Zar hw.1.1,by omega,by omega,λx hx=>by have:=h.2 x hx;omega,hp⟩
def wkE (r:Jr) (l:Jl) (hs:Jh) (ps:Jp) (day id d:Int):List Int:=if ab7 r l hs ps day 1 id [d]=0 then wkL ps day id d else []
def ZkW {hs:Jh} {id:Int} (h:0<=hoI hs id):∃ (k:Nat) (hk:k<hs.length),hoI hs id=k/\hoF hs id=some hs[k]:=by
 unfold hoI fstOf at *
 cases e:hs.findIdx? (λh=>decide (h.id=id)) with
 |none=>rw[e]at h;simp at h
 | some i =>
   obtain ⟨h1,h2,h3⟩:=W1A.1 e;exact ⟨i,h1,rfl,List.find?_eq_some_iff_getElem.2 ⟨h2,i,h1,rfl,λj hj=>by simpa using h3 j hj⟩⟩
def ZkX {r:Jr} {l:Jl} (h:Zb2 r l=true) {x:Nte} (hx:x∈l):1<=x.fr/\x.fr<=999/\1<=x.tu/\x.tu<=999:=by
 obtain ⟨i,hi,rfl⟩:=W0k hx;simp only[Zb2,W01,W03]at h;have h1:=h.1.2 i (W1u.2 hi);simp only[noteB,cN3,W01,ZaZ hi,Zf1]at h1;have h2:=h1.1.1.1.1.1.2;omega
def ZkY {r:Jr} {l:Jl} {hs:Jh} {ps:Jp} (h:ck7 r l hs ps=0) {x:Hld} (hx:x∈hs):1<=x.fr/\x.fr<=x.to/\x.to<=999/\x.ds.length<=8:=by
 obtain ⟨i,hi,rfl⟩:=W0k hx;have h1:=W03.1 (Zi5.1 (ZiZ.1 h).2).1.2 i (W1u.2 hi);simp only[hoB,W01,Zi0 hi,Zf1,W0b]at h1;omega
def ndI (l:Jl) (hs:Jh) (id d:Int):List Int:=match hoF hs id with
 |some h=>ndsL l h d
 |none=>[]
def mkL (l:Jl) (h:Hld) (i:Nat):List Int:=h.fr::(l.take i).flatMap (mk1 h)
def ZkZ {l:Jl} {h:Hld} {i:Nat} (hi:i<l.length):mkL l h (i+1)=mkL l h i++mk1 h l[i]:=by
 unfold mkL;rw[W08 hi,List.flatMap_append];simp
def Zl0 {h:Hld} {x:Nte}:(mk1 h x).length<=2:=by
 unfold mk1;rw[W0s]
 split <;> split <;> simp
def Zl1 {l:Jl} {h:Hld}:∀ i,(mkL l h i).length<=1+2*i
 |0=>by simp[mkL]
 | i + 1=>by
   have:=Zl1 (l:=l) (h:=h) i;by_cases hi:i<l.length
   . rw[ZkZ hi,W0s];have:=Zl0 (h:=h) (x:=l[i]);omega
   . have e:mkL l h (i+1)=mkL l h i:=(by unfold mkL;rw[W0J (by omega),W0J (by omega)]);rw[e];omega
def Zl2 {l:Jl} {h:Hld}:mkL l h l.length=mks l h:=by unfold mkL mks;rw[W0v]
def cmk (h:Hld) (x:Nte) (q:Nat):List Int:=([x.fr,x.tu+1].take q).filter λc=>inR c h.fr h.to
def Zl3 {h:Hld} {x:Nte}:cmk h x 2=mk1 h x:=by
 unfold cmk mk1
 cases h1:inR x.fr h.fr h.to <;> cases h2:inR (x.tu+1) h.fr h.to <;> simp[h1,h2]
def npS (O:AV) (id d:Int) (l:Jl) (h:Hld) (i:Nat):St :=
 ⟨[(43,.int .i64 i),(42,.int .i64 l.length),(41,.vsl (l.map na)),(8,.osl 35 (mkL l h i).length),(0,O),(1,.int .i64 id),(2,.int .i64 d),(7,.ptr 7 0)],[(35,.row 1 ((mkL l h i).map ia)),(7,.box (hoa h))]⟩
def npI (O:AV) (id d:Int) (l:Jl) (h:Hld) (x:Nte) (S:List Int) (i q:Nat):St :=
 ⟨[(54,.int .i64 q),(53,.int .i64 2),(52,.vsl ([x.fr,x.tu+1].map ia)),(43,.int .i64 i),(42,.int .i64 l.length),(41,.vsl (l.map na)),(8,.osl 35 (S++cmk h x q).length),(0,O),(1,.int .i64 id),(2,.int .i64 d),(7,.ptr 7 0)],[(35,.row 1 ((S++cmk h x q).map ia)),(7,.box (hoa h))]⟩
def psU (l:Jl) (d:Int) (M:List Int) (k:Nat):List Int:=(M.take k).flatMap λm=>posL l d m
def Zl4 {l:Jl} {d:Int} {M:List Int} {k:Nat} (hk:k<M.length):psU l d M (k+1)=psU l d M k++posL l d M[k]:=by
 unfold psU;rw[W08 hk,List.flatMap_append];simp
def Zl5 {l:Jl} {d m:Int}:(posL l d m).length<=8:=by
 unfold posL;exact W0O (W0D ..) (W0f _)
def Zl6 {l:Jl} {d:Int} {M:List Int}:∀ k,(psU l d M k).length<=8*k
 |0=>by simp[psU]
 | k + 1=>by
   have:=Zl6 (l:=l) (d:=d) (M:=M) k;by_cases hk:k<M.length
   . rw[Zl4 hk,W0s];have:=Zl5 (l:=l) (d:=d) (m:=M[k]);omega
   . have e:psU l d M (k+1)=psU l d M k:=(by unfold psU;rw[W0J (by omega),W0J (by omega)]);rw[e];omega
def nqS (O:AV) (d:Int) (l:Jl) (M:List Int) (k:Nat):St :=
 ⟨[(73,.int .i64 k),(72,.int .i64 M.length),(71,.vsl (M.map ia)),(13,nlV 90 (psU l d M k)),(0,O),(2,.int .i64 d)],nlO 90 (psU l d M k)⟩
def Zl7 (hG:GC G) (hN:GN G) (r:Jr) (l:Jl) (hs:Jh) (ps:Jp) (id d:Int) (hl:WfN l) (hr:Wf r) (hd:Sml (nums r)) (hw:WfP hs ps) (h0:ck7 r l hs ps=0) (hi:0<=hoI hs id) (hdn:d∈nums r) :
  PC prog G 80 [ofA r l hs ps,.int .i64 id,.int .i64 d] (Yg ((ndI l hs id d).map ia)):=by
 have hhl:=hw.hl;have c1:=Ziu (G:=G) r l hs ps id (by unfold Sml;omega);obtain ⟨k,hk,e1,e2⟩:=ZkW hi;have eN:ndI l hs id d=ndsL l hs[k] d:=(by unfold ndI;rw[e2]);rw[eN];rw[e1]at c1;have hdl:=hw.dl _ (W0e hk);obtain ⟨hb1,hb2,hb3,hb4⟩:=ZkY h0 (W0e hk);obtain ⟨h,hh⟩:=Qex (hs[k]);rw[<- hh]at hdl hb1 hb2 hb3 hb4 ⊢;have hlk:hs[k]=h:=hh.symm;have hop:=Zj0 (ZiZ.1 h0).1;have hB:=ZeF (ZiZ.1 h0).1;have h12:=ZeH hB;have c2:=Ze3 (G:=G) h.ds d (by unfold Sml;omega);have c3:=λc=>Zio (G:=G) h.fr h.to c
 have c4:=λm=>ZjQ hG hN r l d m hl hr hd
 have as0:∀ m∈mks l h,asN r l [] m=0:=λm hm=>by
  obtain ⟨q1,q2⟩:=Zf7 hb2 hm;unfold asN;rw[if_pos (ZiZ.1 h0).1,if_pos (by simp[truB]),if_pos (Zf1.2 ⟨by omega,by omega⟩)]
 have hpn:∀ m,posL l d m≠[]:=λm=>Zf8 λv=>ZhX hop hB hdn m v
 have hml:=Zl1 (l:=l) (h:=h) l.length;rw[Zl2]at hml;have hho:hoa h=[.int .i64 h.id,.int .i64 h.fr,.int .i64 h.to,.vsl (h.ds.map ia)]:=rfl;have pO:=Zi9 r l hs ps;have kO:=Zia r l hs ps;have eO:ofA r l hs ps = .vptr [.vsl (r.map isa),.vsl (l.map na),.vsl (hs.map hoa),.vsl (ps.map ptA),.vsl ((nums r).map ia)] 0:=rfl;have hr2:List.range 2=[0,1]:=rfl;have fO:∀ ok st,frz ok st 6 (ofA r l hs ps)=some (ofA r l hs ps):=λok st=>by unfold ofA;simp[frz,AV.keys]
 obtain ⟨O,hO⟩:=Qex (ofA r l hs ps);rw[<- hO]at pO kO eO fO c1 ⊢;clear hO;refine ZgB rfl λR hG' hrd=>?_
 subst hG';refine Qga ?_;simp -implicitDefEqProofs[Zgz,ZgA,eO];rw[<- eO];refine Ye.of c1 (by simp[pO,AV.pure]) ?_;simp -implicitDefEqProofs[hk,hlk,hho];refine ⟨rfl,?_⟩;refine Qco (c2) ?_;by_cases c:d∈h.ds
 case neg =>
  have e:ndsL l h d=[]:=(by unfold ndsL;rw[if_neg (by simpa using c)]);rw[e];simp -implicitDefEqProofs[c,Yg]
 have hset:=ZhR (l:=l) (h:=h) (d:=d) (by simpa using c);have hnn:ndsL l h d≠[]:=ZhZ hop hB hdn c;simp -implicitDefEqProofs[c,eO];rw[<- eO];refine Z8a (npS O id d l h) (λ_=>True) l.length ?_ trivial ?_ ?_
 . simp only[npS,mkL,W1g,List.flatMap_nil,hho]
   ((try simp only[ia,kO]);refine Ym.sub (by simp[lk,Ya,AV.keys,ia,kO]) ?_;simp only[ia,kO,Wkl,and_true];(try simp[lk,Yc,Ya,AV.keys,ia,kO]))
 . intro i hi _;have wi:i64.wrap ((i:Int)+1)=(i:Int)+1:=Yf;have sc:=ZkZ (h:=h) hi;have hle:=Zl1 (l:=l) (h:=h) i;have hBx:=ZkX hB (W0e hi);obtain ⟨x,hxe⟩:=Qex (l[i]);rw[<- hxe]at sc hBx;have hlx:l[i]=x:=hxe.symm;have hnx:na x=[.int .i64 x.nu,.int .i64 x.dy,.int .u8 x.sg,.int .i64 x.dr,.int .i64 x.lt,.int .i64 x.fr,.int .i64 x.tu,.int .i64 x.ca,.bool x.up,.int .u8 x.wy]:=rfl;have wt:i64.wrap (x.tu+1)=x.tu+1:=Yf;rw[<- Zl3]at sc;obtain ⟨S,hS⟩:=Qex (mkL l h i);obtain ⟨T,hT⟩:=Qex (mkL l h (i+1));rw[<- hS,<- hT]at sc;rw[<- hS]at hle;refine Qga ?_;simp -implicitDefEqProofs[npS,<- hS,hi,hlx,hnx,wt];refine Z8a (npI O id d l h x S i) (λ_=>True) 2 ?_ trivial ?_ ?_
   . simp only[npI,cmk,W1g,List.filter_nil,W1G]
     ((try simp only[ia,hho,kO,hr2]);refine Ym.sub (by simp[lk,Ya,AV.keys,ia,hho,kO,hr2]) ?_;simp only[ia,hho,kO,hr2,Wkl,ZdJ,and_true];(try simp[lk,Yc,Ya,AV.keys,ia,hho,kO,hr2]))
   . intro q hq _;have wq:i64.wrap ((q:Int)+1)=(q:Int)+1:=Yf;have hql:q<[x.fr,x.tu+1].length:=hq
     have sq:cmk h x (q+1)=if inR ([x.fr,x.tu+1][q]) h.fr h.to=true then cmk h x q++[[x.fr,x.tu+1][q]] else cmk h x q:=by
      unfold cmk;rw[W08 hql,W1a]
      cases e:inR ([x.fr,x.tu+1][q]) h.fr h.to <;> simp[List.filter_cons,e]
     have hgq:([x.fr,x.tu+1].map ia)[q]? = some [.int .i64 ([x.fr,x.tu+1][q])]:=by
      rw[W09,W07 hql];rfl
     have hlc:(cmk h x q).length<=2:=by
      unfold cmk;exact W0O (W0D ..) (by simp;omega)
     obtain ⟨cc,hcc⟩:=Qex ([x.fr,x.tu+1][q]);rw[<- hcc]at sq hgq;have c3:=c3 cc;obtain ⟨C,hC⟩:=Qex ([x.fr,x.tu+1].map ia);rw[<- hC]at hgq;have hCl:C.length=2:=(by rw[hC];rfl);obtain ⟨g1,g2⟩:=W02.1 hgq;obtain ⟨S1,hS1⟩:=Qex (S++cmk h x q);obtain ⟨T1,hT1⟩:=Qex (S++cmk h x (q+1));have hl1:S1.length<=100:=(by rw[hS1,W0s];omega);have bb:(S1.length+1)*8<=70368744177664:=(by omega);have hw1:npI O id d l h x S i q=⟨[(54,.int .i64 q),(53,.int .i64 2),(52,.vsl C),(43,.int .i64 i),(42,.int .i64 l.length),(41,.vsl (l.map na)),(8,.osl 35 S1.length),(0,O),(1,.int .i64 id),(2,.int .i64 d),(7,.ptr 7 0)],[(35,.row 1 (S1.map ia)),(7,.box (hoa h))]⟩:=(by rw[npI,<- hC,<- hS1]);have hw2:npI O id d l h x S i (q+1)=⟨[(54,.int .i64 (q+1:Nat)),(53,.int .i64 2),(52,.vsl C),(43,.int .i64 i),(42,.int .i64 l.length),(41,.vsl (l.map na)),(8,.osl 35 T1.length),(0,O),(1,.int .i64 id),(2,.int .i64 d),(7,.ptr 7 0)],[(35,.row 1 (T1.map ia)),(7,.box (hoa h))]⟩:=(by rw[npI,<- hC,<- hT1]);have q2':(q:Int)<2:=(by omega);refine Qga ?_;simp -implicitDefEqProofs[hw1,hho,q2',hCl,hq,g2,hgq];refine Qco (c3) ?_
     cases hin:inR cc h.fr h.to
     . rw[hin]at sq;have e:T1=S1:=(by rw[hT1,hS1,sq];simp);simp -implicitDefEqProofs[wq];rw[hw2,e]
       ((try simp only[hho,kO]);refine Ym.sub (by simp[lk,Ya,AV.keys,hho,kO]) ?_;simp only[hho,kO,Wkl,ZdJ,and_true];(try simp[lk,Yc,Ya,AV.keys,hho,kO]))
     . rw[hin,if_pos rfl]at sq;have e:T1=S1++[cc]:=(by rw[hT1,hS1,sq,W0U]);have em:T1.map ia=S1.map ia++[[.int .i64 cc]]:=(by rw[e,W0r];rfl);have eT:T1.length=S1.length+1:=(by rw[e];simp);simp -implicitDefEqProofs[wq,bb];rw[hw2,<- em,eT]
       ((try simp only[hho,kO]);refine Ym.sub (by simp[lk,Ya,AV.keys,hho,kO]) ?_;simp only[hho,kO,Wkl,ZdJ,and_true];(try simp[lk,Yc,Ya,AV.keys,hho,kO]))
   . intro _;refine Qga ?_;simp -implicitDefEqProofs[npI];refine Qgr ?_;simp -implicitDefEqProofs[wi];have em:T.map ia=S.map ia++(cmk h x 2).map ia:=(by rw[sc,W0r]);have eT:T.length=S.length+(cmk h x 2).length:=(by rw[sc,W0s]);simp only[npS,<- hT];rw[<- em,<- eT]
     ((try simp only[hho,kO]);refine Ym.sub (by simp[lk,Ya,AV.keys,hho,kO]) ?_;simp only[hho,kO,Wkl,ZdJ,and_true];(try simp[lk,Yc,Ya,AV.keys,hho,kO]))
 . intro _;rw[<- hset]at hnn ⊢;simp only[npS,Zl2];obtain ⟨M,hM⟩:=Qex (mks l h);rw[<- hM]at as0 hml hnn ⊢;have e3:M.flatMap (λm=>posL l d m)=psU l d M M.length:=(by unfold psU;rw[W0v]);rw[e3]at hnn ⊢;refine Qga ?_;simp -implicitDefEqProofs;refine Qgr ?_;simp -implicitDefEqProofs;refine Z8a (nqS O d l M) (λ_=>True) M.length ?_ trivial ?_ ?_
   . have e0:psU l d M 0=[]:=rfl;refine Ym.trans (Ym.frz (λk=>k == 35) _) ?_;simp only[nqS,e0,nlV,nlO,if_true]
     ((try simp only[Yi,frzA,frzO,frz,Yh,Yj,St.get,AV.pure,ia,kO,hho,fO]);refine Ym.sub (by simp[lk,Ya,AV.keys,Yi,frzA,frzO,frz,Yh,Yj,St.get,AV.pure,ia,kO,hho,fO]) ?_;simp only[Yi,frzA,frzO,frz,Yh,Yj,St.get,AV.pure,ia,kO,hho,fO,Wkl,and_true];(try simp[lk,Yc,Ya,AV.keys,Yi,frzA,frzO,frz,Yh,Yj,St.get,AV.pure,ia,kO,hho,fO]))
   . intro q hq _;have wq:i64.wrap ((q:Int)+1)=(q:Int)+1:=Yf;have sc:=Zl4 (l:=l) (d:=d) hq;have hle:=Zl6 (l:=l) (d:=d) (M:=M) q;obtain ⟨m,hm⟩:=Qex (M[q]);have c4:=c4 m;have hs0:=as0 m (by rw[hm];exact W0e hq);unfold poA at c4;rw[if_pos ⟨hs0,hdn⟩,if_pos hs0,if_pos hdn]at c4;rw[<- hm]at sc;have hlm:M[q]=m:=hm.symm;have hpn:=hpn m;have hpl:=Zl5 (l:=l) (d:=d) (m:=m);generalize posL l d m=P at *;obtain ⟨S,hS⟩:=Qex (psU l d M q);obtain ⟨T,hT⟩:=Qex (psU l d M (q+1));rw[<- hS]at sc hle;rw[<- hT]at sc;have hw1:nqS O d l M q=⟨[(73,.int .i64 q),(72,.int .i64 M.length),(71,.vsl (M.map ia)),(13,nlV 90 S),(0,O),(2,.int .i64 d)],nlO 90 S⟩:=(by rw[nqS,<- hS]);have hw2:nqS O d l M (q+1)=⟨[(73,.int .i64 (q+1:Nat)),(72,.int .i64 M.length),(71,.vsl (M.map ia)),(13,nlV 90 T),(0,O),(2,.int .i64 d)],nlO 90 T⟩:=(by rw[nqS,<- hT]);have bb:(S.length+P.length)*8<=70368744177664:=(by omega);have bb2:P.length*8<=70368744177664:=(by omega);have hne:¬T=[]:=(by rw[sc];simp[hpn]);have em:T.map ia=S.map ia++P.map ia:=(by rw[sc,W0r]);have eT:T.length=S.length+P.length:=(by rw[sc,W0s]);have hV2:nlV 90 T = .osl 90 T.length:=(by simp[nlV,hne]);have hQ2:nlO 90 T=[(90,.row 1 (T.map ia))]:=(by simp[nlO,hne]);by_cases cS:S=[]
     case' pos =>
      have hV:nlV 90 S = .nils:=(by simp[nlV,cS]);have hQ:nlO 90 S=[]:=by simp[nlO,cS]
     case' neg =>
      have hV:nlV 90 S = .osl 90 S.length:=(by simp[nlV,cS]);have hQ:nlO 90 S=[(90,.row 1 (S.map ia))]:=by simp[nlO,cS]
     all_goals
      refine Qga ?_;simp -implicitDefEqProofs[hw1,hV,hQ,hq,hlm,ia];simp -implicitDefEqProofs[eO];rw[<- eO];refine Yd.of c4 (by simp[AV.pure,isa,na]) ?_;simp -implicitDefEqProofs[hpn,bb,bb2,wq,ia];rw[hw2,hV2,hQ2]
      first
       |(rw[em,cS];((try simp only[ia,kO,eT,cS]);refine Ym.sub (by simp[lk,Ya,AV.keys,ia,kO,eT,cS]) ?_;simp only[ia,kO,eT,cS,Wkl,and_true];(try simp[lk,Yc,Ya,AV.keys,ia,kO,eT,cS]));done)
       |(rw[<- em];((try simp only[kO,eT]);refine Ym.sub (by simp[lk,Ya,AV.keys,kO,eT]) ?_;simp only[kO,eT,Wkl,ZdJ,and_true];(try simp[lk,Yc,Ya,AV.keys,kO,eT]));done)
   . intro _;have hle:=Zl6 (l:=l) (d:=d) (M:=M) M.length;obtain ⟨U,hU⟩:=Qex (psU l d M M.length);rw[<- hU]at hnn hle ⊢;have hw1:nqS O d l M M.length=⟨[(73,.int .i64 M.length),(72,.int .i64 M.length),(71,.vsl (M.map ia)),(13,nlV 90 U),(0,O),(2,.int .i64 d)],nlO 90 U⟩:=(by rw[nqS,<- hU]);obtain ⟨hsp,hcp,hOl,hOt,hOf,kO',rO,hCl⟩:=ZjP (G:=R.G) U (by omega);have cU:¬U=[]:=λh=>hnn (W1t.2 λx hx=>by have:=Zbq.1 hx;rw[h]at this;cases this)
     have hV:nlV 90 U = .osl 90 U.length:=(by simp[nlV,cU]);have hQ:nlO 90 U=[(90,.row 1 (U.map ia))]:=(by simp[nlO,cU]);refine Qga ?_;simp -implicitDefEqProofs[hw1,hV,hQ];refine Qgr ?_;simp -implicitDefEqProofs;refine Yd.sem (Z1B.byref hsp (λ_=>90) (by simp) (by simp) (by simp[St.get,lk,ZdI]) (by simp[ZdJ]) (by simp[Ya,AV.keys,lk]) rfl (by simp[AV.ren]) rfl rfl) ?_;simp -implicitDefEqProofs[Yl,ZdI];refine Yd.sem (Z1B.byref hcp (λ_=>90) (by simp) (by simp) (by simp[St.get,lk,ZdI]) (by simp[ZdJ]) (by simp[Ya,AV.keys,lk]) rfl (by simp[AV.ren]) rfl rfl) ?_;by_cases hq:(setI U).length=U.length
     . have hOf:=hOf hq;rw[hOf]at *;simp -implicitDefEqProofs[Yl,ZdI,hq,AV.ren,ia,Yg,hnn]
     . simp -implicitDefEqProofs[Yl,rO,hq,AV.ren,hOl,hOt,hCl,ia,Yg,hnn]
def Zl8 {r:Jr} {l:Jl} {hs:Jh} {ps:Jp} (h:ck7 r l hs ps=0) {x:Hld} (hx:x∈hs):∀ d∈x.ds,d∈nums r:=by
 obtain ⟨i,hi,rfl⟩:=W0k hx;have h1:=W03.1 (Zi5.1 (ZiZ.1 h).2).1.2 i (W1u.2 hi);simp only[hoB,W01,Zi0 hi]at h1;intro d hd;obtain ⟨k,hk,rfl⟩:=W0k hd;have h2:=W03.1 h1.2 k (W1u.2 hk);simp only[W01,W0j,W07 hk,W0P]at h2;simpa using h2.1
def neE (r:Jr) (l:Jl) (hs:Jh) (ps:Jp) (id d:Int):List Int:=if ab7 r l hs ps 0 1 id [d]=0 then ndI l hs id d else []
def neA (r:Jr) (l:Jl) (hs:Jh) (ps:Jp) (id d:Int):AV:=.tup [Yg ((neE r l hs ps id d).map ia),.int .i64 (ab7 r l hs ps 0 1 id [d])]
def Zl9 (S:List Int) (ok:Nat->Bool) (st:St):Yh ok st 6 (Yg (S.map ia))=some (Yg (S.map ia)):=by
 unfold Yg
 split
 . simp[Yh,AV.pure]
 . simp[Yh,AV.pure,ia]
def Zla (hG:GC G) (hN:GN G) (hP:GP G) (r:Jr) (l:Jl) (hs:Jh) (ps:Jp) (id d:Int) (hl:WfN l) (hr:Wf r) (hd:Sml (nums r)) (hw:WfP hs ps) :
  PC prog G 27 [prA r l hs ps,.int .i64 id,.int .i64 d] (neA r l hs ps id d):=by
 have ha:=Zj5 hG hN hP r l hs ps 0 1 id [d] hl hr hd hw (by simp[Sml]);have e1:[d].map ia=[[.int .i64 d]]:=rfl;rw[e1]at ha;have pO:=Zi9 r l hs ps;unfold abP at ha;unfold neA neE;by_cases h0:ab7 r l hs ps 0 1 id [d]=0
 . obtain ⟨q1,q2,q3⟩:=Zks h0;have hn:=Zl7 hG hN r l hs ps id d hl hr hd hw (Zkr q1).1 q2 (q3 d (by simp));have pV:=ZjA (ndI l hs id d);rw[if_pos h0,h0]at ha;rw[if_pos h0,h0];have sV:=Zl9 (ndI l hs id d);generalize Yg ((ndI l hs id d).map ia)=V at *;unfold prA at *
   (refine ZgE rfl λR hG hrd=>Qga ?_;subst hG)
   simp -implicitDefEqProofs[ZgC,ZgD];refine Qco (ha) ?_;simp -implicitDefEqProofs;refine Yd.of hn (by simp[pO,AV.pure]) ?_;simp -implicitDefEqProofs[sV]
 . rw[if_neg h0]at ha;rw[if_neg h0];unfold prA at *
   (refine ZgE rfl λR hG hrd=>Qga ?_;subst hG)
   simp -implicitDefEqProofs[ZgC,ZgD];refine Qco (ha) ?_;simp -implicitDefEqProofs[h0,Yg]
def Zlb {r:Jr} {l:Jl} {hs:Jh} {ps:Jp} (h:ck7 r l hs ps=0) {x:Prt} (hx:x∈ps):0<=hoI hs x.ho/\x.dw∈nums r:=by
 have h2:=(Zi5.1 (ZiZ.1 h).2).2.2.2 x hx;simp only[prB,W01]at h2;refine ⟨?_,?_⟩
 . have:=hoF_I hs x.ho;rw[h2.1.1.1.2]at this;simpa using this
 . obtain ⟨y,hy⟩:=W0t.1 h2.1.2;obtain ⟨g1,g2,g3⟩:=Z8U hy;obtain ⟨j,hj,rfl⟩:=W0k g1;rw[<- g2];exact Z8H (Z8C (ZhV (Zj0 (ZiZ.1 h).1))) hj
def nmK (L:Jp) (i:Nat):List Int:=(L.take i).map (·.no)
def Zlc {L:Jp} {i:Nat} (h:i<L.length):nmK L (i+1)=nmK L i++[L[i].no]:=by
 unfold nmK;rw[W08 h,W0r];rfl
def Zld {L:Jp} {i:Nat}:(nmK L i).length<=i:=by
 unfold nmK;rw[W0N,W15];omega
def nmS (L:Jp) (S:List Int) (i:Nat):St:=⟨[(8,.int .i64 i),(7,.int .i64 L.length),(6,.vsl (L.map ptA)),(3,nlV 16 S)],nlO 16 S⟩
def sta7E (r:Jr) (l:Jl) (hs:Jh) (ps:Jp) (day:Int):List Int:=if as7 r l hs ps day 1=0 then (staL l hs ps day).map (·.no) else []
def stA7 (r:Jr) (l:Jl) (hs:Jh) (ps:Jp) (day:Int):AV:=.tup [Yg ((sta7E r l hs ps day).map ia),.int .i64 (as7 r l hs ps day 1)]
def Zle (L:Jp) (hl:L.length<=100):PC prog G 90 [.vsl (L.map ptA)] (Yg ((nmK L L.length).map ia)):=by
 refine Zg3 rfl λR hG hrd=>?_
 subst hG;refine Qga ?_;simp -implicitDefEqProofs[Zg1,Zg2];refine Z8a (λi=>nmS L (nmK L i) i) (λ_=>True) L.length ?_ trivial ?_ ?_
 . have e0:nmK L 0=[]:=rfl;simp only[nmS,e0,nlV,nlO,if_true]
   (refine Wkc ?_;simp only[Wkl,and_true];(try simp[lk,Yc,Ya,AV.keys]))
 . intro i hi _;have wi:i64.wrap ((i:Int)+1)=(i:Int)+1:=Yf;have sc:=Zlc hi;have hle:=Zld (L:=L) (i:=i);obtain ⟨x,hx⟩:=Qex (L[i]);rw[<- hx]at sc;have hlx:L[i]=x:=hx.symm;have hpt:ptA x=[.int .i64 x.no,.int .i64 x.dy,.int .i64 x.ho,.int .i64 x.dw,.int .i64 x.lt,.int .i64 x.bk,.int .u8 x.lo]:=rfl;obtain ⟨S,hS⟩:=Qex (nmK L i);obtain ⟨T,hT⟩:=Qex (nmK L (i+1));rw[<- hS]at sc hle;rw[<- hT]at sc;have bb:(S.length+1)*8<=70368744177664:=(by omega);have hw1:nmS L (nmK L i) i=⟨[(8,.int .i64 i),(7,.int .i64 L.length),(6,.vsl (L.map ptA)),(3,nlV 16 S)],nlO 16 S⟩:=(by rw[nmS,<- hS]);have hw2:nmS L (nmK L (i+1)) (i+1)=⟨[(8,.int .i64 (i+1:Nat)),(7,.int .i64 L.length),(6,.vsl (L.map ptA)),(3,nlV 16 T)],nlO 16 T⟩:=(by rw[nmS,<- hT]);have hne:¬T=[]:=(by rw[sc];simp);have em:T.map ia=S.map ia++[[.int .i64 x.no]]:=(by rw[sc,W0r];rfl);have eT:T.length=S.length+1:=(by rw[sc];simp);have hV2:nlV 16 T = .osl 16 (S.length+1):=(by simp[nlV,hne,eT]);have hQ2:nlO 16 T=[(16,.row 1 (T.map ia))]:=(by simp[nlO,hne]);by_cases cS:S=[]
   case' pos =>
    have hV:nlV 16 S = .nils:=(by simp[nlV,cS]);have hQ:nlO 16 S=[]:=by simp[nlO,cS]
   case' neg =>
    have hV:nlV 16 S = .osl 16 S.length:=(by simp[nlV,cS]);have hQ:nlO 16 S=[(16,.row 1 (S.map ia))]:=by simp[nlO,cS]
   all_goals
    refine Qga ?_;simp -implicitDefEqProofs[hw1,hV,hQ,hi,hlx,hpt,wi,bb];rw[hw2,hV2,hQ2]
    first
     |(rw[em,cS];((try simp only[hpt,ia]);refine Ym.sub (by simp[lk,Ya,AV.keys,hpt,ia]) ?_;simp only[hpt,ia,Wkl,and_true];(try simp[lk,Yc,Ya,AV.keys,hpt,ia]));done)
     |(rw[<- em];((try simp only[hpt,eT]);refine Ym.sub (by simp[lk,Ya,AV.keys,hpt,eT]) ?_;simp only[hpt,eT,Wkl,ZdJ,and_true];(try simp[lk,Yc,Ya,AV.keys,hpt,eT]));done)
 . intro _;obtain ⟨S,hS⟩:=Qex (nmK L L.length);rw[<- hS];refine Qga ?_;by_cases cS:S=[]
   . have hV:nlV 16 S = .nils:=(by simp[nlV,cS]);have hQ:nlO 16 S=[]:=(by simp[nlO,cS]);simp -implicitDefEqProofs[nmS,<- hS,hV,hQ];refine Qgr ?_;simp -implicitDefEqProofs[Yg,cS]
   . have hV:nlV 16 S = .osl 16 S.length:=(by simp[nlV,cS]);have hQ:nlO 16 S=[(16,.row 1 (S.map ia))]:=(by simp[nlO,cS]);simp -implicitDefEqProofs[nmS,<- hS,hV,hQ];refine Qgr ?_;simp -implicitDefEqProofs[Yg,cS,ia]
def wgE (r:Jr) (l:Jl) (hs:Jh) (ps:Jp) (day id d m:Int):Int:=if ab7 r l hs ps day m id [d]=0 then wrN (wkL ps day id d) (posL l d m) else 0
def wgA (r:Jr) (l:Jl) (hs:Jh) (ps:Jp) (day id d m:Int):AV:=.tup [.int .u8 (wgE r l hs ps day id d m),.int .i64 (ab7 r l hs ps day m id [d])]
def Zlf {ps:Jp} {day id d:Int}:(wkL ps day id d).length<=10:=by
 unfold wkL;have:=W0D (λn=>decide (sureM ps day id d<n)&&(perhL ps day id d).contains n) r9;have h9:r9.length=9:=rfl;simp only[W1p];omega
def Zlg (a b:List Int) (ha:Sml a):PC prog G 84 [.vsl (a.map ia),.vsl (b.map ia)] (.bool (decide (a=b))):=by
 unfold Sml at ha
 (refine Zgl rfl λR hG hrd=>Qga ?_;subst hG)
 by_cases hl:a.length=b.length
 case neg =>
  have hl':¬(a.length:Int)=(b.length:Int):=(by omega);have hne:¬a=b:=λh=>hl (by rw[h])
  simp -implicitDefEqProofs[Zgj,Zgk,hl,hl',hne]
 have hl':(a.length:Int)=(b.length:Int):=(by omega);simp -implicitDefEqProofs[Zgj,Zgk,hl'];refine Z8a (λi=>⟨[(13,.int .i64 i),(12,.int .i64 a.length),(0,.vsl (a.map ia)),(1,.vsl (b.map ia))],[]⟩) (λi=>a.take i=b.take i) a.length ?_ rfl ?_ ?_
 . ((try simp only[hl']);refine Ym.sub (by simp[lk,Ya,AV.keys,hl']) ?_;simp only[hl',Wkl,and_true];(try simp[lk,Yc,Ya,AV.keys,hl']))
 . intro i hi he;have hj:i<b.length:=(by omega);have wi:i64.wrap ((i:Int)+1)=(i:Int)+1:=Yf;have hi':(i:Int)<b.length:=(by omega);refine Qga ?_;by_cases q:a[i]=b[i]
   . simp -implicitDefEqProofs[hi,hj,hi',hl',ia,q];refine ⟨rfl,?_⟩;simp -implicitDefEqProofs[wi];refine ⟨?_,by rw[W08 hi,W08 hj,he,q]⟩
     ((try simp only[hl']);refine Ym.sub (by simp[lk,Ya,AV.keys,hl']) ?_;simp only[hl',Wkl,and_true];(try simp[lk,Yc,Ya,AV.keys,hl']))
   . have hne:¬a=b:=λh=>q (by subst h;rfl)
     simp -implicitDefEqProofs[hi,hj,hi',hl',ia,q];refine ⟨rfl,?_⟩;simp -implicitDefEqProofs[hne];refine Qgr ?_;simp -implicitDefEqProofs
 . intro he
   have e:a=b:=by
    have h2:b.take a.length=b:=(by rw[hl,W0v]);rw[W0v,h2]at he;exact he
   refine Qga ?_;simp -implicitDefEqProofs;refine Qgr ?_;simp -implicitDefEqProofs[e]
def Zlh (b:List Int) (x:Int) (hb:Sml b):PC prog G 86 [.int .i64 x,.vptr [.vsl (b.map ia)] 0] (.bool (decide (x∈b))):=by
 have hc:=Ze3 (G:=G) b x hb
 (refine Zgi rfl λR hG hrd=>Qga ?_;subst hG)
 simp -implicitDefEqProofs[Zgg,Zgh];refine Qco (hc) ?_;simp -implicitDefEqProofs
def Zli (hG:GC G) (hN:GN G) (hP:GP G) (r:Jr) (l:Jl) (hs:Jh) (ps:Jp) (day id d m:Int) (hl:WfN l) (hr:Wf r) (hd:Sml (nums r)) (hw:WfP hs ps) :
  PC prog G 31 [prA r l hs ps,.int .i64 day,.int .i64 id,.int .i64 d,.int .i64 m] (wgA r l hs ps day id d m):=by
 have ha:=Zj5 hG hN hP r l hs ps day m id [d] hl hr hd hw (by simp[Sml]);have e1:[d].map ia=[[.int .i64 d]]:=rfl;rw[e1]at ha;have pO:=Zi9 r l hs ps;unfold abP at ha;unfold wgA wgE;by_cases h0:ab7 r l hs ps day m id [d]=0
 case neg =>
  rw[if_neg h0]at ha;rw[if_neg h0];unfold prA at *
  (refine Zgf rfl λR hG hrd=>Qga ?_;subst hG)
  simp -implicitDefEqProofs[Zgd,Zge];refine Qco (ha) ?_;simp -implicitDefEqProofs[h0]
 obtain ⟨q1,q2,q3⟩:=Zks h0;obtain ⟨k0,k1,k2⟩:=Zkr q1;obtain ⟨g1,g2⟩:=ZkU (r:=r) (l:=l) (hs:=hs) hw.po k0;have hdn:=q3 d (by simp);have hW:=Zju (G:=G) r l hs ps day id d hw.pl g1 g2;have hop:=Zj0 (ZiZ.1 k0).1;have hB:=ZeF (ZiZ.1 k0).1
 have as0:asN r l [] m=0:=by
  unfold asN;rw[if_pos (ZiZ.1 k0).1,if_pos (by simp[truB]),if_pos k2]
 have hQ:=ZjQ hG hN r l d m hl hr hd;unfold poA at hQ;rw[if_pos ⟨as0,hdn⟩,if_pos as0,if_pos hdn]at hQ;have hz:=Zfc (Zf9 ps day id d) (Zf3 l d m) (by simp[wkL]) (Zf8 λv=>ZhX hop hB hdn m v);have wl:=Zlf (ps:=ps) (day:=day) (id:=id) (d:=d);have pl:=Zl5 (l:=l) (d:=d) (m:=m);have aE:=Zlg (G:=G) (wkL ps day id d) (posL l d m) (by unfold Sml;omega);have aC:=Z91 (G:=G) 86 [.vptr [.vsl ((posL l d m).map ia)] 0] (λx=>decide (x∈posL l d m)) (wkL ps day id d) (by simp[AV.pure,ia]) (by unfold Sml;omega) (λx _=>Zlh (posL l d m) x (by unfold Sml;omega));obtain ⟨w,hwv⟩:=Qex (wrN (wkL ps day id d) (posL l d m));rw[if_pos h0,h0]at ha;rw[if_pos h0,h0,<- hwv];unfold wrN at hwv;generalize wkL ps day id d=A at *;generalize posL l d m=Q at *
 have hany:(A.any λx=>Q.any λy=>decide (x=y))=A.any λx=>decide (x∈Q):=by
  congr 1;funext x
  rw[W2h,W14];simp
 rw[hany]at hwv;unfold prA at *
 (refine Zgf rfl λR hG hrd=>Qga ?_;subst hG)
 simp -implicitDefEqProofs[Zgd,Zge];refine Qco (ha) ?_;simp -implicitDefEqProofs;refine Yd.of hW (by simp[pO,AV.pure]) ?_;simp -implicitDefEqProofs;refine Yd.of hQ (by simp[AV.pure,isa,na]) ?_;simp -implicitDefEqProofs;by_cases c1:A.length=1
 . have c1':(A.length:Int)=1:=(by omega);simp -implicitDefEqProofs[c1,c1'];refine Qco (aE) ?_;by_cases c2:A=Q
   . have z:(A.any λx=>Q.any λy=>!decide (x=y))=false:=hz.2 ⟨c1,c2⟩;rw[if_pos z]at hwv;rw[hwv];simp -implicitDefEqProofs[c2]
   . have z:¬(A.any λx=>Q.any λy=>!decide (x=y))=false:=λh=>c2 (hz.1 h).2
     rw[if_neg z]at hwv;simp -implicitDefEqProofs[c2]
     (first|refine Yd.flat (aC) (by simp[AV.flat]) (by simp) ?_|refine Ye.flat (aC) (by simp[AV.flat]) (by simp) ?_)
     cases e:A.any λx=>decide (x∈Q)
     . rw[if_pos e]at hwv;simp -implicitDefEqProofs[hwv]
     . rw[if_neg (by rw[e];simp)]at hwv;simp -implicitDefEqProofs[hwv]
 . have c1':¬(A.length:Int)=1:=(by omega);have z:¬(A.any λx=>Q.any λy=>!decide (x=y))=false:=λh=>c1 (hz.1 h).1
   rw[if_neg z]at hwv;simp -implicitDefEqProofs[c1,c1']
   (first|refine Yd.flat (aC) (by simp[AV.flat]) (by simp) ?_|refine Ye.flat (aC) (by simp[AV.flat]) (by simp) ?_)
   cases e:A.any λx=>decide (x∈Q)
   . rw[if_pos e]at hwv;simp -implicitDefEqProofs[hwv]
   . rw[if_neg (by rw[e];simp)]at hwv;simp -implicitDefEqProofs[hwv]
def rfK (x:Rf):AV:=.agg [.int .i64 x.1,.int .i64 x.2]
def rfS (l:List Rf):List (AV×AV):=l.map λp=>(rfK p,.bool true)
def rf_eq (x p:Rf):(KK.ag [.i,.i]).eq (rfK x) (rfK p)=some (decide (x=p)):=by
 obtain ⟨a,b⟩:=x;obtain ⟨e,f⟩:=p;simp only[rfK,KK.eq,eqL,eq1,if_true,W06,W2c]
 congr 1
 by_cases h1:a=e <;> by_cases h2:b=f <;> simp[h1,h2]
def Zlj (x:Rf):∀ l:List Rf,(KK.ag [.i,.i]).find (rfK x) (rfS l)=some (l.findIdx? λp=>decide (x=p))
 |[]=>rfl
 | p::r=>by
   have ih:=Zlj x r;have e:rfS (p::r)=(rfK p,.bool true)::rfS r:=rfl;rw[e,KK.find,rf_eq,ih,List.findIdx?_cons];by_cases c:x=p
   . simp[c]
   . simp[c]
def rf_is (x:Rf):(KK.ag [.i,.i]).is (rfK x)=true:=rfl
def Zlk (a b : Int) (l : List Rf):(KK.ag [.i,.i]).get (.agg [.int .i64 a,.int .i64 b]) (rfS l)=some (if (a,b)∈l then some (.bool true) else none):=by
 show (KK.ag [.i,.i]).get (rfK (a,b)) (rfS l)=_;unfold KK.get;rw[if_pos (rf_is (a,b)),Zlj]
 cases q:l.findIdx? λp=>decide ((a,b)=p) with
 | none =>
   rw[W1F]at q;have:(a,b) ∉ l:=λh=>by have:=q _ h;simp at this
   simp[this]
 | some j =>
   rw[W1A]at q;obtain ⟨h1,h2,-⟩:=q
   have h3 : (a, b) ∈ l := by have:(a,b)=l[j]:=by simpa using h2
                              rw[this];exact W0e h1
   simp[rfS,h1,h3]
def addU (l:List Rf) (x:Rf):List Rf:=if x∈l then l else l++[x]
def Zll {l:List Rf} {x y:Rf}:y∈addU l x↔y∈l∨y=x:=by
 unfold addU
 split
 . rename_i h
   constructor
   . exact .inl
   . rintro (h1|rfl)
     . exact h1
     . exact h
 . simp
def Zlm (a b:Int) (l:List Rf):(KK.ag [.i,.i]).put (.agg [.int .i64 a,.int .i64 b]) (.bool true) (rfS l)=some (rfS (addU l (a,b))):=by
 show (KK.ag [.i,.i]).put (rfK (a,b)) (.bool true) (rfS l)=_;unfold KK.put addU;rw[if_pos (rf_is (a,b)),Zlj]
 cases q:l.findIdx? λp=>decide ((a,b)=p) with
 | none =>
   rw[W1F]at q;have:(a,b) ∉ l:=λh=>by have:=q _ h;simp at this
   rw[if_neg this];simp[rfS]
 | some j =>
   rw[W1A]at q;obtain ⟨h1,h2,-⟩:=q;have h4:(a,b)=l[j]:=(by simpa using h2);have h3:(a,b)∈l:=(by rw[h4];exact W0e h1);rw[if_pos h3];have:(rfS l)[j]? = some (rfK (a,b),.bool true):=(by simp[rfS,h1,<- h4]);obtain ⟨g1,g2⟩:=W02.1 this;simp only[W00];rw[<- g2,List.set_getElem_self]
def Zln (o:List (Nat×AObj)) (l:List Rf):Yc o (.mp (rfS l))=true:=by
 simp only[Yc,W03,rfS,W0i];rintro x ⟨y,-,rfl⟩;simp[rfK,Ya,AV.keys]
def Zlo (ρ:Nat->Nat) (l:List Rf):AObj.ren ρ (.mp (rfS l)) = .mp (rfS l):=by
 simp[AObj.ren,rfS,rfK,AV.ren,W0y]
def Zlp (ok:Nat->Bool) (st:St) (l:List Rf):frzO ok st (.mp (rfS l)) = .mp (rfS l):=by
 simp[frzO,rfS,rfK,frzA,frz,AV.keys,W0y]
def thP (id:Int) (x:Prt):Bool:=decide (x.ho=id)&&decide (x.lo=0)
def thK (id:Int) (L:Jp) (k:Nat):List Rf:=(L.take k).foldl (λa x=>if thP id x=true then addU a (x.dw,x.lt) else a) []
def Zlq {id:Int} {L:Jp} {k:Nat} (h:k<L.length):thK id L (k+1)=if thP id L[k]=true then addU (thK id L k) (L[k].dw,L[k].lt) else thK id L k:=by
 unfold thK;rw[W08 h,W1q];rfl
def Zlr {id:Int} {L:Jp} {y:Rf}:∀ k,k<=L.length->(y∈thK id L k↔∃ x∈L.take k,thP id x=true/\(x.dw,x.lt)=y)
 |0,_=>by simp[thK]
 | k + 1,h=>by
   have ih:=Zlr (id:=id) (L:=L) (y:=y) k (by omega);rw[Zlq (by omega:k<L.length),W08 (by omega:k<L.length)]
   constructor
   . intro hy
     split at hy
     . rename_i c;rcases Zll.1 hy with hy|rfl
       . obtain ⟨x,h1,h2⟩:=ih.1 hy;exact ⟨x,List.mem_append_left _ h1,h2⟩
       . exact ⟨_,List.mem_append_right _ (W0B.2 rfl),c,rfl⟩
     . obtain ⟨x,h1,h2⟩:=ih.1 hy;exact ⟨x,List.mem_append_left _ h1,h2⟩
   . rintro ⟨x,h1,h2,h3⟩;rcases W0h.1 h1 with h1|h1
     . have:=ih.2 ⟨x,h1,h2,h3⟩
       split
       . exact Zll.2 (.inl this)
       . exact this
     . rw[W0B]at h1;subst h1;rw[if_pos h2,h3];exact Zll.2 (.inr rfl)
def Zls {ps:Jp} {day id d n:Int}:decide ((d,n)∈thK id (outP ps day) (outP ps day).length)=Zfd ps day id d n:=by
 rw[W2h,W0b,Zlr _ (W0f _),W0v];unfold Zfd outP;rw[W14]
 constructor
 . rintro ⟨x,h1,h2,h3⟩;obtain ⟨h4,h5⟩:=W0G.1 h1;simp only[thP,W01,W0b]at h2;simp only[W06]at h3;exact ⟨x,h4,by simp[herB,h5,h2,h3]⟩
 . rintro ⟨x,h1,h2⟩;simp only[herB,W01,W0b]at h2;obtain ⟨⟨⟨⟨h3,h4⟩,h5⟩,h6⟩,h7⟩:=h2;exact ⟨x,W0G.2 ⟨h1,h4⟩,by simp[thP,h3,h7],by rw[h5,h6]⟩
def nd2 (l:Jl) (hs:Jh) (x:Rf):AV:=Yg ((ndI l hs x.1 x.2).map ia)
def mmA (f:Rf->AV) (K:List Rf):List (AV×AV):=K.map λp=>(rfK p,f p)
def Zlt (f:Rf->AV) (x:Rf):∀ l:List Rf,(KK.ag [.i,.i]).find (rfK x) (mmA f l)=some (l.findIdx? λp=>decide (x=p))
 |[]=>rfl
 | p::r=>by
   have ih:=Zlt f x r;have e:mmA f (p::r)=(rfK p,f p)::mmA f r:=rfl;rw[e,KK.find,rf_eq,ih,List.findIdx?_cons];by_cases c:x=p
   . simp[c]
   . simp[c]
def Zlu (f:Rf->AV) (a b:Int) (l:List Rf):(KK.ag [.i,.i]).get (.agg [.int .i64 a,.int .i64 b]) (mmA f l)=some (if (a,b)∈l then some (f (a,b)) else none):=by
 show (KK.ag [.i,.i]).get (rfK (a,b)) (mmA f l)=_;unfold KK.get;rw[if_pos (rf_is (a,b)),Zlt]
 cases q:l.findIdx? λp=>decide ((a,b)=p) with
 | none =>
   rw[W1F]at q;have:(a,b) ∉ l:=λh=>by have:=q _ h;simp at this
   simp[this]
 | some j =>
   rw[W1A]at q;obtain ⟨h1,h2,-⟩:=q;have h4:(a,b)=l[j]:=(by simpa using h2);have h3:(a,b)∈l:=(by rw[h4];exact W0e h1);simp[mmA,h1,h3,<- h4]
def Zlv (f:Rf->AV) (a b:Int) (l:List Rf) (h:(a,b) ∉ l):(KK.ag [.i,.i]).put (.agg [.int .i64 a,.int .i64 b]) (f (a,b)) (mmA f l)=some (mmA f (l++[(a,b)])):=by
 show (KK.ag [.i,.i]).put (rfK (a,b)) (f (a,b)) (mmA f l)=_;unfold KK.put;rw[if_pos (rf_is (a,b)),Zlt]
 have q:(l.findIdx? λp=>decide ((a,b)=p))=none:=by
  rw[W1F];intro y hy;simp;rintro rfl;exact h hy
 rw[q];simp[mmA,rfK]
def Zlw (o:List (Nat×AObj)) {f:Rf->AV} (hf:∀ x,(f x).pure=true) (l:List Rf):Yc o (.mp (mmA f l))=true:=by
 simp only[Yc,W03,mmA,W0i];rintro x ⟨y,-,rfl⟩;simp[rfK,Ya,AV.keys,AV.pure_keys _ (hf y)]
def Zlx (ρ:Nat->Nat) {f:Rf->AV} (hf:∀ x,(f x).pure=true) (l:List Rf):AObj.ren ρ (.mp (mmA f l)) = .mp (mmA f l):=by
 simp[AObj.ren,mmA,rfK,AV.ren,W0y,λx=>AV.ren_pure (ρ:=ρ) (f x) (hf x)]
def Zly (ok:Nat->Bool) (st:St) {f:Rf->AV} (hf:∀ st x,frz ok st 6 (f x)=some (f x)) (l:List Rf):frzO ok st (.mp (mmA f l)) = .mp (mmA f l):=by
 simp[frzO,mmA,rfK,frzA,frz,AV.keys,W0y,hf]
def wB (hs:Jh) (y:Prt):Bool:=match hoF hs y.ho with
 |some h=>decide (y.dw∈h.ds)
 |none=>false
def slB1 (l:Jl) (hs:Jh) (y:Prt):Bool:=wB hs y && !decide (y.lt∈ndI l hs y.ho y.dw)
def kyK (hs:Jh) (L:Jp) (k:Nat):List Rf:=(L.take k).foldl (λa y=>if wB hs y=true then addU a (y.ho,y.dw) else a) []
def Zlz {hs:Jh} {L:Jp} {k:Nat} (h:k<L.length):kyK hs L (k+1)=if wB hs L[k]=true then addU (kyK hs L k) (L[k].ho,L[k].dw) else kyK hs L k:=by
 unfold kyK;rw[W08 h,W1q];rfl
def slK (l:Jl) (hs:Jh) (L:Jp) (k:Nat):List Prt:=(L.take k).filter (slB1 l hs)
def ZlA {l:Jl} {hs:Jh} {L:Jp} {k:Nat} (h:k<L.length):slK l hs L (k+1)=if slB1 l hs L[k]=true then slK l hs L k++[L[k]] else slK l hs L k:=by
 unfold slK;rw[W08 h,W1a]
 cases e:slB1 l hs L[k] <;> simp[e]
def ZlB {l:Jl} {hs:Jh} {L:Jp} {k:Nat}:(slK l hs L k).length<=k:=by
 unfold slK;exact W0O (W0D ..) (by simp;omega)
def ZlC {l:Jl} {hs:Jh} {ps:Jp} {day:Int}:slK l hs (outP ps day) (outP ps day).length=staL l hs ps day:=by
 unfold slK staL outP;rw[W0v,List.filter_filter];refine List.filter_congr λy _=>?_
 unfold stB slB1 wB ndI
 cases hoF hs y.ho with
 |none=>simp
 |some h=>cases outB y day <;> simp
def p7V (k:Nat) (S:Jp):AV:=if S=[] then .nils else .osl k S.length
def p7O (k:Nat) (S:Jp):List (Nat×AObj):=if S=[] then [] else [(k,.row 7 (S.map ptA))]
def p7N (k:Nat) (S:Jp):Nat:=if S=[] then k-1000 else k
def slB (f:Rf->AV) (O:AV) (K:List Rf) (S:Jp):List (Nat×AObj):=[(1002,.box [O]),(1005,.box [.mp 1010]),(1010,.mp (mmA f K)),(1006,.box [p7V 1063 S])]++p7O 1063 S
def slU (f:Rf->AV) (O:AV) (K:List Rf) (S T:Jp):List (Nat×AObj):=[(1002,.box [O]),(1005,.box [.mp 1010]),(1010,.mp (mmA f K)),(1006,.box [p7V (p7N 1063 S) T])]++p7O (p7N 1063 S) T
def ZlD (ρ:Nat->Nat) (L:Jp):AObj.ren ρ (.row 7 (L.map ptA)) = .row 7 (L.map ptA):=by
 simp[AObj.ren,ptA,AV.ren,W0y]
def ZlE (ok:Nat->Bool) (st:St) (n:Nat) (rows:List (List AV)):frzO ok st (.row n rows) = .row n (rows.map λr=>r.map (frzA ok st)):=rfl
def ZlF (ok:Nat->Bool) (st:St) (l:Jp):frzO ok st (.row 7 (l.map ptA)) = .row 7 (l.map ptA):=by
 simp[frzO,ptA,frzA,frz,AV.keys,W0y]
def ZlG (hG:GC G) (hN:GN G) (r:Jr) (l:Jl) (hs:Jh) (ps:Jp) (day:Int) (hl:WfN l) (hr:Wf r) (hd:Sml (nums r)) (hw:WfP hs ps) (h0:ck7 r l hs ps=0) :
  PC prog G 91 [ofA r l hs ps,.int .i64 day] (Yg ((staL l hs ps day).map ptA)):=by
 have hhl:=hw.hl;rw[<- ZlC];have hO:=Zjs (G:=G) r l hs ps day;have hit:=outIt (G:=G) r l hs ps day hw.pl;have eNl:=Zig ps day;have hat:=λk x h=>Zih (ps:=ps) (day:=day) (k:=k) (x:=x) h
 have hL:(outP ps day).length<=41:=W0O (W0D ..) hw.pl;have hLp:∀ x∈outP ps day,x∈ps:=λx hx=>(W0G.1 hx).1
 have c1:=λid=>Ziu (G:=G) r l hs ps id (by unfold Sml;omega)
 have c4:=λid d h1 h2=>Zl7 hG hN r l hs ps id d hl hr hd hw h0 h1 h2
 have c3:=λL n h=>Ze3 (G:=G) L n h
 have pf:∀ x,(nd2 l hs x).pure=true:=λx=>ZjA _
 have ff:∀ (ok:Nat->Bool) st x,frz ok st 6 (nd2 l hs x)=some (nd2 l hs x):=λok st x=>by
  unfold nd2 Yg
  split <;> simp[frz,AV.keys]
 have c4':∀ id d,0<=hoI hs id->d∈nums r->PC prog G 80 [ofA r l hs ps,.int .i64 id,.int .i64 d] (nd2 l hs (id,d)):=c4;clear c4;have pO:=Zi9 r l hs ps;have kO:=Zia r l hs ps;have rO:=λρ=>AV.ren_pure (ρ:=ρ) (ofA r l hs ps) pO
 have fO:∀ ok st,frz ok st 6 (ofA r l hs ps)=some (ofA r l hs ps):=λok st=>by unfold ofA;simp[frz,AV.keys]
 have hop:=Zj0 (ZiZ.1 h0).1;have hB:=ZeF (ZiZ.1 h0).1
 have fv:∀ y:Prt,y∈ps->wB hs y=true->nd2 l hs (y.ho,y.dw) = .vsl ((ndI l hs y.ho y.dw).map ia)/\(ndI l hs y.ho y.dw).length<=8/\ndI l hs y.ho y.dw≠[]:=λy hy hwb=>by
  have hb:=(Zlb h0 hy).2;unfold wB at hwb
  cases e:hoF hs y.ho with
  |none=>rw[e]at hwb;cases hwb
  | some h =>
    rw[e]at hwb;have hm:y.dw∈h.ds:=(by simpa using hwb);have en:ndI l hs y.ho y.dw=ndsL l h y.dw:=(by unfold ndI;rw[e]);have hn:=ZhZ (h:=h) hop hB hb hm;refine ⟨?_,?_,?_⟩
    . unfold nd2 Yg;rw[en,if_neg (by simpa using hn)]
    . rw[en];unfold ndsL
      split
      . exact W0O (W0D ..) (W0f _)
      . simp
    . rw[en];exact hn
 have eO:ofA r l hs ps = .vptr [.vsl (r.map isa),.vsl (l.map na),.vsl (hs.map hoa),.vsl (ps.map ptA),.vsl ((nums r).map ia)] 0:=rfl;obtain ⟨f,hf⟩:=Qex (nd2 l hs);rw[<- hf]at pf ff c4' fv;obtain ⟨cs,hOe,hc2⟩ : ∃ cs,ofA r l hs ps = .vptr cs 0/\cs[2]? = some (.vsl (hs.map hoa)):=⟨_,rfl,rfl⟩;rw[hOe]at pO kO rO hO hit;simp only[hOe]at c1 c4' fO ⊢;clear hOe eO;generalize outP ps day=L at *;generalize outE ps day=E at *;refine Zg6 rfl λR hG' hrd=>?_
 subst hG';refine Qga ?_;simp -implicitDefEqProofs[Zg4,Zg5];refine Yd.of hO (by simp[pO,AV.pure]) ?_;simp -implicitDefEqProofs
 refine ZiD hrd (by decide) hit (by simp[evA,St.tmp,lk]) (by simp[AV.pure,pO]) (λk=>k == 8||k == 9) (by intro k hk;simp at hk;omega) r1K [(2,.ptr 1002 0),(5,.ptr 1005 0),(6,.ptr 1006 0)]
  (λk=>slB f (.vptr cs 0) (kyK hs L k) (slK l hs L k)) (λk=>slU f (.vptr cs 0) (kyK hs L (k+1)) (slK l hs L k) (slK l hs L (k+1))) (λk=>k<=L.length) (W1f _) ?_ ?_ ?_ ?_ ?_ ?_ ?_ ?_ ?_ ?_ ?_
 . intro k q hq;simp only[slB,p7O]at hq
   split at hq <;> simp at hq
   . rcases hq with rfl|rfl|rfl|rfl <;> simp
   . rcases hq with rfl|rfl|rfl|rfl|rfl <;> simp
 . intro k;simp only[slB,p7O]
   split <;> simp[r1K]
 . intro k;simp only[slU,p7O,p7N]
   split <;> split <;> simp[r1K]
 . intro k q hq
   have hne:slK l hs L (k+1)=[]->slK l hs L k=[]:=λh=>by
    by_cases c:k<L.length
    . rw[ZlA c]at h
      split at h
      . simp at h
      . exact h
    . unfold slK at *;rw[W0J (by omega)]at h ⊢;exact h
   simp only[slB,slU,p7O,p7N]at *;by_cases c:slK l hs L k=[]
   . simp only[c,if_true]at *
     split <;> simp at hq ⊢ <;> rcases hq with rfl|rfl|rfl|rfl <;> simp[isK,lk]
   . have c2:¬slK l hs L (k+1)=[]:=λh=>c (hne h)
     simp only[c,c2,if_false]at *;simp at hq ⊢;rcases hq with rfl|rfl|rfl|rfl|rfl <;> simp[isK,lk]
 . intro k q hq;simp only[slB,slU,p7O,p7N]at *;by_cases c:slK l hs L k=[]
   . simp only[c,if_true]at *
     split at hq <;> simp at hq
     . rcases hq with rfl|rfl|rfl|rfl <;> exact .inl (by simp[isK,lk])
     . rcases hq with rfl|rfl|rfl|rfl|rfl
       . exact .inl (by simp[isK,lk])
       . exact .inl (by simp[isK,lk])
       . exact .inl (by simp[isK,lk])
       . exact .inl (by simp[isK,lk])
       . exact .inr (by simp[Yl,r1K,St.get,St.set,putO,lk])
   . simp only[c,if_false]at *
     split at hq <;> simp at hq
     . rcases hq with rfl|rfl|rfl|rfl <;> exact .inl (by simp[isK,lk])
     . rcases hq with rfl|rfl|rfl|rfl|rfl <;> exact .inl (by simp[isK,lk])
 . intro k
   have hne:slK l hs L (k+1)=[]->slK l hs L k=[]:=λh=>by
    by_cases c:k<L.length
    . rw[ZlA c]at h
      split at h
      . simp at h
      . exact h
    . unfold slK at *;rw[W0J (by omega)]at h ⊢;exact h
   simp only[slB,slU,p7O,p7V,p7N];by_cases c:slK l hs L k=[] <;> by_cases c2:slK l hs L (k+1)=[]
   . simp[c,c2,Yl,r1K,AV.ren,ZeV,Zlx _ pf]
   . simp[c,c2,Yl,r1K,AV.ren,ZeV,ZlD,Zlx _ pf]
   . exact absurd (hne c2) c
   . simp[c,c2,Yl,r1K,AV.ren,ZeV,ZlD,Zlx _ pf]
 . have e0:slK l hs L 0=[]:=rfl;have e1:kyK hs L 0=[]:=rfl;have e2:mmA f []=[]:=rfl;simp[slB,p7O,p7V,e0,e1,e2,Yl,r1K,St.set,putO,AObj.ren,AV.ren,rO]
 . intro k q hq;simp only[slB,W0h]at hq;rcases hq with hq|hq
   . simp only[slB,p7O];simp at hq;rcases hq with rfl|rfl|rfl|rfl
     . simp[Yc,Ya,kO]
     . simp[Yc,Ya,AV.keys,lk]
     . exact Zlw _ pf _
     . unfold p7V
       split <;> simp[Yc,Ya,AV.keys,lk]
   . unfold p7O at hq
     split at hq
     . cases hq
     . rw[W0B]at hq;subst hq;exact ZkQ _ _
 . intro q hq;simp at hq;rcases hq with rfl|rfl|rfl
   all_goals
    refine ⟨by simp[lk,AV.ren,r1K],by simp,by simp,λj k hk=>?_⟩;simp[AV.keys]at hk;subst hk;simp only[slB];simp[isK,lk]
 . intro k x hx hk R' hG1 hN1;obtain ⟨i,hkl,rfl⟩:=hat k x hx;have sc:=ZlA (l:=l) (hs:=hs) hkl;have kc:=Zlz (hs:=hs) hkl;have hle:=ZlB (l:=l) (hs:=hs) (L:=L) (k:=k);have hyp:=hLp _ (W0e hkl);obtain ⟨b1,b2⟩:=Zlb h0 hyp;have fv:=fv _ hyp;obtain ⟨y,hy⟩:=Qex (L[k]);rw[<- hy]at sc kc b1 b2 fv ⊢;have hpt:ptA y=[.int .i64 y.no,.int .i64 y.dy,.int .i64 y.ho,.int .i64 y.dw,.int .i64 y.lt,.int .i64 y.bk,.int .u8 y.lo]:=rfl;obtain ⟨k2,hk2,e1,e2⟩:=ZkW b1;have c1:=c1 y.ho;rw[e1]at c1;have c4:=c4' y.ho y.dw b1 b2;have hdl:=hw.dl _ (W0e hk2);obtain ⟨h,hh⟩:=Qex (hs[k2]);rw[<- hh]at hdl e2;have hlk:hs[k2]=h:=hh.symm;have hho:hoa h=[.int .i64 h.id,.int .i64 h.fr,.int .i64 h.to,.vsl (h.ds.map ia)]:=rfl;have c5:=c3 h.ds y.dw (by unfold Sml;omega);have hwb:wB hs y=decide (y.dw∈h.ds):=(by unfold wB;rw[e2]);obtain ⟨u1,hu1⟩ : ∃ u,u=decide (y.dw∈h.ds):=⟨_,rfl⟩;rw[<- hu1]at c5 hwb;unfold slB1 at sc;rw[hwb]at sc kc fv;obtain ⟨N,hNe⟩:=Qex (ndI l hs y.ho y.dw);rw[<- hNe]at sc fv;generalize kyK hs L k=K at *;generalize kyK hs L (k+1)=K' at *;generalize slK l hs L k=S at *;generalize slK l hs L (k+1)=T at *;have bb:(S.length+1)*56<=70368744177664:=(by omega);by_cases cS:S=[]
   case' pos =>
    have hV:p7V 1063 S = .nils:=(by simp[p7V,cS]);have hQ:p7O 1063 S=[]:=(by simp[p7O,cS]);have hM:p7N 1063 S=63:=by simp[p7N,cS]
   case' neg =>
    have hV:p7V 1063 S = .osl 1063 S.length:=(by simp[p7V,cS]);have hQ:p7O 1063 S=[(1063,.row 7 (S.map ptA))]:=(by simp[p7O,cS]);have hM:p7N 1063 S=1063:=by simp[p7N,cS]
   all_goals
    refine Qga ?_;simp only[slB,hV,hQ,W1e,W18];simp -implicitDefEqProofs[hpt];intro R'' hG2 hN2;refine Qga ?_;simp -implicitDefEqProofs[hpt,hc2,hG2];refine Ye.of c1 (by simp[pO,AV.pure]) ?_;simp -implicitDefEqProofs[hk2,hlk,hho];refine Ye.of c5 (by simp[AV.pure,ia]) ?_
    cases u1
    case false =>
     have kc:K'=K:=kc;have sc:T=S:=(by rw[sc];simp);simp -implicitDefEqProofs;refine ⟨rfl,?_⟩;refine ⟨?_,by omega⟩;simp only[slU,hM,kc,sc];simp[p7V,p7O,cS,Yi,Zeu,ZlF,Zly _ _ (ff _),frzA,frz,AV.keys,fO]
    obtain ⟨fv1,fv2,fv3⟩:=fv rfl;have c6:=c3 N y.lt (by unfold Sml;omega);obtain ⟨u2,hu2⟩ : ∃ u,u=decide (y.lt∈N):=⟨_,rfl⟩;rw[<- hu2]at c6 sc;simp -implicitDefEqProofs;refine ⟨rfl,?_⟩;by_cases c:(y.ho,y.dw)∈K
    . have kc:K'=K:=(by rw[kc];simp[addU,c]);simp -implicitDefEqProofs[hpt,Zlu,c,fv1,fv3,hG2];refine Ye.of c6 (by simp[AV.pure,ia]) ?_
      cases u2
      . have sc:T=S++[y]:=(by rw[sc];simp);have hne:¬T=[]:=(by rw[sc];simp);have hTl:T.length=S.length+1:=(by rw[sc];simp);have em:T.map ptA=S.map ptA++[ptA y]:=(by rw[sc,W0r];rfl);simp -implicitDefEqProofs;refine ⟨rfl,?_⟩
        try simp -implicitDefEqProofs[bb]
        refine ⟨?_,by omega⟩;simp only[slU,hM,kc,p7V,p7O,hne,if_false,hTl,em];simp[cS,Yi,Zeu,ZlE,Zly _ _ (ff _),frzA,frz,AV.keys,fO,ptA,W0y]
      . have sc:T=S:=(by rw[sc];simp);simp -implicitDefEqProofs;refine ⟨rfl,?_⟩;refine ⟨?_,by omega⟩;simp only[slU,hM,kc,sc];simp[p7V,p7O,cS,Yi,Zeu,ZlF,Zly _ _ (ff _),frzA,frz,AV.keys,fO]
    . have kc:K'=K++[(y.ho,y.dw)]:=(by rw[kc];simp[addU,c]);have hin:(y.ho,y.dw)∈K++[(y.ho,y.dw)]:=(by simp);simp -implicitDefEqProofs[hpt,Zlu,c,hG2];refine Ye.of c4 (by simp[pO,AV.pure]) ?_;simp -implicitDefEqProofs[Zlv f _ _ K c];refine ⟨rfl,?_⟩;simp -implicitDefEqProofs[hpt,Zlu,hin,fv1,hG2];refine Ye.of c6 (by simp[AV.pure,ia]) ?_
      cases u2
      . have sc:T=S++[y]:=(by rw[sc];simp);have hne:¬T=[]:=(by rw[sc];simp);have hTl:T.length=S.length+1:=(by rw[sc];simp);have em:T.map ptA=S.map ptA++[ptA y]:=(by rw[sc,W0r];rfl);simp -implicitDefEqProofs;refine ⟨rfl,?_⟩
        try simp -implicitDefEqProofs[bb]
        refine ⟨?_,by omega⟩;simp only[slU,hM,kc,p7V,p7O,hne,if_false,hTl,em];simp[cS,Yi,Zeu,ZlE,Zly _ _ (ff _),frzA,frz,AV.keys,fO,ptA,W0y]
      . have sc:T=S:=(by rw[sc];simp);simp -implicitDefEqProofs;refine ⟨rfl,?_⟩;refine ⟨?_,by omega⟩;simp only[slU,hM,kc,sc];simp[p7V,p7O,cS,Yi,Zeu,ZlF,Zly _ _ (ff _),frzA,frz,AV.keys,fO]
 . intro _;rw[eNl];generalize kyK hs L L.length=K at *;generalize slK l hs L L.length=S at *;by_cases cS:S=[]
   . simp -implicitDefEqProofs[slB,p7V,p7O,cS,Yl,r1K,AV.ren,ZeV,Zlx _ pf,rO];refine Qgr ?_;simp -implicitDefEqProofs[Yg]
   . simp -implicitDefEqProofs[slB,p7V,p7O,cS,Yl,r1K,AV.ren,ZeV,Zlx _ pf,rO,ZlD];refine Qgr ?_;simp -implicitDefEqProofs[Yg,cS,ptA]
def ZlH {L:Jp}:nmK L L.length=L.map (·.no):=by unfold nmK;rw[W0v]
def ZlI (L:Jp):(Yg (L.map ptA)).pure=true:=by unfold Yg;split <;> simp_all [AV.pure,ptA]
def ZlJ (L:Jp) (ok:Nat->Bool) (st:St):Yh ok st 6 (Yg (L.map ptA))=some (Yg (L.map ptA)):=by
 unfold Yg
 split
 . simp[Yh,AV.pure]
 . simp[Yh,AV.pure,ptA]
def ZlK {l:Jl} {hs:Jh} {ps:Jp} {day:Int}:(staL l hs ps day).length<=ps.length:=by
 unfold staL;exact W0D ..
def ZlL (hG:GC G) (hN:GN G) (hP:GP G) (r:Jr) (l:Jl) (hs:Jh) (ps:Jp) (day:Int) (hl:WfN l) (hr:Wf r) (hd:Sml (nums r)) (hw:WfP hs ps) :
  PC prog G 34 [prA r l hs ps,.int .i64 day] (stA7 r l hs ps day):=by
 have ha:=Zj3 hG hN hP r l hs ps day 1 hl hr hd hw;have pO:=Zi9 r l hs ps;unfold asP at ha;unfold stA7 sta7E;by_cases h0:as7 r l hs ps day 1=0
 case neg =>
  rw[if_neg h0]at ha ⊢;unfold prA at *
  (refine Zg9 rfl λR hG hrd=>Qga ?_;subst hG)
  simp -implicitDefEqProofs[Zg7,Zg8];refine Qco (ha) ?_;simp -implicitDefEqProofs[h0,Yg]
 have k0:=(Zkr h0).1;have c1:=ZlG hG hN r l hs ps day hl hr hd hw k0;have hle:=ZlK (l:=l) (hs:=hs) (ps:=ps) (day:=day);have hpl:=hw.pl;have c2:=PC.sub (Zle (G:=G) (staL l hs ps day) (by omega)) (xs:=[Yg ((staL l hs ps day).map ptA)]) ⟨.orNil _,trivial⟩;rw[ZlH]at c2;have sV:=Zl9 ((staL l hs ps day).map (·.no));have pS:=ZlI (staL l hs ps day);rw[if_pos h0,h0]at ha;rw[if_pos h0,h0];generalize Yg (((staL l hs ps day).map (·.no)).map ia)=V at *;generalize Yg ((staL l hs ps day).map ptA)=W at *;unfold prA at *
 (refine Zg9 rfl λR hG hrd=>Qga ?_;subst hG)
 simp -implicitDefEqProofs[Zg7,Zg8];refine Qco (ha) ?_;simp -implicitDefEqProofs;refine Yd.of c1 (by simp[pO,AV.pure]) ?_;simp -implicitDefEqProofs;refine Yd.of c2 (by simp[pS]) ?_;simp -implicitDefEqProofs[sV]
def ZlM (a b:List Int) (ha:Sml a) (hb:Sml b):PC prog G 98 [.agg [.vsl (a.map ia),.vsl (b.map ia)]] (.int .i64 (a.length+b.length:Nat)):=by
 unfold Sml at ha hb;have wi:i64.wrap ((a.length:Int)+b.length)=(a.length:Int)+b.length:=Yf
 (refine ZfU rfl λR hG hrd=>Qga ?_;subst hG)
 simp -implicitDefEqProofs[ZfS,ZfT,wi]
def cmI:List Int->List Int->Int
 |[],[]=>0
 |[],_::_=>-1
 |_::_,[]=>1
 |x::a,y::b=>if x<y then -1 else if y<x then 1 else cmI a b
def ZlN:∀ (i:Nat) (a b:List Int),a.take i=b.take i->cmI a b=cmI (a.drop i) (b.drop i)
 |0,_,_,_=>rfl
 |i+1,[],[],_=>rfl
 |i+1,[],y::b,h=>by simp at h
 |i+1,x::a,[],h=>by simp at h
 | i+1,x::a,y::b,h=>by
   simp only[W1Z,W2f]at h;obtain ⟨rfl,h⟩:=h;rw[W1D,W1D,<- ZlN i a b h];simp[cmI]
def ZlO:∀ (a b:List Int),a.length=b.length->decide (cmI a b<0)=lexB a b
 |[],[],_=>rfl
 |[],_::_,h=>by simp at h
 |_::_,[],h=>by simp at h
 | x :: a,y::b,h=>by
   have ih:=ZlO a b (by simpa using h);unfold cmI lexB;by_cases c:x<y
   . have:¬x=y:=(by omega);simp[c,this]
   . by_cases c2:y<x
     . have:¬x=y:=(by omega);simp[c,c2,this]
     . have:x=y:=(by omega);simp[this,ih]
def ZlP (a b:List Int) (ha:Sml a) (hb:Sml b):PC prog G 152 [.vsl (a.map ia),.vsl (b.map ia)] (.int .i64 (cmI a b)):=by
 unfold Sml at ha hb;have hc:=λx y=>Z9D (G:=G) x y
 (refine ZfR rfl λR hG hrd=>Qga ?_;subst hG)
 simp -implicitDefEqProofs[ZfP,ZfQ];refine Z8a (λi=>⟨[(11,.int .i64 i),(10,.int .i64 a.length),(9,.vsl (a.map ia)),(0,.vsl (a.map ia)),(1,.vsl (b.map ia))],[]⟩) (λi=>a.take i=b.take i/\i<=b.length) a.length ?_ ⟨rfl,W1f _⟩ ?_ ?_
 . (refine Wkc ?_;simp only[Wkl,and_true];(try simp[lk,Yc,Ya,AV.keys]))
 . rintro i hi ⟨he,hle⟩;have wi:i64.wrap ((i:Int)+1)=(i:Int)+1:=Yf;have ed:=ZlN i a b he;obtain ⟨u,hu⟩:=Qex (cmI a b);rw[<- hu]at ed ⊢;rw[W0x hi]at ed;refine Qga ?_;by_cases hj:i<b.length
   case neg =>
    have hj':(b.length:Int)<=i:=(by omega);have e1:b.drop i=[]:=List.drop_eq_nil_of_le (by omega);rw[e1]at ed;have ed:u=1:=ed;simp -implicitDefEqProofs[hi,ia,hj'];refine Qgr ?_;simp -implicitDefEqProofs[ed]
   have hj':¬(b.length:Int)<=i:=(by omega);rw[W0x hj,cmI]at ed;have hc:=hc a[i] b[i];simp -implicitDefEqProofs[hi,hj,ia,hj'];refine Qco (hc) ?_;by_cases c:a[i]<b[i]
   . rw[if_pos c]at ed;simp -implicitDefEqProofs[c];refine Qgr ?_;simp -implicitDefEqProofs[ed]
   by_cases c2:b[i]<a[i]
   . rw[if_neg c,if_pos c2]at ed;simp -implicitDefEqProofs[c,c2];refine Qgr ?_;simp -implicitDefEqProofs[ed]
   . have q:a[i]=b[i]:=(by omega);simp -implicitDefEqProofs[c,c2,wi];refine ⟨?_,by rw[W08 hi,W08 hj,he,q],hj⟩
     (refine Wkc ?_;simp only[Wkl,and_true];(try simp[lk,Yc,Ya,AV.keys]))
 . rintro ⟨he,hle⟩;have ed:=ZlN a.length a b he;rw[List.drop_length]at ed;refine Qga ?_;by_cases c:a.length<b.length
   . have c':(a.length:Int)<b.length:=(by omega);rw[W0x c]at ed;have ed:cmI a b = -1:=ed;rw[ed];simp -implicitDefEqProofs[c,c'];refine Qgr ?_;simp -implicitDefEqProofs[c']
   . have c':¬(a.length:Int)<b.length:=(by omega);have e1:b.drop a.length=[]:=List.drop_eq_nil_of_le (by omega);rw[e1]at ed;have ed:cmI a b=0:=ed;rw[ed];simp -implicitDefEqProofs[c,c'];refine Qgr ?_;simp -implicitDefEqProofs[c']
end Go.Proofs.YtcdlimgkliklhaaGreatDoor
