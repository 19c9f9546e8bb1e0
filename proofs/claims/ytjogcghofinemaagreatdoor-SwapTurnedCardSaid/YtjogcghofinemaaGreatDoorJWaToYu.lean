/-
  The chapter's examples: plain values of what the functions return (for `alive`).
-/
import Derived.Test.YtjogcghofinemaaGreatDoorJTeToTp
import Derived.Test.YtjogcghofinemaaGreatDoorJRcWToEc
import Derived.Test.YtjogcghofinemaaGreatDoorJEdToNd
import Derived.Test.YtjogcghofinemaaGreatDoorJAmLToAmR
import Derived.Test.YtjogcghofinemaaGreatDoorProg
set_option linter.all false
set_option linter.unusedSimpArgs false
set_option linter.unusedVariables false
set_option linter.unusedSectionVars false
namespace Go.Proofs.YtjogcghofinemaaGreatDoor
open Go.RowKit
def exR:List Iss:=[
 ⟨10,1,1,[(20,2),(30,1)],[]⟩,⟨10,2,1,[(20,1),(30,2),(40,2)],[]⟩,⟨20,1,1,[(30,3),(50,1)],[]⟩,
 ⟨30,1,2,[],[⟨150,100,200⟩]⟩,⟨30,2,2,[],[⟨150,120,200⟩]⟩,⟨40,1,2,[],[]⟩,⟨50,1,3,[],[]⟩]
def exL:List Nte:=[⟨101,100,2,30,2,5,999,0,false,2⟩,⟨103,300,2,0,0,10,12,101,false,0⟩]
def exQ:List Rul:=[⟨1,50,40,1,30,2,false,0⟩,⟨2,150,50,1,40,1,true,0⟩,⟨3,300,0,0,0,0,false,2⟩]
theorem ex_aq:aqN exR exL exQ [] 9 200 200=0:=by decide +kernel
theorem ex_st:st5 exR exL exQ [] 9 200=[⟨30,2,30,1,101,true⟩,⟨40,1,30,2,1,false⟩,⟨50,1,40,1,2,false⟩,⟨40,1,50,1,2,false⟩]:=by decide +kernel
theorem ZmC:chE exR exL exQ [] 9 200 (50,1) (30,1)=([⟨50,1,40,1,2,false⟩,⟨40,1,30,2,1,false⟩,⟨30,2,30,1,101,true⟩],0):=by decide +kernel
theorem ZmD:ruE exR exL exQ 300=([1,3],0):=by decide +kernel
theorem ZmE:rcL exR (st5 exR exL exQ [] 9 200) false (30,1)=[(30,1),(30,2),(40,1),(50,1)]:=by decide +kernel
theorem ex_in:rcL exR (st5 exR exL exQ [] 9 200) true (40,1)=[(30,1),(30,2),(40,1),(50,1)]:=by decide +kernel
theorem ZmF:clX (mayT (edg (st5 exR exL exQ [] 9 200))) (rfs exR) 7=[[(40,1),(50,1)]]:=by decide +kernel
theorem ZmG:losX (mayT (edg (st5 exR exL exQ [] 9 200))) (mayT (edg (st5 exR exL exQ [] 9 300))) (rfs exR) 7=[((40,1),(50,1)),((50,1),(30,1)),((50,1),(30,2)),((50,1),(40,1))]:=by decide +kernel
theorem ZmH {a b:Int} (h0:0<=a) (h1:1<=b):0<=a.tmod b/\a.tmod b<b:=⟨Int.tmod_nonneg b h0,Int.tmod_lt_of_pos a (by omega)⟩
def mcV (n:Int):Int:=n.tmod 999+1
def dyV (n:Int):Int:=n.tmod 14611
theorem ZmI {n:Int} (h:0<=n):inR (mcV n) 1 999=true:=by
 have:=ZmH (b:=999) h (by omega);exact decide_eq_true (by unfold mcV;omega)
theorem ZmJ {n:Int} (h:0<=n):inR (dyV n) 0 14610=true:=by
 have:=ZmH (b:=14611) h (by omega);exact decide_eq_true (by unfold dyV;omega)
def ttV (l:List Nte) (n:Int):List Int:=sbT (opQ l) (n.tmod (2 ^ (opQ l).length:Nat)).toNat
def isV (r:List Iss) (n:Int):Rf:=(rfs r).getD (n.tmod (rfs r).length).toNat default
theorem ZmK {r:List Iss} (hr:rfs r≠[]) {n:Int} (h:0<=n):isV r n∈rfs r:=by
 have hl:0<(rfs r).length:=List.length_pos_iff.2 hr;have h1:=ZmH (b:=(rfs r).length) h (by omega);have hi:(n.tmod (rfs r).length).toNat<(rfs r).length:=(by omega);rw[isV,List.getD_eq_getElem?_getD,List.getElem?_eq_getElem hi];exact List.getElem_mem hi
def rdB (r:List Iss) (l:List Nte) (q:List Rul):Bool:=!(Zbm r||decide (16<l.length)||decide (20<q.length))&&decide (chS r l q=0)
theorem ZmL {r:List Iss} {l:List Nte} {q:List Rul} (h:rdB r l q=true) (hr:∀ x∈r,KOk x) (hl:∀ x∈l,NOk x):Wf r/\WfN l/\Sml q/\chS r l q=0/\r.length<=80:=by
 simp only[rdB,Bool.and_eq_true,Bool.not_eq_true',decide_eq_true_eq,Bool.or_eq_false_iff,decide_eq_false_iff_not]at h;obtain ⟨⟨⟨h1,h2⟩,h3⟩,h4⟩:=h
 have h80:r.length<=80:=by
  simp only[Zbm,Bool.or_eq_false_iff,decide_eq_false_iff_not]at h1;omega
 exact ⟨Zmv h1 hr,⟨by unfold Sml;omega,hl⟩,by unfold Sml;omega,h4,h80⟩
def NsubR:List (List AV)->List (List AV)->Prop
 |[],[]=>True
 |x::xs,y::ys=>NsubL x y/\NsubR xs ys
 |_,_=>False
theorem NsubR.len:∀ {xs ys:List (List AV)},NsubR xs ys->xs.length=ys.length
 |[],[],_=>rfl
 |_::_,_::_,h=>by simp only[List.length_cons,NsubR.len h.2]
 |[],_::_,h=>h.elim
 |_::_,[],h=>h.elim
theorem NsubR.at:∀ {xs ys:List (List AV)},NsubR xs ys->∀ (i:Nat) (y:List AV),ys[i]? = some y->∃ x,xs[i]? = some x/\NsubL x y
 |[],[],_,i,y,h=>by simp at h
 | x::xs,y::ys,h,0,z,e=>by
   simp only[List.getElem?_cons_zero,Option.some.injEq]at e;subst e;exact ⟨x,rfl,h.1⟩
 | x::xs,y::ys,h,i+1,z,e=>by
   simp only[List.getElem?_cons_succ]at e;obtain ⟨w,h1,h2⟩:=NsubR.at h.2 i z e;exact ⟨w,by simpa using h1,h2⟩
 |[],_::_,h,_,_,_=>h.elim
 |_::_,[],h,_,_,_=>h.elim
theorem Nsub.vsl {xs ys:List (List AV)} (h:NsubR xs ys):Nsub (.vsl xs) (.vsl ys):=λM W u hu=>by
 have hl:=h.len
 cases hu with
 | vsl _ a cap sz b o f hcap hmax ha hn hs hc hr =>
   rw[hl];refine .vsl ys a cap sz b o f (by omega) hmax (λe=>ha λe2=>e ?_) (λe=>⟨?_,(hn e).2⟩) (λr hr=>?_) (λi j hi hj=>hc i j (by omega) hj) λi j ρ x hρ hx=>?_
   . rw[e2]at hl;exact List.eq_nil_of_length_eq_zero hl.symm
   . have:=(hn e).1;rw[this]at hl;exact List.eq_nil_of_length_eq_zero hl.symm
   . obtain ⟨i,hi,rfl⟩:=List.getElem_of_mem hr;obtain ⟨x,hx,h2⟩:=h.at i _ (List.getElem?_eq_getElem hi);rw[<- h2.len];exact hs x (List.mem_of_getElem? hx)
   . obtain ⟨y,hy,h2⟩:=h.at i ρ hρ;obtain ⟨z,hz,h3⟩:=h2.at j x hx;exact h3 _ _ _ (hr i j y z hy hz)
section
variable {G:Nat->Option (List AV)}
theorem ZmM (d l:Int):PC Tryz.prog G 24 [.int .i64 d,.int .i64 l] (.agg [.int .i64 d,.int .i64 l]):=by
 (refine Z5F rfl λR hG hrd=>Qga ?_;subst hG)
 simp -implicitDefEqProofs[Z5D,Z5E]
theorem ZmN:PC Tryz.prog G 72 [] (rega exR):=by
 refine PC.out (v:=.agg [.vsl [[.int .i64 10,.int .i64 1,.int .u8 1,.vsl [[.int .i64 20,.int .i64 2],[.int .i64 30,.int .i64 1]],.nils],
  [.int .i64 10,.int .i64 2,.int .u8 1,.vsl [[.int .i64 20,.int .i64 1],[.int .i64 30,.int .i64 2],[.int .i64 40,.int .i64 2]],.nils],
  [.int .i64 20,.int .i64 1,.int .u8 1,.vsl [[.int .i64 30,.int .i64 3],[.int .i64 50,.int .i64 1]],.nils],
  [.int .i64 30,.int .i64 1,.int .u8 2,.nils,.vsl [[.int .i64 150,.int .i64 100,.int .i64 200]]],
  [.int .i64 30,.int .i64 2,.int .u8 2,.nils,.vsl [[.int .i64 150,.int .i64 120,.int .i64 200]]],
  [.int .i64 40,.int .i64 1,.int .u8 2,.nils,.nils],[.int .i64 50,.int .i64 1,.int .u8 3,.nils,.nils]]]) ?_ ?_
 . (refine Z5C rfl λR hG hrd=>Qga ?_;subst hG)
   simp -implicitDefEqProofs[Z5A,Z5B]
   try rfl
 . refine .agg ⟨.vsl ?_,trivial⟩;have n:=@Nsub.rfl';exact ⟨⟨n,n,n,n,.nils,trivial⟩,⟨n,n,n,n,.nils,trivial⟩,⟨n,n,n,n,.nils,trivial⟩,⟨n,n,n,.nils,n,trivial⟩,⟨n,n,n,.nils,n,trivial⟩,⟨n,n,n,.nils,.nils,trivial⟩,⟨n,n,n,.nils,.nils,trivial⟩,trivial⟩
theorem ZmO:PC Tryz.prog G 41 [] (swa exR exL exQ):=by
 have hR:=ZmN (G:=G);have r2:List.range 2=[0,1]:=rfl;have r3:List.range 3=[0,1,2]:=rfl;rw[rega]at hR
 (refine Z5I rfl λR hG hrd=>Qga ?_;subst hG)
 simp -implicitDefEqProofs[Z5G,Z5H,r2,r3];refine Qco (hR) (by simp) ?_;simp -implicitDefEqProofs[r2,r3];refine Qco (ZmM 40 1) (by simp) ?_;simp -implicitDefEqProofs[r2,r3];refine Qco (ZmM 30 2) (by simp) ?_;simp -implicitDefEqProofs[r2,r3];refine Qco (ZmM 50 1) (by simp) ?_;simp -implicitDefEqProofs[r2,r3];refine Qco (ZmM 40 1) (by simp) ?_;simp -implicitDefEqProofs[swa,exL,exQ,na,ra,r2,r3]
 try rfl
theorem ex_wr:Wf exR:=by
 refine ⟨⟨by unfold Sml;decide,?_⟩,by decide⟩;unfold Sml;decide
theorem ex_wl:WfN exL:=⟨by unfold Sml;decide,by decide⟩
theorem ex_wq:Sml exQ:=by unfold Sml;decide
theorem ZmP:Sml ([]:List Int):=by simp[Sml]
theorem ZmQ (hG:GC G) (hN:GN G) (hQ:GQ G) (m day a1 a2 b1 b2:Int) (w B:Bool) (h:maE exR exL exQ [] m day (a1,a2) (b1,b2) = .tup [.bool B,.int .i64 0]) :
  PC Tryz.prog G 40 [.int .i64 m,.int .i64 day,.agg [.int .i64 a1,.int .i64 a2],.agg [.int .i64 b1,.int .i64 b2],.bool w] (.bool (B == w)):=by
 have hs:=ZmO (G:=G);have hm:=PC.sub (Zkz hG hN hQ exR exL exQ [] m day a1 a2 b1 b2 ex_wl ex_wr ex_wq ZmP) (xs:=[swa exR exL exQ,.nils,.int .i64 m,.int .i64 day,.agg [.int .i64 a1,.int .i64 a2],.agg [.int .i64 b1,.int .i64 b2]]) ⟨.rfl',.nils,.rfl',.rfl',.rfl',.rfl',trivial⟩;rw[h]at hm;unfold swa at *
 (refine Z5L rfl λR hG hrd=>Qga ?_;subst hG)
 simp -implicitDefEqProofs[Z5J,Z5K];refine Qco (hs) (by simp) ?_;simp -implicitDefEqProofs[];refine Qco (hm) (by simp) ?_;simp -implicitDefEqProofs[]
 try rfl
theorem ZmR (n:Int) (h0:0<=n) (h1:n<=65535):PC Tryz.prog G 52 [.int .u16 n] (.int .i64 (mcV n)):=by
 have b:=ZmH (b:=999) h0 (by omega);have w1:IntKind.i64.wrap n=n:=Yg (by omega) (by omega);have w2:IntKind.i64.wrap (n.tmod 999+1)=n.tmod 999+1:=Yg (by omega) (by omega)
 (refine Z5U rfl λR hG hrd=>Qga ?_;subst hG)
 simp -implicitDefEqProofs[Z5S,Z5T,w1,w2,mcV]
theorem ZmS (n:Int) (h0:0<=n) (h1:n<=65535):PC Tryz.prog G 35 [.int .u16 n] (.int .i64 (dyV n)):=by
 have w1:IntKind.i64.wrap n=n:=Yg (by omega) (by omega)
 (refine Z5X rfl λR hG hrd=>Qga ?_;subst hG)
 simp -implicitDefEqProofs[Z5V,Z5W,w1,dyV]
theorem ZmT (r:List Iss) (l:List Nte) (n:Int) (hB:ZdZ r l=true) (h0:0<=n) (h1:n<=255):PC Tryz.prog G 51 [.agg [.vsl (r.map isa),.vsl (l.map na)],.int .u8 n] (.vsl ((ttV l n).map ia)):=by
 have hT:=ZlZ (G:=G) r l hB;have h5:=ZlO hB;have hK:=pow5 h5;have tlen:=ZlQ (opQ l) (2 ^ (opQ l).length);have tpur:=ZlS (opQ l) (2 ^ (opQ l).length);have tget:∀ v K,v<K->(trK (opQ l) K)[v]? = some [.vsl ((sbT (opQ l) v).map ia)]:=λv K h=>by simp[trK,trR,h]
 unfold ttV;have hp:0<2 ^ (opQ l).length:=Nat.pow_pos (by omega);have tg:=tget (n.tmod (2 ^ (opQ l).length:Nat)).toNat (2 ^ (opQ l).length);generalize 2 ^ (opQ l).length=K at *;have b:=ZmH (b:=(K:Int)) h0 (by omega);have w1:IntKind.i64.wrap n=n:=Yg (by omega) (by omega);have k0:¬(K:Int)=0:=(by omega);have k0':¬K=0:=(by omega);have hi:(n.tmod (K:Int)).toNat<K:=(by omega);have tg2:=tg hi;obtain ⟨q1,q2⟩:=List.getElem?_eq_some_iff.1 tg2;generalize trK (opQ l) K=T at *
 (refine Z60 rfl λR hG hrd=>Qga ?_;subst hG)
 simp -implicitDefEqProofs[Z5Y,Z5Z];refine Qco (hT) (by simp) ?_;simp -implicitDefEqProofs[w1,k0,k0',b.1,b.2,tlen,hi,q2]
theorem ZmU (r:List Iss) (n:Int) (hr:Sml r) (hne:r≠[]) (h0:0<=n) (h1:n<=255):PC Tryz.prog G 26 [.agg [.vsl (r.map isa)],.int .u8 n] (.agg [.int .i64 (isV r n).1,.int .i64 (isV r n).2]):=by
 have hR:=Zji (G:=G) r hr;rw[Zku hne]at hR;have hl:0<(rfs r).length:=(by rw[ZkD];exact List.length_pos_iff.2 hne);have b:=ZmH (b:=(rfs r).length) h0 (by omega);have w1:IntKind.i64.wrap n=n:=Yg (by omega) (by omega);have k0:¬((rfs r).length:Int)=0:=(by omega);have k0':¬(rfs r).length=0:=(by omega);have hi:(n.tmod (rfs r).length).toNat<(rfs r).length:=(by omega);have e:isV r n=(rfs r)[(n.tmod (rfs r).length).toNat]:=(by rw[isV,List.getD_eq_getElem?_getD,List.getElem?_eq_getElem hi];rfl);rw[e];generalize rfs r=R0 at *
 (refine Z63 rfl λR hG hrd=>Qga ?_;subst hG)
 simp -implicitDefEqProofs[Z61,Z62];refine Qco (hR) (by simp) ?_;simp -implicitDefEqProofs[w1,k0,k0',b.1,b.2,hi,ita]
theorem ZmV (r:List Iss) (l:List Nte) (q:List Rul) (hr:∀ x∈r,KOk x) (hl:∀ x∈l,NOk x):PC Tryz.prog G 15 [swa r l q] (.bool (rdB r l q)):=by
 have hg:=Zmx (G:=G) r l q;have hc:=λ(h:(Zbm r||decide (16<l.length)||decide (20<q.length))=false)=>ZhX (G:=G) r l q ⟨by simp only[Bool.or_eq_false_iff,decide_eq_false_iff_not]at h;unfold Sml;omega,hl⟩ (Zmv (by simp only[Bool.or_eq_false_iff]at h;exact h.1.1) hr) (by simp only[Bool.or_eq_false_iff,decide_eq_false_iff_not]at h;unfold Sml;omega)
 unfold rdB;unfold swa at *;generalize (Zbm r||decide (16<l.length)||decide (20<q.length))=g at *
 (refine Z5R rfl λR hG hrd=>Qga ?_;subst hG)
 simp -implicitDefEqProofs[Z5P,Z5Q];refine Qco (hg) (by simp) ?_
 cases g
 . simp -implicitDefEqProofs[];refine Qco (hc rfl) (by simp) ?_;simp -implicitDefEqProofs[]
 . simp -implicitDefEqProofs[]
def akA (s:List Int) (m d:Int) (a b:Rf):AV:=.agg [.vsl (s.map ia),.int .i64 m,.int .i64 d,.int .i64 a.1,.int .i64 a.2,.int .i64 b.1,.int .i64 b.2]
theorem ZmW (r:List Iss) (l:List Nte) (q:List Rul) (t m d a b:Int) (hB:ZdZ r l=true) (hr:Sml r) (hne:r≠[]) (ht:0<=t/\t<=255) (hm:0<=m/\m<=65535) (hd:0<=d/\d<=65535) (ha:0<=a/\a<=255) (hb:0<=b/\b<=255) :
  PC Tryz.prog G 16 [swa r l q,.int .u8 t,.int .u16 m,.int .u16 d,.int .u8 a,.int .u8 b] (akA (ttV l t) (mcV m) (dyV d) (isV r a) (isV r b)):=by
 have h1:=ZmT (G:=G) r l t hB ht.1 ht.2;have h2:=ZmR (G:=G) m hm.1 hm.2;have h3:=ZmS (G:=G) d hd.1 hd.2;have h4:=ZmU (G:=G) r a hr hne ha.1 ha.2;have h5:=ZmU (G:=G) r b hr hne hb.1 hb.2;unfold swa akA;generalize isV r a=A at *;generalize isV r b=B at *
 (refine Z66 rfl λR hG hrd=>Qga ?_;subst hG)
 simp -implicitDefEqProofs[Z64,Z65];refine Qco (h1) (by simp) ?_;simp -implicitDefEqProofs[];refine Qco (h2) (by simp) ?_;simp -implicitDefEqProofs[];refine Qco (h3) (by simp) ?_;simp -implicitDefEqProofs[];refine Qco (h4) (by simp) ?_;simp -implicitDefEqProofs[];refine Qco (h5) (by simp) ?_;simp -implicitDefEqProofs[]
 try rfl
end
def plT (ds ls:List Int) (i:Nat):List (Nat×AV):=[(49,.int .i64 i),(48,.int .i64 ds.length),(47,.vsl (ds.map ia)),(12,Yh (ls.map ia)),(10,.ptr 10 0)]
def plS (M:List AV) (ds ls:List Int) (X:List (Rf×List Rf)) (i:Nat):St :=
 if i=0 then ⟨(16,.nils)::plT ds ls i,[(10,.box M)]⟩ else ⟨(16,.osl 67 i)::plT ds ls i,[(67,.row 3 (plM false (X.take i))),(10,.box M)]⟩
section
variable {G:Nat->Option (List AV)}
set_option maxHeartbeats 2000000 in
theorem ZmX (hG:GC G) (hN:GN G) (hQ:GQ G) (r:List Iss) (l:List Nte) (q:List Rul) (s:List Int) (m day:Int) (hw:WfN l) (hr:Wf r) (hq:Sml q) (hs:Sml s) :
  PC Tryz.prog G 37 [swa r l q,.vsl (s.map ia),.int .i64 m,.int .i64 day] (plE false r l q s m day):=by
 have ha:=ZiK hG hN r l q s m day day hw hr hq hs;unfold plE;unfold moA at ha;by_cases h0:aqN r l q s m day day=0
 case neg =>
  rw[if_neg h0]at ha ⊢;unfold swa at *
  (refine Z6k rfl λR hG hrd=>Qga ?_;subst hG)
  simp -implicitDefEqProofs[Z6i,Z6j];refine Qco (ha) (by simp) ?_;simp -implicitDefEqProofs[h0]
 have hz:=Zi9 h0;have hne:=ch_ne hz.1;have has:=aq_as h0;have hlt:=Zm8 hG hN r l s m hw hr hs;have ho:=Zm5 (Zm4 has).1;have hdr:=Zdu hG r hr;have h20:=(Zm6 ho).2;have hrc:=λb1 b2=>Zkx hG hN hQ r l q s m day b1 b2 false hw hr hq hs hz.1 hz.2.1 hne (by have:=ZkC hz.1;omega)
 have pS:(Yl r l q).pure=true:=(by unfold Yl rfA;split <;> simp[AV.pure,isa,na,ra,rfa]);have kS:(Yl r l q).keys=[]:=(by unfold Yl;simp[AV.keys]);have pM:∀ x∈moC r l q s m day,x.pure=true:=(by simp[moC,AV.pure,pS,ia]);rw[if_pos h0,h0]at ha ⊢;unfold ltA at hlt;rw[if_pos has,has]at hlt;rw[if_pos ho,ho]at hdr;unfold rega at hdr;have hll:(ltL s m l (nums r)).length=(nums r).length:=(by simp[ltL]);have hsc:=λi (hi:i<(nums r).length)=>Zmf (r:=r) (L:=st5 r l q s m day) hll hi
 have hXl:=Zme (r:=r) (L:=st5 r l q s m day) hll;generalize ltL s m l (nums r)=ls at *;generalize nums r=ds at *;obtain ⟨cs,eS⟩ : ∃ cs,Yl r l q = .vptr cs 0:=⟨_,rfl⟩;unfold moC at *;rw[eS]at ha hrc pS kS pM;have pV:=Zf4 (l:=ls.map ia) (by simp[ia,AV.pure]);have kV:=Zf5 (ls.map ia);have sV:=λok st=>Zm7 pV ok st
 generalize hX:plX r (st5 r l q s m day) ds ls=X at *;unfold swa at *
 (refine Z6k rfl λR hG hrd=>Qga ?_;subst hG)
 simp -implicitDefEqProofs[Z6i,Z6j];refine Qco (ha) (by simp) ?_;simp -implicitDefEqProofs[];refine Qco (hlt) (by simp) ?_;simp -implicitDefEqProofs[];refine Qco (hdr) (by simp) ?_;simp -implicitDefEqProofs[];generalize hM:[AV.vptr cs 0,.vsl (s.map ia),.int .i64 m,.int .i64 day]=M at *;have hk:∀ x∈M,x.keys=[]:=by rw[<- hM];simp[AV.keys]
 have hMk:∀ o,Yd o (.box M)=true:=λo=>by
  simp only[Yd,List.all_eq_true];intro x hx;simp[Ya,hk x hx]
 refine Zba (plS M ds ls X) (λ_=>True) ds.length ?_ trivial ?_ ?_
 . simp only[plS,plT,if_true,<- hM]
   ((try simp only[kV]);refine Yn.sub (by simp[lk,Ya,AV.keys,kV]) ?_;simp only[kV,Wkl,and_true];(try simp[lk,Yd,Ya,AV.keys,kV]))
 . intro i hi _;have wi:IntKind.i64.wrap ((i:Int)+1)=(i:Int)+1:=Yg (by omega) (by omega)
   have hne2:¬ls.map ia=[]:=λh=>by
    have:ls.length=0:=(by rw[<- List.length_map (f:=ia),h];rfl);omega
   have eV:Yh (ls.map ia) = .vsl (ls.map ia):=(by rw[Yh,if_neg hne2]);have hil:i<ls.length:=(by omega);have sc:=hsc i hi;have hm:=hrc ds[i] ls[i];have hrow:∀ (d e:Int) (V:List Rf),plR false ((d,e),V)=[.int .i64 d,.int .i64 e,.vsl (acM V)]:=λd e V=>rfl
   generalize rcL r (st5 r l q s m day) false (ds[i],ls[i])=V at *;have em:=Zm9 false (X.take i) ((ds[i],ls[i]),V);rw[<- sc,hrow]at em;have lm:=Zma false (X.take i);rw[List.length_take,hXl,Nat.min_eq_left (by omega)]at lm;have bb:(i+1)*40<=70368744177664:=(by omega);have eA:V.map ita=acM V:=rfl;rw[eA]at hm;refine Qga ?_;by_cases i0:i=0
   case' pos =>
    have hS:plS M ds ls X i=⟨(16,.nils)::plT ds ls i,[(10,.box M)]⟩:=(by unfold plS;rw[if_pos i0]);have e1:plM false (X.take i)=[]:=(by rw[i0]at lm ⊢;exact List.length_eq_zero_iff.1 lm);rw[e1,List.nil_append]at em
   case' neg =>
    have hS:plS M ds ls X i=⟨(16,.osl 67 i)::plT ds ls i,[(67,.row 3 (plM false (X.take i))),(10,.box M)]⟩:=by unfold plS;rw[if_neg i0]
   all_goals
    rw[hS];simp -implicitDefEqProofs[plT,eV,hi,hil,ia,<- hM];rw[hM];refine Yf.of hm (by simp[AV.pure];exact pM) ?_;simp -implicitDefEqProofs[bb,lm];refine ⟨rfl,?_⟩;have hS1:plS M ds ls X (i+1)=⟨(16,.osl 67 (i+1))::plT ds ls (i+1),[(67,.row 3 (plM false (X.take (i+1)))),(10,.box M)]⟩:=(by unfold plS;rw[if_neg (by omega)]);rw[hS1,<- em];simp only[plT,eV];have w1:IntKind.i64.wrap 1=1:=rfl
    ((try simp only[wi,w1,i0]);refine Yn.sub (by simp[lk,Ya,AV.keys,wi,w1,i0]) ?_;simp only[wi,w1,i0,Wkl,Zmd,hMk,and_true];(try simp[lk,Yd,Ya,AV.keys,wi,w1,i0]))
 . intro _;have hall:X.take ds.length=X:=(by rw[<- hXl];exact List.take_length);have lm:=Zma false X;have k5:=Zmc false X;rw[hXl]at lm;refine Qga ?_;by_cases i0:ds.length=0
   . have hS:plS M ds ls X ds.length=⟨(16,.nils)::plT ds ls ds.length,[(10,.box M)]⟩:=(by unfold plS;rw[if_pos i0]);have e0:plM false X=[]:=(by rw[i0]at lm;exact List.length_eq_zero_iff.1 lm);rw[hS];simp -implicitDefEqProofs[plT];refine Qgr ?_;simp -implicitDefEqProofs[Yh,e0]
   . have hS:plS M ds ls X ds.length=⟨(16,.osl 67 ds.length)::plT ds ls ds.length,[(67,.row 3 (plM false (X.take ds.length))),(10,.box M)]⟩:=(by unfold plS;rw[if_neg i0]);rw[hall]at hS;have e0:¬plM false X=[]:=λh=>i0 (by rw[<- lm,h];rfl)
     rw[hS];simp -implicitDefEqProofs[plT];refine Qgr ?_;simp -implicitDefEqProofs[Yh,e0,k5,lm]
end
section
variable {G:Nat->Option (List AV)}
end
section
variable {G:Nat->Option (List AV)}
end
section
variable {G:Nat->Option (List AV)}
theorem ZmY (X:List Pr) (hX:X.length<=4000):PC Tryz.prog G 48 [.vsl (prM X),.vsl (prM X)] (.bool true):=by
 have ll:=Zlw X
 (refine Z6w rfl λR hG hrd=>Qga ?_;subst hG)
 simp -implicitDefEqProofs[Z6u,Z6v,ll];refine Zba (λi=>⟨[(5,.int .i64 i),(0,.vsl (prM X)),(1,.vsl (prM X))],[]⟩) (λ_=>True) X.length ?_ trivial ?_ ?_
 . (refine Yn.sub (by simp[lk,Ya,AV.keys]) ?_;simp only[Wkl,and_true];(try simp[lk,Yd,Ya,AV.keys]))
 . intro i hi _;have wi:IntKind.i64.wrap ((i:Int)+1)=(i:Int)+1:=Yg (by omega) (by omega);have ha:(prM X)[i]'(by rw[ll];exact hi)=[.int .i64 X[i].1.1,.int .i64 X[i].1.2,.int .i64 X[i].2.1,.int .i64 X[i].2.2]:=(by simp[prM,pra]);refine Qga ?_;simp -implicitDefEqProofs[hi,ll,ha,wi];refine ⟨rfl,?_⟩
   (refine Yn.sub (by simp[lk,Ya,AV.keys]) ?_;simp only[Wkl,and_true];(try simp[lk,Yd,Ya,AV.keys]))
 . intro _;refine Qga ?_;simp -implicitDefEqProofs[ll];refine Qgr ?_;simp -implicitDefEqProofs[]
end
def exS:List Stq:=[⟨30,2,30,1,101,true⟩,⟨40,1,30,2,1,false⟩,⟨50,1,40,1,2,false⟩,⟨40,1,50,1,2,false⟩]
def exC:List Stq:=[⟨50,1,40,1,2,false⟩,⟨40,1,30,2,1,false⟩,⟨30,2,30,1,101,true⟩]
def exA:List Rf:=[(30,1),(30,2),(40,1),(50,1)]
def exK:List Rf:=[(40,1),(50,1)]
def exX:List Pr:=[((40,1),(50,1)),((50,1),(30,1)),((50,1),(30,2)),((50,1),(40,1))]
def exP:List (Rf×List Rf):=[((10,1),[(10,1)]),((20,1),[(20,1)]),((30,2),[(30,2),(40,1),(50,1)]),((40,1),[(40,1),(50,1)]),((50,1),[(40,1),(50,1)])]
theorem ZmZ:plX exR (st5 exR exL exQ [] 9 200) (nums exR) (ltL [] 9 exL (nums exR))=exP:=by decide +kernel
theorem ex_pu (a b:Rf) (h:(knB exR a.1 a.2&&knB exR b.1 b.2)=true):puN exR exL exQ [] 9 200 a b=0:=by
 rw[puN,if_pos ex_aq,if_pos h]
theorem Zn0:stA exR exL exQ [] 9 200 = .tup [.vsl (exS.map sa),.int .i64 0]:=by
 have h:=ex_aq
 have:stE exR exL exQ [] 9 200=(exS,0):=by
  have e:=ex_st;unfold stE;rw[if_pos h,e];rfl
 rw[stA,this];rfl
theorem Zn1:chA exR exL exQ [] 9 200 (50,1) (30,1) = .tup [.vsl (exC.map sa),.int .i64 0]:=by rw[chA,ZmC];rfl
theorem Zn2:ruA exR exL exQ 300 = .tup [.vsl (([1,3]:List Int).map ia),.int .i64 0]:=by rw[ruA,ZmD];rfl
theorem Zn3:foE exR exL exQ [] 9 200 false (30,1) = .tup [.vsl (exA.map ita),.int .i64 0]:=by
 have h:=ex_pu (30,1) (30,1) (by decide +kernel);rw[foE,h,if_pos rfl,ZmE];rfl
theorem Zn4:foE exR exL exQ [] 9 200 true (40,1) = .tup [.vsl (exA.map ita),.int .i64 0]:=by
 have h:=ex_pu (40,1) (40,1) (by decide +kernel);rw[foE,h,if_pos rfl,ex_in];rfl
theorem Zn5:(rfs exR).length=7:=rfl
theorem Zn6:clE exR exL exQ [] 9 200 = .tup [.vsl (clM [exK]),.int .i64 0]:=by
 rw[clE,ex_aq,if_pos rfl,Zn5,ZmF];rfl
theorem Zn7:loE exR exL exQ [] 9 200 300 = .tup [.vsl (prM exX),.int .i64 0]:=by
 have h:aqN exR exL exQ [] 9 200 300=0:=(by decide +kernel);rw[loE,h,if_pos rfl,Zn5,ZmG];rfl
theorem Zn8:suE exR exL exQ 9 200 (30,2) (30,1) = .tup [.int .u8 2,.int .i64 0]:=by
 have h:=ex_pu (30,2) (30,1) (by decide +kernel);have h2:suV (mB exR exL exQ 9 200 (30,2) (30,1)) (2 ^ (opQ exL).length)=2:=(by decide +kernel);rw[suE,h,if_pos rfl,h2]
theorem Zn9:plE false exR exL exQ [] 9 200 = .tup [.vsl (plM false exP),.int .i64 0]:=by
 rw[plE,ex_aq,if_pos rfl,ZmZ];rfl
theorem ex_m1:maE exR exL exQ [] 11 299 (30,2) (30,1) = .tup [.bool true,.int .i64 0]:=by
 have h:puN exR exL exQ [] 11 299 (30,2) (30,1)=0:=(by decide +kernel);have h2:decide (diV (edg (st5 exR exL exQ [] 11 299)) (30,1) (30,2)<1048576)=true:=(by decide +kernel);rw[maE,h,if_pos rfl,h2]
theorem ex_m2:maE exR exL exQ [] 11 300 (30,2) (30,1) = .tup [.bool false,.int .i64 0]:=by
 have h:puN exR exL exQ [] 11 300 (30,2) (30,1)=0:=(by decide +kernel);have h2:decide (diV (edg (st5 exR exL exQ [] 11 300)) (30,1) (30,2)<1048576)=false:=(by decide +kernel);rw[maE,h,if_pos rfl,h2]
section
variable {G:Nat->Option (List AV)}
set_option maxRecDepth 100000 in
set_option maxHeartbeats 4000000 in
theorem Zna (hG:GC G) (hN:GN G) (hQ:GQ G):PC Tryz.prog G 14 [] (.bool true):=by
 have hs:=ZmO (G:=G);have cSt:=PC.sub (Zkm hG hN hQ exR exL exQ [] 9 200 ex_wl ex_wr ex_wq ZmP) (xs:=[swa exR exL exQ,.nils,.int .i64 9,.int .i64 200]) ⟨.rfl',.nils,.rfl',.rfl',trivial⟩;have cCh:=PC.sub (ZkO hG hN hQ exR exL exQ [] 9 200 50 1 30 1 ex_wl ex_wr ex_wq ZmP) (xs:=[swa exR exL exQ,.nils,.int .i64 9,.int .i64 200,.agg [.int .i64 50,.int .i64 1],.agg [.int .i64 30,.int .i64 1]]) ⟨.rfl',.nils,.rfl',.rfl',.rfl',.rfl',trivial⟩;have cRu:=Zit hG hN exR exL exQ 300 ex_wl ex_wr ex_wq;have cFo:=PC.sub (ZkA hG hN hQ exR exL exQ [] 9 200 30 1 ex_wl ex_wr ex_wq ZmP (by decide)) (xs:=[swa exR exL exQ,.nils,.int .i64 9,.int .i64 200,.agg [.int .i64 30,.int .i64 1]]) ⟨.rfl',.nils,.rfl',.rfl',.rfl',trivial⟩;have cIn:=PC.sub (ZkB hG hN hQ exR exL exQ [] 9 200 40 1 ex_wl ex_wr ex_wq ZmP (by decide)) (xs:=[swa exR exL exQ,.nils,.int .i64 9,.int .i64 200,.agg [.int .i64 40,.int .i64 1]]) ⟨.rfl',.nils,.rfl',.rfl',.rfl',trivial⟩;have cCl:=PC.sub (Zln hG hN hQ exR exL exQ [] 9 200 ex_wl ex_wr ex_wq ZmP) (xs:=[swa exR exL exQ,.nils,.int .i64 9,.int .i64 200]) ⟨.rfl',.nils,.rfl',.rfl',trivial⟩;have cLo:=PC.sub (Zlz hG hN hQ exR exL exQ [] 9 200 300 ex_wl ex_wr ex_wq ZmP) (xs:=[swa exR exL exQ,.nils,.int .i64 9,.int .i64 200,.int .i64 300]) ⟨.rfl',.nils,.rfl',.rfl',.rfl',trivial⟩;have cSu:=ZmB hG hN hQ exR exL exQ 9 200 30 2 30 1 ex_wl ex_wr ex_wq;have cPl:=PC.sub (ZmX hG hN hQ exR exL exQ [] 9 200 ex_wl ex_wr ex_wq ZmP) (xs:=[swa exR exL exQ,.nils,.int .i64 9,.int .i64 200]) ⟨.rfl',.nils,.rfl',.rfl',trivial⟩;rw[Zn0]at cSt;rw[Zn1]at cCh;rw[Zn2]at cRu;rw[Zn3]at cFo;rw[Zn4]at cIn;rw[Zn6]at cCl;rw[Zn7]at cLo;rw[Zn8]at cSu;rw[Zn9]at cPl;have cM1:=ZmQ hG hN hQ 11 299 30 2 30 1 true true ex_m1;have cM2:=ZmQ hG hN hQ 11 300 30 2 30 1 false false ex_m2;have s1:=ZhU (G:=G) exS exS (by unfold Sml;decide);have s2:=ZhU (G:=G) exC exC (by unfold Sml;decide);have s3:=Zbh (G:=G) [1,3] [1,3] (by unfold Sml;decide);have s4:=Zf3 (G:=G) exA exA (by unfold Sml;decide);have s5:=Zf3 (G:=G) exK exK (by unfold Sml;decide);have s6:=ZmY (G:=G) exX (by decide);have s7:=Zf3 (G:=G) [(30,2),(40,1),(50,1)] [(30,2),(40,1),(50,1)] (by unfold Sml;decide);rw[decide_eq_true rfl]at s1 s2 s3 s4 s5 s7;simp only[beq_self_eq_true]at cM1 cM2;simp only[exS,exC,exA,exK,exX,exP,clM,prM,plM,plR,pra,acM,List.map_cons,List.map_nil,ia,ita,sa,Bool.false_eq_true,if_false]at cSt cCh cRu cFo cIn cCl cLo cPl s1 s2 s3 s4 s5 s6 s7;unfold swa at *
 (refine Z5O rfl λR hG hrd=>Qga ?_;subst hG)
 simp -implicitDefEqProofs[Z5M,Z5N]
 repeat
  first
   |refine Qco (ZmM _ _) (by simp) ?_
   |refine Qco (hs) (by simp) ?_
   |refine Qco (cSt) (by simp) ?_
   |refine Qco (cCh) (by simp) ?_
   |refine Qco (cRu) (by simp) ?_
   |refine Qco (cFo) (by simp) ?_
   |refine Qco (cIn) (by simp) ?_
   |refine Qco (cCl) (by simp) ?_
   |refine Qco (cLo) (by simp) ?_
   |refine Qco (cSu) (by simp) ?_
   |refine Qco (cPl) (by simp) ?_
   |refine Qco (s1) (by simp) ?_
   |refine Qco (s2) (by simp) ?_
   |refine Qco (s3) (by simp) ?_
   |refine Qco (s4) (by simp) ?_
   |refine Qco (s5) (by simp) ?_
   |refine Qco (s6) (by simp) ?_
   |refine Qco (s7) (by simp) ?_
   |refine Qco (cM1) (by simp) ?_
   |refine Qco (cM2) (by simp) ?_
  simp -implicitDefEqProofs[]
 refine ⟨rfl,?_⟩
 repeat
  first
   |refine Qco (ZmM _ _) (by simp) ?_
   |refine Qco (hs) (by simp) ?_
   |refine Qco (cSt) (by simp) ?_
   |refine Qco (cCh) (by simp) ?_
   |refine Qco (cRu) (by simp) ?_
   |refine Qco (cFo) (by simp) ?_
   |refine Qco (cIn) (by simp) ?_
   |refine Qco (cCl) (by simp) ?_
   |refine Qco (cLo) (by simp) ?_
   |refine Qco (cSu) (by simp) ?_
   |refine Qco (cPl) (by simp) ?_
   |refine Qco (s1) (by simp) ?_
   |refine Qco (s2) (by simp) ?_
   |refine Qco (s3) (by simp) ?_
   |refine Qco (s4) (by simp) ?_
   |refine Qco (s5) (by simp) ?_
   |refine Qco (s6) (by simp) ?_
   |refine Qco (s7) (by simp) ?_
   |refine Qco (cM1) (by simp) ?_
   |refine Qco (cM2) (by simp) ?_
  simp -implicitDefEqProofs[]
 exact rfl
end
theorem Znb {E:List (Rf×Rf)} (hE:E.length<=1000) {a b:Rf}:mayT E a b=true↔∃ n,pth E b n a=true:=by
 unfold mayT;rw[decide_eq_true_eq,Zjc hE]
 cases h:diN E b a with
 | none =>
   have:=Zj7.1 h;simp only[Option.isSome_none,Bool.false_eq_true,false_iff];rintro ⟨n,hn⟩;rw[this n]at hn;cases hn
 |some n=>exact ⟨λ_=>⟨n,(Zj6.1 h).1⟩,λ_=>rfl⟩
theorem Znc {E:List (Rf×Rf)} {x y:Rf}:pth E y 0 x=true↔x=y:=by simp[pth]
theorem Znd {E F:List (Rf×Rf)} (h:∀ e∈E,e∈F) {y:Rf}:∀ (n:Nat) {x:Rf},pth E y n x=true->pth F y n x=true
 |0,x,hp=>by rw[Znc]at hp ⊢;exact hp
 | n+1,x,hp=>by
   obtain ⟨e,he,h1,h3⟩:=Zj2.1 hp;exact Zj2.2 ⟨e,h e he,h1,Znd h n h3⟩
theorem Zne {E F:List (Rf×Rf)} (hE:E.length<=1000) (hF:F.length<=1000) (h:∀ e∈E,e∈F) {a b:Rf} (h1:mayT E a b=true):mayT F a b=true:=by
 obtain ⟨n,hn⟩:=(Znb hE).1 h1;exact (Znb hF).2 ⟨n,Znd h n hn⟩
theorem Znf {E:List (Rf×Rf)} (hE:E.length<=1000) {a b:Rf}:mayT (tuE E) a b=mayT E b a:=by
 have hE2:(tuE E).length<=1000:=(by simpa [tuE] using hE);rw[Bool.eq_iff_iff,Znb hE2,Znb hE];exact exists_congr λn=>by rw[Zje]
theorem Zng {E F:List (Rf×Rf)} (hE:E.length<=1000) (hF:F.length<=1000) (h:∀ e,e∈E↔e∈F) (a b:Rf):mayT E a b=mayT F a b:=by
 rw[Bool.eq_iff_iff];exact ⟨Zne hE hF λe he=>(h e).1 he,Zne hF hE λe he=>(h e).2 he⟩
theorem Nsub.tup {xs ys:List AV} (h:NsubL xs ys):Nsub (.tup xs) (.tup ys):=λM W u hu=>by
 cases hu with
 | tup _ us h1 hx =>
   refine .tup ys us (by rw[h1,h.len]) λi y u hy hu=>?_
   obtain ⟨x,h2,h3⟩:=h.at i y hy;exact h3 _ _ _ (hx i x u h2 hu)
theorem PC.vs {P:Program} {G:Nat->Option (List AV)} {f:FuncId} {xs:List AV} {l:List (List AV)} {e:Int} (h:PC P G f xs (.tup [Yh l,.int .i64 e])):PC P G f xs (.tup [.vsl l,.int .i64 e]):=h.out (.tup ⟨.orNil l,.rfl',trivial⟩)
structure Rq (r:List Iss) (l:List Nte) (q:List Rul) (s:List Int) (m d:Int):Prop where
 wr:Wf r
 wl:WfN l
 wq:Sml q
 ws:Sml s
 h0:chS r l q=0
 h80:r.length<=80
 tr:truB l s=true
 mi:inR m 1 999=true
 di:inR d 0 14610=true
section
variable {r:List Iss} {l:List Nte} {q:List Rul} {s:List Int} {m d:Int}
theorem Rq.nB (h:Rq r l q s m d):ZdZ r l=true:=ZhP (ZhY h.h0).1
theorem Rq.rB (h:Rq r l q s m d):Zel r q=true:=(ZhY h.h0).2
theorem Rq.ne (h:Rq r l q s m d):r≠[]:=ch_ne h.h0
theorem Rq.len (h:Rq r l q s m d):(st5 r l q s m d).length<=100:=Zkl h.h0
theorem Rq.l1000 (h:Rq r l q s m d):(st5 r l q s m d).length<=1000:=by have:=h.len;omega
theorem Rq.aq (h:Rq r l q s m d) {e:Int} (he:inR e 0 14610=true):aqN r l q s m d e=0:=by
 rw[aqN,if_pos h.h0,if_pos h.tr,if_pos (by rw[h.mi,h.di,he];rfl)]
theorem Rq.pu (h:Rq r l q s m d) {a b:Rf} (ha:a∈rfs r) (hb:b∈rfs r):puN r l q s m d a b=0:=by
 rw[puN,if_pos (h.aq h.di),if_pos (by rw[Zjm.2 (show (a.1,a.2)∈rfs r from ha),Zjm.2 (show (b.1,b.2)∈rfs r from hb)];rfl)]
theorem Rq.day (h:Rq r l q s m d) {e:Int} (he:inR e 0 14610=true):Rq r l q s m e:=⟨h.wr,h.wl,h.wq,h.ws,h.h0,h.h80,h.tr,h.mi,he⟩
theorem Rq.truth (h:Rq r l q s m d) {s':List Int} (h1:Sml s') (h2:truB l s'=true):Rq r l q s' m d:=⟨h.wr,h.wl,h.wq,h1,h.h0,h.h80,h2,h.mi,h.di⟩
theorem Rq.rne (h:Rq r l q s m d):rfs r≠[]:=by have:=h.ne;simpa [rfs] using this
theorem Znh {t m d:Int} (h:rdB r l q=true) (hr:∀ x∈r,KOk x) (hl:∀ x∈l,NOk x) (hm:0<=m) (hd:0<=d):Rq r l q (ttV l t) (mcV m) (dyV d):=by
 obtain ⟨h1,h2,h3,h4,h5⟩:=ZmL h hr hl;have hB:=ZhP (ZhY h4).1;exact ⟨h1,h2,h3,by have:=(ZlI (opQ l) (t.tmod (2 ^ (opQ l).length:Nat)).toNat).length_le;have:=ZlO hB;unfold ttV Sml;omega,h4,h5,ZlN hB _,ZmI hm,ZmJ hd⟩
variable {G:Nat->Option (List AV)}
theorem Rq.may_pc (h:Rq r l q s m d) (hG:GC G) (hN:GN G) (hQ:GQ G) {a b:Rf} (ha:a∈rfs r) (hb:b∈rfs r) :
  PC Tryz.prog G 17 [swa r l q,.vsl (s.map ia),.int .i64 m,.int .i64 d,.agg [.int .i64 a.1,.int .i64 a.2],.agg [.int .i64 b.1,.int .i64 b.2]] (.tup [.bool (mayT (edg (st5 r l q s m d)) a b),.int .i64 0]):=by
 have:=Zkz hG hN hQ r l q s m d a.1 a.2 b.1 b.2 h.wl h.wr h.wq h.ws
 have e:maE r l q s m d (a.1,a.2) (b.1,b.2) = .tup [.bool (mayT (edg (st5 r l q s m d)) a b),.int .i64 0]:=by
  rw[maE,show puN r l q s m d (a.1,a.2) (b.1,b.2)=0 from h.pu ha hb,if_pos rfl];rfl
 rwa [e]at this
theorem Rq.for_pc (h:Rq r l q s m d) (hG:GC G) (hN:GN G) (hQ:GQ G) {a:Rf} (ha:a∈rfs r):PC Tryz.prog G 27 [swa r l q,.vsl (s.map ia),.int .i64 m,.int .i64 d,.agg [.int .i64 a.1,.int .i64 a.2]] (.tup [.vsl ((rcL r (st5 r l q s m d) false a).map ita),.int .i64 0]):=by
 have:=ZkA hG hN hQ r l q s m d a.1 a.2 h.wl h.wr h.wq h.ws (by have:=h.h80;omega)
 have e:foE r l q s m d false (a.1,a.2) = .tup [.vsl ((rcL r (st5 r l q s m d) false a).map ita),.int .i64 0]:=by
  rw[foE,show puN r l q s m d (a.1,a.2) (a.1,a.2)=0 from h.pu ha ha,if_pos rfl];rfl
 rwa [e]at this
theorem Rq.in_pc (h:Rq r l q s m d) (hG:GC G) (hN:GN G) (hQ:GQ G) {a:Rf} (ha:a∈rfs r):PC Tryz.prog G 28 [swa r l q,.vsl (s.map ia),.int .i64 m,.int .i64 d,.agg [.int .i64 a.1,.int .i64 a.2]] (.tup [.vsl ((rcL r (st5 r l q s m d) true a).map ita),.int .i64 0]):=by
 have:=ZkB hG hN hQ r l q s m d a.1 a.2 h.wl h.wr h.wq h.ws (by have:=h.h80;omega)
 have e:foE r l q s m d true (a.1,a.2) = .tup [.vsl ((rcL r (st5 r l q s m d) true a).map ita),.int .i64 0]:=by
  rw[foE,show puN r l q s m d (a.1,a.2) (a.1,a.2)=0 from h.pu ha ha,if_pos rfl];rfl
 rwa [e]at this
end
def swC (r:List Iss) (l:List Nte) (q:List Rul):List AV:=[.vsl (r.map isa),.vsl (l.map na),.vsl (q.map ra)]
section
variable {G:Nat->Option (List AV)}
end
def tuN (x:Nte):Nte:={ x with wy:=x.wy % 2*2+x.wy / 2 }
def tuR (x:Rul):Rul:={ x with fd:=x.td,fl:=x.tl,td:=x.fd,tl:=x.fl }
theorem Zni {l:List Nte} {i:Nat} (h:i<l.length):nAt (l.map tuN) i=tuN (nAt l i):=by
 rw[ZdW (by simpa using h),ZdW h,List.getElem_map]
theorem Znj {q:List Rul} {i:Nat} (h:i<q.length):rAt (q.map tuR) i=tuR (rAt q i):=by
 rw[Zek (by simpa using h),Zek h,List.getElem_map]
theorem Znk (l:List Nte) (i:Nat):opN (l.map tuN) i=(opN l i).map tuN:=by
 unfold opN;rw[<- List.map_take,List.filter_map];rfl
theorem Znl (l:List Nte):opU (l.map tuN)=opU l:=by
 unfold opU;rw[List.length_map,Znk,List.map_map];rfl
theorem wy_tu {w:Int} (h0:0<=w) (h3:w<=3):w % 2*2+w / 2<=3/\(w % 2*2+w / 2=0↔w=0)/\((w % 2*2+w / 2) % 2=1↔2<=w % 4)/\(2<=(w % 2*2+w / 2) % 4↔w % 2=1):=by omega
theorem Znm {r:List Iss} {l:List Nte} (hw:∀ x∈l,0<=x.wy) {i:Nat} (hi:i<l.length) (h:noteB r l i=true):noteB r (l.map tuN) i=true:=by
 have hx:=hw _ (List.getElem_mem hi);rw[<- ZdW hi]at hx;simp only[noteB,Bool.and_eq_true]at h ⊢;obtain ⟨⟨⟨⟨⟨⟨⟨h1,h2⟩,h3⟩,h4⟩,h5⟩,h6⟩,h7⟩,h8⟩:=h;rw[Zni hi];have h2':=h2;simp only[cN2,Bool.and_eq_true,decide_eq_true_eq]at h2';have hwy:=wy_tu hx h2'.2;refine ⟨⟨⟨⟨⟨⟨⟨h1,?_⟩,h3⟩,h4⟩,?_⟩,?_⟩,?_⟩,?_⟩
 . simp only[cN2,Bool.and_eq_true,decide_eq_true_eq];exact ⟨h2'.1,hwy.1⟩
 . simp only[cN5,Bool.or_eq_true,Bool.and_eq_true,decide_eq_true_eq]at h5 ⊢;rcases h5 with h5 | ⟨h5,h5'⟩
   . exact .inl h5
   . exact .inr ⟨h5,hwy.2.1.2 h5'⟩
 . simp only[cN6,Bool.or_eq_true,decide_eq_true_eq]at h6 ⊢;rcases h6 with h6|h6
   . exact .inl h6
   . refine .inr ?_;rw[<- List.map_take,List.any_map];exact h6
 . simp only[cN7,Bool.not_eq_true']at h7 ⊢;rw[<- List.map_take,List.any_map];exact h7
 . cases i with
   |zero=>rfl
   | succ i =>
     simp only[cN8]at h8 ⊢;rw[Zni (by omega)];exact h8
theorem Znn {r:List Iss} {l:List Nte} (hw:∀ x∈l,0<=x.wy) (h:ZdZ r l=true):ZdZ r (l.map tuN)=true:=by
 simp only[ZdZ,Bool.and_eq_true,decide_eq_true_eq]at h ⊢;rw[List.length_map];refine ⟨⟨h.1.1,Zbs.2 λi hi=>Znm hw hi (Zbs.1 h.1.2 i hi)⟩,?_⟩;rw[Znk,List.length_map];exact h.2
theorem Zno {r:List Iss} {q:List Rul} {i:Nat} (hi:i<q.length) (h:ruleB r q i=true):ruleB r (q.map tuR) i=true:=by
 simp only[ruleB,Bool.and_eq_true]at h ⊢;obtain ⟨⟨⟨⟨h1,h2⟩,h3⟩,h4⟩,h5⟩:=h;rw[Znj hi];refine ⟨⟨⟨⟨h1,?_⟩,?_⟩,?_⟩,?_⟩
 . simp only[cR2]at h2 ⊢
   split at h2
   . rename_i c;rw[if_pos ⟨c.2.2.1,c.2.2.2,c.1,c.2.1⟩];exact h2
   . rename_i c;rw[if_neg (λe=>c ⟨e.2.2.1,e.2.2.2,e.1,e.2.1⟩)];simp only[Bool.and_eq_true,Bool.not_eq_true',decide_eq_false_iff_not]at h2 ⊢;exact ⟨⟨λe=>h2.1.1 ⟨e.1.symm,e.2.symm⟩,h2.2⟩,h2.1.2⟩
 . simp only[cR3,Bool.not_eq_true']at h3 ⊢;rw[<- List.map_take,List.any_map];exact h3
 . simp only[cR4,Bool.or_eq_true,decide_eq_true_eq]at h4 ⊢;rcases h4 with h4|h4
   . exact .inl h4
   . refine .inr ?_;rw[<- List.map_take,List.any_map];exact h4
 . cases i with
   |zero=>rfl
   | succ i =>
     simp only[cR5]at h5 ⊢;rw[Znj (by omega)];exact h5
theorem Znp {r:List Iss} {q:List Rul} (h:Zel r q=true):Zel r (q.map tuR)=true:=by
 simp only[Zel,Bool.and_eq_true,decide_eq_true_eq]at h ⊢;rw[List.length_map];exact ⟨h.1,Zbs.2 λi hi=>Zno hi (Zbs.1 h.2 i hi)⟩
theorem Znq {r:List Iss} {l:List Nte} {q:List Rul} (hw:∀ x∈l,0<=x.wy) (h:chS r l q=0):chS r (l.map tuN) (q.map tuR)=0:=by
 obtain ⟨h1,h2⟩:=ZhY h;have ho:=ZhP h1
 have h3:openV r=0:=by
  unfold chN at h1
  split at h1
  . assumption
  . rename_i e;exact absurd h1 e
 unfold chS chN;rw[if_pos h3,if_pos (Znn hw ho),if_pos rfl,if_pos (Znp h2)]
theorem Znr {α β:Type} {f:α->β} {p:β->Bool} {h:β->β->Bool}:∀ l:List α,gcL p h (l.map f)=gcL (λx=>p (f x)) (λx y=>h (f x) (f y)) l
 |[]=>rfl
 | x::l=>by
   have ih:=Znr (f:=f) (p:=p) (h:=h) l;simp only[List.map_cons,gcL,ih]
   congr 3
   rw[List.zip_map_left,List.any_map];rfl
theorem fB_tu {s w:List Int} {m:Int} {l:List Nte} (i:Nat):fB s w m (l.map tuN) i=fB s w m l i:=by
 unfold fB gcB;rw[Znr];rfl
theorem sB_tu {day:Int} {q:List Rul} (i:Nat):sB day (q.map tuR) i=sB day q i:=by
 unfold sB gcB;rw[Znr];rfl
theorem Zns {s w:List Int} {m:Int} {l:List Nte}:fcN s w m (l.map tuN) (l.map tuN).length=fcN s w m l l.length:=by
 unfold fcN;rw[List.length_map];have t:(List.range l.length).take l.length=List.range l.length:=List.take_of_length_le (by simp);rw[t,List.filter_congr (q:=fB s w m l) λi _=>fB_tu i];refine List.map_congr_left λi hi=>?_
 have:=List.mem_range.1 (List.mem_filter.1 hi).1;rw[Zni this];rfl
theorem Znt {day:Int} {l:List Nte}:dyN day (l.map tuN)=(dyN day l).map tuN:=by
 unfold dyN;rw[List.filter_map];rfl
theorem Znu {l:List Nte} {s:List Int}:dyT (l.map tuN) s=dyT l s:=by
 unfold dyT;refine List.filter_congr λn _=>?_
 rw[List.any_map];rfl
theorem Znv {l:List Nte} {s:List Int}:truB (l.map tuN) s=truB l s:=by
 unfold truB;rw[Znl]
theorem Znw {F:List Int} {x:Nte} (h0:0<=x.wy) (h3:x.wy<=3) (e:Rf×Rf):e∈edg (ntR F (tuN x))↔e∈tuE (edg (ntR F x)):=by
 have hw:=wy_tu h0 h3;unfold ntR;have e1:(tuN x).nu=x.nu:=rfl;have e2:(tuN x).dr=x.dr:=rfl;have e3:(tuN x).lt=x.lt:=rfl;have e4:(tuN x).wy=x.wy % 2*2+x.wy / 2:=rfl;rw[e1,e2,e3,e4];by_cases c:x.nu∈F/\¬x.dr=0/\¬x.lt<2
 . rw [if_pos c,if_pos c];by_cases c1:x.wy % 2=1
   . rw[if_pos (hw.2.2.2.2 c1),if_pos c1];by_cases c2:2<=x.wy % 4
     . rw[if_pos (hw.2.2.1.2 c2),if_pos c2];simp only[edg,tuE,frS,toS,List.cons_append,List.nil_append,List.map_cons,List.map_nil,List.mem_cons,List.not_mem_nil,or_false];exact or_comm
     . rw[if_neg (λq=>c2 (hw.2.2.1.1 q)),if_neg c2];simp[edg,tuE,frS,toS]
   . rw[if_neg (λq=>c1 (hw.2.2.2.1 q)),if_neg c1];by_cases c2:2<=x.wy % 4
     . rw[if_pos (hw.2.2.1.2 c2),if_pos c2];simp[edg,tuE,frS,toS]
     . rw[if_neg (λq=>c2 (hw.2.2.1.1 q)),if_neg c2];simp[edg,tuE]
 . rw[if_neg c,if_neg c];simp[edg,tuE]
theorem Znx {b:Bool} {x:Rul} (hz:(x.fd=0/\x.fl=0)↔(x.td=0/\x.tl=0)) (e:Rf×Rf):e∈edg (rlR b (tuR x))↔e∈tuE (edg (rlR b x)):=by
 unfold rlR;have e1:(tuR x).fd=x.td:=rfl;have e2:(tuR x).fl=x.tl:=rfl;have e3:(tuR x).td=x.fd:=rfl;have e4:(tuR x).tl=x.fl:=rfl;have e5:(tuR x).bo=x.bo:=rfl;rw[e1,e2,e3,e4,e5];by_cases c:b=true/\¬(x.fd=0/\x.fl=0)
 . rw[if_pos c,if_pos ⟨c.1,λq=>c.2 (hz.2 q)⟩]
   cases x.bo <;> simp[edg,tuE,frS,toS,or_comm]
 . rw[if_neg c,if_neg (λq=>c ⟨q.1,λr=>q.2 (hz.1 r)⟩)];simp[edg,tuE]
theorem Zny {x:Nte} (h0:0<=x.wy) (h3:x.wy<=3):tuN (tuN x)=x:=by
 have e:(x.wy % 2*2+x.wy / 2) % 2*2+(x.wy % 2*2+x.wy / 2) / 2=x.wy:=by omega
 cases x
 simp only[tuN,Nte.mk.injEq]at e ⊢;simp only[e,and_self]
theorem Znz {l:List Nte} (hw:∀ x∈l,0<=x.wy/\x.wy<=3):(l.map tuN).map tuN=l:=by
 rw[List.map_map]
 conv=>rhs;rw[<- List.map_id l]
 exact List.map_congr_left λx hx=>Zny (hw x hx).1 (hw x hx).2
theorem ZnA {r:List Iss} {l:List Nte} (hw:∀ x∈l,0<=x.wy/\x.wy<=3):ZdZ r (l.map tuN)=ZdZ r l:=by
 rw[Bool.eq_iff_iff];refine ⟨λh=>?_,λh=>Znn (λx hx=>(hw x hx).1) h⟩
 have:=Znn (l:=l.map tuN) (λx hx=>by
  obtain ⟨y,hy,rfl⟩:=List.mem_map.1 hx;have:=hw y hy;show 0<=y.wy % 2*2+y.wy / 2;omega) h
 rwa [Znz hw]at this
theorem ZnB {r:List Iss} {l:List Nte} {s:List Int} {m:Int} (hw:∀ x∈l,0<=x.wy/\x.wy<=3):fcE r (l.map tuN) s m=fcE r l s m:=by
 have e:asN r (l.map tuN) s m=asN r l s m:=by
  unfold asN chN;rw[ZnA hw,Znv]
 unfold fcE;rw[e,Zns]
theorem ZnC {r:List Iss} {l:List Nte} (h:ZdZ r l=true):∀ x∈l,x.wy<=3:=by
 intro x hx;obtain ⟨i,hi,rfl⟩:=List.getElem_of_mem hx;simp only[ZdZ,Bool.and_eq_true]at h;have h1:=Zbs.1 h.1.2 i hi;simp only[noteB,Bool.and_eq_true]at h1;have h2:=h1.1.1.1.1.1.1.2;rw[ZdW hi]at h2;simp only[cN2,Bool.and_eq_true,decide_eq_true_eq]at h2;exact h2.2
theorem ZnD {r:List Iss} {q:List Rul} (hL:Zbv r=true) (h:Zel r q=true):∀ x∈q,(x.fd=0/\x.fl=0)↔(x.td=0/\x.tl=0):=by
 intro x hx;obtain ⟨i,hi,rfl⟩:=List.getElem_of_mem hx;simp only[Zel,Bool.and_eq_true]at h;have h1:=Zbs.1 h.2 i hi;simp only[ruleB,Bool.and_eq_true]at h1;have h2:=h1.1.1.1.2;rw[Zek hi]at h2;simp only[cR2]at h2
 split at h2
 . rename_i c;exact ⟨λ_=>⟨c.2.2.1,c.2.2.2⟩,λ_=>⟨c.1,c.2.1⟩⟩
 . simp only[Bool.and_eq_true]at h2;have k1:=Zjn hL (Zjm.1 h2.1.2);have k2:=Zjn hL (Zjm.1 h2.2);exact ⟨λq=>by omega,λq=>by omega⟩
theorem ZnE (A B:List Stq):edg (A++B)=edg A++edg B:=by simp[edg]
theorem ZnF (A B:List (Rf×Rf)):tuE (A++B)=tuE A++tuE B:=by simp[tuE]
theorem ZnG {α:Type} {l:List α} {f:α->List Stq} {e:Rf×Rf}:e∈edg (l.flatMap f)↔∃ x∈l,e∈edg (f x):=by
 simp only[edg,List.mem_map,List.mem_flatMap]
 constructor
 . rintro ⟨a,⟨x,hx,ha⟩,rfl⟩;exact ⟨x,hx,a,ha,rfl⟩
 . rintro ⟨x,hx,a,ha,rfl⟩;exact ⟨a,⟨x,hx,ha⟩,rfl⟩
theorem ZnH {E:List (Rf×Rf)} {e:Rf×Rf}:e∈tuE E↔(e.2,e.1)∈E:=by
 simp only[tuE,List.mem_map]
 constructor
 . rintro ⟨x,hx,rfl⟩;exact hx
 . intro h;exact ⟨(e.2,e.1),h,rfl⟩
theorem ZnI {r:List Iss} {l:List Nte} {q:List Rul} {s:List Int} {m day:Int} (hw:∀ x∈l,0<=x.wy) (h:chS r l q=0) (e:Rf×Rf) :
  e∈edg (st5 r (l.map tuN) (q.map tuR) s m day)↔e∈tuE (edg (st5 r l q s m day)):=by
 obtain ⟨h1,h2⟩:=ZhY h;have hB:=ZhP h1;have hL:=Zjp h;have hw3:=ZnC hB
 have hD:∀ x∈dyN day l,0<=x.wy/\x.wy<=3:=λx hx=>by
  have:=(List.mem_filter.1 hx).1;exact ⟨hw x this,hw3 x this⟩
 have hz:=ZnD hL h2
 have eF:stF r (l.map tuN) s m day=stF r l s m day:=by
  unfold stF;rw[Znt,Znu,ZnB hD]
 unfold st5;rw[eF,ZnE,ZnE,ZnF,List.mem_append,List.mem_append];refine or_congr ?_ ?_
 . unfold nsR;rw[List.take_length,List.take_length,Znt,ZnG,ZnH,ZnG]
   constructor
   . rintro ⟨x,hx,he⟩;obtain ⟨y,hy,rfl⟩:=List.mem_map.1 hx;exact ⟨y,hy,ZnH.1 ((Znw (hD y hy).1 (hD y hy).2 e).1 he)⟩
   . rintro ⟨y,hy,he⟩;exact ⟨tuN y,List.mem_map.2 ⟨y,hy,rfl⟩,(Znw (hD y hy).1 (hD y hy).2 e).2 (ZnH.2 he)⟩
 . unfold rsR;have t:(List.range q.length).take q.length=List.range q.length:=List.take_of_length_le (by simp);rw[List.length_map,t,ZnG,ZnH,ZnG];refine exists_congr λi=>and_congr_right λhi=>?_
   have hi:=List.mem_range.1 hi;rw[Znj hi,sB_tu,Znx (by rw[Zek hi];exact hz _ (List.getElem_mem hi)) e,ZnH]
theorem ZnJ {r:List Iss} {l:List Nte} {q:List Rul} {s:List Int} {m day:Int} (hw:∀ x∈l,0<=x.wy) (h:chS r l q=0) (a b:Rf) :
  mayT (edg (st5 r (l.map tuN) (q.map tuR) s m day)) a b=mayT (edg (st5 r l q s m day)) b a:=by
 have l1:=Zkl (s:=s) (m:=m) (day:=day) h;have l2:=Zkl (s:=s) (m:=m) (day:=day) (Znq hw h);have h1:(edg (st5 r l q s m day)).length<=1000:=(by simp[edg];omega);have h2:(edg (st5 r (l.map tuN) (q.map tuR) s m day)).length<=1000:=(by simp[edg];omega);have h3:(tuE (edg (st5 r l q s m day))).length<=1000:=(by simpa [tuE] using h1);rw[Zng h2 h3 (λe=>ZnI hw h e) a b,Znf h1]
section
variable {r:List Iss} {l:List Nte} {q:List Rul} {s:List Int} {m d:Int} {x:Rul}
theorem ZnK (hq:Rq r l q s m d) (a:Rf):rcL r (st5 r (l.map tuN) (q.map tuR) s m d) true a=rcL r (st5 r l q s m d) false a:=by
 have hw:∀ x∈l,0<=x.wy:=λx hx=>(hq.wl.2 x hx).2.2.1
 have l2:=Zkl (s:=s) (m:=m) (day:=d) (Znq hw hq.h0);have h2:(edg (st5 r (l.map tuN) (q.map tuR) s m d)).length<=1000:=(by simp[edg];omega);have h3:(edT true (st5 r (l.map tuN) (q.map tuR) s m d)).length<=1000:=(by rw[ZjG];omega);have h4:(edT false (st5 r l q s m d)).length<=1000:=(by rw[ZjG];exact hq.l1000);unfold rcL;refine List.filter_congr λy _=>?_
 have e:∀ {E:List (Rf×Rf)},E.length<=1000->decide (diV E a y=1048576) = !mayT E y a:=λ{E} hE=>by
  have hle:=Zja (y:=a) (x:=y) hE;unfold mayT;rw[Bool.eq_iff_iff];simp only[decide_eq_true_eq,Bool.not_eq_true',decide_eq_false_iff_not];omega
 rw[e h3,e h4];have e5:edT true (st5 r (l.map tuN) (q.map tuR) s m d)=tuE (edg (st5 r (l.map tuN) (q.map tuR) s m d)):=rfl;have e6:edT false (st5 r l q s m d)=edg (st5 r l q s m d):=rfl;rw[e5,e6,Znf h2,ZnJ hw hq.h0]
theorem Rq.turn (hq:Rq r l q s m d):Rq r (l.map tuN) (q.map tuR) s m d:=by
 have hw:∀ x∈l,0<=x.wy:=λx hx=>(hq.wl.2 x hx).2.2.1
 have h3:=ZnC hq.nB;refine ⟨hq.wr,⟨by have:=hq.wl.1;unfold Sml at *;simpa using this,λx hx=>?_⟩,by have:=hq.wq;unfold Sml at *;simpa using this,hq.ws,Znq hw hq.h0,hq.h80,by rw[Znv];exact hq.tr,hq.mi,hq.di⟩;obtain ⟨y,hy,rfl⟩:=List.mem_map.1 hx;have h1:=hq.wl.2 y hy;have h2:=h3 y hy;exact ⟨h1.1,h1.2.1,by show 0<=y.wy % 2*2+y.wy / 2;omega,by show y.wy % 2*2+y.wy / 2<=255;omega⟩
end
def twK:Nat->Bool:=λk=>decide (k<1000) && !decide (k=6)
theorem ZnL (ok:Nat->Bool) (st:St) (q:List Rul):frzO ok st (.row 8 (q.map ra)) = .row 8 (q.map ra):=by
 simp only[frzO,List.map_map]
 congr 2
 funext p;simp[ra,frzA,frz,AV.keys]
theorem ZnM (q:List Rul):((q.map ra).all λr=>r.all AV.pure)=true:=by simp[ra,AV.pure]
section
variable {G:Nat->Option (List AV)}
theorem ZnN (ρ:Nat->Nat) (q:List Rul):(AObj.row 8 (q.map ra)).ren ρ = .row 8 (q.map ra):=by
 refine AObj.ren_pure ?_;simp[ra,AV.pure]
end
section
variable {r:List Iss} {l:List Nte} {q:List Rul} {s:List Int} {m d:Int}
theorem Rq.nodup (h:Rq r l q s m d):(l.map (·.nu)).Nodup:=(ZkC h.h0).2.2.1
variable {G:Nat->Option (List AV)}
end
section
variable {n g:Int} {x:Nte}
end
section
variable {r:List Iss} {l:List Nte} {q:List Rul} {s:List Int} {m d n g:Int}
end
theorem ZnO (l:List Nte):((l.map na).all λr=>r.all AV.pure)=true:=by simp[na,AV.pure]
theorem ZnP (ok:Nat->Bool) (st:St) (l:List Nte):frzO ok st (.row 10 (l.map na)) = .row 10 (l.map na):=by
 simp only[frzO,List.map_map]
 congr 2
 funext p;simp[na,frzA,frz,AV.keys]
theorem ZnQ (ρ:Nat->Nat) (l:List Nte):(AObj.row 10 (l.map na)).ren ρ = .row 10 (l.map na):=AObj.ren_pure (ZnO l)
section
variable {G:Nat->Option (List AV)}
end
def twK2:Nat->Bool:=λk=>decide (k<1000) && !decide (k=6) && !decide (k=906)
section
variable {G:Nat->Option (List AV)}
theorem ZnR (r:List Iss) (l:List Nte) (hr:SmlR r) (hl:Sml l):PB Tryz.prog G 69 [] [.agg [.vsl (r.map isa),.vsl (l.map na)]] (.agg [.vsl (r.map isa),.osl 6 l.length]) [(6,.row 10 (l.map na))]:=by
 have ht:=ZdV (G:=G) r hr;rw[rega]at ht;unfold Sml at hl;refine Z5d twK (by intro k hk;simp[twK]at hk;omega) Tryz.func69 rfl (by kernel_rfl) (rc:=ZeD) (by kernel_rfl) (rs:=ZeE) (by kernel_rfl) (Nat.le_of_ble_eq_true rfl) λR _ hG' hrd=>Qga ?_
 subst hG';have b2:l.length*72<=70368744177664:=(by omega);by_cases h0:l=[]
 . simp -implicitDefEqProofs[ZeD,ZeE,h0];refine Qco (ht) (by simp) ?_;simp -implicitDefEqProofs[h0,FinO,Yj,twK,frzA,frz,AV.keys];exact ⟨rfl,by simp[frzO]⟩
 . simp -implicitDefEqProofs[ZeD,ZeE,h0];refine Qco (ht) (by simp) ?_;simp -implicitDefEqProofs[h0,na,b2,FinO,Yj,twK,frzA,frz,AV.keys];exact ⟨rfl,ZnP _ _ l⟩
theorem ZnS (r:List Iss) (l:List Nte) (q:List Rul) (hr:SmlR r) (hl:Sml l) (hq:Sml q):PB Tryz.prog G 34 [] [swa r l q] (.agg [.vsl (r.map isa),.osl 906 l.length,.osl 6 q.length]) [(906,.row 10 (l.map na)),(6,.row 8 (q.map ra))]:=by
 have ht:=ZnR (G:=G) r l hr hl;unfold Sml at hq;refine Z5d twK2 (by intro k hk;simp[twK2]at hk;omega) Tryz.func34 rfl (by kernel_rfl) (rc:=Z8F) (by kernel_rfl) (rs:=Z8G) (by kernel_rfl) (Nat.le_of_ble_eq_true rfl) λR _ hG' hrd=>Yc Yb 4 ?_
 subst hG';have b2:q.length*64<=70368744177664:=by omega
 have n3:∀ st:St,st.get 906=none->NewS Tryz.prog R.G st (λk=>k+900) [(6,.row 10 (l.map na))] 69 [.agg [.vsl (r.map isa),.vsl (l.map na)]] (.agg [.vsl (r.map isa),.osl 906 l.length]):=λst h =>
  NewS.of ht (λk=>k+900) (by simp) (by simpa using h) (by simp[AV.pure]) (by simp[AV.ren])
 by_cases h0:q=[]
 . simp -implicitDefEqProofs[Z8F,Z8G,h0,swa];refine GO0 (Z5x Yb ?_)
   (iterate 2 (rw[RE_op (by simp[wants]) (by simp[Z1y])];simp -implicitDefEqProofs[execE]))
   rw[Z5z (by simp[wants])];simp -implicitDefEqProofs[];refine CallE.new (n3 _ (by simp[St.get,lk])) ?_;simp -implicitDefEqProofs[Ym,ZnQ]
   (iterate 6 (rw[RE_op (by simp[wants]) (by simp[Z1y])];simp -implicitDefEqProofs[execE]))
   refine ⟨rfl,?_⟩;refine Qgr ?_;simp -implicitDefEqProofs[FinO,Yj,twK2,frzA,frz,AV.keys];exact ⟨ZnP _ _ l,by simp[frzO]⟩
 . simp -implicitDefEqProofs[Z8F,Z8G,h0,swa];refine GO0 (Z5x Yb ?_)
   (iterate 2 (rw[RE_op (by simp[wants]) (by simp[Z1y])];simp -implicitDefEqProofs[execE]))
   rw[Z5z (by simp[wants])];simp -implicitDefEqProofs[];refine CallE.new (n3 _ (by simp[St.get,lk])) ?_;simp -implicitDefEqProofs[Ym,ZnQ]
   (iterate 6 (rw[RE_op (by simp[wants]) (by simp[Z1y])];simp -implicitDefEqProofs[execE,h0,b2,ra]))
   refine ⟨rfl,?_⟩;refine Qgr ?_;simp -implicitDefEqProofs[FinO,Yj,twK2,frzA,frz,AV.keys];exact ⟨ZnP _ _ l,ZnL _ _ q⟩
def mixL {α:Type} (g:α->α) (l:List α) (i:Nat):List α:=(l.take i).map g++l.drop i
theorem ZnT {α:Type} {g:α->α} {l:List α} {i:Nat} (h:i<l.length):(mixL g l i)[i]? = some l[i]:=by
 unfold mixL;rw[List.getElem?_append_right (by simp;omega)];simp[Nat.min_eq_left (Nat.le_of_lt h),h]
theorem ZnU {α:Type} {g:α->α} {l:List α} {i:Nat} (h:i<l.length):(mixL g l i).set i (g l[i])=mixL g l (i+1):=by
 unfold mixL;have hl:((l.take i).map g).length=i:=(by simp;omega);rw[List.set_append_right _ _ (by omega),hl,Nat.sub_self,List.drop_eq_getElem_cons h,List.set_cons_zero,List.take_succ_eq_append_getElem h,List.map_append,List.append_assoc];rfl
theorem ZnV {α:Type} {g:α->α} {l:List α} {i:Nat} (h:i<=l.length):(mixL g l i).length=l.length:=by simp[mixL];omega
theorem ZnW {α:Type} (g:α->α) (l:List α):mixL g l 0=l:=by simp[mixL]
theorem ZnX {α:Type} (g:α->α) (l:List α):mixL g l l.length=l.map g:=by simp[mixL]
def tqM (q:List Rul) (i:Nat):List (List AV):=(mixL tuR q i).map ra
def tnM (l:List Nte) (i:Nat):List (List AV):=(mixL tuN l i).map na
def tnT (t m d a b:Int):List (Nat×AV):=[(14,.ptr 14 0),(13,.bool true),(6,.ptr 6 0),(5,.int .u8 b),(4,.int .u8 a),(3,.int .u16 d),(2,.int .u16 m),(1,.int .u8 t)]
def tnO (r:List Iss) (W:List AV) (n1 n2:Nat) (N Q:List (List AV)):List (Nat×AObj):=[(14,.box [.vsl (r.map isa),.osl 902 n1,.osl 901 n2]),(902,.row 10 N),(901,.row 8 Q),(6,.box W)]
def tn1 (r:List Iss) (l:List Nte) (q:List Rul) (t m d a b:Int) (i:Nat):St:=⟨(42,.int .i64 i)::(41,.int .i64 q.length)::tnT t m d a b,tnO r (swC r l q) l.length q.length (l.map na) (tqM q i)⟩
theorem ZnY (o:List (Nat×AObj)) (q:List Rul) (i:Nat):Yd o (.row 8 (tqM q i))=true:=by
 simp only[Yd,List.all_eq_true,tqM,List.mem_map];rintro x ⟨y,-,rfl⟩ v hv;simp only[ra,List.mem_cons,List.not_mem_nil,or_false]at hv;rcases hv with rfl|rfl|rfl|rfl|rfl|rfl|rfl|rfl <;> simp[Ya,AV.keys]
theorem ZnZ (o:List (Nat×AObj)) (l:List Nte) (i:Nat):Yd o (.row 10 (tnM l i))=true:=Zi1 o _
theorem Zo0 (o:List (Nat×AObj)) (q:List Rul):Yd o (.row 8 ((q.map tuR).map ra))=true:=by
 have:=ZnY o q q.length
 rwa [tqM,ZnX]at this
theorem Zo1 {w:Int} (h0:0<=w) (h3:w<=3):IntKind.u8.wrap (((IntKind.u8.wrap (IntKind.u8.wrap (((w % 2 ^ IntKind.u8.bits).toNat &&& 1 % 2 ^ IntKind.u8.bits:Nat):Int)*2 ^ min 1 IntKind.u8.bits) % 2 ^ IntKind.u8.bits).toNat ||| (w.fdiv (2 ^ min 1 IntKind.u8.bits) % 2 ^ IntKind.u8.bits).toNat:Nat):Int)=w % 2*2+w / 2:=by
 have h:∀ n:_root_.Fin 4,IntKind.u8.wrap (((IntKind.u8.wrap (IntKind.u8.wrap ((((n.val:Int) % 2 ^ IntKind.u8.bits).toNat &&& 1 % 2 ^ IntKind.u8.bits:Nat):Int)*2 ^ min 1 IntKind.u8.bits) % 2 ^ IntKind.u8.bits).toNat ||| ((n.val:Int).fdiv (2 ^ min 1 IntKind.u8.bits) % 2 ^ IntKind.u8.bits).toNat:Nat):Int)=(n.val:Int) % 2*2+(n.val:Int) / 2:=(by decide +kernel);have:=h ⟨w.toNat,by omega⟩
 rwa [show ((w.toNat:Nat):Int)=w by omega]at this
theorem Zo2 (o:List (Nat×AObj)) (q:List Rul):Yd o (.row 8 (q.map ra))=true:=by
 have:=ZnY o q 0
 rwa [tqM,ZnW]at this
set_option maxRecDepth 100000 in
set_option maxHeartbeats 4000000 in
theorem Zo3 (hG:GC G) (hN:GN G) (hQ:GQ G) (r:List Iss) (l:List Nte) (q:List Rul) (t m d a b:Int) (hr:∀ x∈r,KOk x) (hl:∀ x∈l,NOk x) (ht:0<=t/\t<=255) (hm:0<=m/\m<=65535) (hd:0<=d/\d<=65535) (ha:0<=a/\a<=255) (hb:0<=b/\b<=255) :
  PC Tryz.prog G 10 [swa r l q,.int .u8 t,.int .u16 m,.int .u16 d,.int .u8 a,.int .u8 b] (.bool true):=by
 have hA:=Zna hG hN hQ;have hrd:=ZmV (G:=G) r l q hr hl
 cases hy:rdB r l q
 . rw[hy]at hrd;unfold swa at *
   (refine Z69 rfl λR hG hrd=>Qga ?_;subst hG)
   simp -implicitDefEqProofs[Z67,Z68];refine Qco (hA) (by simp) ?_;simp -implicitDefEqProofs[];refine Qco (hrd) (by simp) ?_;simp -implicitDefEqProofs[]
 rw[hy]at hrd;have hq:=Znh (t:=t) hy hr hl hm.1 hd.1;have hk:=ZmW (G:=G) r l q t m d a b hq.nB hq.wr.1.1 hq.ne ht hm hd ha hb;have hT:=ZnS (G:=G) r l q hq.wr.1 hq.wl.1 hq.wq;have mA:=ZmK hq.rne ha.1;have mB:=ZmK hq.rne hb.1;generalize isV r a=A at *;generalize isV r b=B at *;generalize ttV l t=s at *;generalize mcV m=mm at *;generalize dyV d=dd at *;have hq':=hq.turn;have c1:=hq.may_pc hG hN hQ mA mB;have c2:=hq'.may_pc hG hN hQ mB mA;have c3:=hq.for_pc hG hN hQ mA;have c4:=hq'.in_pc hG hN hQ mA;have hmt:=ZnJ (s:=s) (m:=mm) (day:=dd) (λx hx=>(hq.wl.2 x hx).2.2.1) hq.h0 B A;have hrc:=ZnK hq A;have hwy:=ZnC hq.nB;have hw0:∀ x∈l,0<=x.wy:=λx hx=>(hq.wl.2 x hx).2.2.1
 rw[hmt]at c2;rw[hrc]at c4;have le:Sml (rcL r (st5 r l q s mm dd) false A):=(by have:=Zl3 (r:=r) (L:=st5 r l q s mm dd) (t:=false) (x:=A);have:=hq.h80;unfold Sml;omega);have cS:=Zf3 (G:=G) _ (rcL r (st5 r l q s mm dd) false A) le;rw[decide_eq_true rfl]at cS;generalize mayT (edg (st5 r l q s mm dd)) A B=T at *;generalize rcL r (st5 r l q s mm dd) false A=P at *;have hql:=ZhZ hq.rB;have hll:=ZhQ hq.nB;unfold swa akA at *
 (refine Z69 rfl λR hG hrd=>Qga ?_;subst hG)
 simp -implicitDefEqProofs[Z67,Z68];refine Qco (hA) (by simp) ?_;simp -implicitDefEqProofs[];refine Qco (hrd) (by simp) ?_;simp -implicitDefEqProofs[];refine Ye.sem (Z1B.objs hT (λk=>if k=6 then 901 else 902) (by simp) (by simp[St.get,lk]) (by simp[AV.pure]) rfl rfl) ?_;simp -implicitDefEqProofs[Ym,ZnN,ZnQ,AV.ren];refine Zba (tn1 r l q t m d a b) (λ_=>True) q.length ?_ trivial ?_ ?_
 . simp only[tn1,tnT,tnO,swC,tqM,ZnW]
   (refine Yn.sub (by simp[lk,Ya,AV.keys]) ?_;simp only[Wkl,Zi1,Zo2,and_true];(try simp[lk,Yd,Ya,AV.keys]))
 . intro i hi _;have wi:IntKind.i64.wrap ((i:Int)+1)=(i:Int)+1:=Yg (by omega) (by omega);obtain ⟨x,hx⟩ : ∃ x,x=q[i]:=⟨_,rfl⟩;have hM1:(tqM q i)[i]? = some (ra q[i]):=(by unfold tqM;rw[List.getElem?_map,ZnT hi];rfl);have hM2:(tqM q i).set i (ra (tuR q[i]))=tqM q (i+1):=(by unfold tqM;rw[<- List.map_set,ZnU hi]);have hM3:(tqM q i).length=q.length:=(by unfold tqM;rw[List.length_map,ZnV (by omega)]);rw[<- hx]at hM1 hM2;have e1:ra x=[.int .i64 x.nu,.int .i64 x.dy,.int .i64 x.fd,.int .i64 x.fl,.int .i64 x.td,.int .i64 x.tl,.bool x.bo,.int .i64 x.br]:=rfl;have e2:ra (tuR x)=[.int .i64 x.nu,.int .i64 x.dy,.int .i64 x.td,.int .i64 x.tl,.int .i64 x.fd,.int .i64 x.fl,.bool x.bo,.int .i64 x.br]:=rfl;rw[e1]at hM1;rw[e2]at hM2;refine Yc Yb 15 ?_;unfold tn1;generalize tqM q i=M at *;obtain ⟨g1,g2⟩:=List.getElem?_eq_some_iff.1 hM1;simp -implicitDefEqProofs[tnT,tnO,swC,hi,hM3,g2];refine GO0 (Z5x Yb ?_)
   iterate 16 (rw[RE_op (by simp[wants]) (by simp[Z1y])];simp -implicitDefEqProofs[execE,hM3,hi,g2])
   refine ⟨rfl,?_⟩;rw[hM2];refine Qgr ?_;simp -implicitDefEqProofs[wi]
   (refine Yn.sub (by simp[lk,Ya,AV.keys]) ?_;simp only[Wkl,Zi1,ZnY,and_true];(try simp[lk,Yd,Ya,AV.keys]))
 . intro _;have hQ1:tqM q q.length=(q.map tuR).map ra:=(by unfold tqM;rw[ZnX]);refine Qga ?_;unfold tn1;rw[hQ1];have kQ:=λo=>Zo0 o q
   have pQ:=ZnM (q.map tuR);have lQ:((q.map tuR).map ra).length=q.length:=(by simp);generalize (q.map tuR).map ra=Q at *;simp -implicitDefEqProofs[tnT,tnO,swC];refine Qgr ?_;simp -implicitDefEqProofs[];refine Zba (λi=>⟨(68,.int .i64 i)::(67,.int .i64 l.length)::tnT t m d a b,tnO r (swC r l q) l.length q.length (tnM l i) Q⟩) (λ_=>True) l.length ?_ trivial ?_ ?_
   . simp only[tnT,tnO,swC,tnM,ZnW]
     (refine Yn.sub (by simp[lk,Ya,AV.keys]) ?_;simp only[Wkl,Zi1,kQ,and_true];(try simp[lk,Yd,Ya,AV.keys]))
   . intro i hi _;have wi:IntKind.i64.wrap ((i:Int)+1)=(i:Int)+1:=Yg (by omega) (by omega);have hwx:=hwy _ (List.getElem_mem hi);have hwx0:=hw0 _ (List.getElem_mem hi);obtain ⟨x,hx⟩ : ∃ x,x=l[i]:=⟨_,rfl⟩;have hM1:(tnM l i)[i]? = some (na l[i]):=(by unfold tnM;rw[List.getElem?_map,ZnT hi];rfl);have hM2:(tnM l i).set i (na (tuN l[i]))=tnM l (i+1):=(by unfold tnM;rw[<- List.map_set,ZnU hi]);have hM3:(tnM l i).length=l.length:=(by unfold tnM;rw[List.length_map,ZnV (by omega)]);rw[<- hx]at hM1 hM2 hwx hwx0;have e1:na x=[.int .i64 x.nu,.int .i64 x.dy,.int .u8 x.sg,.int .i64 x.dr,.int .i64 x.lt,.int .i64 x.fr,.int .i64 x.tu,.int .i64 x.ca,.bool x.up,.int .u8 x.wy]:=rfl;have e2:na (tuN x)=[.int .i64 x.nu,.int .i64 x.dy,.int .u8 x.sg,.int .i64 x.dr,.int .i64 x.lt,.int .i64 x.fr,.int .i64 x.tu,.int .i64 x.ca,.bool x.up,.int .u8 (x.wy % 2*2+x.wy / 2)]:=rfl;rw[e1]at hM1;rw[e2]at hM2;refine Yc Yb 15 ?_;generalize tnM l i=M at *;obtain ⟨g1,g2⟩:=List.getElem?_eq_some_iff.1 hM1;simp -implicitDefEqProofs[tnT,tnO,swC,hi,hM3,g2];refine GO0 (Z5x Yb ?_)
     iterate 16 (rw[RE_op (by simp[wants]) (by simp[Z1y])];simp -implicitDefEqProofs[execE,hM3,hi,g2])
     refine ⟨rfl,?_⟩;rw[Zo1 hwx0 hwx,hM2];refine Qgr ?_;simp -implicitDefEqProofs[wi]
     (refine Yn.sub (by simp[lk,Ya,AV.keys]) ?_;simp only[Wkl,ZnZ,kQ,and_true];(try simp[lk,Yd,Ya,AV.keys]))
   . intro _;have hN1:tnM l l.length=(l.map tuN).map na:=(by unfold tnM;rw[ZnX]);have pN:=ZnO (l.map tuN);have lN:((l.map tuN).map na).length=l.length:=(by simp);rw[hN1];generalize (l.map tuN).map na=N at *;refine Z2L (st':=⟨(68,.int .i64 l.length)::(67,.int .i64 l.length)::tnT t m d a b,[(14,.box [.vsl (r.map isa),.vsl N,.vsl Q]),(6,.box (swC r l q))]⟩) (Yn.trans (Yn.frz (λk=>k == 902||k == 901) _) ?_) ?_
     . simp only[tnT,tnO,swC]
       ((try simp only[Yj,frzA,frzO,frz,Yi,Yk,St.get,pN,pQ,lN,lQ]);refine Yn.sub (by simp[lk,Ya,AV.keys,Yj,frzA,frzO,frz,Yi,Yk,St.get,pN,pQ,lN,lQ]) ?_;simp only[Yj,frzA,frzO,frz,Yi,Yk,St.get,pN,pQ,lN,lQ,Wkl,and_true];(try simp[lk,Yd,Ya,AV.keys,Yj,frzA,frzO,frz,Yi,Yk,St.get,pN,pQ,lN,lQ]))
     . refine Qga ?_;simp -implicitDefEqProofs[tnT,swC];refine Qgr ?_;simp -implicitDefEqProofs[];refine Qco (hk) (by simp) ?_;simp -implicitDefEqProofs[];refine Qco (c1) (by simp) ?_;simp -implicitDefEqProofs[];refine Qco (c2) (by simp) ?_;simp -implicitDefEqProofs[];refine Qco (c3) (by simp) ?_;simp -implicitDefEqProofs[];refine Qco (c4) (by simp) ?_;simp -implicitDefEqProofs[];refine Qco (cS) (by simp) ?_;simp -implicitDefEqProofs[]
end
open Go.ChangeShapes Go.WideShapes Go.ChangeAt Go.WideMaps Go.WideElems Go.RowKit Go.Deep
def laid5:List (String×DataW Unit):=[("blueline/sheet.checks",Rows.laid_blueline_sheet_checks),("blueline/note.checks",Rows.laid_blueline_note_checks),("blueline/swap.sources",Rows.laid_blueline_swap_sources)]
theorem Zo4 (os:Os) (args:Array Value):laidMetH Tryz.prog laid5 ((World.doorLaid Tryz.prog 41 os).forCall (λ_ _=>0) ⟨#[],args,[]⟩).memory :=
 laidMetH_of_parts3 (fuel:=8) (laidMet_of_run' 8 (by kernel_rfl) (by kernel_rfl)) (by kernel_rfl) (by kernel_rfl)
theorem cellF {W:World} {fuel:Nat} {c:Value} {y:DataW (List UInt8)×List MemPlace} {tE:Nat} {fld:Field} {ps rs:Array TypeId} {vd:Bool} {b:UInt8} {s:List UInt8} {f0:FuncId}
  (uE:Tryz.prog.underlying tE=some (.struct #[fld])) (hfo:fld.offset=0) (uF:Tryz.prog.underlying fld.type=some (.func ps rs vd)) (cF:Tryz.prog.cellsOf fld.type=1)
  (hone:((List.range Tryz.prog.funcs.size).filter λf=>(Tryz.prog.funcs[f]?).any (·.name.toUTF8.data.toList == b::s))=[f0])
  (h:DataW.trod (funcToken Tryz.prog) Tryz.prog W 0 (λ_=>true) true fuel tE [c]=some y) (hy:y.1 = .agg [.held (b::s)]):c = .func (.func f0) #[] #[]:=by
 obtain ⟨y0,n,rfl,-,h0⟩:=trod_struct1 uE h;rw[hfo,List.drop_zero,cF]at h0;simp only[DataW.agg.injEq,List.cons.injEq,and_true]at hy;exact func_of_trod (q:=y0.2) uF hone (by rw[<- hy];simpa using h0)
theorem Zo5 {W:World} {laid:List (String×DataW Unit)} {nm:String} {d:DataW Unit} {g tA tE:Nat} {fld:Field} {ps rs:Array TypeId} {vd:Bool} {n:Nat} (toks:List (List UInt8)) (fs:List FuncId)
  (h:laidMetH Tryz.prog laid W) (hm:(nm,DataW.iface "func table" d)∈laid) (hg:Tryz.prog.globalNamed nm=some g) (ht:(Tryz.prog.globals[g]?).map (·.type)=some tA)
  (uA:Tryz.prog.underlying tA=some (.array n tE)) (uE:Tryz.prog.underlying tE=some (.struct #[fld])) (hfo:fld.offset=0) (uF:Tryz.prog.underlying fld.type=some (.func ps rs vd))
  (cA:Tryz.prog.cellsOf tA=n) (cE:Tryz.prog.cellsOf tE=1) (cF:Tryz.prog.cellsOf fld.type=1) (hl1:toks.length=n) (hl2:fs.length=n)
  (hd0:(d.funcsOut:DataW (List UInt8)) = .agg (toks.map λs=>.agg [.held s]))
  (hone:∀ (i:Nat) (s:List UInt8) (f:FuncId),toks[i]? = some s->fs[i]? = some f->∃ b r,s=b::r/\((List.range Tryz.prog.funcs.size).filter λf=>(Tryz.prog.funcs[f]?).any (·.name.toUTF8.data.toList == b::r))=[f]) :
  ∃ t fr,W.heap[g]? = some (.cells ((fs.map λf=>Value.func (.func f) #[] #[]).toArray) t fr):=by
 obtain ⟨g',t,cs,fuel,p,hg',ht',hv,hd⟩:=h.funcs hm;obtain rfl:=Option.some.inj (hg.symm.trans hg');obtain rfl:=Option.some.inj (ht.symm.trans ht');obtain ⟨xs,m,rfl,hx,hlen,hn,hel⟩:=DataW.trod_array uA hd;rw[cA]at hlen;rw[cE]at hel;rw[hd0,Prod.mk.injEq,DataW.agg.injEq]at hx;have hx:=hx.1
 have hcs:cs.toList=fs.map λf=>Value.func (.func f) #[] #[]:=by
  refine List.ext_getElem? λi=>?_
  by_cases hi:i<n
  . have e:=hel i hi;have h1:i<xs.length:=(by omega);have h2:i<toks.length:=(by omega);have h3:i<fs.length:=(by omega);have h4:i<cs.toList.length:=(by omega);obtain ⟨b,r,hb,ho⟩:=hone i _ _ (List.getElem?_eq_getElem h2) (List.getElem?_eq_getElem h3);rw[Nat.mul_one,List.drop_eq_getElem_cons h4,List.take_succ_cons,List.take_zero,List.getElem?_eq_getElem h1]at e;have ey:=congrArg (λl=>l[i]?) hx;simp only[List.getElem?_map,List.getElem?_eq_getElem h2,List.getElem?_eq_getElem h1,Option.map_some,Option.some.injEq]at ey;rw[hb]at ey;have:=cellF uE hfo uF cF ho e ey.symm;rw[List.getElem?_eq_getElem h4,List.getElem?_map,List.getElem?_eq_getElem h3,this];rfl
  . rw[List.getElem?_eq_none (by omega),List.getElem?_eq_none (by simp;omega)]
 simp only[World.var?,hg,Option.bind_some]at hv
 split at hv
 . rename_i cs' t fr heq;injection hv with hv
   have e:cs=(fs.map λf=>Value.func (.func f) #[] #[]).toArray:=(by rw[<- hcs]);exact ⟨t,fr,by rw[heq,hv,e]⟩
 . cases hv
def TabB (W:World) (g:Nat) (fs:List FuncId):Prop:=∃ t fr,W.heap[g]? = some (.cells ((fs.map λf=>Value.func (.func f) #[] #[]).toArray) t fr)
def tabA (fs:List FuncId):List AV:=fs.map λf=>.func (.func f) [] []
theorem Zo6 {W:World} {g:Nat} {fs:List FuncId} (h:TabB W g fs):PV noM W (.vptr (tabA fs) 0) (.pointer (some ⟨g,0,none⟩)):=by
 obtain ⟨t,fr,hb⟩:=h;refine .vptr _ 0 g 0 (λj=>(((fs.map λf=>Value.func (.func f) #[] #[]).toArray)[j]?).getD undef) (Array.getElem?_eq_some_iff.1 hb).1 id ?_ ?_
 . intro j hj;have hj':j<fs.length:=(by simpa [tabA] using hj);simp[World.cell?,hb,hj']
 . intro j x hx;unfold tabA at hx;rw[List.getElem?_map,Option.map_eq_some_iff]at hx;obtain ⟨f,hf,rfl⟩:=hx;have hj':=(List.getElem?_eq_some_iff.1 hf).1;have e:((fs.map λf=>Value.func (.func f) #[] #[]).toArray)[j]? = some (.func (.func f) #[] #[]):=(by simp[hf]);rw[e];exact .func _ [] [] #[] #[] rfl rfl (by simp) (by simp)
def fsC:List FuncId:=[199,200,201,202]
def fsN:List FuncId:=[184,185,186,187,189,190,193,195]
def fsQ:List FuncId:=[182,183]
set_option maxRecDepth 100000 in
theorem Zo7 {W:World} (h:laidMetH Tryz.prog laid5 W):TabB W 2 fsC :=
 Zo5 [[98,108,117,101,108,105,110,101,47,115,104,101,101,116,46,99,104,101,99,107,115,36,49],[98,108,117,101,108,105,110,101,47,115,104,101,101,116,46,99,104,101,99,107,115,36,50],[98,108,117,101,108,105,110,101,47,115,104,101,101,116,46,99,104,101,99,107,115,36,51],[98,108,117,101,108,105,110,101,47,115,104,101,101,116,46,99,104,101,99,107,115,36,52]] fsC h (List.mem_cons_self ..) (by kernel_rfl) (by kernel_rfl) Tryz.underlying203 (fld:=_) Tryz.underlying202 rfl Tryz.underlying201 (by kernel_rfl) (by kernel_rfl) (by kernel_rfl) rfl rfl rfl
 (λi s f hs hf=>by
  match i,hs,hf with
  |0,hs,hf=>cases hs;cases hf;exact ⟨_,_,rfl,by kernel_rfl⟩
  |1,hs,hf=>cases hs;cases hf;exact ⟨_,_,rfl,by kernel_rfl⟩
  |2,hs,hf=>cases hs;cases hf;exact ⟨_,_,rfl,by kernel_rfl⟩
  |3,hs,hf=>cases hs;cases hf;exact ⟨_,_,rfl,by kernel_rfl⟩
  |i+4,hs,_=>simp at hs)
set_option maxRecDepth 100000 in
theorem Zo8 {W:World} (h:laidMetH Tryz.prog laid5 W):TabB W 1 fsN :=
 Zo5 [[98,108,117,101,108,105,110,101,47,110,111,116,101,46,99,104,101,99,107,115,36,49],[98,108,117,101,108,105,110,101,47,110,111,116,101,46,99,104,101,99,107,115,36,50],[98,108,117,101,108,105,110,101,47,110,111,116,101,46,99,104,101,99,107,115,36,51],[98,108,117,101,108,105,110,101,47,110,111,116,101,46,99,104,101,99,107,115,36,52],[98,108,117,101,108,105,110,101,47,110,111,116,101,46,99,104,101,99,107,115,36,53],[98,108,117,101,108,105,110,101,47,110,111,116,101,46,99,104,101,99,107,115,36,54],[98,108,117,101,108,105,110,101,47,110,111,116,101,46,99,104,101,99,107,115,36,55],[98,108,117,101,108,105,110,101,47,110,111,116,101,46,99,104,101,99,107,115,36,56]] fsN h (List.mem_cons_of_mem _ (List.mem_cons_self ..)) (by kernel_rfl) (by kernel_rfl) Tryz.underlying189 (fld:=_) Tryz.underlying188 rfl Tryz.underlying186 (by kernel_rfl) (by kernel_rfl) (by kernel_rfl) rfl rfl rfl
 (λi s f hs hf=>by
  match i,hs,hf with
  |0,hs,hf=>cases hs;cases hf;exact ⟨_,_,rfl,by kernel_rfl⟩
  |1,hs,hf=>cases hs;cases hf;exact ⟨_,_,rfl,by kernel_rfl⟩
  |2,hs,hf=>cases hs;cases hf;exact ⟨_,_,rfl,by kernel_rfl⟩
  |3,hs,hf=>cases hs;cases hf;exact ⟨_,_,rfl,by kernel_rfl⟩
  |4,hs,hf=>cases hs;cases hf;exact ⟨_,_,rfl,by kernel_rfl⟩
  |5,hs,hf=>cases hs;cases hf;exact ⟨_,_,rfl,by kernel_rfl⟩
  |6,hs,hf=>cases hs;cases hf;exact ⟨_,_,rfl,by kernel_rfl⟩
  |7,hs,hf=>cases hs;cases hf;exact ⟨_,_,rfl,by kernel_rfl⟩
  |i+8,hs,_=>simp at hs)
set_option maxRecDepth 100000 in
theorem Zo9 {W:World} (h:laidMetH Tryz.prog laid5 W):TabB W 0 fsQ :=
 Zo5 [[40,98,108,117,101,108,105,110,101,47,115,119,97,112,46,109,111,109,101,110,116,41,46,98,121,78,111,116,101,115],[40,98,108,117,101,108,105,110,101,47,115,119,97,112,46,109,111,109,101,110,116,41,46,98,121,82,117,108,101,115]] fsQ h (List.mem_cons_of_mem _ (List.mem_cons_of_mem _ (List.mem_cons_self ..))) (by kernel_rfl) (by kernel_rfl) Tryz.underlying167 (fld:=_) Tryz.underlying166 rfl Tryz.underlying164 (by kernel_rfl) (by kernel_rfl) (by kernel_rfl) rfl rfl rfl
 (λi s f hs hf=>by
  match i,hs,hf with
  |0,hs,hf=>cases hs;cases hf;exact ⟨_,_,rfl,by kernel_rfl⟩
  |1,hs,hf=>cases hs;cases hf;exact ⟨_,_,rfl,by kernel_rfl⟩
  |i+2,hs,_=>simp at hs)
def G5:Nat->Option (List AV):=λg=>if g=2 then some (tabA fsC) else if g=1 then some (tabA fsN) else if g=0 then some (tabA fsQ) else none
theorem Zoa:GC G5:=rfl
theorem Zob:GN G5:=rfl
theorem Zoc:GQ G5:=rfl
theorem Zod {W:World} (h:laidMetH Tryz.prog laid5 W):GR G5 noM W:=by
 intro g cs hg;simp only[G5]at hg
 split at hg
 . rename_i e;subst e;cases hg;exact Zo6 (Zo7 h)
 . split at hg
   . rename_i e;subst e;cases hg;exact Zo6 (Zo8 h)
   . split at hg
     . rename_i e;subst e;cases hg;exact Zo6 (Zo9 h)
     . cases hg
def nteK:List TY:=[.int .i64,.int .i64,.int .u8,.int .i64,.int .i64,.int .i64,.int .i64,.int .i64,.bool,.int .u8]
def rulK:List TY:=[.int .i64,.int .i64,.int .i64,.int .i64,.int .i64,.int .i64,.bool,.int .i64]
def swpK:List TY:=[.sl isK2,.sl nteK,.sl rulK]
theorem Zoe {xs:List AV} (h:TVs nteK xs):∃ x:Nte,xs=na x/\NOk x:=by
 obtain ⟨x0,_,rfl,h0,h⟩:=h.cons_inv;obtain ⟨x1,_,rfl,h1,h⟩:=h.cons_inv;obtain ⟨x2,_,rfl,h2,h⟩:=h.cons_inv;obtain ⟨x3,_,rfl,h3,h⟩:=h.cons_inv;obtain ⟨x4,_,rfl,h4,h⟩:=h.cons_inv;obtain ⟨x5,_,rfl,h5,h⟩:=h.cons_inv;obtain ⟨x6,_,rfl,h6,h⟩:=h.cons_inv;obtain ⟨x7,_,rfl,h7,h⟩:=h.cons_inv;obtain ⟨x8,_,rfl,h8,h⟩:=h.cons_inv;obtain ⟨x9,_,rfl,h9,h⟩:=h.cons_inv;obtain rfl:=h.nil_inv;obtain ⟨v0,rfl,-⟩:=h0.int_inv;obtain ⟨v1,rfl,-⟩:=h1.int_inv;obtain ⟨v2,rfl,k2⟩:=h2.int_inv;obtain ⟨v3,rfl,-⟩:=h3.int_inv;obtain ⟨v4,rfl,-⟩:=h4.int_inv;obtain ⟨v5,rfl,-⟩:=h5.int_inv;obtain ⟨v6,rfl,-⟩:=h6.int_inv;obtain ⟨v7,rfl,-⟩:=h7.int_inv;obtain ⟨v8,rfl⟩:=h8.bool_inv;obtain ⟨v9,rfl,k9⟩:=h9.int_inv;obtain ⟨a2,b2⟩:=bounds_u8 k2;obtain ⟨a9,b9⟩:=bounds_u8 k9;exact ⟨⟨v0,v1,v2,v3,v4,v5,v6,v7,v8,v9⟩,rfl,a2,b2,a9,b9⟩
theorem Zof {xs:List AV} (h:TVs rulK xs):∃ x:Rul,xs=ra x:=by
 obtain ⟨x0,_,rfl,h0,h⟩:=h.cons_inv;obtain ⟨x1,_,rfl,h1,h⟩:=h.cons_inv;obtain ⟨x2,_,rfl,h2,h⟩:=h.cons_inv;obtain ⟨x3,_,rfl,h3,h⟩:=h.cons_inv;obtain ⟨x4,_,rfl,h4,h⟩:=h.cons_inv;obtain ⟨x5,_,rfl,h5,h⟩:=h.cons_inv;obtain ⟨x6,_,rfl,h6,h⟩:=h.cons_inv;obtain ⟨x7,_,rfl,h7,h⟩:=h.cons_inv;obtain rfl:=h.nil_inv;obtain ⟨v0,rfl,-⟩:=h0.int_inv;obtain ⟨v1,rfl,-⟩:=h1.int_inv;obtain ⟨v2,rfl,-⟩:=h2.int_inv;obtain ⟨v3,rfl,-⟩:=h3.int_inv;obtain ⟨v4,rfl,-⟩:=h4.int_inv;obtain ⟨v5,rfl,-⟩:=h5.int_inv;obtain ⟨v6,rfl⟩:=h6.bool_inv;obtain ⟨v7,rfl,-⟩:=h7.int_inv;exact ⟨⟨v0,v1,v2,v3,v4,v5,v6,v7⟩,rfl⟩
theorem Zog {xs:List AV} (h:TVs swpK xs):∃ (r:List Iss) (l:List Nte) (q:List Rul),AV.agg xs=swa r l q/\(∀ x∈r,KOk x)/\∀ x∈l,NOk x:=by
 obtain ⟨x0,_,rfl,h0,h⟩:=h.cons_inv;obtain ⟨x1,_,rfl,h1,h⟩:=h.cons_inv;obtain ⟨x2,_,rfl,h2,h⟩:=h.cons_inv;obtain rfl:=h.nil_inv;obtain ⟨rows,rfl,-,g⟩:=h0.sl_inv;obtain ⟨r,rfl,hr⟩:=Zmt (f:=isa) (p:=KOk) λr hr=>Zms (g r hr)
 obtain ⟨rows,rfl,-,g⟩:=h1.sl_inv;obtain ⟨l,rfl,hl⟩:=Zmt (f:=na) (p:=NOk) λr hr=>Zoe (g r hr)
 obtain ⟨rows,rfl,-,g⟩:=h2.sl_inv;obtain ⟨q,rfl⟩:=Zml (f:=ra) λr hr=>Zof (g r hr)
 exact ⟨r,l,q,rfl,hr,hl⟩
open Go.ChangeShapes Go.WideShapes Go.ChangeAt Go.WideMaps Go.WideElems Go.RowKit Go.Deep
theorem Zoh {n:Int} (h:(Lit.int .u16 n).wf=true):0<=n/\n<=65535:=by
 simp[Lit.wf,IntKind.min,IntKind.max,IntKind.signed,IntKind.bits]at h;omega
end Go.Proofs.YtjogcghofinemaaGreatDoor
