/-
  The chapter's examples: plain values of what the functions return (for `alive`).
-/
import Derived.Test.YtjogcghofinemaaGreatDoorJTeToTp
import Derived.Test.YtjogcghofinemaaGreatDoorJRcWToEc
import Derived.Test.YtjogcghofinemaaGreatDoorJEdToNd
import Derived.Test.YtjogcghofinemaaGreatDoorJAmLToAmR
import Derived.Test.YtjogcghofinemaaGreatDoorProg
set_option linter.all false
set_option linter.unusedSimpArgs false
set_option linter.unusedVariables false
set_option linter.unusedSectionVars false
namespace Go.Proofs.YtjogcghofinemaaGreatDoor
open Go.RowKit
def exR:List Iss:=[
 ⟨10,1,1,[(20,2),(30,1)],[]⟩,⟨10,2,1,[(20,1),(30,2),(40,2)],[]⟩,⟨20,1,1,[(30,3),(50,1)],[]⟩,
 ⟨30,1,2,[],[⟨150,100,200⟩]⟩,⟨30,2,2,[],[⟨150,120,200⟩]⟩,⟨40,1,2,[],[]⟩,⟨50,1,3,[],[]⟩]
def exL:List Nte:=[⟨101,100,2,30,2,5,999,0,false,2⟩,⟨103,300,2,0,0,10,12,101,false,0⟩]
def exQ:List Rul:=[⟨1,50,40,1,30,2,false,0⟩,⟨2,150,50,1,40,1,true,0⟩,⟨3,300,0,0,0,0,false,2⟩]
theorem ex_aq:aqN exR exL exQ [] 9 200 200=0:=by decide +kernel
theorem ex_st:st5 exR exL exQ [] 9 200=[⟨30,2,30,1,101,true⟩,⟨40,1,30,2,1,false⟩,⟨50,1,40,1,2,false⟩,⟨40,1,50,1,2,false⟩]:=by decide +kernel
theorem ZmD:chE exR exL exQ [] 9 200 (50,1) (30,1)=([⟨50,1,40,1,2,false⟩,⟨40,1,30,2,1,false⟩,⟨30,2,30,1,101,true⟩],0):=by decide +kernel
theorem ZmE:ruE exR exL exQ 300=([1,3],0):=by decide +kernel
theorem ZmF:rcL exR (st5 exR exL exQ [] 9 200) false (30,1)=[(30,1),(30,2),(40,1),(50,1)]:=by decide +kernel
theorem ex_in:rcL exR (st5 exR exL exQ [] 9 200) true (40,1)=[(30,1),(30,2),(40,1),(50,1)]:=by decide +kernel
theorem ZmG:clX (mayT (edg (st5 exR exL exQ [] 9 200))) (rfs exR) 7=[[(40,1),(50,1)]]:=by decide +kernel
theorem ZmH:losX (mayT (edg (st5 exR exL exQ [] 9 200))) (mayT (edg (st5 exR exL exQ [] 9 300))) (rfs exR) 7=[((40,1),(50,1)),((50,1),(30,1)),((50,1),(30,2)),((50,1),(40,1))]:=by decide +kernel
theorem ZmI {a b:Int} (h0:0<=a) (h1:1<=b):0<=a.tmod b/\a.tmod b<b:=⟨Int.tmod_nonneg b h0,Int.tmod_lt_of_pos a (by omega)⟩
def mcV (n:Int):Int:=n.tmod 999+1
def dyV (n:Int):Int:=n.tmod 14611
theorem ZmJ {n:Int} (h:0<=n):inR (mcV n) 1 999=true:=by
 have:=ZmI (b:=999) h (by omega);exact decide_eq_true (by unfold mcV;omega)
theorem ZmK {n:Int} (h:0<=n):inR (dyV n) 0 14610=true:=by
 have:=ZmI (b:=14611) h (by omega);exact decide_eq_true (by unfold dyV;omega)
def ttV (l:List Nte) (n:Int):List Int:=sbT (opQ l) (n.tmod (2 ^ (opQ l).length:Nat)).toNat
def isV (r:List Iss) (n:Int):Rf:=(rfs r).getD (n.tmod (rfs r).length).toNat default
theorem ZmL {r:List Iss} (hr:rfs r≠[]) {n:Int} (h:0<=n):isV r n∈rfs r:=by
 have hl:0<(rfs r).length:=List.length_pos_iff.2 hr;have h1:=ZmI (b:=(rfs r).length) h (by omega);have hi:(n.tmod (rfs r).length).toNat<(rfs r).length:=(by omega);rw[isV,List.getD_eq_getElem?_getD,List.getElem?_eq_getElem hi];exact List.getElem_mem hi
def rdB (r:List Iss) (l:List Nte) (q:List Rul):Bool:=!(Zbm r||decide (16<l.length)||decide (20<q.length))&&decide (chS r l q=0)
theorem ZmM {r:List Iss} {l:List Nte} {q:List Rul} (h:rdB r l q=true) (hr:∀ x∈r,KOk x) (hl:∀ x∈l,NOk x):Wf r/\WfN l/\Sml q/\chS r l q=0/\r.length<=80:=by
 simp only[rdB,Bool.and_eq_true,Bool.not_eq_true',decide_eq_true_eq,Bool.or_eq_false_iff,decide_eq_false_iff_not]at h;obtain ⟨⟨⟨h1,h2⟩,h3⟩,h4⟩:=h
 have h80:r.length<=80:=by
  simp only[Zbm,Bool.or_eq_false_iff,decide_eq_false_iff_not]at h1;omega
 exact ⟨Zmw h1 hr,⟨by unfold Sml;omega,hl⟩,by unfold Sml;omega,h4,h80⟩
def NsubR:List (List AV)->List (List AV)->Prop
 |[],[]=>True
 |x::xs,y::ys=>NsubL x y/\NsubR xs ys
 |_,_=>False
theorem NsubR.len:∀ {xs ys:List (List AV)},NsubR xs ys->xs.length=ys.length
 |[],[],_=>rfl
 |_::_,_::_,h=>by simp only[List.length_cons,NsubR.len h.2]
 |[],_::_,h=>h.elim
 |_::_,[],h=>h.elim
theorem NsubR.at:∀ {xs ys:List (List AV)},NsubR xs ys->∀ (i:Nat) (y:List AV),ys[i]? = some y->∃ x,xs[i]? = some x/\NsubL x y
 |[],[],_,i,y,h=>by simp at h
 | x::xs,y::ys,h,0,z,e=>by
   simp only[List.getElem?_cons_zero,Option.some.injEq]at e;subst e;exact ⟨x,rfl,h.1⟩
 | x::xs,y::ys,h,i+1,z,e=>by
   simp only[List.getElem?_cons_succ]at e;obtain ⟨w,h1,h2⟩:=NsubR.at h.2 i z e;exact ⟨w,by simpa using h1,h2⟩
 |[],_::_,h,_,_,_=>h.elim
 |_::_,[],h,_,_,_=>h.elim
theorem Nsub.vsl {xs ys:List (List AV)} (h:NsubR xs ys):Nsub (.vsl xs) (.vsl ys):=λM W u hu=>by
 have hl:=h.len
 cases hu with
 | vsl _ a cap sz b o f hcap hmax ha hn hs hc hr =>
   rw[hl];refine .vsl ys a cap sz b o f (by omega) hmax (λe=>ha λe2=>e ?_) (λe=>⟨?_,(hn e).2⟩) (λr hr=>?_) (λi j hi hj=>hc i j (by omega) hj) λi j ρ x hρ hx=>?_
   . rw[e2]at hl;exact List.eq_nil_of_length_eq_zero hl.symm
   . have:=(hn e).1;rw[this]at hl;exact List.eq_nil_of_length_eq_zero hl.symm
   . obtain ⟨i,hi,rfl⟩:=List.getElem_of_mem hr;obtain ⟨x,hx,h2⟩:=h.at i _ (List.getElem?_eq_getElem hi);rw[<- h2.len];exact hs x (List.mem_of_getElem? hx)
   . obtain ⟨y,hy,h2⟩:=h.at i ρ hρ;obtain ⟨z,hz,h3⟩:=h2.at j x hx;exact h3 _ _ _ (hr i j y z hy hz)
section
variable {G:Nat->Option (List AV)}
theorem ZmN (d l:Int):PC Tryz.prog G 24 [.int .i64 d,.int .i64 l] (.agg [.int .i64 d,.int .i64 l]):=by
 (refine Z5u rfl λR hG hrd=>Qga ?_;subst hG)
 simp -implicitDefEqProofs[Z5s,Z5t]
theorem ZmO:PC Tryz.prog G 72 [] (rega exR):=by
 refine PC.out (v:=.agg [.vsl [[.int .i64 10,.int .i64 1,.int .u8 1,.vsl [[.int .i64 20,.int .i64 2],[.int .i64 30,.int .i64 1]],.nils],
  [.int .i64 10,.int .i64 2,.int .u8 1,.vsl [[.int .i64 20,.int .i64 1],[.int .i64 30,.int .i64 2],[.int .i64 40,.int .i64 2]],.nils],
  [.int .i64 20,.int .i64 1,.int .u8 1,.vsl [[.int .i64 30,.int .i64 3],[.int .i64 50,.int .i64 1]],.nils],
  [.int .i64 30,.int .i64 1,.int .u8 2,.nils,.vsl [[.int .i64 150,.int .i64 100,.int .i64 200]]],
  [.int .i64 30,.int .i64 2,.int .u8 2,.nils,.vsl [[.int .i64 150,.int .i64 120,.int .i64 200]]],
  [.int .i64 40,.int .i64 1,.int .u8 2,.nils,.nils],[.int .i64 50,.int .i64 1,.int .u8 3,.nils,.nils]]]) ?_ ?_
 . (refine Z5r rfl λR hG hrd=>Qga ?_;subst hG)
   simp -implicitDefEqProofs[Z5p,Z5q]
   try rfl
 . refine .agg ⟨.vsl ?_,trivial⟩;have n:=@Nsub.rfl';exact ⟨⟨n,n,n,n,.nils,trivial⟩,⟨n,n,n,n,.nils,trivial⟩,⟨n,n,n,n,.nils,trivial⟩,⟨n,n,n,.nils,n,trivial⟩,⟨n,n,n,.nils,n,trivial⟩,⟨n,n,n,.nils,.nils,trivial⟩,⟨n,n,n,.nils,.nils,trivial⟩,trivial⟩
theorem ZmP:PC Tryz.prog G 41 [] (swa exR exL exQ):=by
 have hR:=ZmO (G:=G);have r2:List.range 2=[0,1]:=rfl;have r3:List.range 3=[0,1,2]:=rfl;rw[rega]at hR
 (refine Z5x rfl λR hG hrd=>Qga ?_;subst hG)
 simp -implicitDefEqProofs[Z5v,Z5w,r2,r3];refine Qco (hR) (by simp) ?_;simp -implicitDefEqProofs[r2,r3];refine Qco (ZmN 40 1) (by simp) ?_;simp -implicitDefEqProofs[r2,r3];refine Qco (ZmN 30 2) (by simp) ?_;simp -implicitDefEqProofs[r2,r3];refine Qco (ZmN 50 1) (by simp) ?_;simp -implicitDefEqProofs[r2,r3];refine Qco (ZmN 40 1) (by simp) ?_;simp -implicitDefEqProofs[swa,exL,exQ,na,ra,r2,r3]
 try rfl
theorem ex_wr:Wf exR:=by
 refine ⟨⟨by unfold Sml;decide,?_⟩,by decide⟩;unfold Sml;decide
theorem ex_wl:WfN exL:=⟨by unfold Sml;decide,by decide⟩
theorem ex_wq:Sml exQ:=by unfold Sml;decide
theorem ZmQ:Sml ([]:List Int):=by simp[Sml]
theorem ZmR (hG:GC G) (hN:GN G) (hQ:GQ G) (m day a1 a2 b1 b2:Int) (w B:Bool) (h:maE exR exL exQ [] m day (a1,a2) (b1,b2) = .tup [.bool B,.int .i64 0]) :
  PC Tryz.prog G 40 [.int .i64 m,.int .i64 day,.agg [.int .i64 a1,.int .i64 a2],.agg [.int .i64 b1,.int .i64 b2],.bool w] (.bool (B == w)):=by
 have hs:=ZmP (G:=G);have hm:=PC.sub (ZkA hG hN hQ exR exL exQ [] m day a1 a2 b1 b2 ex_wl ex_wr ex_wq ZmQ) (xs:=[swa exR exL exQ,.nils,.int .i64 m,.int .i64 day,.agg [.int .i64 a1,.int .i64 a2],.agg [.int .i64 b1,.int .i64 b2]]) ⟨.rfl',.nils,.rfl',.rfl',.rfl',.rfl',trivial⟩;rw[h]at hm;unfold swa at *
 (refine Z5A rfl λR hG hrd=>Qga ?_;subst hG)
 simp -implicitDefEqProofs[Z5y,Z5z];refine Qco (hs) (by simp) ?_;simp -implicitDefEqProofs[];refine Qco (hm) (by simp) ?_;simp -implicitDefEqProofs[]
 try rfl
theorem ZmS (n:Int) (h0:0<=n) (h1:n<=65535):PC Tryz.prog G 52 [.int .u16 n] (.int .i64 (mcV n)):=by
 have b:=ZmI (b:=999) h0 (by omega);have w1:IntKind.i64.wrap n=n:=Yg (by omega) (by omega);have w2:IntKind.i64.wrap (n.tmod 999+1)=n.tmod 999+1:=Yg (by omega) (by omega)
 (refine Z5J rfl λR hG hrd=>Qga ?_;subst hG)
 simp -implicitDefEqProofs[Z5H,Z5I,w1,w2,mcV]
theorem ZmT (n:Int) (h0:0<=n) (h1:n<=65535):PC Tryz.prog G 35 [.int .u16 n] (.int .i64 (dyV n)):=by
 have w1:IntKind.i64.wrap n=n:=Yg (by omega) (by omega)
 (refine Z5M rfl λR hG hrd=>Qga ?_;subst hG)
 simp -implicitDefEqProofs[Z5K,Z5L,w1,dyV]
theorem ZmU (r:List Iss) (l:List Nte) (n:Int) (hB:ZdZ r l=true) (h0:0<=n) (h1:n<=255):PC Tryz.prog G 51 [.agg [.vsl (r.map isa),.vsl (l.map na)],.int .u8 n] (.vsl ((ttV l n).map ia)):=by
 have hT:=Zm0 (G:=G) r l hB;have h5:=ZlP hB;have hK:=pow5 h5;have tlen:=ZlR (opQ l) (2 ^ (opQ l).length);have tpur:=ZlT (opQ l) (2 ^ (opQ l).length);have tget:∀ v K,v<K->(trK (opQ l) K)[v]? = some [.vsl ((sbT (opQ l) v).map ia)]:=λv K h=>by simp[trK,trR,h]
 unfold ttV;have hp:0<2 ^ (opQ l).length:=Nat.pow_pos (by omega);have tg:=tget (n.tmod (2 ^ (opQ l).length:Nat)).toNat (2 ^ (opQ l).length);generalize 2 ^ (opQ l).length=K at *;have b:=ZmI (b:=(K:Int)) h0 (by omega);have w1:IntKind.i64.wrap n=n:=Yg (by omega) (by omega);have k0:¬(K:Int)=0:=(by omega);have k0':¬K=0:=(by omega);have hi:(n.tmod (K:Int)).toNat<K:=(by omega);have tg2:=tg hi;obtain ⟨q1,q2⟩:=List.getElem?_eq_some_iff.1 tg2;generalize trK (opQ l) K=T at *
 (refine Z5P rfl λR hG hrd=>Qga ?_;subst hG)
 simp -implicitDefEqProofs[Z5N,Z5O];refine Qco (hT) (by simp) ?_;simp -implicitDefEqProofs[w1,k0,k0',b.1,b.2,tlen,hi,q2]
theorem ZmV (r:List Iss) (n:Int) (hr:Sml r) (hne:r≠[]) (h0:0<=n) (h1:n<=255):PC Tryz.prog G 26 [.agg [.vsl (r.map isa)],.int .u8 n] (.agg [.int .i64 (isV r n).1,.int .i64 (isV r n).2]):=by
 have hR:=Zjj (G:=G) r hr;rw[Zkv hne]at hR;have hl:0<(rfs r).length:=(by rw[ZkE];exact List.length_pos_iff.2 hne);have b:=ZmI (b:=(rfs r).length) h0 (by omega);have w1:IntKind.i64.wrap n=n:=Yg (by omega) (by omega);have k0:¬((rfs r).length:Int)=0:=(by omega);have k0':¬(rfs r).length=0:=(by omega);have hi:(n.tmod (rfs r).length).toNat<(rfs r).length:=(by omega);have e:isV r n=(rfs r)[(n.tmod (rfs r).length).toNat]:=(by rw[isV,List.getD_eq_getElem?_getD,List.getElem?_eq_getElem hi];rfl);rw[e];generalize rfs r=R0 at *
 (refine Z5S rfl λR hG hrd=>Qga ?_;subst hG)
 simp -implicitDefEqProofs[Z5Q,Z5R];refine Qco (hR) (by simp) ?_;simp -implicitDefEqProofs[w1,k0,k0',b.1,b.2,hi,ita]
theorem ZmW (r:List Iss) (l:List Nte) (q:List Rul) (hr:∀ x∈r,KOk x) (hl:∀ x∈l,NOk x):PC Tryz.prog G 15 [swa r l q] (.bool (rdB r l q)):=by
 have hg:=Zmy (G:=G) r l q;have hc:=λ(h:(Zbm r||decide (16<l.length)||decide (20<q.length))=false)=>ZhZ (G:=G) r l q ⟨by simp only[Bool.or_eq_false_iff,decide_eq_false_iff_not]at h;unfold Sml;omega,hl⟩ (Zmw (by simp only[Bool.or_eq_false_iff]at h;exact h.1.1) hr) (by simp only[Bool.or_eq_false_iff,decide_eq_false_iff_not]at h;unfold Sml;omega)
 unfold rdB;unfold swa at *;generalize (Zbm r||decide (16<l.length)||decide (20<q.length))=g at *
 (refine Z5G rfl λR hG hrd=>Qga ?_;subst hG)
 simp -implicitDefEqProofs[Z5E,Z5F];refine Qco (hg) (by simp) ?_
 cases g
 . simp -implicitDefEqProofs[];refine Qco (hc rfl) (by simp) ?_;simp -implicitDefEqProofs[]
 . simp -implicitDefEqProofs[]
def akA (s:List Int) (m d:Int) (a b:Rf):AV:=.agg [.vsl (s.map ia),.int .i64 m,.int .i64 d,.int .i64 a.1,.int .i64 a.2,.int .i64 b.1,.int .i64 b.2]
theorem ZmX (r:List Iss) (l:List Nte) (q:List Rul) (t m d a b:Int) (hB:ZdZ r l=true) (hr:Sml r) (hne:r≠[]) (ht:0<=t/\t<=255) (hm:0<=m/\m<=65535) (hd:0<=d/\d<=65535) (ha:0<=a/\a<=255) (hb:0<=b/\b<=255) :
  PC Tryz.prog G 16 [swa r l q,.int .u8 t,.int .u16 m,.int .u16 d,.int .u8 a,.int .u8 b] (akA (ttV l t) (mcV m) (dyV d) (isV r a) (isV r b)):=by
 have h1:=ZmU (G:=G) r l t hB ht.1 ht.2;have h2:=ZmS (G:=G) m hm.1 hm.2;have h3:=ZmT (G:=G) d hd.1 hd.2;have h4:=ZmV (G:=G) r a hr hne ha.1 ha.2;have h5:=ZmV (G:=G) r b hr hne hb.1 hb.2;unfold swa akA;generalize isV r a=A at *;generalize isV r b=B at *
 (refine Z5V rfl λR hG hrd=>Qga ?_;subst hG)
 simp -implicitDefEqProofs[Z5T,Z5U];refine Qco (h1) (by simp) ?_;simp -implicitDefEqProofs[];refine Qco (h2) (by simp) ?_;simp -implicitDefEqProofs[];refine Qco (h3) (by simp) ?_;simp -implicitDefEqProofs[];refine Qco (h4) (by simp) ?_;simp -implicitDefEqProofs[];refine Qco (h5) (by simp) ?_;simp -implicitDefEqProofs[]
 try rfl
end
def plT (ds ls:List Int) (i:Nat):List (Nat×AV):=[(49,.int .i64 i),(48,.int .i64 ds.length),(47,.vsl (ds.map ia)),(12,Yh (ls.map ia)),(10,.ptr 10 0)]
def plS (M:List AV) (ds ls:List Int) (X:List (Rf×List Rf)) (i:Nat):St :=
 if i=0 then ⟨(16,.nils)::plT ds ls i,[(10,.box M)]⟩ else ⟨(16,.osl 67 i)::plT ds ls i,[(67,.row 3 (plM false (X.take i))),(10,.box M)]⟩
section
variable {G:Nat->Option (List AV)}
set_option maxHeartbeats 2000000 in
theorem ZmY (hG:GC G) (hN:GN G) (hQ:GQ G) (r:List Iss) (l:List Nte) (q:List Rul) (s:List Int) (m day:Int) (hw:WfN l) (hr:Wf r) (hq:Sml q) (hs:Sml s) :
  PC Tryz.prog G 37 [swa r l q,.vsl (s.map ia),.int .i64 m,.int .i64 day] (plE false r l q s m day):=by
 have ha:=ZiN hG hN r l q s m day day hw hr hq hs;unfold plE;unfold moA at ha;by_cases h0:aqN r l q s m day day=0
 case neg =>
  rw[if_neg h0]at ha ⊢;unfold swa at *
  (refine Z6f rfl λR hG hrd=>Qga ?_;subst hG)
  simp -implicitDefEqProofs[Z6d,Z6e];refine Qco (ha) (by simp) ?_;simp -implicitDefEqProofs[h0]
 have hz:=Zib h0;have hne:=ch_ne hz.1;have has:=aq_as h0;have hlt:=Zm9 hG hN r l s m hw hr hs;have ho:=Zm6 (Zm5 has).1;have hdr:=Zdu hG r hr;have h20:=(Zm7 ho).2;have hrc:=λb1 b2=>Zky hG hN hQ r l q s m day b1 b2 false hw hr hq hs hz.1 hz.2.1 hne (by have:=ZkD hz.1;omega)
 have pS:(Yl r l q).pure=true:=(by unfold Yl rfA;split <;> simp[AV.pure,isa,na,ra,rfa]);have kS:(Yl r l q).keys=[]:=(by unfold Yl;simp[AV.keys]);have pM:∀ x∈moC r l q s m day,x.pure=true:=(by simp[moC,AV.pure,pS,ia]);rw[if_pos h0,h0]at ha ⊢;unfold ltA at hlt;rw[if_pos has,has]at hlt;rw[if_pos ho,ho]at hdr;unfold rega at hdr;have hll:(ltL s m l (nums r)).length=(nums r).length:=(by simp[ltL]);have hsc:=λi (hi:i<(nums r).length)=>Zmg (r:=r) (L:=st5 r l q s m day) hll hi
 have hXl:=Zmf (r:=r) (L:=st5 r l q s m day) hll;generalize ltL s m l (nums r)=ls at *;generalize nums r=ds at *;obtain ⟨cs,eS⟩ : ∃ cs,Yl r l q = .vptr cs 0:=⟨_,rfl⟩;unfold moC at *;rw[eS]at ha hrc pS kS pM;have pV:=Zf5 (l:=ls.map ia) (by simp[ia,AV.pure]);have kV:=Zf6 (ls.map ia);have sV:=λok st=>Zm8 pV ok st
 generalize hX:plX r (st5 r l q s m day) ds ls=X at *;unfold swa at *
 (refine Z6f rfl λR hG hrd=>Qga ?_;subst hG)
 simp -implicitDefEqProofs[Z6d,Z6e];refine Qco (ha) (by simp) ?_;simp -implicitDefEqProofs[];refine Qco (hlt) (by simp) ?_;simp -implicitDefEqProofs[];refine Qco (hdr) (by simp) ?_;simp -implicitDefEqProofs[];generalize hM:[AV.vptr cs 0,.vsl (s.map ia),.int .i64 m,.int .i64 day]=M at *;have hk:∀ x∈M,x.keys=[]:=by rw[<- hM];simp[AV.keys]
 have hMk:∀ o,Yd o (.box M)=true:=λo=>by
  simp only[Yd,List.all_eq_true];intro x hx;simp[Ya,hk x hx]
 refine Zba (plS M ds ls X) (λ_=>True) ds.length ?_ trivial ?_ ?_
 . simp only[plS,plT,if_true,<- hM]
   ((try simp only[kV]);refine Yn.sub (by simp[lk,Ya,AV.keys,kV]) ?_;simp only[kV,Wkl,and_true];(try simp[lk,Yd,Ya,AV.keys,kV]))
 . intro i hi _;have wi:IntKind.i64.wrap ((i:Int)+1)=(i:Int)+1:=Yg (by omega) (by omega)
   have hne2:¬ls.map ia=[]:=λh=>by
    have:ls.length=0:=(by rw[<- List.length_map (f:=ia),h];rfl);omega
   have eV:Yh (ls.map ia) = .vsl (ls.map ia):=(by rw[Yh,if_neg hne2]);have hil:i<ls.length:=(by omega);have sc:=hsc i hi;have hm:=hrc ds[i] ls[i];have hrow:∀ (d e:Int) (V:List Rf),plR false ((d,e),V)=[.int .i64 d,.int .i64 e,.vsl (acM V)]:=λd e V=>rfl
   generalize rcL r (st5 r l q s m day) false (ds[i],ls[i])=V at *;have em:=Zma false (X.take i) ((ds[i],ls[i]),V);rw[<- sc,hrow]at em;have lm:=Zmb false (X.take i);rw[List.length_take,hXl,Nat.min_eq_left (by omega)]at lm;have bb:(i+1)*40<=70368744177664:=(by omega);have eA:V.map ita=acM V:=rfl;rw[eA]at hm;refine Qga ?_;by_cases i0:i=0
   case' pos =>
    have hS:plS M ds ls X i=⟨(16,.nils)::plT ds ls i,[(10,.box M)]⟩:=(by unfold plS;rw[if_pos i0]);have e1:plM false (X.take i)=[]:=(by rw[i0]at lm ⊢;exact List.length_eq_zero_iff.1 lm);rw[e1,List.nil_append]at em
   case' neg =>
    have hS:plS M ds ls X i=⟨(16,.osl 67 i)::plT ds ls i,[(67,.row 3 (plM false (X.take i))),(10,.box M)]⟩:=by unfold plS;rw[if_neg i0]
   all_goals
    rw[hS];simp -implicitDefEqProofs[plT,eV,hi,hil,ia,<- hM];rw[hM];refine Yf.of hm (by simp[AV.pure];exact pM) ?_;simp -implicitDefEqProofs[bb,lm];refine ⟨rfl,?_⟩;have hS1:plS M ds ls X (i+1)=⟨(16,.osl 67 (i+1))::plT ds ls (i+1),[(67,.row 3 (plM false (X.take (i+1)))),(10,.box M)]⟩:=(by unfold plS;rw[if_neg (by omega)]);rw[hS1,<- em];simp only[plT,eV];have w1:IntKind.i64.wrap 1=1:=rfl
    ((try simp only[wi,w1,i0]);refine Yn.sub (by simp[lk,Ya,AV.keys,wi,w1,i0]) ?_;simp only[wi,w1,i0,Wkl,Zme,hMk,and_true];(try simp[lk,Yd,Ya,AV.keys,wi,w1,i0]))
 . intro _;have hall:X.take ds.length=X:=(by rw[<- hXl];exact List.take_length);have lm:=Zmb false X;have k5:=Zmd false X;rw[hXl]at lm;refine Qga ?_;by_cases i0:ds.length=0
   . have hS:plS M ds ls X ds.length=⟨(16,.nils)::plT ds ls ds.length,[(10,.box M)]⟩:=(by unfold plS;rw[if_pos i0]);have e0:plM false X=[]:=(by rw[i0]at lm;exact List.length_eq_zero_iff.1 lm);rw[hS];simp -implicitDefEqProofs[plT];refine Qgr ?_;simp -implicitDefEqProofs[Yh,e0]
   . have hS:plS M ds ls X ds.length=⟨(16,.osl 67 ds.length)::plT ds ls ds.length,[(67,.row 3 (plM false (X.take ds.length))),(10,.box M)]⟩:=(by unfold plS;rw[if_neg i0]);rw[hall]at hS;have e0:¬plM false X=[]:=λh=>i0 (by rw[<- lm,h];rfl)
     rw[hS];simp -implicitDefEqProofs[plT];refine Qgr ?_;simp -implicitDefEqProofs[Yh,e0,k5,lm]
end
section
variable {G:Nat->Option (List AV)}
end
section
variable {G:Nat->Option (List AV)}
end
section
variable {G:Nat->Option (List AV)}
theorem ZmZ (X:List Pr) (hX:X.length<=4000):PC Tryz.prog G 48 [.vsl (prM X),.vsl (prM X)] (.bool true):=by
 have ll:=Zlx X
 (refine Z6r rfl λR hG hrd=>Qga ?_;subst hG)
 simp -implicitDefEqProofs[Z6p,Z6q,ll];refine Zba (λi=>⟨[(5,.int .i64 i),(0,.vsl (prM X)),(1,.vsl (prM X))],[]⟩) (λ_=>True) X.length ?_ trivial ?_ ?_
 . (refine Yn.sub (by simp[lk,Ya,AV.keys]) ?_;simp only[Wkl,and_true];(try simp[lk,Yd,Ya,AV.keys]))
 . intro i hi _;have wi:IntKind.i64.wrap ((i:Int)+1)=(i:Int)+1:=Yg (by omega) (by omega);have ha:(prM X)[i]'(by rw[ll];exact hi)=[.int .i64 X[i].1.1,.int .i64 X[i].1.2,.int .i64 X[i].2.1,.int .i64 X[i].2.2]:=(by simp[prM,pra]);refine Qga ?_;simp -implicitDefEqProofs[hi,ll,ha,wi];refine ⟨rfl,?_⟩
   (refine Yn.sub (by simp[lk,Ya,AV.keys]) ?_;simp only[Wkl,and_true];(try simp[lk,Yd,Ya,AV.keys]))
 . intro _;refine Qga ?_;simp -implicitDefEqProofs[ll];refine Qgr ?_;simp -implicitDefEqProofs[]
end
def exS:List Stq:=[⟨30,2,30,1,101,true⟩,⟨40,1,30,2,1,false⟩,⟨50,1,40,1,2,false⟩,⟨40,1,50,1,2,false⟩]
def exC:List Stq:=[⟨50,1,40,1,2,false⟩,⟨40,1,30,2,1,false⟩,⟨30,2,30,1,101,true⟩]
def exA:List Rf:=[(30,1),(30,2),(40,1),(50,1)]
def exK:List Rf:=[(40,1),(50,1)]
def exX:List Pr:=[((40,1),(50,1)),((50,1),(30,1)),((50,1),(30,2)),((50,1),(40,1))]
def exP:List (Rf×List Rf):=[((10,1),[(10,1)]),((20,1),[(20,1)]),((30,2),[(30,2),(40,1),(50,1)]),((40,1),[(40,1),(50,1)]),((50,1),[(40,1),(50,1)])]
theorem Zn0:plX exR (st5 exR exL exQ [] 9 200) (nums exR) (ltL [] 9 exL (nums exR))=exP:=by decide +kernel
theorem ex_pu (a b:Rf) (h:(knB exR a.1 a.2&&knB exR b.1 b.2)=true):puN exR exL exQ [] 9 200 a b=0:=by
 rw[puN,if_pos ex_aq,if_pos h]
theorem Zn1:stA exR exL exQ [] 9 200 = .tup [.vsl (exS.map sa),.int .i64 0]:=by
 have h:=ex_aq
 have:stE exR exL exQ [] 9 200=(exS,0):=by
  have e:=ex_st;unfold stE;rw[if_pos h,e];rfl
 rw[stA,this];rfl
theorem Zn2:chA exR exL exQ [] 9 200 (50,1) (30,1) = .tup [.vsl (exC.map sa),.int .i64 0]:=by rw[chA,ZmD];rfl
theorem Zn3:ruA exR exL exQ 300 = .tup [.vsl (([1,3]:List Int).map ia),.int .i64 0]:=by rw[ruA,ZmE];rfl
theorem Zn4:foE exR exL exQ [] 9 200 false (30,1) = .tup [.vsl (exA.map ita),.int .i64 0]:=by
 have h:=ex_pu (30,1) (30,1) (by decide +kernel);rw[foE,h,if_pos rfl,ZmF];rfl
theorem Zn5:foE exR exL exQ [] 9 200 true (40,1) = .tup [.vsl (exA.map ita),.int .i64 0]:=by
 have h:=ex_pu (40,1) (40,1) (by decide +kernel);rw[foE,h,if_pos rfl,ex_in];rfl
theorem Zn6:(rfs exR).length=7:=rfl
theorem Zn7:clE exR exL exQ [] 9 200 = .tup [.vsl (clM [exK]),.int .i64 0]:=by
 rw[clE,ex_aq,if_pos rfl,Zn6,ZmG];rfl
theorem Zn8:loE exR exL exQ [] 9 200 300 = .tup [.vsl (prM exX),.int .i64 0]:=by
 have h:aqN exR exL exQ [] 9 200 300=0:=(by decide +kernel);rw[loE,h,if_pos rfl,Zn6,ZmH];rfl
theorem Zn9:suE exR exL exQ 9 200 (30,2) (30,1) = .tup [.int .u8 2,.int .i64 0]:=by
 have h:=ex_pu (30,2) (30,1) (by decide +kernel);have h2:suV (mB exR exL exQ 9 200 (30,2) (30,1)) (2 ^ (opQ exL).length)=2:=(by decide +kernel);rw[suE,h,if_pos rfl,h2]
theorem Zna:plE false exR exL exQ [] 9 200 = .tup [.vsl (plM false exP),.int .i64 0]:=by
 rw[plE,ex_aq,if_pos rfl,Zn0];rfl
theorem ex_m1:maE exR exL exQ [] 11 299 (30,2) (30,1) = .tup [.bool true,.int .i64 0]:=by
 have h:puN exR exL exQ [] 11 299 (30,2) (30,1)=0:=(by decide +kernel);have h2:decide (diV (edg (st5 exR exL exQ [] 11 299)) (30,1) (30,2)<1048576)=true:=(by decide +kernel);rw[maE,h,if_pos rfl,h2]
theorem ex_m2:maE exR exL exQ [] 11 300 (30,2) (30,1) = .tup [.bool false,.int .i64 0]:=by
 have h:puN exR exL exQ [] 11 300 (30,2) (30,1)=0:=(by decide +kernel);have h2:decide (diV (edg (st5 exR exL exQ [] 11 300)) (30,1) (30,2)<1048576)=false:=(by decide +kernel);rw[maE,h,if_pos rfl,h2]
section
variable {G:Nat->Option (List AV)}
set_option maxRecDepth 100000 in
set_option maxHeartbeats 4000000 in
theorem Znb (hG:GC G) (hN:GN G) (hQ:GQ G):PC Tryz.prog G 14 [] (.bool true):=by
 have hs:=ZmP (G:=G);have cSt:=PC.sub (Zkn hG hN hQ exR exL exQ [] 9 200 ex_wl ex_wr ex_wq ZmQ) (xs:=[swa exR exL exQ,.nils,.int .i64 9,.int .i64 200]) ⟨.rfl',.nils,.rfl',.rfl',trivial⟩;have cCh:=PC.sub (ZkP hG hN hQ exR exL exQ [] 9 200 50 1 30 1 ex_wl ex_wr ex_wq ZmQ) (xs:=[swa exR exL exQ,.nils,.int .i64 9,.int .i64 200,.agg [.int .i64 50,.int .i64 1],.agg [.int .i64 30,.int .i64 1]]) ⟨.rfl',.nils,.rfl',.rfl',.rfl',.rfl',trivial⟩;have cRu:=Ziw hG hN exR exL exQ 300 ex_wl ex_wr ex_wq;have cFo:=PC.sub (ZkB hG hN hQ exR exL exQ [] 9 200 30 1 ex_wl ex_wr ex_wq ZmQ (by decide)) (xs:=[swa exR exL exQ,.nils,.int .i64 9,.int .i64 200,.agg [.int .i64 30,.int .i64 1]]) ⟨.rfl',.nils,.rfl',.rfl',.rfl',trivial⟩;have cIn:=PC.sub (ZkC hG hN hQ exR exL exQ [] 9 200 40 1 ex_wl ex_wr ex_wq ZmQ (by decide)) (xs:=[swa exR exL exQ,.nils,.int .i64 9,.int .i64 200,.agg [.int .i64 40,.int .i64 1]]) ⟨.rfl',.nils,.rfl',.rfl',.rfl',trivial⟩;have cCl:=PC.sub (Zlo hG hN hQ exR exL exQ [] 9 200 ex_wl ex_wr ex_wq ZmQ) (xs:=[swa exR exL exQ,.nils,.int .i64 9,.int .i64 200]) ⟨.rfl',.nils,.rfl',.rfl',trivial⟩;have cLo:=PC.sub (ZlA hG hN hQ exR exL exQ [] 9 200 300 ex_wl ex_wr ex_wq ZmQ) (xs:=[swa exR exL exQ,.nils,.int .i64 9,.int .i64 200,.int .i64 300]) ⟨.rfl',.nils,.rfl',.rfl',.rfl',trivial⟩;have cSu:=ZmC hG hN hQ exR exL exQ 9 200 30 2 30 1 ex_wl ex_wr ex_wq;have cPl:=PC.sub (ZmY hG hN hQ exR exL exQ [] 9 200 ex_wl ex_wr ex_wq ZmQ) (xs:=[swa exR exL exQ,.nils,.int .i64 9,.int .i64 200]) ⟨.rfl',.nils,.rfl',.rfl',trivial⟩;rw[Zn1]at cSt;rw[Zn2]at cCh;rw[Zn3]at cRu;rw[Zn4]at cFo;rw[Zn5]at cIn;rw[Zn7]at cCl;rw[Zn8]at cLo;rw[Zn9]at cSu;rw[Zna]at cPl;have cM1:=ZmR hG hN hQ 11 299 30 2 30 1 true true ex_m1;have cM2:=ZmR hG hN hQ 11 300 30 2 30 1 false false ex_m2;have s1:=ZhW (G:=G) exS exS (by unfold Sml;decide);have s2:=ZhW (G:=G) exC exC (by unfold Sml;decide);have s3:=Zbh (G:=G) [1,3] [1,3] (by unfold Sml;decide);have s4:=Zf4 (G:=G) exA exA (by unfold Sml;decide);have s5:=Zf4 (G:=G) exK exK (by unfold Sml;decide);have s6:=ZmZ (G:=G) exX (by decide);have s7:=Zf4 (G:=G) [(30,2),(40,1),(50,1)] [(30,2),(40,1),(50,1)] (by unfold Sml;decide);rw[decide_eq_true rfl]at s1 s2 s3 s4 s5 s7;simp only[beq_self_eq_true]at cM1 cM2;simp only[exS,exC,exA,exK,exX,exP,clM,prM,plM,plR,pra,acM,List.map_cons,List.map_nil,ia,ita,sa,Bool.false_eq_true,if_false]at cSt cCh cRu cFo cIn cCl cLo cPl s1 s2 s3 s4 s5 s6 s7;unfold swa at *
 (refine Z5D rfl λR hG hrd=>Qga ?_;subst hG)
 simp -implicitDefEqProofs[Z5B,Z5C]
 repeat
  first
   |refine Qco (ZmN _ _) (by simp) ?_
   |refine Qco (hs) (by simp) ?_
   |refine Qco (cSt) (by simp) ?_
   |refine Qco (cCh) (by simp) ?_
   |refine Qco (cRu) (by simp) ?_
   |refine Qco (cFo) (by simp) ?_
   |refine Qco (cIn) (by simp) ?_
   |refine Qco (cCl) (by simp) ?_
   |refine Qco (cLo) (by simp) ?_
   |refine Qco (cSu) (by simp) ?_
   |refine Qco (cPl) (by simp) ?_
   |refine Qco (s1) (by simp) ?_
   |refine Qco (s2) (by simp) ?_
   |refine Qco (s3) (by simp) ?_
   |refine Qco (s4) (by simp) ?_
   |refine Qco (s5) (by simp) ?_
   |refine Qco (s6) (by simp) ?_
   |refine Qco (s7) (by simp) ?_
   |refine Qco (cM1) (by simp) ?_
   |refine Qco (cM2) (by simp) ?_
  simp -implicitDefEqProofs[]
 refine ⟨rfl,?_⟩
 repeat
  first
   |refine Qco (ZmN _ _) (by simp) ?_
   |refine Qco (hs) (by simp) ?_
   |refine Qco (cSt) (by simp) ?_
   |refine Qco (cCh) (by simp) ?_
   |refine Qco (cRu) (by simp) ?_
   |refine Qco (cFo) (by simp) ?_
   |refine Qco (cIn) (by simp) ?_
   |refine Qco (cCl) (by simp) ?_
   |refine Qco (cLo) (by simp) ?_
   |refine Qco (cSu) (by simp) ?_
   |refine Qco (cPl) (by simp) ?_
   |refine Qco (s1) (by simp) ?_
   |refine Qco (s2) (by simp) ?_
   |refine Qco (s3) (by simp) ?_
   |refine Qco (s4) (by simp) ?_
   |refine Qco (s5) (by simp) ?_
   |refine Qco (s6) (by simp) ?_
   |refine Qco (s7) (by simp) ?_
   |refine Qco (cM1) (by simp) ?_
   |refine Qco (cM2) (by simp) ?_
  simp -implicitDefEqProofs[]
 exact rfl
end
theorem Znc {E:List (Rf×Rf)} (hE:E.length<=1000) {a b:Rf}:mayT E a b=true↔∃ n,pth E b n a=true:=by
 unfold mayT;rw[decide_eq_true_eq,Zjf hE]
 cases h:diN E b a with
 | none =>
   have:=Zja.1 h;simp only[Option.isSome_none,Bool.false_eq_true,false_iff];rintro ⟨n,hn⟩;rw[this n]at hn;cases hn
 |some n=>exact ⟨λ_=>⟨n,(Zj9.1 h).1⟩,λ_=>rfl⟩
theorem Znd {E:List (Rf×Rf)} {x y:Rf}:pth E y 0 x=true↔x=y:=by simp[pth]
theorem Zne {E F:List (Rf×Rf)} (h:∀ e∈E,e∈F) {y:Rf}:∀ (n:Nat) {x:Rf},pth E y n x=true->pth F y n x=true
 |0,x,hp=>by rw[Znd]at hp ⊢;exact hp
 | n+1,x,hp=>by
   obtain ⟨e,he,h1,h3⟩:=Zj5.1 hp;exact Zj5.2 ⟨e,h e he,h1,Zne h n h3⟩
theorem Znf {E F:List (Rf×Rf)} (hE:E.length<=1000) (hF:F.length<=1000) (h:∀ e∈E,e∈F) {a b:Rf} (h1:mayT E a b=true):mayT F a b=true:=by
 obtain ⟨n,hn⟩:=(Znc hE).1 h1;exact (Znc hF).2 ⟨n,Zne h n hn⟩
theorem Nsub.tup {xs ys:List AV} (h:NsubL xs ys):Nsub (.tup xs) (.tup ys):=λM W u hu=>by
 cases hu with
 | tup _ us h1 hx =>
   refine .tup ys us (by rw[h1,h.len]) λi y u hy hu=>?_
   obtain ⟨x,h2,h3⟩:=h.at i y hy;exact h3 _ _ _ (hx i x u h2 hu)
theorem PC.vs {P:Program} {G:Nat->Option (List AV)} {f:FuncId} {xs:List AV} {l:List (List AV)} {e:Int} (h:PC P G f xs (.tup [Yh l,.int .i64 e])):PC P G f xs (.tup [.vsl l,.int .i64 e]):=h.out (.tup ⟨.orNil l,.rfl',trivial⟩)
structure Rq (r:List Iss) (l:List Nte) (q:List Rul) (s:List Int) (m d:Int):Prop where
 wr:Wf r
 wl:WfN l
 wq:Sml q
 ws:Sml s
 h0:chS r l q=0
 h80:r.length<=80
 tr:truB l s=true
 mi:inR m 1 999=true
 di:inR d 0 14610=true
section
variable {r:List Iss} {l:List Nte} {q:List Rul} {s:List Int} {m d:Int}
theorem Rq.nB (h:Rq r l q s m d):ZdZ r l=true:=ZhQ (Zi0 h.h0).1
theorem Rq.rB (h:Rq r l q s m d):Zel r q=true:=(Zi0 h.h0).2
theorem Rq.li (h:Rq r l q s m d):Zbv r=true:=Zjq h.h0
theorem Rq.ne (h:Rq r l q s m d):r≠[]:=ch_ne h.h0
theorem Rq.len (h:Rq r l q s m d):(st5 r l q s m d).length<=100:=Zkm h.h0
theorem Rq.l1000 (h:Rq r l q s m d):(st5 r l q s m d).length<=1000:=by have:=h.len;omega
theorem Rq.e1000 (h:Rq r l q s m d):(edg (st5 r l q s m d)).length<=1000:=by simpa [edg] using h.l1000
theorem Rq.aq (h:Rq r l q s m d) {e:Int} (he:inR e 0 14610=true):aqN r l q s m d e=0:=by
 rw[aqN,if_pos h.h0,if_pos h.tr,if_pos (by rw[h.mi,h.di,he];rfl)]
theorem Rq.pu (h:Rq r l q s m d) {a b:Rf} (ha:a∈rfs r) (hb:b∈rfs r):puN r l q s m d a b=0:=by
 rw[puN,if_pos (h.aq h.di),if_pos (by rw[Zjn.2 (show (a.1,a.2)∈rfs r from ha),Zjn.2 (show (b.1,b.2)∈rfs r from hb)];rfl)]
theorem Rq.day (h:Rq r l q s m d) {e:Int} (he:inR e 0 14610=true):Rq r l q s m e:=⟨h.wr,h.wl,h.wq,h.ws,h.h0,h.h80,h.tr,h.mi,he⟩
theorem Rq.truth (h:Rq r l q s m d) {s':List Int} (h1:Sml s') (h2:truB l s'=true):Rq r l q s' m d:=⟨h.wr,h.wl,h.wq,h1,h.h0,h.h80,h2,h.mi,h.di⟩
theorem Rq.rne (h:Rq r l q s m d):rfs r≠[]:=by have:=h.ne;simpa [rfs] using this
theorem Zng {t m d:Int} (h:rdB r l q=true) (hr:∀ x∈r,KOk x) (hl:∀ x∈l,NOk x) (hm:0<=m) (hd:0<=d):Rq r l q (ttV l t) (mcV m) (dyV d):=by
 obtain ⟨h1,h2,h3,h4,h5⟩:=ZmM h hr hl;have hB:=ZhQ (Zi0 h4).1;exact ⟨h1,h2,h3,by have:=(ZlJ (opQ l) (t.tmod (2 ^ (opQ l).length:Nat)).toNat).length_le;have:=ZlP hB;unfold ttV Sml;omega,h4,h5,ZlO hB _,ZmJ hm,ZmK hd⟩
variable {G:Nat->Option (List AV)}
theorem Rq.may_pc (h:Rq r l q s m d) (hG:GC G) (hN:GN G) (hQ:GQ G) {a b:Rf} (ha:a∈rfs r) (hb:b∈rfs r) :
  PC Tryz.prog G 17 [swa r l q,.vsl (s.map ia),.int .i64 m,.int .i64 d,.agg [.int .i64 a.1,.int .i64 a.2],.agg [.int .i64 b.1,.int .i64 b.2]] (.tup [.bool (mayT (edg (st5 r l q s m d)) a b),.int .i64 0]):=by
 have:=ZkA hG hN hQ r l q s m d a.1 a.2 b.1 b.2 h.wl h.wr h.wq h.ws
 have e:maE r l q s m d (a.1,a.2) (b.1,b.2) = .tup [.bool (mayT (edg (st5 r l q s m d)) a b),.int .i64 0]:=by
  rw[maE,show puN r l q s m d (a.1,a.2) (b.1,b.2)=0 from h.pu ha hb,if_pos rfl];rfl
 rwa [e]at this
end
open Go.ChangeShapes Go.WideShapes Go.ChangeAt Go.WideMaps Go.WideElems Go.RowKit Go.Deep
def laid5:List (String×DataW Unit):=[("blueline/sheet.checks",Rows.laid_blueline_sheet_checks),("blueline/note.checks",Rows.laid_blueline_note_checks),("blueline/swap.sources",Rows.laid_blueline_swap_sources)]
theorem Znh (os:Os) (args:Array Value):laidMetH Tryz.prog laid5 ((World.doorLaid Tryz.prog 41 os).forCall (λ_ _=>0) ⟨#[],args,[]⟩).memory :=
 laidMetH_of_parts3 (fuel:=8) (laidMet_of_run' 8 (by kernel_rfl) (by kernel_rfl)) (by kernel_rfl) (by kernel_rfl)
theorem cellF {W:World} {fuel:Nat} {c:Value} {y:DataW (List UInt8)×List MemPlace} {tE:Nat} {fld:Field} {ps rs:Array TypeId} {vd:Bool} {b:UInt8} {s:List UInt8} {f0:FuncId}
  (uE:Tryz.prog.underlying tE=some (.struct #[fld])) (hfo:fld.offset=0) (uF:Tryz.prog.underlying fld.type=some (.func ps rs vd)) (cF:Tryz.prog.cellsOf fld.type=1)
  (hone:((List.range Tryz.prog.funcs.size).filter λf=>(Tryz.prog.funcs[f]?).any (·.name.toUTF8.data.toList == b::s))=[f0])
  (h:DataW.trod (funcToken Tryz.prog) Tryz.prog W 0 (λ_=>true) true fuel tE [c]=some y) (hy:y.1 = .agg [.held (b::s)]):c = .func (.func f0) #[] #[]:=by
 obtain ⟨y0,n,rfl,-,h0⟩:=trod_struct1 uE h;rw[hfo,List.drop_zero,cF]at h0;simp only[DataW.agg.injEq,List.cons.injEq,and_true]at hy;exact func_of_trod (q:=y0.2) uF hone (by rw[<- hy];simpa using h0)
theorem Zni {W:World} {laid:List (String×DataW Unit)} {nm:String} {d:DataW Unit} {g tA tE:Nat} {fld:Field} {ps rs:Array TypeId} {vd:Bool} {n:Nat} (toks:List (List UInt8)) (fs:List FuncId)
  (h:laidMetH Tryz.prog laid W) (hm:(nm,DataW.iface "func table" d)∈laid) (hg:Tryz.prog.globalNamed nm=some g) (ht:(Tryz.prog.globals[g]?).map (·.type)=some tA)
  (uA:Tryz.prog.underlying tA=some (.array n tE)) (uE:Tryz.prog.underlying tE=some (.struct #[fld])) (hfo:fld.offset=0) (uF:Tryz.prog.underlying fld.type=some (.func ps rs vd))
  (cA:Tryz.prog.cellsOf tA=n) (cE:Tryz.prog.cellsOf tE=1) (cF:Tryz.prog.cellsOf fld.type=1) (hl1:toks.length=n) (hl2:fs.length=n)
  (hd0:(d.funcsOut:DataW (List UInt8)) = .agg (toks.map λs=>.agg [.held s]))
  (hone:∀ (i:Nat) (s:List UInt8) (f:FuncId),toks[i]? = some s->fs[i]? = some f->∃ b r,s=b::r/\((List.range Tryz.prog.funcs.size).filter λf=>(Tryz.prog.funcs[f]?).any (·.name.toUTF8.data.toList == b::r))=[f]) :
  ∃ t fr,W.heap[g]? = some (.cells ((fs.map λf=>Value.func (.func f) #[] #[]).toArray) t fr):=by
 obtain ⟨g',t,cs,fuel,p,hg',ht',hv,hd⟩:=h.funcs hm;obtain rfl:=Option.some.inj (hg.symm.trans hg');obtain rfl:=Option.some.inj (ht.symm.trans ht');obtain ⟨xs,m,rfl,hx,hlen,hn,hel⟩:=DataW.trod_array uA hd;rw[cA]at hlen;rw[cE]at hel;rw[hd0,Prod.mk.injEq,DataW.agg.injEq]at hx;have hx:=hx.1
 have hcs:cs.toList=fs.map λf=>Value.func (.func f) #[] #[]:=by
  refine List.ext_getElem? λi=>?_
  by_cases hi:i<n
  . have e:=hel i hi;have h1:i<xs.length:=(by omega);have h2:i<toks.length:=(by omega);have h3:i<fs.length:=(by omega);have h4:i<cs.toList.length:=(by omega);obtain ⟨b,r,hb,ho⟩:=hone i _ _ (List.getElem?_eq_getElem h2) (List.getElem?_eq_getElem h3);rw[Nat.mul_one,List.drop_eq_getElem_cons h4,List.take_succ_cons,List.take_zero,List.getElem?_eq_getElem h1]at e;have ey:=congrArg (λl=>l[i]?) hx;simp only[List.getElem?_map,List.getElem?_eq_getElem h2,List.getElem?_eq_getElem h1,Option.map_some,Option.some.injEq]at ey;rw[hb]at ey;have:=cellF uE hfo uF cF ho e ey.symm;rw[List.getElem?_eq_getElem h4,List.getElem?_map,List.getElem?_eq_getElem h3,this];rfl
  . rw[List.getElem?_eq_none (by omega),List.getElem?_eq_none (by simp;omega)]
 simp only[World.var?,hg,Option.bind_some]at hv
 split at hv
 . rename_i cs' t fr heq;injection hv with hv
   have e:cs=(fs.map λf=>Value.func (.func f) #[] #[]).toArray:=(by rw[<- hcs]);exact ⟨t,fr,by rw[heq,hv,e]⟩
 . cases hv
def TabB (W:World) (g:Nat) (fs:List FuncId):Prop:=∃ t fr,W.heap[g]? = some (.cells ((fs.map λf=>Value.func (.func f) #[] #[]).toArray) t fr)
def tabA (fs:List FuncId):List AV:=fs.map λf=>.func (.func f) [] []
theorem Znj {W:World} {g:Nat} {fs:List FuncId} (h:TabB W g fs):PV noM W (.vptr (tabA fs) 0) (.pointer (some ⟨g,0,none⟩)):=by
 obtain ⟨t,fr,hb⟩:=h;refine .vptr _ 0 g 0 (λj=>(((fs.map λf=>Value.func (.func f) #[] #[]).toArray)[j]?).getD undef) (Array.getElem?_eq_some_iff.1 hb).1 id ?_ ?_
 . intro j hj;have hj':j<fs.length:=(by simpa [tabA] using hj);simp[World.cell?,hb,hj']
 . intro j x hx;unfold tabA at hx;rw[List.getElem?_map,Option.map_eq_some_iff]at hx;obtain ⟨f,hf,rfl⟩:=hx;have hj':=(List.getElem?_eq_some_iff.1 hf).1;have e:((fs.map λf=>Value.func (.func f) #[] #[]).toArray)[j]? = some (.func (.func f) #[] #[]):=(by simp[hf]);rw[e];exact .func _ [] [] #[] #[] rfl rfl (by simp) (by simp)
def fsC:List FuncId:=[199,200,201,202]
def fsN:List FuncId:=[184,185,186,187,189,190,193,195]
def fsQ:List FuncId:=[182,183]
set_option maxRecDepth 100000 in
theorem Znk {W:World} (h:laidMetH Tryz.prog laid5 W):TabB W 2 fsC :=
 Zni [[98,108,117,101,108,105,110,101,47,115,104,101,101,116,46,99,104,101,99,107,115,36,49],[98,108,117,101,108,105,110,101,47,115,104,101,101,116,46,99,104,101,99,107,115,36,50],[98,108,117,101,108,105,110,101,47,115,104,101,101,116,46,99,104,101,99,107,115,36,51],[98,108,117,101,108,105,110,101,47,115,104,101,101,116,46,99,104,101,99,107,115,36,52]] fsC h (List.mem_cons_self ..) (by kernel_rfl) (by kernel_rfl) Tryz.underlying203 (fld:=_) Tryz.underlying202 rfl Tryz.underlying201 (by kernel_rfl) (by kernel_rfl) (by kernel_rfl) rfl rfl rfl
 (λi s f hs hf=>by
  match i,hs,hf with
  |0,hs,hf=>cases hs;cases hf;exact ⟨_,_,rfl,by kernel_rfl⟩
  |1,hs,hf=>cases hs;cases hf;exact ⟨_,_,rfl,by kernel_rfl⟩
  |2,hs,hf=>cases hs;cases hf;exact ⟨_,_,rfl,by kernel_rfl⟩
  |3,hs,hf=>cases hs;cases hf;exact ⟨_,_,rfl,by kernel_rfl⟩
  |i+4,hs,_=>simp at hs)
set_option maxRecDepth 100000 in
theorem Znl {W:World} (h:laidMetH Tryz.prog laid5 W):TabB W 1 fsN :=
 Zni [[98,108,117,101,108,105,110,101,47,110,111,116,101,46,99,104,101,99,107,115,36,49],[98,108,117,101,108,105,110,101,47,110,111,116,101,46,99,104,101,99,107,115,36,50],[98,108,117,101,108,105,110,101,47,110,111,116,101,46,99,104,101,99,107,115,36,51],[98,108,117,101,108,105,110,101,47,110,111,116,101,46,99,104,101,99,107,115,36,52],[98,108,117,101,108,105,110,101,47,110,111,116,101,46,99,104,101,99,107,115,36,53],[98,108,117,101,108,105,110,101,47,110,111,116,101,46,99,104,101,99,107,115,36,54],[98,108,117,101,108,105,110,101,47,110,111,116,101,46,99,104,101,99,107,115,36,55],[98,108,117,101,108,105,110,101,47,110,111,116,101,46,99,104,101,99,107,115,36,56]] fsN h (List.mem_cons_of_mem _ (List.mem_cons_self ..)) (by kernel_rfl) (by kernel_rfl) Tryz.underlying189 (fld:=_) Tryz.underlying188 rfl Tryz.underlying186 (by kernel_rfl) (by kernel_rfl) (by kernel_rfl) rfl rfl rfl
 (λi s f hs hf=>by
  match i,hs,hf with
  |0,hs,hf=>cases hs;cases hf;exact ⟨_,_,rfl,by kernel_rfl⟩
  |1,hs,hf=>cases hs;cases hf;exact ⟨_,_,rfl,by kernel_rfl⟩
  |2,hs,hf=>cases hs;cases hf;exact ⟨_,_,rfl,by kernel_rfl⟩
  |3,hs,hf=>cases hs;cases hf;exact ⟨_,_,rfl,by kernel_rfl⟩
  |4,hs,hf=>cases hs;cases hf;exact ⟨_,_,rfl,by kernel_rfl⟩
  |5,hs,hf=>cases hs;cases hf;exact ⟨_,_,rfl,by kernel_rfl⟩
  |6,hs,hf=>cases hs;cases hf;exact ⟨_,_,rfl,by kernel_rfl⟩
  |7,hs,hf=>cases hs;cases hf;exact ⟨_,_,rfl,by kernel_rfl⟩
  |i+8,hs,_=>simp at hs)
set_option maxRecDepth 100000 in
theorem Znm {W:World} (h:laidMetH Tryz.prog laid5 W):TabB W 0 fsQ :=
 Zni [[40,98,108,117,101,108,105,110,101,47,115,119,97,112,46,109,111,109,101,110,116,41,46,98,121,78,111,116,101,115],[40,98,108,117,101,108,105,110,101,47,115,119,97,112,46,109,111,109,101,110,116,41,46,98,121,82,117,108,101,115]] fsQ h (List.mem_cons_of_mem _ (List.mem_cons_of_mem _ (List.mem_cons_self ..))) (by kernel_rfl) (by kernel_rfl) Tryz.underlying167 (fld:=_) Tryz.underlying166 rfl Tryz.underlying164 (by kernel_rfl) (by kernel_rfl) (by kernel_rfl) rfl rfl rfl
 (λi s f hs hf=>by
  match i,hs,hf with
  |0,hs,hf=>cases hs;cases hf;exact ⟨_,_,rfl,by kernel_rfl⟩
  |1,hs,hf=>cases hs;cases hf;exact ⟨_,_,rfl,by kernel_rfl⟩
  |i+2,hs,_=>simp at hs)
def G5:Nat->Option (List AV):=λg=>if g=2 then some (tabA fsC) else if g=1 then some (tabA fsN) else if g=0 then some (tabA fsQ) else none
theorem Znn:GC G5:=rfl
theorem Zno:GN G5:=rfl
theorem Znp:GQ G5:=rfl
theorem Znq {W:World} (h:laidMetH Tryz.prog laid5 W):GR G5 noM W:=by
 intro g cs hg;simp only[G5]at hg
 split at hg
 . rename_i e;subst e;cases hg;exact Znj (Znk h)
 . split at hg
   . rename_i e;subst e;cases hg;exact Znj (Znl h)
   . split at hg
     . rename_i e;subst e;cases hg;exact Znj (Znm h)
     . cases hg
def nteK:List TY:=[.int .i64,.int .i64,.int .u8,.int .i64,.int .i64,.int .i64,.int .i64,.int .i64,.bool,.int .u8]
def rulK:List TY:=[.int .i64,.int .i64,.int .i64,.int .i64,.int .i64,.int .i64,.bool,.int .i64]
def swpK:List TY:=[.sl isK2,.sl nteK,.sl rulK]
theorem Znr {xs:List AV} (h:TVs nteK xs):∃ x:Nte,xs=na x/\NOk x:=by
 obtain ⟨x0,_,rfl,h0,h⟩:=h.cons_inv;obtain ⟨x1,_,rfl,h1,h⟩:=h.cons_inv;obtain ⟨x2,_,rfl,h2,h⟩:=h.cons_inv;obtain ⟨x3,_,rfl,h3,h⟩:=h.cons_inv;obtain ⟨x4,_,rfl,h4,h⟩:=h.cons_inv;obtain ⟨x5,_,rfl,h5,h⟩:=h.cons_inv;obtain ⟨x6,_,rfl,h6,h⟩:=h.cons_inv;obtain ⟨x7,_,rfl,h7,h⟩:=h.cons_inv;obtain ⟨x8,_,rfl,h8,h⟩:=h.cons_inv;obtain ⟨x9,_,rfl,h9,h⟩:=h.cons_inv;obtain rfl:=h.nil_inv;obtain ⟨v0,rfl,-⟩:=h0.int_inv;obtain ⟨v1,rfl,-⟩:=h1.int_inv;obtain ⟨v2,rfl,k2⟩:=h2.int_inv;obtain ⟨v3,rfl,-⟩:=h3.int_inv;obtain ⟨v4,rfl,-⟩:=h4.int_inv;obtain ⟨v5,rfl,-⟩:=h5.int_inv;obtain ⟨v6,rfl,-⟩:=h6.int_inv;obtain ⟨v7,rfl,-⟩:=h7.int_inv;obtain ⟨v8,rfl⟩:=h8.bool_inv;obtain ⟨v9,rfl,k9⟩:=h9.int_inv;obtain ⟨a2,b2⟩:=bounds_u8 k2;obtain ⟨a9,b9⟩:=bounds_u8 k9;exact ⟨⟨v0,v1,v2,v3,v4,v5,v6,v7,v8,v9⟩,rfl,a2,b2,a9,b9⟩
theorem Zns {xs:List AV} (h:TVs rulK xs):∃ x:Rul,xs=ra x:=by
 obtain ⟨x0,_,rfl,h0,h⟩:=h.cons_inv;obtain ⟨x1,_,rfl,h1,h⟩:=h.cons_inv;obtain ⟨x2,_,rfl,h2,h⟩:=h.cons_inv;obtain ⟨x3,_,rfl,h3,h⟩:=h.cons_inv;obtain ⟨x4,_,rfl,h4,h⟩:=h.cons_inv;obtain ⟨x5,_,rfl,h5,h⟩:=h.cons_inv;obtain ⟨x6,_,rfl,h6,h⟩:=h.cons_inv;obtain ⟨x7,_,rfl,h7,h⟩:=h.cons_inv;obtain rfl:=h.nil_inv;obtain ⟨v0,rfl,-⟩:=h0.int_inv;obtain ⟨v1,rfl,-⟩:=h1.int_inv;obtain ⟨v2,rfl,-⟩:=h2.int_inv;obtain ⟨v3,rfl,-⟩:=h3.int_inv;obtain ⟨v4,rfl,-⟩:=h4.int_inv;obtain ⟨v5,rfl,-⟩:=h5.int_inv;obtain ⟨v6,rfl⟩:=h6.bool_inv;obtain ⟨v7,rfl,-⟩:=h7.int_inv;exact ⟨⟨v0,v1,v2,v3,v4,v5,v6,v7⟩,rfl⟩
theorem Znt {xs:List AV} (h:TVs swpK xs):∃ (r:List Iss) (l:List Nte) (q:List Rul),AV.agg xs=swa r l q/\(∀ x∈r,KOk x)/\∀ x∈l,NOk x:=by
 obtain ⟨x0,_,rfl,h0,h⟩:=h.cons_inv;obtain ⟨x1,_,rfl,h1,h⟩:=h.cons_inv;obtain ⟨x2,_,rfl,h2,h⟩:=h.cons_inv;obtain rfl:=h.nil_inv;obtain ⟨rows,rfl,-,g⟩:=h0.sl_inv;obtain ⟨r,rfl,hr⟩:=Zmu (f:=isa) (p:=KOk) λr hr=>Zmt (g r hr)
 obtain ⟨rows,rfl,-,g⟩:=h1.sl_inv;obtain ⟨l,rfl,hl⟩:=Zmu (f:=na) (p:=NOk) λr hr=>Znr (g r hr)
 obtain ⟨rows,rfl,-,g⟩:=h2.sl_inv;obtain ⟨q,rfl⟩:=Zmm (f:=ra) λr hr=>Zns (g r hr)
 exact ⟨r,l,q,rfl,hr,hl⟩
open Go.ChangeShapes Go.WideShapes Go.ChangeAt Go.WideMaps Go.WideElems Go.RowKit Go.Deep
theorem Znu {n:Int} (h:(Lit.int .u16 n).wf=true):0<=n/\n<=65535:=by
 simp[Lit.wf,IntKind.min,IntKind.max,IntKind.signed,IntKind.bits]at h;omega
theorem Znv {α:Type} {p:α->Bool} {h:α->α->Bool} {l:List α} {x:α} {i:Nat}:∀ n,i+1+n<=l.length->(gwB p h l x i (i+1+n)=true↔p x=true/\∀ k (hk:k<l.length),i<k->k<i+1+n->(gcB p h l k&&h x l[k])=false)
 | 0,_=>by
   rw[Nat.add_zero,Ze3];exact ⟨λh=>⟨h,λk _ h1 h2=>by omega⟩,λh=>h.1⟩
 | n + 1,hn=>by
   rw[show i+1+(n+1)=(i+1+n)+1 by omega,Ze4 (by omega) (by omega),Bool.and_eq_true,Znv n (by omega),Bool.not_eq_true']
   constructor
   . rintro ⟨⟨h1,h2⟩,h3⟩;refine ⟨h1,λk hk q1 q2=>?_⟩;by_cases e:k=i+1+n
     . subst e;exact h3
     . exact h2 k hk q1 (by omega)
   . rintro ⟨h1,h2⟩;exact ⟨⟨h1,λk hk q1 q2=>h2 k hk q1 (by omega)⟩,h2 (i+1+n) (by omega) (by omega) (by omega)⟩
theorem Znw {day:Int} {q:List Rul} {i:Nat} (hi:i<q.length):sB day q i=true↔q[i].dy<=day/\∀ k (hk:k<q.length),i<k->¬(q[k].br=q[i].nu/\sB day q k=true):=by
 have h1:=Znv (p:=λx:Rul=>decide (x.dy<=day)) (h:=λx y=>decide (y.br=x.nu)) (l:=q) (x:=q[i]) (i:=i) (q.length-(i+1)) (by omega);rw[show i+1+(q.length-(i+1))=q.length by omega]at h1;have h2:sB day q i=gwB (λx:Rul=>decide (x.dy<=day)) (λx y=>decide (y.br=x.nu)) q q[i] i q.length:=Ze2 hi;rw[h2,h1,decide_eq_true_eq];refine and_congr Iff.rfl ⟨λh k hk h3 ⟨h4,h5⟩=>?_,λh k hk h3 _=>?_⟩
 . have:=h k hk h3 hk;have h6:sB day q k=gcB (λx:Rul=>decide (x.dy<=day)) (λx y=>decide (y.br=x.nu)) q k:=rfl;rw[<- h6,h5,h4]at this;simp at this
 . cases c:(gcB (λx:Rul=>decide (x.dy<=day)) (λx y=>decide (y.br=x.nu)) q k&&decide (q[k].br=q[i].nu))
   . rfl
   . simp only[Bool.and_eq_true,decide_eq_true_eq]at c;exact absurd ⟨c.2,c.1⟩ (h k hk h3)
theorem Znx {α:Type} {p p':α->Bool} {h:α->α->Bool}:∀ {l:List α},(∀ x∈l,p x=p' x)->gcL p h l=gcL p' h l
 |[],_=>rfl
 | x::l,hp=>by
   have ih:=Znx (h:=h) (l:=l) λy hy=>hp y (List.mem_cons_of_mem _ hy)
   simp only[gcL,ih,hp x (List.mem_cons_self ..)]
theorem Zny {day:Int} {q:List Rul} {x:Rul} (hx:∀ y∈q,x.br≠y.nu):∀ n i,i+n=q.length->i<q.length->sB day (q++[x]) i=sB day q i
 | n,i,hn,hi=>by
   have hi2:i<(q++[x]).length:=(by simp;omega);have e1:(q++[x])[i]=q[i]:=List.getElem_append_left hi;rw[Bool.eq_iff_iff,Znw hi2,Znw hi,e1];refine and_congr Iff.rfl ⟨λh k hk h3 ⟨h4,h5⟩=>?_,λh k hk h3 ⟨h4,h5⟩=>?_⟩
   . have hk2:k<(q++[x]).length:=(by simp;omega);have e2:(q++[x])[k]=q[k]:=List.getElem_append_left hk;refine h k hk2 h3 ⟨by rw[e2];exact h4,?_⟩;rw[Zny hx (n-(k-i)) k (by omega) hk];exact h5
   . by_cases c:k<q.length
     . have e2:(q++[x])[k]=q[k]:=List.getElem_append_left c;rw[e2]at h4;rw[Zny hx (n-(k-i)) k (by omega) c]at h5;exact h k c h3 ⟨h4,h5⟩
     . have:k=q.length:=(by simp at hk;omega);subst this;simp only[List.getElem_concat_length]at h4;exact hx _ (List.getElem_mem hi) h4
 termination_by n=>n
theorem Znz {day:Int} {q:List Rul} {x:Rul} (hx:∀ y∈q,x.br≠y.nu):rsR day (q++[x]) (q++[x]).length=rsR day q q.length++rlR (sB day (q++[x]) q.length) x:=by
 have hl:(q++[x]).length=q.length+1:=by simp
 have h1:rsR day (q++[x]) q.length=rsR day q q.length:=by
  unfold rsR
  have t1:(List.range (q++[x]).length).take q.length=List.range q.length:=by
   rw[hl,List.range_succ,List.take_append_of_le_length (by simp),List.take_of_length_le (by simp)]
  have t2:(List.range q.length).take q.length=List.range q.length:=List.take_of_length_le (by simp);rw[t1,t2];rw[List.flatMap_def,List.flatMap_def]
  congr 1
  refine List.map_congr_left λi hi=>?_
  have hi:=List.mem_range.1 hi;have hi2:i<(q++[x]).length:=(by simp;omega);rw[Zny hx (q.length-i) i (by omega) hi,Zek hi,Zek hi2,List.getElem_append_left hi]
 rw[hl,Zi5 (by simp),h1];simp
theorem ZnA {r:List Iss} {l:List Nte} {q:List Rul} {s:List Int} {m day:Int} {x:Rul} (hx:∀ y∈q,x.br≠y.nu):st5 r l (q++[x]) s m day=st5 r l q s m day++rlR (sB day (q++[x]) q.length) x:=by
 unfold st5;rw[Znz hx,List.append_assoc]
theorem ZnB {day:Int} {q:List Rul} {x:Rul}:sB day (q++[x]) q.length=decide (x.dy<=day):=by
 have hi:q.length<(q++[x]).length:=(by simp);rw[Bool.eq_iff_iff,Znw hi,decide_eq_true_eq];simp only[List.getElem_concat_length];exact ⟨λh=>h.1,λh=>⟨h,λk hk h3=>by simp at hk;omega⟩⟩
theorem ZnC (x:Rul):rlR false x=[]:=by simp[rlR]
theorem ZnD {r:List Iss} {l:List Nte} {q:List Rul} {s:List Int} {m day:Int} {x:Rul} (hx:∀ y∈q,x.br≠y.nu) (hd:day<x.dy):st5 r l (q++[x]) s m day=st5 r l q s m day:=by
 rw[ZnA hx,ZnB,decide_eq_false (by omega),ZnC,List.append_nil]
theorem ZnE {r:List Iss} {l:List Nte} {q:List Rul} {s:List Int} {m day:Int} {x:Rul} (hx:∀ y∈q,x.br≠y.nu) (hd:x.dy<=day) (h0:¬(x.fd=0/\x.fl=0)):(⟨x.fd,x.fl,x.td,x.tl,x.nu,false⟩ : Stq)∈st5 r l (q++[x]) s m day:=by
 rw[ZnA hx,ZnB,decide_eq_true hd];refine List.mem_append.2 (.inr ?_);unfold rlR;rw[if_pos ⟨rfl,h0⟩];simp
theorem ZnF {α β:Type} {f:α->β} {p:β->Bool} {h:β->β->Bool}:∀ l:List α,gcL p h (l.map f)=gcL (λx=>p (f x)) (λx y=>h (f x) (f y)) l
 |[]=>rfl
 | x::l=>by
   have ih:=ZnF (f:=f) (p:=p) (h:=h) l;simp only[List.map_cons,gcL,ih]
   congr 3
   rw[List.zip_map_left,List.any_map];rfl
theorem ZnG (A B:List Stq):edg (A++B)=edg A++edg B:=by simp[edg]
section
variable {r:List Iss} {l:List Nte} {q:List Rul} {s:List Int} {m d:Int} {x:Rul}
theorem ZnH {L:List Stq} {e:Rf×Rf}:e∈edg L↔∃ y∈L,(frS y,toS y)=e:=by simp[edg,List.mem_map]
theorem ZnI (h:Zel r (q++[x])=true) (hx:x.br=0):(x.fd,x.fl)∈rfs r/\(x.td,x.tl)∈rfs r/\∀ y∈q,x.br≠y.nu:=by
 simp only[Zel,Bool.and_eq_true]at h;have h1:=Zbs.1 h.2;have hi:q.length<(q++[x]).length:=(by simp);have h2:=h1 q.length hi;simp only[ruleB,Bool.and_eq_true,Zek hi,List.getElem_concat_length]at h2;have h3:=h2.1.1.1.2;simp only[cR2]at h3
 split at h3
 . rw[hx]at h3;simp at h3
 . simp only[Bool.and_eq_true]at h3;refine ⟨Zjn.1 h3.1.2,Zjn.1 h3.2,λy hy e=>?_⟩;obtain ⟨j,hj,rfl⟩:=List.getElem_of_mem hy;have hj2:j<(q++[x]).length:=(by simp;omega);have h4:=h1 j hj2;simp only[ruleB,Bool.and_eq_true,Zek hj2,List.getElem_append_left hj]at h4;have h5:=h4.1.1.1.1;simp only[cR1,inR,Bool.and_eq_true,decide_eq_true_eq]at h5;omega
theorem ZnJ (hq:Rq r l q s m d) (hq':Rq r l (q++[x]) s m d) (hx:x.br=0) (a b:Rf) (h:mayT (edg (st5 r l q s m d)) a b=true):mayT (edg (st5 r l (q++[x]) s m d)) a b=true:=by
 obtain ⟨-,-,h3⟩:=ZnI hq'.rB hx;refine Znf hq.e1000 hq'.e1000 (λe he=>?_) h;rw[ZnA h3,ZnG];exact List.mem_append_left _ he
theorem ZnK (hq':Rq r l (q++[x]) s m d) (hx:x.br=0) (hd:d<x.dy):st5 r l (q++[x]) s m d=st5 r l q s m d:=ZnD (ZnI hq'.rB hx).2.2 hd
theorem ZnL (hq':Rq r l (q++[x]) s m d) (hx:x.br=0) (hd:x.dy<=d):mayT (edg (st5 r l (q++[x]) s m d)) (x.fd,x.fl) (x.td,x.tl)=true:=by
 obtain ⟨h1,-,h3⟩:=ZnI hq'.rB hx;have hl:=Zjo hq'.li h1;have h0:¬(x.fd=0/\x.fl=0):=λh=>by omega
 have hs:=ZnE (r:=r) (l:=l) (s:=s) (m:=m) (day:=d) h3 hd h0;refine (Znc hq'.e1000).2 ⟨1,Zj5.2 ⟨((x.fd,x.fl),(x.td,x.tl)),ZnH.2 ⟨_,hs,rfl⟩,rfl,Znd.2 rfl⟩⟩
end
def akC (s:List Int) (m d:Int) (a b:Rf):List AV:=[.vsl (s.map ia),.int .i64 m,.int .i64 d,.int .i64 a.1,.int .i64 a.2,.int .i64 b.1,.int .i64 b.2]
def swC (r:List Iss) (l:List Nte) (q:List Rul):List AV:=[.vsl (r.map isa),.vsl (l.map na),.vsl (q.map ra)]
section
variable {G:Nat->Option (List AV)}
end
def twK:Nat->Bool:=λk=>decide (k<1000) && !decide (k=6)
theorem ZnM (ok:Nat->Bool) (st:St) (q:List Rul):frzO ok st (.row 8 (q.map ra)) = .row 8 (q.map ra):=by
 simp only[frzO,List.map_map]
 congr 2
 funext p;simp[ra,frzA,frz,AV.keys]
theorem ZnN (q:List Rul):((q.map ra).all λr=>r.all AV.pure)=true:=by simp[ra,AV.pure]
section
variable {G:Nat->Option (List AV)}
theorem ZnO (r:List Iss) (l:List Nte) (q:List Rul) (hr:SmlR r) (hl:Sml l) (hq:Sml q):PB Tryz.prog G 34 [] [swa r l q] (.agg [.vsl (r.map isa),.vsl (l.map na),.osl 6 q.length]) [(6,.row 8 (q.map ra))]:=by
 have ht:=ZhV (G:=G) r l hr hl;unfold Sml at hq;refine Z5d twK (by intro k hk;simp[twK]at hk;omega) Tryz.func34 rfl (by kernel_rfl) (rc:=Z8D) (by kernel_rfl) (rs:=Z8E) (by kernel_rfl) (Nat.le_of_ble_eq_true rfl) λR _ hG' hrd=>Qga ?_
 subst hG';have b2:q.length*64<=70368744177664:=(by omega);by_cases h0:q=[]
 . simp -implicitDefEqProofs[Z8D,Z8E,h0,swa];refine Qco (ht) (by simp) ?_;simp -implicitDefEqProofs[h0,FinO,Yj,twK,frzA,frz,AV.keys];exact ⟨rfl,by simp[frzO]⟩
 . simp -implicitDefEqProofs[Z8D,Z8E,h0,swa];refine Qco (ht) (by simp) ?_;simp -implicitDefEqProofs[h0,ra,b2,FinO,Yj,twK,frzA,frz,AV.keys];exact ⟨rfl,ZnM _ _ q⟩
theorem ZnP (ρ:Nat->Nat) (q:List Rul):(AObj.row 8 (q.map ra)).ren ρ = .row 8 (q.map ra):=by
 refine AObj.ren_pure ?_;simp[ra,AV.pure]
set_option maxRecDepth 100000 in
set_option maxHeartbeats 4000000 in
theorem ZnQ (hG:GC G) (hN:GN G) (hQ0:GQ G) (r:List Iss) (l:List Nte) (q:List Rul) (x:Rul) (t m d a b:Int) (hr:∀ x∈r,KOk x) (hl:∀ x∈l,NOk x) (ht:0<=t/\t<=255) (hm:0<=m/\m<=65535) (hd:0<=d/\d<=65535) (ha:0<=a/\a<=255) (hb:0<=b/\b<=255) :
  PC Tryz.prog G 8 [swa r l q,.agg (ra x),.int .u8 t,.int .u16 m,.int .u16 d,.int .u8 a,.int .u8 b] (.bool true):=by
 have hA:=Znb hG hN hQ0;have hrd:=ZmW (G:=G) r l q hr hl
 cases hy:rdB r l q
 . rw[hy]at hrd;unfold swa ra at *
   (refine Z61 rfl λR hG hrd=>Qga ?_;subst hG)
   simp -implicitDefEqProofs[Z5Z,Z60];refine Qco (hA) (by simp) ?_;simp -implicitDefEqProofs[];refine Qco (hrd) (by simp) ?_;simp -implicitDefEqProofs[]
 rw[hy]at hrd;have hq:=Zng (t:=t) hy hr hl hm.1 hd.1;have hT:=ZnO (G:=G) r l q hq.wr.1 hq.wl.1 hq.wq;obtain ⟨z,hz⟩ : ∃ z:Rul,z={ x with br:=0 }:=⟨_,rfl⟩;have hzx:ra z=[.int .i64 x.nu,.int .i64 x.dy,.int .i64 x.fd,.int .i64 x.fl,.int .i64 x.td,.int .i64 x.tl,.bool x.bo,.int .i64 0]:=(by rw[hz];rfl);have hz0:z.br=0:=(by rw[hz]);have hzd:z.dy=x.dy:=(by rw[hz]);have hzf:(z.fd,z.fl)=(x.fd,x.fl):=(by rw[hz]);have hzt:(z.td,z.tl)=(x.td,x.tl):=(by rw[hz]);have hql:=Zi1 hq.rB;have b1:((q.length:Int)+1)*64<=70368744177664:=(by omega);have b2:(q.length+1)*64<=70368744177664:=(by omega);obtain ⟨Q,hQ⟩ : ∃ Q,Q=q++[z]:=⟨_,rfl⟩;have hmap:Q.map ra=q.map ra++[[.int .i64 x.nu,.int .i64 x.dy,.int .i64 x.fd,.int .i64 x.fl,.int .i64 x.td,.int .i64 x.tl,.bool x.bo,.int .i64 0]]:=(by rw[hQ,List.map_append,List.map_cons,List.map_nil,hzx]);have hQl:Q.length=q.length+1:=(by rw[hQ];simp);have pz:=ZnN Q;have hrz:=ZmW (G:=G) r l Q hr hl;have hax:ra x=[.int .i64 x.nu,.int .i64 x.dy,.int .i64 x.fd,.int .i64 x.fl,.int .i64 x.td,.int .i64 x.tl,.bool x.bo,.int .i64 x.br]:=rfl
 cases hyz:rdB r l Q
 . rw[hyz]at hrz;unfold swa at *
   (refine Z61 rfl λR hG hrd=>Qga ?_;subst hG)
   simp -implicitDefEqProofs[Z5Z,Z60,hax];refine Qco (hA) (by simp) ?_;simp -implicitDefEqProofs[];refine Qco (hrd) (by simp) ?_;simp -implicitDefEqProofs[];refine Ye.sem (Z1B.objs hT (λk=>k+900) (by simp) (by simp[St.get,lk]) (by simp[AV.pure]) rfl rfl) ?_;simp -implicitDefEqProofs[Ym,ZnP,AV.ren,b1,b2];rw[<- hmap,<- hQl];refine Ye.flat hrz (by simp[AV.flat]) (by simp[Yk,snap,Yi,okAll,St.get,lk,pz]) ?_;simp -implicitDefEqProofs[]
 rw[hyz]at hrz
 have hq':Rq r l (q++[z]) (ttV l t) (mcV m) (dyV d):=by
  rw[hQ]at hyz;exact Zng (t:=t) hyz hr hl hm.1 hd.1
 have hk:=ZmX (G:=G) r l q t m d a b hq.nB hq.wr.1.1 hq.ne ht hm hd ha hb;have mA:=ZmL hq.rne ha.1;have mB:=ZmL hq.rne hb.1;generalize isV r a=A at *;generalize isV r b=B at *;generalize ttV l t=s at *;generalize mcV m=mm at *;generalize dyV d=dd at *;obtain ⟨m1,m2,-⟩:=ZnI hq'.rB hz0;have c1:=hq.may_pc hG hN hQ0 mA mB;have c2:=hq'.may_pc hG hN hQ0 mA mB;have c3:=hq'.may_pc hG hN hQ0 m1 m2;have f1:=ZnJ hq hq' hz0 A B;have f2:dd<x.dy->mayT (edg (st5 r l (q++[z]) s mm dd)) A B=mayT (edg (st5 r l q s mm dd)) A B:=λh=>by rw[ZnK hq' hz0 (by rw[hzd];exact h)]
 have f3:¬dd<x.dy->mayT (edg (st5 r l (q++[z]) s mm dd)) (z.fd,z.fl) (z.td,z.tl)=true:=λh=>ZnL hq' hz0 (by omega)
 rw[hzf,hzt]at c3 f3;rw[<- hQ]at c2 c3 f1 f2 f3;generalize mayT (edg (st5 r l Q s mm dd)) (x.fd,x.fl) (x.td,x.tl)=T3 at *;generalize mayT (edg (st5 r l Q s mm dd)) A B=T2 at *;generalize mayT (edg (st5 r l q s mm dd)) A B=T1 at *;unfold swa akA at *
 (refine Z61 rfl λR hG hrd=>Qga ?_;subst hG)
 simp -implicitDefEqProofs[Z5Z,Z60,hax];refine Qco (hA) (by simp) ?_;simp -implicitDefEqProofs[];refine Qco (hrd) (by simp) ?_;simp -implicitDefEqProofs[];refine Ye.sem (Z1B.objs hT (λk=>k+900) (by simp) (by simp[St.get,lk]) (by simp[AV.pure]) rfl rfl) ?_;simp -implicitDefEqProofs[Ym,ZnP,AV.ren,b1,b2];rw[<- hmap,<- hQl];refine Ye.flat hrz (by simp[AV.flat]) (by simp[Yk,snap,Yi,okAll,St.get,lk,pz]) ?_;simp -implicitDefEqProofs[];refine Qco (hk) (by simp) ?_;simp -implicitDefEqProofs[];refine Qco (c1) (by simp) ?_;simp -implicitDefEqProofs[];refine Ye.flat c2 (by simp[AV.flat]) (by simp[Yk,snap,Yi,okAll,St.get,lk,pz,AV.pure,ia]) ?_;simp -implicitDefEqProofs[];refine Ye.flat c3 (by simp[AV.flat]) (by simp[Yk,snap,Yi,okAll,St.get,lk,pz,AV.pure,ia]) ?_;simp -implicitDefEqProofs[];by_cases hd2:dd<x.dy
 . obtain rfl:=f2 hd2
   cases T2 <;> cases T3
   all_goals simp -implicitDefEqProofs[hd2]
 . obtain rfl:=f3 hd2
   cases T1 <;> cases T2
   case true.false=>exact absurd (f1 rfl) (by simp)
   all_goals simp -implicitDefEqProofs[hd2]
end
theorem ZnR {l:List Nte} {k i:Nat} (h:i<k):nAt (l.take k) i=nAt l i:=by
 simp[nAt,List.getD_eq_getElem?_getD,List.getElem?_take,h]
theorem ZnS {r:List Iss} {l:List Nte} {k i:Nat} (h:i<k):noteB r (l.take k) i=noteB r l i:=by
 have e:(l.take k).take i=l.take i:=by rw[List.take_take];congr 1;omega
 have e8:cN8 (l.take k) i (nAt l i)=cN8 l i (nAt l i):=by
  cases i with
  |zero=>rfl
  |succ i=>simp only[cN8,ZnR (show i<k by omega)]
 have e6:cN6 (l.take k) i (nAt l i)=cN6 l i (nAt l i):=(by simp only[cN6,e]);have e7:cN7 (l.take k) i (nAt l i)=cN7 l i (nAt l i):=(by simp only[cN7,e]);unfold noteB;rw[ZnR h,e6,e7,e8]
theorem ZnT {r:List Iss} {l:List Nte} (h:ZdZ r l=true) (k:Nat):ZdZ r (l.take k)=true:=by
 simp only[ZdZ,Bool.and_eq_true,decide_eq_true_eq]at h ⊢;obtain ⟨⟨h1,h2⟩,h3⟩:=h;refine ⟨⟨by simp;omega,Zbs.2 λi hi=>?_⟩,?_⟩
 . have hk:i<k:=(by simp at hi;omega);rw[ZnS hk];exact Zbs.1 h2 i (by simp at hi;omega)
 . refine Nat.le_trans ?_ h3;unfold opN;rw[List.take_length,List.take_length];exact ((List.take_sublist k l).filter _).length_le
theorem ZnU {l:List Nte} {s:List Int} {n:Int} (h:truB l s=true) (hn:n∈s):n∈opU l:=by
 obtain ⟨i,hi,e⟩:=List.getElem_of_mem hn;have h1:=Zbs.1 h i hi;simp only[Bool.and_eq_true,decide_eq_true_eq]at h1;have h2:=h1.1
 rwa [List.getD_eq_getElem?_getD,List.getElem?_eq_getElem hi,Option.getD_some,e]at h2
theorem ZnV {r:List Iss} {l:List Nte} {d:Int} {n:Int} (h:ZdZ r l=true) (hn:n∈opU l) (ha:(dyN d l).any (λx=>decide (x.nu=n))=true):n∈opU (dyN d l):=by
 obtain ⟨x,hx,e⟩:=List.any_eq_true.1 ha;rw[decide_eq_true_eq]at e;have hxl:=(List.mem_filter.1 hx).1;obtain ⟨y,hy,e2⟩:=List.mem_map.1 hn;unfold opN at hy;rw[List.take_length]at hy;obtain ⟨hy1,hy2⟩:=List.mem_filter.1 hy
 have hxy:x=y:=by
  have hnd:=ZhE h;obtain ⟨i,hi,ei⟩:=List.getElem_of_mem hxl;obtain ⟨j,hj,ej⟩:=List.getElem_of_mem hy1
  have:i=j:=by
   have h1:(l.map (·.nu))[i]'(by simpa using hi)=(l.map (·.nu))[j]'(by simpa using hj):=by
    simp only[List.getElem_map,ei,ej];omega
   exact (List.getElem_inj hnd).1 h1
  subst this;rw[<- ei,<- ej]
 subst hxy;refine List.mem_map.2 ⟨x,?_,e2⟩;unfold opN;rw[List.take_length];exact List.mem_filter.2 ⟨hx,hy2⟩
section
variable {r:List Iss} {l:List Nte} {q:List Rul} {s:List Int} {m d:Int}
theorem Rq.nD (h:Rq r l q s m d):ZdZ r (dyN d l)=true:=by rw[<- ZiY h.nB];exact ZnT h.nB _
theorem Rq.asD (h:Rq r l q s m d):asN r (dyN d l) (dyT (dyN d l) s) m=0:=by
 have h1:chN r (dyN d l)=0:=by rw[chN,if_pos (Zm6 (Zi0 h.h0).1),if_pos h.nD]
 have h2:truB (dyN d l) (dyT (dyN d l) s)=true:=by
  have ht:=ZiZ h.tr;refine ZlK ?_ λn hn=>?_
  . have hs:=(List.filter_sublist (p:=λn=>(dyN d l).any λx=>decide (x.nu=n)) (l:=s));have h3:(dyT (dyN d l) s).Pairwise λx y=>x<=y:=ht.1.sublist hs
    have h4:(dyT (dyN d l) s).Nodup:=ht.2.sublist hs;exact (h3.and h4).imp λ⟨a,b⟩=>by omega
  . obtain ⟨h3,h4⟩:=List.mem_filter.1 hn;exact ZnV h.nB (ZnU h.tr h3) h4
 rw[asN,if_pos h1,if_pos h2,if_pos h.mi]
theorem Rq.nodup (h:Rq r l q s m d):(l.map (·.nu)).Nodup:=(ZkD h.h0).2.2.1
variable {G:Nat->Option (List AV)}
end
def stN (n g:Int) (x:Nte):Nte:=if x.nu=n then { x with sg:=g } else x
section
variable {n g:Int} {x:Nte}
theorem st_nu:(stN n g x).nu=x.nu:=by unfold stN;split <;> rfl
theorem st_dy:(stN n g x).dy=x.dy:=by unfold stN;split <;> rfl
theorem st_dr:(stN n g x).dr=x.dr:=by unfold stN;split <;> rfl
theorem st_lt:(stN n g x).lt=x.lt:=by unfold stN;split <;> rfl
theorem st_fr:(stN n g x).fr=x.fr:=by unfold stN;split <;> rfl
theorem st_tu:(stN n g x).tu=x.tu:=by unfold stN;split <;> rfl
theorem st_ca:(stN n g x).ca=x.ca:=by unfold stN;split <;> rfl
theorem st_up:(stN n g x).up=x.up:=by unfold stN;split <;> rfl
theorem st_wy:(stN n g x).wy=x.wy:=by unfold stN;split <;> rfl
theorem st_sg:(stN n g x).sg=if x.nu=n then g else x.sg:=by unfold stN;split <;> rfl
end
section
variable {r:List Iss} {l:List Nte} {q:List Rul} {s:List Int} {m d n g:Int}
theorem ZnW {i:Nat} (h:i<l.length):nAt (l.map (stN n g)) i=stN n g (nAt l i):=by
 rw[ZdW (by simpa using h),ZdW h,List.getElem_map]
theorem ZnX (hg:g<=2) {i:Nat} (hi:i<l.length) (h:noteB r l i=true):noteB r (l.map (stN n g)) i=true:=by
 simp only[noteB,Bool.and_eq_true]at h ⊢;obtain ⟨⟨⟨⟨⟨⟨⟨h1,h2⟩,h3⟩,h4⟩,h5⟩,h6⟩,h7⟩,h8⟩:=h;rw[ZnW hi];refine ⟨⟨⟨⟨⟨⟨⟨?_,?_⟩,?_⟩,?_⟩,?_⟩,?_⟩,?_⟩,?_⟩
 . simpa only [cN1,st_nu,st_dy] using h1
 . simp only[cN2,Bool.and_eq_true,decide_eq_true_eq,st_wy,st_sg]at h2 ⊢;refine ⟨?_,h2.2⟩
   split
   . exact hg
   . exact h2.1
 . simpa only [cN3,st_fr,st_tu] using h3
 . simpa only [cN4,st_dr,st_lt,st_ca] using h4
 . simpa only [cN5,st_lt,st_up,st_wy] using h5
 . simp only[cN6,Bool.or_eq_true,decide_eq_true_eq,st_ca]at h6 ⊢;rcases h6 with h6|h6
   . exact .inl h6
   . refine .inr ?_;rw[<- List.map_take,List.any_map];simpa only [Function.comp_def,st_nu] using h6
 . simp only[cN7,Bool.not_eq_true',st_nu]at h7 ⊢;rw[<- List.map_take,List.any_map];simpa only [Function.comp_def,st_nu] using h7
 . cases i with
   |zero=>rfl
   | succ i =>
     simp only[cN8]at h8 ⊢;rw[ZnW (by omega)];simpa only [st_nu,st_dy] using h8
theorem ZnY {k:Int}:k∈opU l↔∃ x∈l,x.sg=1/\x.nu=k:=by
 unfold opU opN;rw[List.take_length,List.mem_map]
 constructor
 . rintro ⟨x,hx,e⟩;obtain ⟨h1,h2⟩:=List.mem_filter.1 hx;exact ⟨x,h1,by simpa using h2,e⟩
 . rintro ⟨x,h1,h2,e⟩;exact ⟨x,List.mem_filter.2 ⟨h1,by simpa using h2⟩,e⟩
theorem ZnZ (hg:g≠1):(opN (l.map (stN n g)) (l.map (stN n g)).length).length<=(opN l l.length).length:=by
 unfold opN;rw[List.take_length,List.take_length,List.filter_map,List.length_map]
 have e:l.filter ((λx:Nte=>decide (x.sg=1)) ∘ stN n g)=(l.filter λx=>decide (x.sg=1)).filter λx=>!decide (x.nu=n):=by
  rw[List.filter_filter];refine List.filter_congr λx _=>?_
  simp only[Function.comp,st_sg];by_cases c:x.nu=n
  . rw[if_pos c];simp[c,hg]
  . rw[if_neg c];simp[c]
 rw[e];exact (List.filter_sublist).length_le
theorem Zo0 (hg:g<=2) (h1:g≠1) (h:ZdZ r l=true):ZdZ r (l.map (stN n g))=true:=by
 have ho:=ZnZ (l:=l) (n:=n) h1;simp only[ZdZ,Bool.and_eq_true,decide_eq_true_eq]at h ⊢;rw[List.length_map]at ho ⊢;exact ⟨⟨h.1.1,Zbs.2 λi hi=>ZnX hg hi (Zbs.1 h.1.2 i hi)⟩,by omega⟩
theorem Zo1 (hg:g<=2) (h1:g≠1) (h:chS r l q=0):chS r (l.map (stN n g)) q=0:=by
 obtain ⟨h2,h3⟩:=Zi0 h;have h4:=Zm6 h2;unfold chS chN;rw[if_pos h4,if_pos (Zo0 hg h1 (ZhQ h2)),if_pos rfl,if_pos h3]
theorem Zo2 (hg:g≠1) {k:Int}:k∈opU (l.map (stN n g))↔k∈opU l/\k≠n:=by
 rw[ZnY,ZnY]
 constructor
 . rintro ⟨x,hx,h1,rfl⟩;obtain ⟨y,hy,rfl⟩:=List.mem_map.1 hx;rw[st_sg]at h1
   split at h1
   . exact absurd h1 hg
   . rename_i c;rw[st_nu];exact ⟨⟨y,hy,h1,rfl⟩,c⟩
 . rintro ⟨⟨x,hx,h1,rfl⟩,h2⟩;exact ⟨stN n g x,List.mem_map.2 ⟨x,hx,rfl⟩,by rw[st_sg,if_neg h2];exact h1,st_nu⟩
theorem Zo3:dyN d (l.map (stN n g))=(dyN d l).map (stN n g):=by
 unfold dyN;rw[List.filter_map]
 congr 1
 exact List.filter_congr λx _=>by simp only[Function.comp,st_dy]
theorem Zo4 {s s' w:List Int} {D:List Nte} (hb:∀ x∈D,bsF s' w m (stN n g x)=bsF s w m x):fcN s' w m (D.map (stN n g)) (D.map (stN n g)).length=fcN s w m D D.length:=by
 have hB:∀ i,fB s' w m (D.map (stN n g)) i=fB s w m D i:=λi=>by
  unfold fB gcB;rw[ZnF];simp only[st_ca,st_nu];rw[Znx hb]
 unfold fcN;rw[List.length_map];have t:(List.range D.length).take D.length=List.range D.length:=List.take_of_length_le (by simp);rw[t,List.filter_congr (q:=fB s w m D) λi _=>hB i];refine List.map_congr_left λi hi=>?_
 have:=List.mem_range.1 (List.mem_filter.1 hi).1;rw[ZnW this,st_nu]
theorem Zo5 {D:List Nte} {s:List Int} {x:Nte} (hx:x∈D):x.nu∈dyT D s↔x.nu∈s:=by
 unfold dyT;rw[List.mem_filter];exact ⟨λh=>h.1,λh=>⟨h,List.any_eq_true.2 ⟨x,hx,by simp⟩⟩⟩
theorem Zo6 {F:List Int} {x:Nte}:ntR F (stN n g x)=ntR F x:=by
 unfold ntR;simp only[st_nu,st_dr,st_lt,st_wy]
theorem Zo7 {s s':List Int} (hq:Rq r l q s m d) (hq':Rq r (l.map (stN n g)) q s' m d) (hs:∀ x∈l,((stN n g x).sg=2∨x.nu∈s')↔(x.sg=2∨x.nu∈s)) :
  st5 r (l.map (stN n g)) q s' m d=st5 r l q s m d:=by
 have a1:=hq.asD;have a2:=hq'.asD
 have eF:stF r (l.map (stN n g)) s' m d=stF r l s m d:=by
  unfold stF fcE;rw[if_pos a1,if_pos a2];show fcN _ _ _ _ _=fcN _ _ _ _ _;rw[Zo3];refine Zo4 λx hx=>?_
  have hl:=(List.mem_filter.1 hx).1
  have h1:x.nu∈dyT ((dyN d l).map (stN n g)) s'↔x.nu∈s':=by
   have:=Zo5 (s:=s') (List.mem_map.2 ⟨x,hx,rfl⟩ : stN n g x∈(dyN d l).map (stN n g))
   rwa [st_nu]at this
  have h2:=Zo5 (s:=s) hx;have h3:=hs x hl;unfold bsF;simp only[st_nu,st_fr,st_tu]
  congr 2
  rw[Bool.eq_iff_iff];simp only[Bool.or_eq_true,decide_eq_true_eq];rw[h1,h2];exact h3
 unfold st5;rw[eF]
 congr 1
 unfold nsR;rw[List.take_length,List.take_length,Zo3,List.flatMap_def,List.flatMap_def,List.map_map]
 congr 1
 exact List.map_congr_left λx _=>by simp only[Function.comp,Zo6]
end
theorem Zo8 {U:List Int} {v w:Nat}:∀ i,(∀ j,j<i->v / 2 ^ j % 2=w / 2 ^ j % 2)->sbN U v i=sbN U w i
 |0,_=>rfl
 | i+1,h=>by
   rw[sbN,sbN,Zo8 i λj hj=>h j (by omega),h i (by omega)]
theorem Zo9 {v i j:Nat} (h:j<i):(v+2 ^ i) / 2 ^ j % 2=v / 2 ^ j % 2:=by
 obtain ⟨k,rfl⟩ : ∃ k,i=j+(k+1):=⟨i-j-1,by omega⟩;have e:2 ^ (j+(k+1))=2 ^ j*(2*2 ^ k):=(by rw[Nat.pow_add,Nat.pow_succ,Nat.mul_comm (2 ^ k)]);rw[e,Nat.add_mul_div_left _ _ (Nat.pow_pos (by omega))];omega
theorem sb_ex {U:List Int} (P:Int->Bool):∀ i,i<=U.length->∃ v,v<2 ^ i/\∀ k,k∈sbN U v i↔k∈U.take i/\P k=true
 |0,_=>⟨0,by simp,λk=>by simp[sbN]⟩
 | i + 1,h=>by
   obtain ⟨v,h1,h2⟩:=sb_ex (U:=U) P i (by omega);have hi:i<U.length:=h;have e:U.getD i 0=U[i]:=(by simp[List.getD_eq_getElem?_getD,hi]);have hp:2 ^ (i+1)=2 ^ i+2 ^ i:=(by rw[Nat.pow_succ];omega);have h0:0<2 ^ i:=Nat.pow_pos (by omega)
   cases c:P U[i]
   . refine ⟨v,by omega,λk=>?_⟩;rw[sbN,Nat.div_eq_of_lt h1,if_neg (by omega),h2,List.take_succ_eq_append_getElem hi,List.mem_append,List.mem_singleton]
     constructor
     . rintro ⟨a,b⟩;exact ⟨.inl a,b⟩
     . rintro ⟨a|rfl,b⟩
       . exact ⟨a,b⟩
       . rw[c]at b;cases b
   . refine ⟨v+2 ^ i,by omega,λk=>?_⟩;have e1:(v+2 ^ i) / 2 ^ i=1:=(by rw[Nat.add_div_right _ h0,Nat.div_eq_of_lt h1]);rw[sbN,e1,if_pos rfl,e,Zo8 i λj hj=>Zo9 hj,List.mem_append,List.mem_singleton,h2,List.take_succ_eq_append_getElem hi,List.mem_append,List.mem_singleton]
     constructor
     . rintro (⟨a,b⟩|rfl)
       . exact ⟨.inl a,b⟩
       . exact ⟨.inr rfl,c⟩
     . rintro ⟨a|rfl,b⟩
       . exact .inl ⟨a,b⟩
       . exact .inr rfl
theorem Zoa (U:List Int) (P:Int->Bool):∃ v,v<2 ^ U.length/\∀ k,k∈sbT U v↔k∈U/\P k=true:=by
 obtain ⟨v,h1,h2⟩:=sb_ex (U:=U) P U.length (Nat.le_refl _);exact ⟨v,h1,λk=>by rw[sbT,h2,List.take_length]⟩
theorem Zob {f f':Nat->Bool} {K K':Nat} (hK:0<K') (h:∀ v',v'<K'->∃ v,v<K/\f' v'=f v) (h1:suV f K≠1):suV f' K'=suV f K:=by
 unfold suV at h1 ⊢;by_cases a:anyT f K=true
 . rw [if_pos a]at h1 ⊢;by_cases b:anyF f K=true
   . rw[if_pos b]at h1;exact absurd rfl h1
   . rw[if_neg b]
     have hb:∀ v,v<K->f v=true:=λv hv=>by
      cases c:f v
      . exact absurd (List.any_eq_true.2 ⟨v,List.mem_range.2 hv,by simp[c]⟩) b
      . rfl
     have h2:∀ v,v<K'->f' v=true:=λv hv=>by
      obtain ⟨w,hw,e⟩:=h v hv;rw[e];exact hb w hw
     have a':anyT f' K'=true:=List.any_eq_true.2 ⟨0,List.mem_range.2 hK,h2 0 hK⟩
     have b':¬anyF f' K'=true:=λc=>by
      obtain ⟨v,hv,e⟩:=List.any_eq_true.1 c;rw[h2 v (List.mem_range.1 hv)]at e;cases e
     rw[if_pos a',if_neg b']
 . rw[if_neg a]
   have ha:∀ v,v<K->f v=false:=λv hv=>by
    cases c:f v
    . rfl
    . exact absurd (List.any_eq_true.2 ⟨v,List.mem_range.2 hv,c⟩) a
   have a':¬anyT f' K'=true:=λc=>by
    obtain ⟨v,hv,e⟩:=List.any_eq_true.1 c;obtain ⟨w,hw,e2⟩:=h v (List.mem_range.1 hv);rw[e2,ha w hw]at e;cases e
   rw[if_neg a']
theorem Zoc {f:Nat->Bool} {K:Nat}:0<=suV f K/\suV f K<=2:=by unfold suV;split <;> (try split) <;> omega
theorem Zod {f:Nat->Bool} {K:Nat} (hK:0<K):suV f K=2↔anyF f K=false:=by
 unfold suV;by_cases a:anyT f K=true
 . rw[if_pos a];by_cases b:anyF f K=true
   . rw[if_pos b,b];simp
   . rw[if_neg b];simpa using b
 . rw[if_neg a]
   have:anyF f K=true:=by
    refine List.any_eq_true.2 ⟨0,List.mem_range.2 hK,?_⟩
    cases c:f 0
    . rfl
    . exact absurd (List.any_eq_true.2 ⟨0,List.mem_range.2 hK,c⟩) a
   rw[this];simp
theorem Zoe {f:Nat->Bool} {K:Nat}:suV f K=0↔anyT f K=false:=by
 unfold suV;by_cases a:anyT f K=true
 . rw[if_pos a,a];split <;> simp
 . rw[if_neg a];simpa using a
theorem Zof {f:Nat->Bool}:suV f 1≠1:=by
 unfold suV anyT anyF;simp only[List.range_succ,List.range_zero,List.nil_append,List.any_cons,List.any_nil,Bool.or_false]
 cases f 0 <;> decide
theorem Zog {r:List Iss} {l:List Nte} {q:List Rul} {m d n g:Int} {a b:Rf} (hq:Rq r l q [] m d) (hn:n∈opU l) (hg:g=0∨g=2)
  (h1:suV (mB r l q m d a b) (2 ^ (opQ l).length)≠1):suV (mB r (l.map (stN n g)) q m d a b) (2 ^ (opQ (l.map (stN n g))).length)=suV (mB r l q m d a b) (2 ^ (opQ l).length):=by
 have hg1:g≠1:=(by omega);have hg2:g<=2:=(by omega);have hB:=hq.nB;have hB':ZdZ r (l.map (stN n g))=true:=Zo0 hg2 hg1 hB;refine Zob (Nat.pow_pos (by omega)) (λv' hv'=>?_) h1;obtain ⟨v,hv,he⟩:=Zoa (opQ l) λk=>decide (k∈sbT (opQ (l.map (stN n g))) v')||(decide (k=n)&&decide (g=2))
 refine ⟨v,hv,?_⟩;have t1:=ZlO hB v;have t2:=ZlO hB' v'
 have w':WfN (l.map (stN n g)):=⟨by have:=hq.wl.1;unfold Sml at *;simpa using this,λx hx=>by
  obtain ⟨y,hy,rfl⟩:=List.mem_map.1 hx;have:=hq.wl.2 y hy;rw[st_sg,st_wy];refine ⟨?_,?_,this.2.2⟩
  . split <;> omega
  . split <;> omega⟩
 have hq1:Rq r l q (sbT (opQ l) v) m d:=hq.truth (by have:=(ZlJ (opQ l) v).length_le;have:=ZlP hB;unfold Sml;omega) t1;have hq2:Rq r (l.map (stN n g)) q (sbT (opQ (l.map (stN n g))) v') m d:=⟨hq.wr,w',hq.wq,by have:=(ZlJ (opQ (l.map (stN n g))) v').length_le;have:=ZlP hB';unfold Sml;omega,Zo1 hg2 hg1 hq.h0,hq.h80,t2,hq.mi,hq.di⟩;have hmem:∀ k,k∈sbT (opQ (l.map (stN n g))) v'->k∈opU l/\k≠n:=λk hk=>(Zo2 hg1).1 (Zec.1 ((ZlJ _ v').subset hk))
 unfold mB;rw[Zo7 hq1 hq2 λx hx=>?_];have hQ:x.nu∈opQ l↔x.nu∈opU l:=Zec;rw[he,hQ,Bool.or_eq_true,decide_eq_true_eq,Bool.and_eq_true,decide_eq_true_eq,decide_eq_true_eq,st_sg];by_cases c:x.nu=n
 . rw [if_pos c]
   have hx1:x.sg=1:=by
    obtain ⟨y,hy,h2,h3⟩:=ZnY.1 hn;have hnd:=ZhE hB;obtain ⟨i,hi,ei⟩:=List.getElem_of_mem hx;obtain ⟨j,hj,ej⟩:=List.getElem_of_mem hy
    have:i=j:=by
     have h1:(l.map (·.nu))[i]'(by simpa using hi)=(l.map (·.nu))[j]'(by simpa using hj):=by
      simp only[List.getElem_map,ei,ej];omega
     exact (List.getElem_inj hnd).1 h1
    subst this;rw[<- ei,ej];exact h2
   constructor
   . rintro (h|h)
     . exact .inr ⟨by rw[c];exact hn,.inr ⟨c,h⟩⟩
     . exact absurd c (hmem _ h).2
   . rintro (h | ⟨-,h|h⟩)
     . omega
     . exact absurd c (hmem _ h).2
     . exact .inl h.2
 . rw[if_neg c]
   constructor
   . rintro (h|h)
     . exact .inl h
     . exact .inr ⟨(hmem _ h).1,.inl h⟩
   . rintro (h | ⟨-,h|h⟩)
     . exact .inl h
     . exact .inr h
     . exact absurd h.1 c
open Qq in
def Zoh:RCode :=
 .seq (r 0 [b 3 0,b 4 1,w 6 (.alloc [.nils,.nils]),n 7 O]) (.seq (r 1 [L 15 2 3,c 16 74 [15],m 14 16,x 17 0 14,x 18 1 14,m 8 17,m 9 18]) (.seq (.seq (r 2 [m 19 9,k 20 .neq 19 O]) (.cond (.t 20) (.seq (r 3 [w 21 (.build [.nils,.nils] []),m 22 9,s 2 6 21,m 7 22]) .ret) .skip)) (.seq (.seq (R 4 [m 23 8,a [0] (w 24 (.nilck (.t 23))),a [1] (f 25 3 24),a [2] (l 26 25),l 27 4,a [3,4] (c 28 75 [26,27]),a [5] (t 29 28)]) (.cond (.t 29) (.seq (r 5 [w 30 (.build [.nils,.nils] []),s 2 6 30,n 7 (.int .i64 6)]) .ret) .skip)) (.seq (r 6 [f 31 1 3,l 32 31,c 33 76 [32],w 34 (.build [.nils,.nils] [(1,1,.t 33)]),w 10 (.alloc [.nils,.nils]),s 2 10 34]) (.seq (.seq (r 7 [f 35 0 3,f 36 0 35,l 37 36,e 38 37,n 39 O]) (.block 0 (.loop (.seq (r 8 [o 40 .lss 39 38]) (.seq (.cond (.t 40) .skip (.exit 0)) (.seq (.block 1 (.seq (r 9 [i 41 5 37 39,L 42 5 41,w 12 (.alloc [O,O,.int .u8 0,.nils,.nils]),s 5 12 42]) (.seq (R 10 [f 43 3 12,a [0] (l 44 43),a [1] (c 45 77 [44]),f 46 4 12,a [3] (l 47 46),a [4,2] (c 48 78 [47]),a [0,1,2,3,4] (f 49 3 12),a [6,2,5,0,1,2,3,4] (s 1 49 45),a [0,1,2,3,4,5,6,7] (f 50 4 12),a [8,5,7,0,1,2,3,4,5,6,7] (s 1 50 48)]) (r 11 [f 51 0 10,f 52 0 51,l 53 52,L 54 5 12,w 55 (.bsl false 5 1 [O,O,.int .u8 0,.nils,.nils] [(0,.t 54)]),w 56 (.app 5 72 (.t 53) (.t 55)),f 57 0 10,f 58 0 57,s 1 58 56])))) (r 12 [k 59 .add 39 I,m 39 59]))))))) (.seq (r 13 [f 60 1 10,l 61 60,w 62 (.mkf (.func 80) [] [.t 4]),c 63 79 [61,62],m 13 63]) (.seq (r 14 [f 64 1 10,l 65 64,m 66 13,i 67 10 65 66,f 68 2 67,z (.store 1 (.t 68) (.c (.int .u8 0)))]) (.seq (.seq (r 15 [m 69 2]) (.cond (.t 69) (r 16 [f 70 1 10,l 71 70,m 72 13,i 73 10 71 72,f 74 2 73,z (.store 1 (.t 74) (.c (.int .u8 2)))]) .skip)) (.seq (r 17 [L 75 2 10,s 2 6 75,n 7 O]) .ret)))))))))
def Zoi:List RRes:=[.c 6 true 2,.t 7]
theorem Zoj:PCt Tryz.prog 47 Tryz.f47 Zoh Zoi:=pcT Tryz.func47 rfl (by kernel_rfl) (by kernel_rfl) (by kernel_rfl)
open Qq in
def Zok:RCode :=
 .seq (r 0 [b 2 0,n 3 (.bool false)]) (.seq (r 1 [f 4 0 2,l 5 4,l 6 1,o 7 .eql 5 6,m 3 7]) .ret)
def Zol:List RRes:=[.t 3]
theorem Zom:PCt Tryz.prog 80 Tryz.f80 Zok Zol:=pcT Tryz.func80 rfl (by kernel_rfl) (by kernel_rfl) (by kernel_rfl)
open Qq in
def Zon:RCode :=
 .seq (r 0 [n 2 .nils]) (.seq (.seq (r 1 [m 3 0,w 4 (.vop (.eqn false) [(.t 3),(.c .nils)])]) (.cond (.t 4) (.seq (r 2 [n 2 .nils]) .ret) .skip)) (.seq (r 3 [w 5 (.bsl true 10 0 [] []),m 6 0,w 7 (.app 10 72 (.t 5) (.t 6)),m 2 7]) .ret))
def Zoo:List RRes:=[.t 2]
theorem Zop (l:List Nte):((l.map na).all λr=>r.all AV.pure)=true:=by simp[na,AV.pure]
theorem Zoq (ok:Nat->Bool) (st:St) (l:List Nte):frzO ok st (.row 10 (l.map na)) = .row 10 (l.map na):=by
 simp only[frzO,List.map_map]
 congr 2
 funext p;simp[na,frzA,frz,AV.keys]
theorem Zor (ρ:Nat->Nat) (l:List Nte):(AObj.row 10 (l.map na)).ren ρ = .row 10 (l.map na):=AObj.ren_pure (Zop l)
theorem Zos {r:List Iss} {l:List Nte} (h:ZdZ r l=true) {i:Nat} (hi:i<l.length) (g:Int):(l.map na).set i (na { l[i] with sg:=g })=(l.map (stN l[i].nu g)).map na:=by
 have hnd:=ZhE h;refine List.ext_getElem (by simp) λj h1 h2=>?_
 have hj:j<l.length:=(by simpa using h1);rw[List.getElem_set];simp only[List.getElem_map]
 split
 . rename_i e;subst e;unfold stN;rw[if_pos rfl]
 . rename_i e
   have:l[j].nu≠l[i].nu:=λe2=>e (by
    have h3:(l.map (·.nu))[i]'(by simpa using hi)=(l.map (·.nu))[j]'(by simpa using hj):=(by simp only[List.getElem_map];exact e2.symm);exact (List.getElem_inj hnd).1 h3)
   unfold stN;rw[if_neg this]
section
variable {G:Nat->Option (List AV)}
theorem Zot (l:List Nte) (hne:l≠[]) (hl:Sml l):PB Tryz.prog G 76 [] [.vsl (l.map na)] (.osl 5 l.length) [(5,.row 10 (l.map na))]:=by
 refine Z5d clK (by intro k hk;simp[clK]at hk;omega) Tryz.func76 rfl (by kernel_rfl) (rc:=Zon) (by kernel_rfl) (rs:=Zoo) (by kernel_rfl) (Nat.le_of_ble_eq_true rfl) λR _ hG hrd=>Qga ?_
 subst hG;unfold Sml at hl;have b1:l.length*72<=70368744177664:=(by omega);have h0:¬l.length=0:=λe=>hne (List.length_eq_zero_iff.1 e)
 have k1:(l.map na).all (λr=>r.length == 10)=true:=(by simp[na]);have k2:(l.map na).all (λr=>r.all AV.one)=true:=(by simp[na,AV.one]);simp -implicitDefEqProofs[Zon,Zoo,h0,hne,b1,k1,k2];simp -implicitDefEqProofs[FinO,Yj,clK,Zoq,frzA,frz,AV.keys]
theorem Zou (l:List (Int×Int)) (hl:Sml l):PC Tryz.prog G 77 [.vsl (l.map ita)] (.vsl (l.map ita)):=by
 by_cases hne:l=[]
 . subst hne;exact Zdh
 unfold Sml at hl;have b1:l.length*16<=70368744177664:=(by omega);have h0:¬l.length=0:=λe=>hne (List.length_eq_zero_iff.1 e)
 have k1:(l.map ita).all (λr=>r.length == 2)=true:=(by simp[ita]);have k2:(l.map ita).all (λr=>r.all AV.one)=true:=(by simp[ita,AV.one]);have k5:(l.map ita).all (λr=>r.all AV.pure)=true:=by simp[ita,AV.pure]
 (refine Zaf rfl λR hG hrd=>Qga ?_;subst hG)
 simp -implicitDefEqProofs[Zad,Zae,h0,hne,b1,k1,k2,k5]
theorem Zov (l:List Dm) (hl:Sml l):PC Tryz.prog G 78 [.vsl (l.map dma)] (.vsl (l.map dma)):=by
 by_cases hne:l=[]
 . subst hne;exact Zdi
 unfold Sml at hl;have b1:l.length*24<=70368744177664:=(by omega);have h0:¬l.length=0:=λe=>hne (List.length_eq_zero_iff.1 e)
 have k1:(l.map dma).all (λr=>r.length == 3)=true:=(by simp[dma]);have k2:(l.map dma).all (λr=>r.all AV.one)=true:=(by simp[dma,AV.one]);have k5:(l.map dma).all (λr=>r.all AV.pure)=true:=by simp[dma,AV.pure]
 (refine Zai rfl λR hG hrd=>Qga ?_;subst hG)
 simp -implicitDefEqProofs[Zag,Zah,h0,hne,b1,k1,k2,k5]
theorem Zow (y:Nte) (n:Int):PC Tryz.prog G 80 [.agg (na y),.vptr [.int .i64 n] 0] (.bool (decide (y.nu=n))):=by
 (refine Zom rfl λR hG hrd=>Qga ?_;subst hG)
 simp -implicitDefEqProofs[Zok,Zol,na]
def sgA (i:Nat):AV:=if i=0 then .nils else .osl 56 i
def rwI (r:List Iss) (i:Nat):List (List AV):=(r.take i).map isa
theorem Zox {r:List Iss} {i:Nat} (h:i<r.length):rwI r (i+1)=rwI r i++[isa r[i]]:=by
 unfold rwI;rw[List.take_succ_eq_append_getElem h,List.map_append];rfl
theorem Zoy {r:List Iss} {i:Nat} (h:i<=r.length):(rwI r i).length=i:=by simp[rwI];omega
theorem Zoz (o:List (Nat×AObj)) (r:List Iss) (i:Nat):Yd o (.row 5 (rwI r i))=true:=by
 simp only[Yd,List.all_eq_true,rwI,List.mem_map];rintro x ⟨y,-,rfl⟩ v hv;simp only[isa,List.mem_cons,List.not_mem_nil,or_false]at hv;rcases hv with rfl|rfl|rfl|rfl|rfl <;> simp[Ya,AV.keys]
def sgO (r:List Iss) (i:Nat):List (Nat×AObj):=if i=0 then [] else [(56,.row 5 (rwI r i))]
def sgT (r:List Iss) (way:Bool) (i:Nat):List (Nat×AV):=[(39,.int .i64 i),(38,.int .i64 r.length),(37,.vsl (r.map isa)),(10,.ptr 10 0),(7,.int .i64 0),(6,.ptr 6 0),(4,.ptr 4 0),(2,.bool way)]
def sgS (r:List Iss) (l:List Nte) (n:Int) (way:Bool) (i:Nat):St:=⟨sgT r way i,sgO r i++[(10,.box [sgA i,.osl 905 l.length]),(905,.row 10 (l.map na)),(6,.box [.nils,.nils]),(4,.box [.int .i64 n])]⟩
set_option maxHeartbeats 4000000 in
theorem ZoA (hG:GC G) (hN:GN G) (r:List Iss) (l:List Nte) (n:Int) (way:Bool) (hw:WfN l) (hr:Wf r) (hne:r≠[]) (h80:r.length<=80) (h0:chN r l=0) (hn:n∈opU l) :
  PC Tryz.prog G 47 [.agg [.vsl (r.map isa),.vsl (l.map na)],.int .i64 n,.bool way] (.tup [.agg [.vsl (r.map isa),.vsl ((l.map (stN n (if way=true then 2 else 0))).map na)],.int .i64 0]):=by
 have hB:=ZhQ h0;have hO:=Zhb hG hN r l hw hr;have hl12:=ZhR hB;have hnU:opU l≠[]:=λe=>by rw[e]at hn;cases hn
 have hlne:l≠[]:=λe=>by rw[e]at hn;simp[opU,opN]at hn
 rw[opdA,h0,if_pos rfl,fileA,opA,if_neg hnU]at hO;have hC:=Zhh (G:=G) (sortI (opU l)) n (by unfold Sml;rw[Zeb];have:=(ZhF hB).2;unfold opU;simp;have:=ZdY l l.length;omega);rw[decide_eq_true (Zec.2 hn)]at hC;have hNt:=Zot (G:=G) l hlne hw.1;obtain ⟨y,hy,hy1,hy2⟩:=ZnY.1 hn;obtain ⟨i0,hi0,rfl⟩:=List.getElem_of_mem hy;subst hy2
 have hmin:∀ j (h:j<l.length),j<i0->decide (l[j].nu=l[i0].nu)=false:=λj h hj=>decide_eq_false λe=>by
  have h3:(l.map (·.nu))[j]'(by simpa using h)=(l.map (·.nu))[i0]'(by simpa using hi0):=(by simp only[List.getElem_map];exact e);have:=(List.getElem_inj (ZhE hB)).1 h3;omega
 have hF:=ZgI (G:=G) 80 [.vptr [.int .i64 l[i0].nu] 0] (λy=>decide (y.nu=l[i0].nu)) l (by simp[AV.pure]) hw.1 (λy _=>Zow y _);rw[ZbY hi0 (by simp) hmin]at hF;have hfl:∀ g:Int,na { l[i0] with sg:=g }=[.int .i64 l[i0].nu,.int .i64 l[i0].dy,.int .u8 g,.int .i64 l[i0].dr,.int .i64 l[i0].lt,.int .i64 l[i0].fr,.int .i64 l[i0].tu,.int .i64 l[i0].ca,.bool l[i0].up,.int .u8 l[i0].wy]:=λ_=>rfl
 have hset:=λg=>Zos hB hi0 g
 have pn:=Zop l;have hX:∀ g:Int,∃ X,(l.map (stN l[i0].nu g)).map na=X:=λg=>⟨_,rfl⟩
 obtain ⟨X,hX⟩:=hX (if way=true then 2 else 0);rw[hX];have h3:=hset (if way=true then 2 else 0);rw[hX,hfl]at h3;have hI:=λx (hx:x∈r)=>hr.1.2 x hx
 (refine Zoj rfl λR hG hrd=>Qga ?_;subst hG)
 simp -implicitDefEqProofs[Zoh,Zoi];refine Qco (hO) (by simp) ?_;simp -implicitDefEqProofs[];refine Qco (hC) (by simp) ?_;simp -implicitDefEqProofs[];refine ⟨rfl,?_⟩;refine Ye.sem (Z1B.objs hNt (λk=>k+900) (by simp) (by simp[St.get,lk]) (by simp[AV.pure]) rfl rfl) ?_;simp -implicitDefEqProofs[Ym,Zor,AV.ren];refine Zba (sgS r l l[i0].nu way) (λ_=>True) r.length ?_ trivial ?_ ?_
 . simp only[sgS,sgT,sgA,sgO,if_true,List.nil_append]
   (refine Yn.sub (by simp[lk,Ya,AV.keys]) ?_;simp only[Wkl,Zi3,and_true];(try simp[lk,Yd,Ya,AV.keys]))
 . intro i hi _;have wi:IntKind.i64.wrap ((i:Int)+1)=(i:Int)+1:=Yg (by omega) (by omega);have sc:=Zox hi;have hx2:=hI _ (List.getElem_mem hi);obtain ⟨x,hx⟩ : ∃ x,x=r[i]:=⟨_,rfl⟩;have hax:isa r[i]=[.int .i64 x.d,.int .i64 x.l,.int .u8 x.k,.vsl (x.its.map ita),.vsl (x.dms.map dma)]:=(by rw[<- hx];rfl);rw[<- hx]at hx2;rw[hax]at sc;have c1:=Zou (G:=R.G) x.its hx2.1;have c2:=Zov (G:=R.G) x.dms hx2.2;refine Qga ?_;unfold sgS;by_cases h0i:i=0
   . subst h0i;have e0:rwI r 0=[]:=rfl;have w1:IntKind.i64.wrap 1=1:=rfl;rw[e0,List.nil_append]at sc;replace sc:rwI r 1=[[.int .i64 x.d,.int .i64 x.l,.int .u8 x.k,.vsl (x.its.map ita),.vsl (x.dms.map dma)]]:=sc;simp only[sgA,sgO,if_true,List.nil_append];simp -implicitDefEqProofs[sgT,hi,hax,w1];refine Qco (c1) (by simp) ?_;simp -implicitDefEqProofs[];refine Qco (c2) (by simp) ?_;simp -implicitDefEqProofs[w1];refine ⟨rfl,?_⟩;rw[sc]
     (refine Yn.sub (by simp[lk,Ya,AV.keys]) ?_;simp only[Wkl,Zi3,and_true];(try simp[lk,Yd,Ya,AV.keys]))
   . have b1:(i+1)*72<=70368744177664:=(by omega);have hln:=Zoy (r:=r) (i:=i) (by omega);simp only[sgA,sgO,h0i,if_false,List.cons_append,List.nil_append];simp -implicitDefEqProofs[sgT,hi,hax];refine Qco (c1) (by simp) ?_;simp -implicitDefEqProofs[];refine Qco (c2) (by simp) ?_;simp -implicitDefEqProofs[b1,wi,hln];refine ⟨rfl,?_⟩;rw[<- sc]
     (refine Yn.sub (by simp[lk,Ya,AV.keys]) ?_;simp only[Wkl,Zoz,Zi3,and_true];(try simp[lk,Yd,Ya,AV.keys]))
 . intro _;have hfl0:na l[i0]=[.int .i64 l[i0].nu,.int .i64 l[i0].dy,.int .u8 l[i0].sg,.int .i64 l[i0].dr,.int .i64 l[i0].lt,.int .i64 l[i0].fr,.int .i64 l[i0].tu,.int .i64 l[i0].ca,.bool l[i0].up,.int .u8 l[i0].wy]:=rfl;have hr0:r.length≠0:=λe=>hne (List.length_eq_zero_iff.1 e)
   have hrw:rwI r r.length=r.map isa:=by unfold rwI;rw[List.take_length]
   have hp:∀ x:Iss,∀ y∈isa x,y.pure=true:=λx y hy=>by
    simp only[isa,List.mem_cons,List.not_mem_nil,or_false]at hy;rcases hy with rfl|rfl|rfl|rfl|rfl <;> simp[AV.pure]
   have pr:((r.map isa).all λr=>r.all AV.pure)=true:=(by simp[isa,AV.pure]);refine Qga ?_;unfold sgS;rw[show sgO r r.length=[(56,.row 5 (r.map isa))] by unfold sgO;rw[if_neg hr0,hrw],show sgA r.length = .osl 56 r.length by unfold sgA;rw[if_neg hr0]];simp -implicitDefEqProofs[sgT];refine Qgr ?_;simp -implicitDefEqProofs[];refine Ye.flat hF (by simp[AV.flat]) (by simp[Yk,snap,Yi,okAll,St.get,lk,pn,AV.pure]) ?_;have pX:(X.all λr=>r.all AV.pure)=true:=(by rw[<- hX];exact Zop _);have hXl:X.length=l.length:=(by rw[<- hX];simp);have hss:∀ a b:List AV,((l.map na).set i0 a).set i0 b=(l.map na).set i0 b:=λa b=>by simp
   cases way
   . simp only[Bool.false_eq_true,if_false]at h3;simp -implicitDefEqProofs[hi0,hfl0,pr,h3,pX,hXl]
   . simp only[if_true]at h3;simp -implicitDefEqProofs[hi0,hfl0,pr,hss,h3,pX,hXl]
end
end Go.Proofs.YtjogcghofinemaaGreatDoor
