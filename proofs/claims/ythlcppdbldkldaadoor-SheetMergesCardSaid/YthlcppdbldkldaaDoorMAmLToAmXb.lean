/-
  The abstract machine: functions that change what they are handed (contracts by reference).
-/
import Derived.Test.YthlcppdbldkldaaDoorMAmGToAmK
import Derived.Defers
import Derived.Recover
import Derived.RangeFuncNested
import Derived.RangeFuncBound
import Derived.RangeFuncCalls
import Derived.Maps.RangeRun
import Derived.RowKit
set_option linter.all false
set_option maxHeartbeats 8000000
/-! The abstract machine: functions that change what they are handed (contracts by reference). -/
namespace Go.Proofs.YthlcppdbldkldaaDoor
open Go.RowKit
section
variable {P:Program}
def obSt (objs:List (Nat×AObj)):St:=⟨[],objs⟩
def noAct:Act:={ tmps:=#[],defers:=[] }
def PB (P:Program) (G:Jg) (f:FuncId) (objs:List (Nat×AObj)) (args:List AV) (r:AV) (objs':List (Nat×AObj)):Prop :=
 entB P f=true/\∀ (R:Run) (W:World) (κ:Nat->Option (Nat×Nat)) (vs:Array Value),R.G=G->R.N=0->R.W0=W->R.X=(λb=>∃ k s,κ k=some (b,s))->R.E0=(obSt objs).env R.M κ ->
  SK R (obSt objs) noAct W κ->vs.size=args.length->(∀ (i:Nat) (x:AV) (u:Value),args[i]? = some x->vs[i]? = some u->VR ((obSt objs).env R.M κ) W x u) ->
  Calls P f vs W λe W'=>∃ v κ',e = .returned v/\SK R (obSt objs') noAct W' κ'/\VR ((obSt objs').env R.M κ') W' r v
def newK:Nat->Bool:=λk=>decide (k<1000)
def FinB (rs:List RRes) (r:AV) (objs':List (Nat×AObj)):Exit->St->Prop
 |.normal,st | .ret,st=>∃ xs,Z29 (Yi newK st) rs=some xs/\r=tupV xs/\(Yi newK st).o=objs'
 |_,_=>False
def PB_of {G:Jg} {f:FuncId} {fn:Func} {c:Code} {rc:RCode} {rs:List RRes} {objs objs':List (Nat×AObj)} {args:List AV} {r:AV} (hf:P.funcs[f]? = some fn) (hb:fn.body=some c) (he:entB P f=true)
  (hc:Z1A P fn.ntmps c rc=true) (hrs:allB2 (okRes P) fn.results.toList rs=true) (hn:args.length<=fn.ntmps)
  (h:∀ R:Run,R.N=fn.ntmps->R.G=G->R.Top->AR P R rc ⟨iniT 0 args,objs⟩ (FinB rs r objs')):PB P G f objs args r objs':=by
 refine ⟨he,λR0 W κ vs hG hN hW hX hE hk hsz hvs=>?_⟩;refine callsIn_wide.1 (callsIn_of_wp_marks (F:=FW none) (n:=1) hf hb trivial ?_)
 let R:Run:={ R0 with N:=fn.ntmps,rd:=none,nm:=false }
 have hD0:R0.D=[]:=by
  obtain ⟨cs,e,-⟩:=hk.defers;exact (List.append_eq_nil_iff.1 e.symm).2
 have h0:SK R ⟨iniT 0 args,objs⟩ { tmps:=vs++Array.replicate (fn.ntmps-vs.size) Go.undef,defers:=[] } W κ:=by
  refine ⟨hk.defers.weak,by show (vs++_).size=fn.ntmps;simp;omega,λn x hx=>?_,hk.obj,hk.dom,hk.inj,hk.low,hk.apart,hk.kp,hk.gr,hk.mono,hk.ent⟩;simp only[St.tmp,Z2b,W1e,if_true,W1P]at hx;show VR _ W x ((vs++Array.replicate (fn.ntmps-vs.size) Go.undef).getD n Go.undef);rw[W0a,W0W];have c1:n<args.length:=(W02.1 hx).1;rw[if_pos (by omega)];have:vs[n]? = some vs[n]:=(by simp);rw[this];exact hvs n x _ hx this
 refine wpIn_mono (h R rfl hG ⟨rfl,rfl⟩ c hc 1 _ W ⟨_,h0⟩) ?_
 have key:∀ (a':Act) (W':World) (st':St),(∃ xs,Z29 (Yi newK st') rs=some xs/\r=tupV xs/\(Yi newK st').o=objs')->SR R st' a' W' ->
   ∃ u,(results fn a'.tmps).run P W' = .ok u W'/\∃ v κ',Ending.returned u = .returned v/\SK R0 (obSt objs') noAct W' κ'/\VR ((obSt objs').env R0.M κ') W' r v:=by
  rintro a' W' st' ⟨xs,h1,rfl,h3⟩ hs;obtain ⟨κ',hk'⟩:=Ym.frz newK st' (λk hk=>by simp[newK];omega) R a' W' hs;obtain ⟨us,h4,h5⟩:=Z2d (P:=P) hk' hrs h1;have henv:(Yi newK st').env R.M κ'=(obSt objs').env R0.M κ':=(by subst h3;rfl);have hl:us.length=xs.length:=(by have:=h5.1;omega);refine ⟨(if h:us.toArray.size=1 then us.toArray[0] else .tuple us.toArray),?_,_,κ',rfl,?_,?_⟩
  . unfold results;rw[Sem.run_bind]
    have:(fn.results.mapM λrv=>(match rv with
     |.tmp t=>pure (a'.tmps.getD t Go.undef)
     |.cell p t=>do loadVar t (<- asAddr (a'.tmps.getD p Go.undef)):Sem Value)).run P W' = .ok us.toArray W':=by
     rw[W1K,Sem.run_map];exact congrArg (λz=>Result.andThen z (λa w'=>Result.ok a.toArray w')) h4
    erw [this]
    rfl
  . have g:=hk'.sub (t':=[]) (λn x hx=>by simp[lk]at hx);have e:({ Yi newK st' with t:=[] }:St)=obSt objs':=(by subst h3;rfl);rw[e]at g;exact ⟨by rw[hD0];exact .nil _ _ _ _,by show (#[]:Array Value).size=R0.N;rw[hN];rfl,λn x hx=>by simp[obSt,St.tmp,lk]at hx,g.obj,g.dom,g.inj,g.low,g.apart,g.kp,g.gr,g.mono,g.ent⟩
  . rw[<- henv]
    match xs,us,hl,h5 with
    |[],[],_,_=>exact .tup [] _ rfl (by simp)
    |[y],[u],_,h5=>exact h5.2 0 y u rfl rfl
    | y::y2::ys,u::u2::us,hl,h5 =>
      rw[dif_neg (by simp)];exact .tup _ _ (by simpa using hl) (λi x w hx hw=>h5.2 i x w hx (by simpa using hw))
 rintro e a' W' ⟨st',h1,κ2,h2⟩
 cases e <;> try (exact h1.elim)
 all_goals
  refine h2.leave (by simp) (show R.D=[] from hD0) λa2 W2 ht hs2=>?_
  have:=key a2 W2 st' h1 ⟨κ2,hs2⟩;rw[ht]at this;exact this
end
def AV.ren (ρ:Nat->Nat):AV->AV
 |.ptr k off=>.ptr (ρ k) off
 |.eptr k n i off=>.eptr (ρ k) n i off
 |.osl k n=>.osl (ρ k) n
 |.oss k n lo hi=>.oss (ρ k) n lo hi
 |.mp k=>.mp (ρ k)
 |.oof L=>.oof (L.map λp=>(ρ p.1,p.2))
 |.func fn xs ys=>.func fn (xs.attach.map λ⟨x,_⟩=>x.ren ρ) (ys.attach.map λ⟨x,_⟩=>x.ren ρ)
 |.agg xs=>.agg (xs.attach.map λ⟨x,_⟩=>x.ren ρ)
 |.tup xs=>.tup (xs.attach.map λ⟨x,_⟩=>x.ren ρ)
 |x=>x
def AObj.ren (ρ:Nat->Nat):AObj->AObj
 |.box cells=>.box (cells.map (AV.ren ρ))
 |.row sz rows=>.row sz (rows.map λr=>r.map (AV.ren ρ))
 |.mp kvs=>.mp (kvs.map λp=>(p.1.ren ρ,p.2.ren ρ))
def Z4O {ρ:Nat->Nat} (xs:List AV):(xs.attach.map λ⟨x,_⟩=>x.ren ρ)=xs.map (AV.ren ρ):=by
 have h:(xs.attach.map λ⟨x,_⟩=>x.ren ρ)=(xs.attach.map Subtype.val).map (AV.ren ρ):=(by rw[W10];rfl);rw[h,List.attach_map_subtype_val]
def PV.ren_eq {M:Nat->Prop} {W:World} {ρ:Nat->Nat} {x:AV} {v:Value} (h:PV M W x v):x.ren ρ=x:=by
 have all:∀ (xs:List AV) (us:Array Value),us.size=xs.length->(∀ (i:Nat) (x:AV) (u:Value),xs[i]? = some x->us[i]? = some u->x.ren ρ=x)->xs.map (AV.ren ρ)=xs:=λxs us h1 h2=>by
  conv=>rhs;rw[<- W1V xs]
  refine W0K λx hx=>?_
  obtain ⟨i,hi⟩:=W1E hx;have hlt:i<us.size:=(by rw[h1];exact (W02.1 hi).1);exact h2 i x us[i] hi (by simp[hlt])
 induction h with
 |func fn xs ys us vs h1 h2 hx hy ihx ihy=>rw[AV.ren,Z4O,Z4O,all xs us h1 ihx,all ys vs h2 ihy]
 |agg xs us h1 hx ih=>rw[AV.ren,Z4O,all xs us h1 ih]
 |tup xs us h1 hx ih=>rw[AV.ren,Z4O,all xs us h1 ih]
 |_=>simp[AV.ren]
def AObj.ren_dim {ρ:Nat->Nat} (o:AObj):(o.ren ρ).dim=o.dim:=by cases o <;> simp[AObj.ren,AObj.dim]
def VR.toCaller {E E':Env} {W:World} {ρ:Nat->Nat} (hM:∀ b,¬E.M b->¬E'.M b) (hl:∀ k p,E.loc k=some p->E'.loc (ρ k)=some p) (hr:∀ k q,E.row k=some q->E'.row (ρ k)=some q/\E'.loc (ρ k)=E.loc k)
  (hn:∀ k p,E.loc k=some p->E.row k=none->E'.row (ρ k)=none) {x:AV} {v:Value} (h:VR E W x v):VR E' W (x.ren ρ) v:=by
 induction h with
 |pv h=>rw[h.ren_eq];exact .pv (h.mono (λb _ hb=>⟨hM b hb,rfl⟩) (W0f _))
 | undef v =>
   have e:AV.undef.ren ρ = .undef:=(by simp[AV.ren]);rw[e];exact .undef v
 |ptr k off b s h hr'=>rw[AV.ren];exact .ptr _ off b s (hl k _ h) (hn k _ h hr')
 |eptr k n i off sz m p h hn' he=>rw[AV.ren];exact .eptr _ n i off sz m p (hr k _ h).1 hn' (λe=>by rw[(hr k _ h).2];exact he e)
 |osl k n sz m a l c h hn' he=>rw[AV.ren];exact .osl _ n sz m a l c (hr k _ h).1 hn' (λe=>by rw[(hr k _ h).2];exact he e)
 |oss k n lo hi sz m a l c h hn' he=>rw[AV.ren];exact .oss _ n lo hi sz m a l c (hr k _ h).1 hn' (λe=>by rw[(hr k _ h).2];exact he e)
 | func fn xs ys us vs h1 h2 hx hy ihx ihy =>
   rw[AV.ren,Z4O,Z4O];refine .func fn _ _ us vs (by simpa using h1) (by simpa using h2) (λi x u hi hu=>?_) (λi x u hi hu=>?_)
   . rw[W09,W04]at hi;obtain ⟨x0,h3,rfl⟩:=hi;exact ihx i x0 u h3 hu
   . rw[W09,W04]at hi;obtain ⟨x0,h3,rfl⟩:=hi;exact ihy i x0 u h3 hu
 | agg xs us h1 hx ih =>
   rw[AV.ren,Z4O];refine .agg _ us (by simpa using h1) (λi x u hi hu=>?_);rw[W09,W04]at hi;obtain ⟨x0,h3,rfl⟩:=hi;exact ih i x0 u h3 hu
 | tup xs us h1 hx ih =>
   rw[AV.ren,Z4O];refine .tup _ us (by simpa using h1) (λi x u hi hu=>?_);rw[W09,W04]at hi;obtain ⟨x0,h3,rfl⟩:=hi;exact ih i x0 u h3 hu
 |mp k b h hr'=>rw[AV.ren];exact .mp _ b (hl k _ h) (hn k _ h hr')
 | oof L k n a l c hm h ih =>
   have e1:(AV.osl k n).ren ρ = .osl (ρ k) n:=(by rw[AV.ren]);have e2:(AV.oof L).ren ρ = .oof (L.map λp=>(ρ p.1,p.2)):=(by rw[AV.ren]);rw[e1]at ih;rw[e2];exact .oof _ (ρ k) n a l c (W0i.2 ⟨_,hm,rfl⟩) ih
def Z4P {ρ:Nat->Nat} {x:AV} {k:Nat} (e:x.ren ρ = .mp k):∃ k0,x = .mp k0/\ρ k0=k:=by
 cases x <;> simp[AV.ren]at e
 exact ⟨_,rfl,e⟩
def Z4Q {ρ:Nat->Nat} {x:AV} {k off:Nat} (e:x.ren ρ = .ptr k off):∃ k0,x = .ptr k0 off/\ρ k0=k:=by
 cases x <;> simp[AV.ren]at e
 exact ⟨_,by rw[e.2],e.1⟩
def Z4R {ρ:Nat->Nat} {x:AV} {k n i off:Nat} (e:x.ren ρ = .eptr k n i off):∃ k0,x = .eptr k0 n i off/\ρ k0=k:=by
 cases x <;> simp[AV.ren]at e
 exact ⟨_,by rw[e.2.1,e.2.2.1,e.2.2.2],e.1⟩
def Z4S {ρ:Nat->Nat} {x:AV} {k n:Nat} (e:x.ren ρ = .osl k n):∃ k0,x = .osl k0 n/\ρ k0=k:=by
 cases x <;> simp[AV.ren]at e
 exact ⟨_,by rw[e.2],e.1⟩
def Z4T {ρ:Nat->Nat} {x:AV} {k n lo hi:Nat} (e:x.ren ρ = .oss k n lo hi):∃ k0,x = .oss k0 n lo hi/\ρ k0=k:=by
 cases x <;> simp[AV.ren]at e
 exact ⟨_,by rw[e.2.1,e.2.2.1,e.2.2.2],e.1⟩
def Z4U {ρ:Nat->Nat} {x:AV} (e:x.ren ρ = .undef):x = .undef:=by
 cases x <;> simp[AV.ren]at e <;> rfl
def Z4V {ρ:Nat->Nat} {x:AV} {ys:List AV} (e:x.ren ρ = .agg ys):∃ xs,x = .agg xs/\xs.map (AV.ren ρ)=ys:=by
 cases x <;> try (simp[AV.ren]at e;done)
 rename_i xs;rw[AV.ren,Z4O,AV.agg.injEq]at e;exact ⟨xs,rfl,e⟩
def Z4W {ρ:Nat->Nat} {x:AV} {ys:List AV} (e:x.ren ρ = .tup ys):∃ xs,x = .tup xs/\xs.map (AV.ren ρ)=ys:=by
 cases x <;> try (simp[AV.ren]at e;done)
 rename_i xs;rw[AV.ren,Z4O,AV.tup.injEq]at e;exact ⟨xs,rfl,e⟩
def Z4X {ρ:Nat->Nat} {x:AV} {fn:Fn} {as bs:List AV} (e:x.ren ρ = .func fn as bs):∃ xs ys,x = .func fn xs ys/\xs.map (AV.ren ρ)=as/\ys.map (AV.ren ρ)=bs:=by
 cases x <;> try (simp[AV.ren]at e;done)
 rename_i f xs ys;rw[AV.ren,Z4O,Z4O,AV.func.injEq]at e;exact ⟨xs,ys,by rw[e.1],e.2.1,e.2.2⟩
def Z4Y {ρ:Nat->Nat} {x:AV} {L:List (Nat×Nat)} (e:x.ren ρ = .oof L):∃ L0,x = .oof L0/\L0.map (λp=>(ρ p.1,p.2))=L:=by
 cases x <;> simp[AV.ren]at e
 exact ⟨_,rfl,e⟩
def Z4Z {ρ:Nat->Nat} {x y:AV} (e:x.ren ρ=y) (hy:match y with | .ptr .. | .eptr .. | .osl .. | .oss .. | .mp _ | .oof _ | .func .. | .agg _ | .tup _=>False|_=>True):x=y:=by
 cases x <;> simp[AV.ren]at e <;> subst e <;> first|rfl|exact hy.elim
def PV.ren_back {M:Nat->Prop} {W:World} {ρ:Nat->Nat} {y:AV} {v:Value} (h:PV M W y v):∀ x:AV,x.ren ρ=y->x=y:=by
 have all:∀ (xs ys:List AV) (us:Array Value),xs.map (AV.ren ρ)=ys->us.size=ys.length->(∀ (i:Nat) (y:AV) (u:Value),ys[i]? = some y->us[i]? = some u->∀ x:AV,x.ren ρ=y->x=y)->xs=ys:=λxs ys us h0 h1 h2=>by
  subst h0
  conv=>lhs;rw[<- W1V xs]
  refine W0K λx hx=>?_
  obtain ⟨i,hi⟩:=W1E hx;have hlt:i<us.size:=(by rw[h1,W0N];exact (W02.1 hi).1);exact h2 i (x.ren ρ) us[i] (by rw[W09,hi];rfl) (by simp[hlt]) x rfl
 induction h with
 | func fn xs ys us vs h1 h2 hx hy ihx ihy =>
   intro x e;obtain ⟨as,bs,rfl,e1,e2⟩:=Z4X e;rw[all as xs us e1 h1 ihx,all bs ys vs e2 h2 ihy]
 | agg xs us h1 hx ih =>
   intro x e;obtain ⟨as,rfl,e1⟩:=Z4V e;rw[all as xs us e1 h1 ih]
 | tup xs us h1 hx ih =>
   intro x e;obtain ⟨as,rfl,e1⟩:=Z4W e;rw[all as xs us e1 h1 ih]
 |_=>exact λx e=>Z4Z e trivial
def VR.toCallee {E E':Env} {W:World} {ρ:Nat->Nat} (hM:∀ b,¬E.M b->¬E'.M b) {y:AV} {v:Value} (h:VR E W y v) :
  ∀ x:AV,x.ren ρ=y->(∀ k∈x.keys,E'.loc k=E.loc (ρ k)/\E'.row k=E.row (ρ k))->VR E' W x v:=by
 induction h with
 |pv h=>intro x e _;rw[h.ren_back x e];exact .pv (h.mono (λb _ hb=>⟨hM b hb,rfl⟩) (W0f _))
 |undef v=>intro x e _;rw[Z4U e];exact .undef v
 | ptr k off b s h hr =>
   intro x e hk;obtain ⟨k0,rfl,rfl⟩:=Z4Q e;obtain ⟨h1,h2⟩:=hk k0 (by simp[AV.keys]);exact .ptr k0 off b s (h1.trans h) (h2.trans hr)
 | eptr k n i off sz m p h hn he =>
   intro x e hk;obtain ⟨k0,rfl,rfl⟩:=Z4R e;obtain ⟨h1,h2⟩:=hk k0 (by simp[AV.keys]);exact .eptr k0 n i off sz m p (h2.trans h) hn (λe=>by rw[h1];exact he e)
 | osl k n sz m a l c h hn he =>
   intro x e hk;obtain ⟨k0,rfl,rfl⟩:=Z4S e;obtain ⟨h1,h2⟩:=hk k0 (by simp[AV.keys]);exact .osl k0 n sz m a l c (h2.trans h) hn (λe=>by rw[h1];exact he e)
 | oss k n lo hi sz m a l c h hn he =>
   intro x e hk;obtain ⟨k0,rfl,rfl⟩:=Z4T e;obtain ⟨h1,h2⟩:=hk k0 (by simp[AV.keys]);exact .oss k0 n lo hi sz m a l c (h2.trans h) hn (λe=>by rw[h1];exact he e)
 | func fn xs ys us vs h1 h2 hx hy ihx ihy =>
   intro x e hk;obtain ⟨as,bs,rfl,rfl,rfl⟩:=Z4X e;refine .func fn as bs us vs (by simpa using h1) (by simpa using h2) (λi x u hi hu=>ihx i (x.ren ρ) u (by rw[W09,hi];rfl) hu x rfl λk h=>hk k ?_) (λi x u hi hu=>ihy i (x.ren ρ) u (by rw[W09,hi];rfl) hu x rfl λk h=>hk k ?_)
   . simp only[AV.keys,W0h];exact .inl (Z4I (W0d hi) h)
   . simp only[AV.keys,W0h];exact .inr (Z4I (W0d hi) h)
 | agg xs us h1 hx ih =>
   intro x e hk;obtain ⟨as,rfl,rfl⟩:=Z4V e;refine .agg as us (by simpa using h1) (λi x u hi hu=>ih i (x.ren ρ) u (by rw[W09,hi];rfl) hu x rfl λk h=>hk k ?_);simp only[AV.keys];exact Z4I (W0d hi) h
 | tup xs us h1 hx ih =>
   intro x e hk;obtain ⟨as,rfl,rfl⟩:=Z4W e;refine .tup as us (by simpa using h1) (λi x u hi hu=>ih i (x.ren ρ) u (by rw[W09,hi];rfl) hu x rfl λk h=>hk k ?_);simp only[AV.keys];exact Z4I (W0d hi) h
 | mp k b h hr =>
   intro x e hk;obtain ⟨k0,rfl,rfl⟩:=Z4P e;obtain ⟨h1,h2⟩:=hk k0 (by simp[AV.keys]);exact .mp k0 b (h1.trans h) (h2.trans hr)
 | oof L k n a l c hm h ih =>
   intro x e hk;obtain ⟨L0,rfl,rfl⟩:=Z4Y e;obtain ⟨⟨k0,n0⟩,hp,e2⟩:=W0i.1 hm;simp only[W06]at e2;obtain ⟨rfl,rfl⟩:=e2;refine .oof L0 k0 n0 a l c hp (ih (.osl k0 n0) (by rw[AV.ren]) λj hj=>hk j ?_);simp only[AV.keys,W0B]at hj ⊢;exact W0i.2 ⟨_,hp,hj.symm⟩
def isK (objs:List (Nat×AObj)) (k:Nat):Bool:=(lk objs k).isSome
def inK (objs:List (Nat×AObj)) (x:AV):Prop:=∀ k∈x.keys,isK objs k=true
def inKO (objs:List (Nat×AObj)):AObj->Prop
 |.box cells=>∀ x∈cells,inK objs x
 |.row _ rows=>∀ r∈rows,∀ x∈r,inK objs x
 |.mp kvs=>∀ p∈kvs,inK objs p.1/\inK objs p.2
section
variable {P:Program} {R:Run} {st:St} {a:Act} {W:World} {κ:Nat->Option (Nat×Nat)}
def kC (objs:List (Nat×AObj)) (ρ:Nat->Nat) (κ:Nat->Option (Nat×Nat)):Nat->Option (Nat×Nat):=λk=>if isK objs k=true then κ (ρ k) else none
def mC (objs:List (Nat×AObj)) (ρ:Nat->Nat) (R:Run) (st:St) (κ:Nat->Option (Nat×Nat)):Nat->Prop:=λb=>(st.env R.M κ).M b/\¬ ∃ k s,kC objs ρ κ k=some (b,s)
def rC (objs:List (Nat×AObj)) (ρ:Nat->Nat) (R:Run) (st:St) (κ:Nat->Option (Nat×Nat)) (W:World):Run :=
 { G:=R.G,M:=mC objs ρ R st κ,X:=λb=>∃ k s,kC objs ρ κ k=some (b,s),W0:=W,N:=0,E0:=(obSt objs).env (mC objs ρ R st κ) (kC objs ρ κ) }
def Z50 (h:SK R st a W κ) {objs:List (Nat×AObj)} {ρ:Nat->Nat} (hK:∀ k,isK objs k=true->1000<=k) (hinj:∀ k k',isK objs k=true->isK objs k'=true->ρ k=ρ k'->k=k')
  (ho:∀ k o,lk objs k=some o->st.get (ρ k)=some (o.ren ρ)) (hin:∀ k o,lk objs k=some o->inKO objs o) :
  SK (rC objs ρ R st κ W) (obSt objs) noAct W (kC objs ρ κ)/\∀ (x:AV) (v:Value),inK objs x->VR (st.env R.M κ) W (x.ren ρ) v->VR ((obSt objs).env (mC objs ρ R st κ) (kC objs ρ κ)) W x v:=by
 have hM:∀ b,((obSt objs).env (mC objs ρ R st κ) (kC objs ρ κ)).M b->(st.env R.M κ).M b:=λb hb=>by
  rcases hb with hb | ⟨k,s,hk⟩
  . exact hb.1
  . simp only[kC]at hk
    split at hk
    . exact .inr ⟨ρ k,s,hk⟩
    . cases hk
 have hrow:∀ k,isK objs k=true->((obSt objs).env (mC objs ρ R st κ) (kC objs ρ κ)).row k=(st.env R.M κ).row (ρ k):=λk hk=>by
  obtain ⟨o,h1⟩:=W0t.1 hk;show (lk objs k).bind AObj.dim=(st.get (ρ k)).bind AObj.dim;rw[h1,ho k o h1];exact (AObj.ren_dim o).symm
 have conv:∀ (x:AV) (v:Value),inK objs x->VR (st.env R.M κ) W (x.ren ρ) v->VR ((obSt objs).env (mC objs ρ R st κ) (kC objs ρ κ)) W x v:=λx v hx hv =>
  VR.toCallee (λb hb hb'=>hb (hM b hb')) hv x rfl λk hk=>⟨by show kC objs ρ κ k=κ (ρ k);simp only[kC,hx k hk,if_true],hrow k (hx k hk)⟩
 refine ⟨⟨.nil _ _ _ _,rfl,λn x hx=>by simp[obSt,St.tmp,lk]at hx,λk o hk=>?_,λk p hk=>?_,λk k' b s s' h1 h2=>?_,λb hb=>h.owned_lt hb.1,λb hb hx=>hb.2 hx,Kp.refl _ _,?_,?_,λk hk=>?_⟩,conv⟩
 . have hk':lk objs k=some o:=hk;have hi:isK objs k=true:=(by simp[isK,hk']);obtain ⟨b,s,h1,h2,-,h4⟩:=h.obj (ρ k) _ (ho k o hk');refine ⟨b,s,by simp only[kC,hi,if_true];exact h1,h2,.inr ⟨k,s,by simp only[kC,hi,if_true];exact h1⟩,?_⟩
   cases o with
   | box cells =>
     obtain ⟨g0,cs,t,g1,g2,g3⟩:=h4;refine ⟨g0,cs,t,g1,by simpa using g2,λj x hj=>?_⟩;obtain ⟨v,g4,g5⟩:=g3 j (x.ren ρ) (by rw[W09,hj];rfl);exact ⟨v,g4,conv x v (hin k _ hk' x (W0d hj)) g5⟩
   | row sz rows =>
     obtain ⟨g0,cs,t,g1,g2,g3⟩:=h4;refine ⟨λr hr=>?_,cs,t,g1,by simpa using g2,λi j r x hi' hj=>?_⟩
     . have:=g0 (r.map (AV.ren ρ)) (W0i.2 ⟨r,hr,rfl⟩);simpa using this
     . obtain ⟨v,g4,g5⟩:=g3 i j (r.map (AV.ren ρ)) (x.ren ρ) (by rw[W09,hi'];rfl) (by rw[W09,hj];rfl);exact ⟨v,g4,conv x v (hin k _ hk' r (W0d hi') x (W0d hj)) g5⟩
   | mp kvs =>
     obtain ⟨g0,es,t,g1,g2,g3,g4⟩:=h4;refine ⟨g0,es,t,g1,g2,by simpa using g3,λi x y hi'=>?_⟩;obtain ⟨e,g5,g6,g7⟩:=g4 i (x.ren ρ) (y.ren ρ) (by rw[W09,hi'];rfl);have h5:=hin k _ hk' (x,y) (W0d hi');exact ⟨e,g5,conv x _ h5.1 g6,conv y _ h5.2 g7⟩
 . simp only[kC]at hk
   split at hk
   . rename_i e;exact W0t.1 e
   . cases hk
 . simp only[kC]at h1 h2
   split at h1
   . rename_i e1
     split at h2
     . rename_i e2;exact hinj k k' e1 e2 (h.inj _ _ b s s' h1 h2)
     . cases h2
   . cases h1
 . exact h.gr.mono (λb _ hb=>⟨λhb'=>hb (hM b hb'),rfl⟩) (W0f _)
 . exact ⟨W0f _,λb _ hb=>⟨hb,rfl⟩,λk p h1 h2=>⟨h1,h2⟩,λk sz m h1=>⟨m,h1,W0f _,λ_ b s cs t hl=>⟨hl,λhw=>⟨cs,hw,rfl⟩⟩⟩⟩
 . have e:isK objs k=false:=by
    cases e:isK objs k
    . rfl
    . have:=hK k e;omega
   refine ⟨by show kC objs ρ κ k=none;simp[kC,e],?_⟩;show (lk objs k).bind AObj.dim=none;have:lk objs k=none:=(by simpa [isK] using e);rw[this];rfl
def Z51 (h:SK R st a W κ) {objs objs':List (Nat×AObj)} {ρ:Nat->Nat} (hinj:∀ k k',isK objs k=true->isK objs k'=true->ρ k=ρ k'->k=k')
  (ho:∀ k o,lk objs k=some o->st.get (ρ k)=some (o.ren ρ)) (hd:∀ k,isK objs' k=isK objs k) {κ':Nat->Option (Nat×Nat)} {W':World} (hc:SK (rC objs ρ R st κ W) (obSt objs') noAct W' κ')
  {st1:St} (ht:st1.t=st.t) (hs1:∀ k o,lk objs' k=some o->st1.get (ρ k)=some (o.ren ρ)) (hs2:∀ j,(∀ k,isK objs k=true->ρ k≠j)->st1.get j=st.get j) :
  ∃ κ1,SK R st1 a W' κ1/\Mono (st.env R.M κ) W (st1.env R.M κ1) W'/\∀ (x:AV) (v:Value),VR ((obSt objs').env (mC objs ρ R st κ) κ') W' x v->VR (st1.env R.M κ1) W' (x.ren ρ) v:=by
 classical
 let κ1:Nat->Option (Nat×Nat):=λj=>if e:∃ k,isK objs k=true/\ρ k=j then κ' (Classical.choose e) else κ j
 have hκ1:∀ k,isK objs k=true->κ1 (ρ k)=κ' k:=λk hk=>by
  have e:∃ k',isK objs k'=true/\ρ k'=ρ k:=⟨k,hk,rfl⟩;simp only[κ1,dif_pos e];rw[hinj _ _ (W2c e).1 hk (W2c e).2]
 have hκ2:∀ j,(∀ k,isK objs k=true->ρ k≠j)->κ1 j=κ j:=λj hj=>by
  have e:¬ ∃ k,isK objs k=true/\ρ k=j:=λ⟨k,h1,h2⟩=>hj k h1 h2
  simp only[κ1,dif_neg e]
 have split:∀ j,(∃ k,isK objs k=true/\ρ k=j)∨(∀ k,isK objs k=true->ρ k≠j):=λj=>by
  by_cases e:∃ k,isK objs k=true/\ρ k=j
  . exact .inl e
  . exact .inr λk h1 h2=>e ⟨k,h1,h2⟩
 have kc:∀ k,isK objs k=true->kC objs ρ κ k=κ (ρ k):=λk hk=>by simp only[kC,hk,if_true]
 have kcK:∀ k p,kC objs ρ κ k=some p->isK objs k=true/\κ (ρ k)=some p:=λk p hk=>by
  simp only[kC]at hk
  split at hk
  . rename_i e;exact ⟨e,hk⟩
  . cases hk
 have domK:∀ k p,κ' k=some p->isK objs k=true:=λk p hk=>by
  rw[<- hd];exact W0t.2 (hc.dom k p hk)
 have xE:∀ b,(∃ k s,kC objs ρ κ k=some (b,s))->(st.env R.M κ).M b:=λb ⟨k,s,hk⟩=>.inr ⟨ρ k,s,(kcK k _ hk).2⟩
 have range:∀ b,(∃ k s,kC objs ρ κ k=some (b,s))->R.W0.heap.size<=b∨R.X b:=λb ⟨k,s,hk⟩=>by
  obtain ⟨-,h2⟩:=kcK k _ hk;obtain ⟨o,h3⟩:=h.dom _ _ h2;obtain ⟨b',s',g1,g2,g3,-⟩:=h.obj _ _ h3;rw[h2]at g1;simp only[W00,W06]at g1;obtain ⟨rfl,rfl⟩:=g1;exact g3
 have F1:∀ b,(st1.env R.M κ1).M b->((obSt objs').env (mC objs ρ R st κ) κ').M b:=λb hb=>by
  rcases hb with hb | ⟨j,s,hj⟩
  . refine .inl ⟨.inl hb,λhx=>?_⟩;rcases range b hx with h1|h1
    . have:=h.low b hb;omega
    . exact h.apart b hb h1
  . rcases split j with ⟨k,hk,rfl⟩|hj2
    . rw[hκ1 k hk]at hj;exact .inr ⟨k,s,hj⟩
    . rw[hκ2 j hj2]at hj;refine .inl ⟨.inr ⟨j,s,hj⟩,λ⟨k,s2,hk⟩=>?_⟩;obtain ⟨h1,h2⟩:=kcK k _ hk;exact hj2 k h1 (h.inj _ _ b s2 s h2 hj)
 have row1:∀ k,isK objs k=true->(st1.env R.M κ1).row (ρ k)=((obSt objs').env (mC objs ρ R st κ) κ').row k:=λk hk=>by
  rw[<- hd]at hk;obtain ⟨o,h1⟩:=W0t.1 hk;show (st1.get (ρ k)).bind AObj.dim=(lk objs' k).bind AObj.dim;rw[h1,hs1 k o h1];exact AObj.ren_dim o
 have row0:∀ k,isK objs k=true->(st.env R.M κ).row (ρ k)=((obSt objs).env (mC objs ρ R st κ) (kC objs ρ κ)).row k:=λk hk=>by
  obtain ⟨o,h1⟩:=W0t.1 hk;show (st.get (ρ k)).bind AObj.dim=(lk objs k).bind AObj.dim;rw[h1,ho k o h1];exact AObj.ren_dim o
 have rowK:∀ k q,((obSt objs').env (mC objs ρ R st κ) κ').row k=some q->isK objs k=true:=λk q hk=>by
  rw[<- hd];have hk:(lk objs' k).bind AObj.dim=some q:=hk
  cases e:lk objs' k with
  |none=>rw[e]at hk;cases hk
  |some o=>simp[isK,e]
 have conv:∀ (x:AV) (v:Value),VR ((obSt objs').env (mC objs ρ R st κ) κ') W' x v->VR (st1.env R.M κ1) W' (x.ren ρ) v:=λx v hv =>
  VR.toCaller (λb hb hb'=>hb (F1 b hb')) (λk p hk=>(hκ1 k (domK k p hk)).trans hk) (λk q hk=>⟨(row1 k (rowK k q hk)).trans hk,hκ1 k (rowK k q hk)⟩) (λk p hk hr=>(row1 k (domK k p hk)).trans hr) hv
 have same:∀ b,b<W.heap.size->¬(∃ k s,kC objs ρ κ k=some (b,s))->W'.heap[b]? = W.heap[b]?:=λb hb hx=>hc.kp.block b hb hx
 have apartK:∀ j b s,(∀ k,isK objs k=true->ρ k≠j)->κ j=some (b,s)->¬(∃ k s,kC objs ρ κ k=some (b,s)):=λj b s hj hb ⟨k,s2,hk⟩=>by
  obtain ⟨h1,h2⟩:=kcK k _ hk;exact hj k h1 (h.inj _ _ b s2 s h2 hb)
 have m:Mono (st.env R.M κ) W (st1.env R.M κ1) W':=by
  refine ⟨hc.kp.size,λb hb hM=>⟨λhM1=>?_,same b hb λhx=>hM (xE b hx)⟩,λj p hj hr=>?_,λj sz m hj=>?_⟩
  . rcases F1 b hM1 with h1 | ⟨k,s,h1⟩
    . exact hM h1.1
    . obtain ⟨o,h2⟩:=hc.dom k _ h1;obtain ⟨b',s',g1,g2,g3,-⟩:=hc.obj k o h2;rw[h1]at g1;simp only[W00,W06]at g1;obtain ⟨rfl,rfl⟩:=g1;rcases g3 with g3|g3
      . have g3:W.heap.size<=b:=g3;omega
      . exact hM (xE b g3)
  . rcases split j with ⟨k,hk,rfl⟩|hj2
    . obtain ⟨g1,g2⟩:=hc.mono.box k p ((kc k hk).trans hj) ((row0 k hk).symm.trans hr);exact ⟨(hκ1 k hk).trans g1,(row1 k hk).trans g2⟩
    . exact ⟨(hκ2 j hj2).trans hj,by show (st1.get j).bind AObj.dim=none;rw[hs2 j hj2];exact hr⟩
  . rcases split j with ⟨k,hk,rfl⟩|hj2
    . obtain ⟨m',g1,g2,g3⟩:=hc.mono.row k sz m ((row0 k hk).symm.trans hj);refine ⟨m',(row1 k hk).trans g1,g2,λe b s cs t hl=>?_⟩;obtain ⟨g4,g5⟩:=g3 e b s cs t ((kc k hk).trans hl);exact ⟨(hκ1 k hk).trans g4,g5⟩
    . refine ⟨m,by show (st1.get j).bind AObj.dim=some (sz,m);rw[hs2 j hj2];exact hj,W0f _,λ_ b s cs t hl=>⟨(hκ2 j hj2).trans hl,λhw=>⟨cs,(same b (h.loc_lt hl) (apartK j b s hj2 hl)).trans hw,rfl⟩⟩⟩
 refine ⟨κ1,⟨h.defers.of λc hc'=>(same c (W0c.1 hc').1 λ⟨k,s,hk⟩=>h.notdf (kcK k _ hk).2 hc').trans hc',h.size,λn x hx=>(h.tm n x (by simp only[St.tmp,<- ht];exact hx)).mono m,λj o hj=>?_,λj p hj=>?_,λj j' b s s' hj hj'=>?_,h.low,h.apart,?_,h.gr.mono m.imm m.size,h.mono.trans m,h.ent⟩,m,conv⟩
 . rcases split j with ⟨k,hk,rfl⟩|hj2
   . rw [← hd]at hk;obtain ⟨o0,e0⟩:=W0t.1 hk;rw[hd]at hk;rw[hs1 k o0 e0]at hj;simp only[W00]at hj;subst hj;obtain ⟨b,s,g1,g2,g3,g4⟩:=hc.obj k o0 e0;refine ⟨b,s,(hκ1 k hk).trans g1,g2,?_,?_⟩
     . rcases g3 with g3|g3
       . exact .inl (W0O h.kp.size g3)
       . exact range b g3
     . cases o0 with
       | box cells =>
         obtain ⟨g0,cs,t,g5,g6,g7⟩:=g4;refine ⟨g0,cs,t,g5,by simpa [AObj.ren] using g6,λj x hj=>?_⟩;rw[W09,W04]at hj;obtain ⟨x0,g8,rfl⟩:=hj;obtain ⟨v,g9,g10⟩:=g7 j x0 g8;exact ⟨v,g9,conv _ _ g10⟩
       | row sz rows =>
         obtain ⟨g0,cs,t,g5,g6,g7⟩:=g4;refine ⟨λr hr=>?_,cs,t,g5,by simpa [AObj.ren] using g6,λi j r x hi hj=>?_⟩
         . obtain ⟨r0,g8,rfl⟩:=W0i.1 hr;simpa using g0 r0 g8
         . rw[W09,W04]at hi;obtain ⟨r0,g8,rfl⟩:=hi;rw[W09,W04]at hj;obtain ⟨x0,g9,rfl⟩:=hj;obtain ⟨v,g10,g11⟩:=g7 i j r0 x0 g8 g9;exact ⟨v,g10,conv _ _ g11⟩
       | mp kvs =>
         obtain ⟨g0,es,t,g5,g6,g7,g8⟩:=g4;refine ⟨g0,es,t,g5,g6,by simpa [AObj.ren] using g7,λi x y hi=>?_⟩;rw[W09,W04]at hi;obtain ⟨p,g9,g10⟩:=hi
         cases g10
         obtain ⟨e,g11,g12,g13⟩:=g8 i p.1 p.2 g9;exact ⟨e,g11,conv _ _ g12,conv _ _ g13⟩
   . rw[hs2 j hj2]at hj;obtain ⟨b,s,g1,g2,g3,g4⟩:=h.obj j o hj;exact ⟨b,s,(hκ2 j hj2).trans g1,W12 g2 m.size,g3,g4.mono m (same b g2 (apartK j b s hj2 g1))⟩
 . rcases split j with ⟨k,hk,rfl⟩|hj2
   . rw[hκ1 k hk]at hj;obtain ⟨o,g1⟩:=hc.dom k p hj;exact ⟨_,hs1 k o g1⟩
   . rw[hκ2 j hj2]at hj;rw[hs2 j hj2];exact h.dom j p hj
 . have cross:∀ k j' s s',isK objs k=true->(∀ k,isK objs k=true->ρ k≠j')->κ' k=some (b,s)->κ j'=some (b,s')->False:=λk j' s s' hk hj2 g1 g2=>by
    obtain ⟨o,g3⟩:=hc.dom k _ g1;obtain ⟨b',s2,g4,g5,g6,-⟩:=hc.obj k o g3;rw[g1]at g4;simp only[W00,W06]at g4;obtain ⟨rfl,rfl⟩:=g4;rcases g6 with g6|g6
    . have g6:W.heap.size<=b:=g6;have:=h.loc_lt g2;omega
    . exact apartK j' b s' hj2 g2 g6
   rcases split j with ⟨k,hk,rfl⟩|hj2 <;> rcases split j' with ⟨k',hk',rfl⟩|hj2'
   . rw[hκ1 k hk]at hj;rw[hκ1 k' hk']at hj';rw[hc.inj k k' b s s' hj hj']
   . rw[hκ1 k hk]at hj;rw[hκ2 j' hj2']at hj';exact (cross k j' s s' hk hj2' hj hj').elim
   . rw[hκ2 j hj2]at hj;rw[hκ1 k' hk']at hj';exact (cross k' j s' s hk' hj2 hj' hj).elim
   . rw[hκ2 j hj2]at hj;rw[hκ2 j' hj2']at hj';exact h.inj j j' b s s' hj hj'
 . refine ⟨hc.kp.os.trans h.kp.os,hc.kp.tape.trans h.kp.tape,hc.kp.output.trans h.kp.output,W0O h.kp.size hc.kp.size,λi hi hx=>?_⟩;refine (same i (W12 hi h.kp.size) λhx2=>?_).trans (h.kp.block i hi hx);rcases range i hx2 with g|g
   . omega
   . exact hx g
def Z52 (h:SK R st a W κ) {f:FuncId} {objs objs':List (Nat×AObj)} {ρ:Nat->Nat} {args:List AV} {r:AV} (hp:PB P R.G f objs args r objs')
  (hK:∀ k,isK objs k=true->1000<=k) (hinj:∀ k k',isK objs k=true->isK objs k'=true->ρ k=ρ k'->k=k')
  (ho:∀ k o,lk objs k=some o->st.get (ρ k)=some (o.ren ρ)) (hin:∀ k o,lk objs k=some o->inKO objs o) (hargs:∀ x∈args,inK objs x) (hd:∀ k,isK objs' k=isK objs k)
  {st1:St} (ht:st1.t=st.t) (hs1:∀ k o,lk objs' k=some o->st1.get (ρ k)=some (o.ren ρ)) (hs2:∀ j,(∀ k,isK objs k=true->ρ k≠j)->st1.get j=st.get j)
  {vs:Array Value} (ha:CR (st.env R.M κ) W (args.map (AV.ren ρ)) vs.toList) :
  entB P f=true/\Calls P f vs W λe W'=>∃ u κ1,e = .returned u/\SK R st1 a W' κ1/\VR (st1.env R.M κ1) W' (r.ren ρ) u:=by
 obtain ⟨he,hc⟩:=hp;obtain ⟨h0,conv⟩:=Z50 h hK hinj ho hin;have hsz:vs.size=args.length:=(by have:=ha.1;simp at this;omega);refine ⟨he,(hc (rC objs ρ R st κ W) W (kC objs ρ κ) vs rfl rfl rfl rfl rfl h0 hsz (λi x u hx hu=>conv x u (hargs x (W0d hx)) (ha.2 i (x.ren ρ) u (by rw[W09,hx];rfl) (by simpa using hu)))).mono ?_⟩;rintro e W' ⟨v,κ',rfl,h1,h2⟩;obtain ⟨κ1,h3,-,h4⟩:=Z51 h hinj ho hd h1 ht hs1 hs2;exact ⟨v,κ1,rfl,h3,h4 r v h2⟩
end
def AV.ren_pure {ρ:Nat->Nat}:∀ x:AV,x.pure=true->x.ren ρ=x
 | .func fn xs ys,h=>by
   simp only[AV.pure,W01,W03,W0V,W1x,W1l]at h;rw[AV.ren,Z4O,Z4O]
   congr 1
   . exact (W0K λx hx=>by rw[id];exact AV.ren_pure x (h.1 x hx)).trans (W1V xs)
   . exact (W0K λx hx=>by rw[id];exact AV.ren_pure x (h.2 x hx)).trans (W1V ys)
 | .agg xs,h=>by
   simp only[AV.pure,W03,W0V,W1x,W1l]at h;rw[AV.ren,Z4O]
   congr 1
   exact (W0K λx hx=>by rw[id];exact AV.ren_pure x (h x hx)).trans (W1V xs)
 | .tup xs,h=>by
   simp only[AV.pure,W03,W0V,W1x,W1l]at h;rw[AV.ren,Z4O]
   congr 1
   exact (W0K λx hx=>by rw[id];exact AV.ren_pure x (h x hx)).trans (W1V xs)
 |.hole,_ | .int ..,_ | .bool _,_ | .str _,_ | .nilp,_ | .nils,_ | .nilm,_ | .nilf,_ | .nes,_ | .tok _,_ | .vptr ..,_ | .vsl _,_ | .vmap _,_ | .abool,_=>by simp[AV.ren]
 |.undef,h | .ptr ..,h | .eptr ..,h | .osl ..,h | .oss ..,h | .mp _,h | .oof _,h=>by simp[AV.pure]at h
def AObj.ren_pure {ρ:Nat->Nat} {sz:Nat} {rows:List (List AV)} (h:rows.all (λr=>r.all AV.pure)=true):AObj.ren ρ (.row sz rows) = .row sz rows:=by
 rw[AObj.ren]
 congr 1
 refine (W0K λr hr=>?_).trans (W1V rows);rw[id];exact (W0K λx hx=>by rw[id];exact AV.ren_pure x (W03.1 (W03.1 h r hr) x hx)).trans (W1V r)
def Yl (ρ:Nat->Nat):List (Nat×AObj)->St->St
 |[],st=>st
 |(k,o)::r,st=>Yl ρ r (st.set (ρ k) (o.ren ρ))
def Z53 (ρ:Nat->Nat):∀ (l:List (Nat×AObj)) (st:St),(Yl ρ l st).t=st.t
 |[],_=>rfl
 |(k,o)::r,st=>by rw[Yl,Z53 ρ r];rfl
def Z54 (ρ:Nat->Nat) (j:Nat):∀ (l:List (Nat×AObj)) (st:St),(∀ p∈l,ρ p.1≠j)->(Yl ρ l st).get j=st.get j
 |[],_,_=>rfl
 | (k,o)::r,st,h=>by
   rw[Yl,Z54 ρ j r _ (λp hp=>h p (W0z _ hp)),St.get_set,if_neg (h (k,o) (W0H ..))]
def Z55 (ρ:Nat->Nat):∀ (l:List (Nat×AObj)) (st:St) (k:Nat) (o:AObj),(l.map λp=>ρ p.1).Nodup->lk l k=some o->(Yl ρ l st).get (ρ k)=some (o.ren ρ)
 |[],_,_,_,_,h=>by simp[lk]at h
 | (k',o')::r,st,k,o,hn,h=>by
   simp only[W0F,W1v]at hn;simp only[lk]at h;rw[Yl]
   split at h
   . rename_i e;simp only[W00]at h;subst e;subst h;rw[Z54 ρ (ρ k') r _ (λp hp e=>hn.1 (by rw[<- e];exact W0i.2 ⟨p,hp,rfl⟩)),St.get_set,if_pos rfl]
   . exact Z55 ρ r _ k o hn.2 h
def Z56 {α:Type} {l:List (Nat×α)} {k:Nat}:(lk l k).isSome=true↔k∈l.map (·.1):=by
 induction l with
 |nil=>simp[lk]
 | cons p r ih =>
   obtain ⟨m,y⟩:=p;simp only[lk,W0F,W0g]
   split
   . rename_i e;simp[e]
   . rename_i e;rw[ih]
     constructor
     . exact λh=>.inr h
     . rintro (h|h)
       . exact absurd h.symm e
       . exact h
def Z57 {α β:Type} {f:α->β} {l:List α} (h:(l.map f).Nodup) {a b:α} (ha:a∈l) (hb:b∈l) (e:f a=f b):a=b:=by
 induction l with
 |nil=>cases ha
 | cons x r ih =>
   simp only[W0F,W1v]at h;obtain ⟨h1,h2⟩:=h;rcases W0g.1 ha with e1|ha1
   . rcases W0g.1 hb with e2|hb1
     . rw[e1,e2]
     . exact (h1 (W0i.2 ⟨b,hb1,by rw[<- e,e1]⟩)).elim
   . rcases W0g.1 hb with e2|hb1
     . exact (h1 (W0i.2 ⟨a,ha1,by rw[e,e2]⟩)).elim
     . exact ih h2 ha1 hb1
section
variable {P:Program} {G:Jg} {st:St}
def Z1B.byref {f:FuncId} {objs objs':List (Nat×AObj)} {args:List AV} {r:AV} (h:PB P G f objs args r objs') (ρ:Nat->Nat) (hK:∀ p∈objs,1000<=p.1)
  (hinj:(objs.map λp=>ρ p.1).Nodup) (ho:∀ p∈objs,st.get (ρ p.1)=some (p.2.ren ρ)) (hin:∀ p∈objs,Yc objs p.2=true) (hargs:args.all (Ya objs)=true) (hd:objs'.map (·.1)=objs.map (·.1))
  {args':List AV} {r':AV} {st1:St} (ha:args'=args.map (AV.ren ρ)) (hr:r'=r.ren ρ) (hs:st1=Yl ρ objs' st):Z1B P G st f args' r' st1:=by
 subst ha;subst hr;subst hs;intro R a W κ vs hG hk ha;subst hG;have mem:∀ k o,lk objs k=some o->(k,o)∈objs:=λk o h=>Z4J h
 have dK:∀ k,isK objs' k=isK objs k:=λk=>by
  have h1:isK objs' k=true↔isK objs k=true:=by unfold isK;rw[Z56,Z56,hd]
  cases e1:isK objs' k <;> cases e2:isK objs k <;> simp_all
 have kept:∀ x,Ya objs x=true->inK objs x:=λx hx k hk=>W03.1 hx k hk
 have dm:objs'.map (λp=>ρ p.1)=objs.map (λp=>ρ p.1):=by
  have:=congrArg (List.map ρ) hd;simpa [W10,W0y] using this
 refine Z52 hk h (λk hk=>?_) (λk k' h1 h2 e=>?_) (λk o ho'=>ho (k,o) (mem k o ho')) (λk o ho'=>?_) (λx hx=>kept x (W03.1 hargs x hx)) dK (Z53 ρ _ _)
  (λk o ho'=>Z55 ρ _ _ k o (by rw[dm];exact hinj) ho') (λj hj=>Z54 ρ j _ _ λp hp=>?_) ha
 . obtain ⟨o,h1⟩:=W0t.1 hk;exact hK (k,o) (mem k o h1)
 . have m1:=Z56.1 h1;have m2:=Z56.1 h2;have:(objs.map (·.1)).map ρ=objs.map (λp=>ρ p.1):=(by simp[W10,W0y]);rw[<- this]at hinj;exact Z57 hinj m1 m2 e
 . have h2:=hin (k,o) (mem k o ho')
   cases o with
   |box cells=>exact λx hx=>kept x (W03.1 h2 x hx)
   |row sz rows=>exact λr hr x hx=>kept x (W03.1 (W03.1 h2 r hr) x hx)
   | mp kvs =>
     intro p hp;have:=W03.1 h2 p hp;simp only[W01]at this;exact ⟨kept _ this.1,kept _ this.2⟩
 . refine hj p.1 ?_;have:p.1∈objs'.map (·.1):=W0i.2 ⟨p,hp,rfl⟩;rw[hd]at this;exact Z56.2 this
end
def CP (M:Nat->Prop) (W:World) (xs:List AV) (us:Array Value):Prop:=us.size=xs.length/\∀ (i:Nat) (x:AV) (u:Value),xs[i]? = some x->us[i]? = some u->PV M W x u
def Since (M:Nat->Prop) (W:World) (M':Nat->Prop) (W':World):Prop:=W.heap.size<=W'.heap.size/\∀ b,b<W.heap.size->¬M b->¬M' b/\W'.heap[b]? = W.heap[b]?
def CP.since {M M':Nat->Prop} {W W':World} {xs:List AV} {us:Array Value} (h:CP M W xs us) (s:Since M W M' W'):CP M' W' xs us:=⟨h.1,λi x u hx hu=>(h.2 i x u hx hu).mono s.2 s.1⟩
def IterP (P:Program) (gf:Nat) (caps els:List AV):Prop :=
 entB P gf=true/\∀ (n l:Nat) (lb:Array Value) (J:Nat->(Nat->Prop)->World->Prop) (K:World->Prop) (M:Nat->Prop) (W:World),2<=n->(∀ k M A B,J k M A->Ext A B->J k M B)->(∀ A B,K A->Ext A B->K B) ->
  (∀ k M A,J k M A->∀ b,M b->b<A.heap.size)->CP M W caps lb ->
  (∀ (k:Nat) (x:AV) (u:Value) (M:Nat->Prop) (A:World),J k M A->els[k]? = some x->PV M A x u ->
   YieldAt Fence.wide (n-1) P l #[u] A λe A'=>(e = .returned (.bool true)/\∃ M',J (k+1) M' A'/\Since M A M' A')∨(e = .returned (.bool false)/\K A')) ->
  J 0 M W->CallsIn Fence.wide n P gf (#[.func (.yield l) #[] #[]]++lb) W λe W'=>(∃ v,e = .returned v)/\((∃ M,J els.length M W')∨K W')
def Z58 {n:Nat} {P:Program} {g:Operand} {p:Nat} {assign body:Code} {Q:Exit->Act->World->Prop} {a:Act} {w:World}
  {gf:Nat} {lb:Array Value} {caps els:List AV} (hg:a.eval g = .func (.func gf) #[] lb) (hit:IterP P gf caps els) (hn:3<=n)
  (I:Nat->(Nat->Prop)->World->Prop) (K:World->Prop) (M0:Nat->Prop) (hIe:∀ k M A B,I k M A->Ext A B->I k M B) (hKe:∀ A B,K A->Ext A B->K B)
  (hIo:∀ (k l:Nat) (M:Nat->Prop) (W:World) (r r':Loop),w.heap.size<=l->I k M W->W.heap[l]? = some (.loop r)->I k M (W.putObj l (.loop r')))
  (hKo:∀ (l:Nat) (W:World) (r r':Loop),w.heap.size<=l->K W->W.heap[l]? = some (.loop r)->K (W.putObj l (.loop r')))
  (hIM:∀ k M A,I k M A->(∀ b,M b->b<A.heap.size)/\∀ (b:Nat) (o:Obj),w.heap.size<=b->A.heap[b]? = some o->Odd o->¬M b)
  (hcaps:CP M0 w caps lb) (h0:I 0 M0 w)
  (hround:∀ (l k m:Nat) (x:AV) (u:Value) (M:Nat->Prop) (W:World) (lr:Loop),w.heap.size<=l->I k M W->W.heap[l]? = some (.loop lr)->els[k]? = some x->PV M W x u ->
   assign.wpIn (FW (some l)) m P (Exit.then (λa1 W1=>(∀ (b:Nat) (o:Obj),W.heap[b]? = some o->Odd o->W1.heap[b]? = some o) /\
     body.wpIn (FW (some l)) m P (λe _ W'=>((∀ (b:Nat) (o:Obj),W.heap[b]? = some o->Odd o->b≠l->W'.heap[b]? = some o)/\W'.heap[l]? = some (.loop { lr with state:=.busy })) /\
      ((e = .normal/\∃ M',I (k+1) M' W'/\W.heap.size<=W'.heap.size/\∀ b,b<W.heap.size->¬M b->¬M' b/\(b≠l->W'.heap[b]? = W.heap[b]?))∨(e = .ret/\K W'))) a1 (W1.putObj l (.loop { lr with state:=.busy }))) (λ_ _ _=>False))
    { tmps:=a.tmps.setIfInBounds p u,defers:=[] } W)
  (hdone:∀ (D:Nat) (M:Nat->Prop) (W:World),w.heap.size<=D->I els.length M W->W.heap[D]? = some (.deferred (some []))->Q .normal { a with defers:=coll D::a.defers } W)
  (hstop:∀ (D:Nat) (W:World),w.heap.size<=D->K W->W.heap[D]? = some (.deferred (some []))->Q .ret { a with defers:=coll D::a.defers } W) :
  (Code.rangeFunc g #[p] assign body).wpIn (FW none) n P Q a w:=by
 refine wpIn_rangeFunc ?_;intro fn hfn;obtain ⟨rec,hrec⟩ : ∃ rec:LoopState->Option Code->Loop,rec=λst pe=>{ state:=st,pending:=pe,fn,tmps:=a.tmps,params:=#[p],assign,body,defers:=w.heap.size }:=⟨_,rfl⟩
 obtain ⟨W1,hW1⟩ : ∃ W1,(w.alloc (.deferred (some []))).alloc (.loop (rec .ready none))=W1:=⟨_,rfl⟩;have hE1:Ext w W1:=by rw[<- hW1];exact (Ext.refl w).al.al
 have hL1:W1.heap[w.heap.size+1]? = some (.loop (rec .ready none)):=by
  rw[<- hW1];have:=World.alloc_heap_new (w.alloc (.deferred (some []))) (.loop (rec .ready none));rwa [World.size_alloc]at this
 have hK1:W1.heap[w.heap.size]? = some (.deferred (some [])):=by
  rw[<- hW1];exact (Below.heap_alloc _ _ _ (by simp)).trans (World.alloc_heap_new w _)
 have hI1:I 0 M0 W1:=hIe _ _ _ _ h0 hE1;have hC1:CP M0 W1 caps lb:=⟨hcaps.1,λi x u hx hu=>(hcaps.2 i x u hx hu).mono (λb hb hM=>⟨hM,hE1.block b hb⟩) hE1.size⟩
 refine ⟨w.heap.size+1,[{ target:=.collected w.heap.size,args:=#[] }],W1,{ target:=.fn (.func gf) lb,args:=#[.func (.yield (w.heap.size+1)) #[] #[]] },W1,gf,
  #[.func (.yield (w.heap.size+1)) #[] #[]]++lb,W1,?_,?_,λ_ _=>trivial,?_,Z24,?_⟩
 . rw[<- hW1,hrec];exact run_enterLoop_outer _ _ _ _ _
 . simp only[resolve,hg];simp[go_sem]
 . simp[invoke,go_sem,Z1W hit.1]
 . have stay : ∀ {A B:World} {b:Nat} {o:Obj},Ext A B->A.heap[b]? = some o->B.heap[b]? = some o:=λh hb=>(h.block _ (W0c.1 hb).1).trans hb
   refine (hit.2 (n-1) (w.heap.size+1) lb
    (λk M W=>I k M W/\W.heap[w.heap.size+1]? = some (.loop (rec .ready none))/\W.heap[w.heap.size]? = some (.deferred (some [])))
    (λW=>K W/\W.heap[w.heap.size+1]? = some (.loop (rec .done (some .ret)))/\W.heap[w.heap.size]? = some (.deferred (some [])))
    M0 W1 (by omega) (λk M A B h e=>⟨hIe k M A B h.1 e,stay e h.2.1,stay e h.2.2⟩) (λA B h e=>⟨hKe A B h.1 e,stay e h.2.1,stay e h.2.2⟩) (λk M A h=>(hIM k M A h.1).1) hC1 ?_ ⟨hI1,hL1,hK1⟩).mono ?_
   . rintro k x u M W ⟨hi,hl,hk⟩ hr hus;have hls:w.heap.size+1<W.heap.size:=(W0c.1 hl).1;have hy:=run_yield (P:=P) (args:=#[u]) hl (by rw[hrec];rfl);rw[hrec]at hy
     have hfold:(#[p].zip #[u]).foldl (λt (x:Nat×Value)=>match x with|(p,v)=>t.setIfInBounds p v) a.tmps=a.tmps.setIfInBounds p u:=by
      rw[<- Array.foldl_toList,Array.toList_zip];rfl
     have hy:(Instr.yield (w.heap.size+1) #[u]).run P W = .ok (.round (w.heap.size+1) fn (a.tmps.setIfInBounds p u) assign body) W:=(by rw[<- hfold];exact hy);refine ⟨fn,_,assign,body,hy,roundIn_of_wpIn hfn (wpIn_mono (hround (w.heap.size+1) k _ x u M W _ (by omega) hi hl hr hus) ?_)⟩;rintro e a1 W2 hp
     cases e with
     | normal =>
       obtain ⟨hodd0,hp⟩:=hp;have hl2:=hodd0 _ _ hl trivial;have hk2:=hodd0 _ _ hk trivial;have hls2:w.heap.size+1<W2.heap.size:=(W0c.1 hl2).1;refine ⟨_,run_beginRound hl2 (by rw[hrec]),wpIn_mono hp ?_⟩;rintro e a3 W3 ⟨⟨hodd,hl3⟩,hp3⟩;have hd3:=hodd _ _ hk trivial (by omega);have hls3:=(W0c.1 hl3).1
       have fin:∀ jump:Option Code,(W3.putObj (w.heap.size+1) (.loop (rec (if jump.isNone then .ready else .done) jump))).heap[w.heap.size+1]? = some (.loop (rec (if jump.isNone then .ready else .done) jump)) /\
         (W3.putObj (w.heap.size+1) (.loop (rec (if jump.isNone then .ready else .done) jump))).heap[w.heap.size]? = some (.deferred (some [])):=λjump =>
        ⟨World.putObj_heap_same hls3,(World.putObj_heap_other (by omega)).trans hd3⟩
       rcases hp3 with ⟨rfl,M',hi3,hsz3,hs3⟩ | ⟨rfl,hk3⟩
       . have hr3:=run_endRound (P:=P) none hl3;have f1:=fin none;rw[hrec]at hr3 f1;refine ⟨_,_,hr3,.inl ⟨rfl,M',⟨hIo _ _ _ _ _ _ (by omega) hi3 hl3,?_,f1.2⟩,by simpa using hsz3,λb hb hM=>⟨(hs3 b hb hM).1,?_⟩⟩⟩
         . rw[hrec];exact f1.1
         . by_cases e:b=w.heap.size+1
           . subst e;rw[hl,hrec];exact f1.1
           . rw[World.putObj_heap_other e];exact (hs3 b hb hM).2 e
       . have hr3:=run_endRound (P:=P) (some .ret) hl3;have f1:=fin (some .ret);rw[hrec]at hr3 f1;refine ⟨_,_,hr3,.inr ⟨rfl,hKo _ _ _ _ (by omega) hk3 hl3,?_,f1.2⟩⟩;rw[hrec];exact f1.1
     |_=>exact hp.elim
   . rintro e W2 ⟨⟨v,rfl⟩,⟨M,hi,hl,hk⟩ | ⟨hi,hl,hk⟩⟩
     . exact ⟨none,_,by have:=run_endLoop (P:=P) hl (by rw[hrec];simp);rw[hrec]at this;exact this,hdone _ M _ (W0f _) (hIo _ _ _ _ _ _ (by omega) hi hl) ((World.putObj_heap_other (by omega)).trans hk)⟩
     . exact ⟨some .ret,_,by have:=run_endLoop (P:=P) hl (by rw[hrec];simp);rw[hrec]at this;exact this,wpIn_ret (hstop _ _ (W0f _) (hKo _ _ _ _ (by omega) hi hl) ((World.putObj_heap_other (by omega)).trans hk))⟩
section
variable {P:Program} {R:Run} {st:St} {a:Act} {W:World} {κ:Nat->Option (Nat×Nat)}
def SK.both {W0:World} (hR:R.W0=W0) (h:SK R st a W κ) {l:Nat} {r r0:Loop} {o':Obj} (hl:W.heap[l]? = some (.loop r)) (hl0:W0.heap[l]? = some (.loop r0)):SK { R with W0:=W0.putObj l o' } st a (W.putObj l o') κ:=by
 subst hR;have hd:Dfr W (W.putObj l o'):=.put hl trivial;have hlt:l<W.heap.size:=(W0c.1 hl).1;have hlt0:l<R.W0.heap.size:=(W0c.1 hl0).1
 have same:∀ b,(W.heap[b]? = R.W0.heap[b]? ∨ b=l)->(W.putObj l o').heap[b]? = (R.W0.putObj l o').heap[b]?:=λb hb=>by
  by_cases e:b=l
  . subst e;rw[World.putObj_heap_same hlt,World.putObj_heap_same hlt0]
  . rw[World.putObj_heap_other e,World.putObj_heap_other e];exact hb.resolve_right e
 refine ⟨?_,h.size,λn x hx=>(h.tm n x hx).dfr hd,λk o hk=>?_,h.dom,h.inj,λb hb=>by simpa using h.low b hb,h.apart,?_,λg cs hg=>(h.gr g cs hg).dfr hd,?_,h.ent⟩
 . obtain ⟨cs,e,nd,hc,hz⟩:=h.defers;refine ⟨cs,e,nd,λc hm=>⟨by simpa using (hc c hm).1,?_⟩,hz⟩;rw[World.putObj_heap_other (by rintro rfl;have:=(hc _ hm).2;rw[hl]at this;cases this)];exact (hc c hm).2
 . obtain ⟨b,s,h1,h2,h3,h4⟩:=h.obj k o hk;refine ⟨b,s,h1,by simpa using h2,by simpa using h3,?_⟩
   cases o with
   | box cells =>
     obtain ⟨h0,cs,t,h5,h6,h7⟩:=h4;exact ⟨h0,cs,t,hd.same h5 (λe=>e),h6,λj x hj=>(h7 j x hj).imp λv hv=>⟨hv.1,hv.2.dfr hd⟩⟩
   | row sz rows =>
     obtain ⟨h0,cs,t,h5,h6,h7⟩:=h4;exact ⟨h0,cs,t,hd.same h5 (λe=>e),h6,λi j r x hi hj=>(h7 i j r x hi hj).imp λv hv=>⟨hv.1,hv.2.dfr hd⟩⟩
   | mp kvs =>
     obtain ⟨h0,es,t,h5,h6,h7,h8⟩:=h4;exact ⟨h0,es,t,hd.same h5 (λe=>e),h6,h7,λi x y hi=>(h8 i x y hi).imp λe he=>⟨he.1,he.2.1.dfr hd,he.2.2.dfr hd⟩⟩
 . exact ⟨h.kp.os,h.kp.tape,h.kp.output,by simpa using h.kp.size,λi hi hx=>same i (.inl (h.kp.block i (by simpa using hi) hx))⟩
 . refine ⟨by simpa using h.mono.size,λb hb hM=>⟨(h.mono.imm b (by simpa using hb) hM).1,same b (.inl (h.mono.imm b (by simpa using hb) hM).2)⟩,h.mono.box,λk sz m hk=>?_⟩;obtain ⟨m',g1,g2,g3⟩:=h.mono.row k sz m hk;refine ⟨m',g1,g2,λe b s cs t hl=>⟨(g3 e b s cs t hl).1,λhw=>?_⟩⟩
   have hne:b≠l∨∃ cs' t',o' = .cells cs' t' (0,0):=by
    by_cases e:b=l
    . subst e;have hw:(R.W0.putObj b o').heap[b]? = _:=hw;rw[World.putObj_heap_same hlt0]at hw;exact .inr ⟨_,_,W1G hw⟩
    . exact .inl e
   by_cases e:b=l
   . subst e;have hw:(R.W0.putObj b o').heap[b]? = _:=hw;rw[World.putObj_heap_same hlt0]at hw;exact ⟨cs,(World.putObj_heap_same hlt).trans hw,rfl⟩
   . have hw:(R.W0.putObj l o').heap[b]? = _:=hw;rw[World.putObj_heap_other e]at hw;obtain ⟨cs',g4,g5⟩:=(g3 (by assumption) b s cs t (by assumption)).2 hw;exact ⟨cs',hd.same g4 (λe=>e),g5⟩
def SK.keepOdd (h:SK R st a W κ) (hX:∀ b,R.X b->∀ o,R.W0.heap[b]? = some o->¬Odd o) {b:Nat} {o:Obj} (hb:R.W0.heap[b]? = some o) (ho:Odd o):W.heap[b]? = some o :=
 (h.kp.block b (W0c.1 hb).1 λhx=>hX b hx o hb ho).trans hb
def SK.notOdd (h:SK R st a W κ) {k b s:Nat} (hk:κ k=some (b,s)) {o:Obj} (hb:W.heap[b]? = some o):¬Odd o:=by
 intro hodd;obtain ⟨ob,h2⟩:=h.dom _ _ hk;obtain ⟨b',s',h3,h4,h5,h6⟩:=h.obj _ _ h2;rw[hk]at h3;simp only[W00,W06]at h3;obtain ⟨rfl,rfl⟩:=h3
 cases ob with
 |box cells=>obtain ⟨-,cs,t,q,-⟩:=h6;rw[q]at hb;cases hb;exact hodd
 |row sz rows=>obtain ⟨-,cs,t,q,-⟩:=h6;rw[q]at hb;cases hb;exact hodd
 |mp kvs=>obtain ⟨-,cs,t,q,-⟩:=h6;rw[q]at hb;cases hb;exact hodd
def Z59 {cs cs':List Nat} (h:cs.map coll=cs'.map coll):cs=cs':=by
 induction cs generalizing cs' with
 |nil=>cases cs' <;> simp_all
 | cons c cs ih=>cases cs' with
   |nil=>simp at h
   | cons c' cs' =>
     simp only[W0F,W24]at h;obtain ⟨h1,h2⟩:=h;simp only[coll,Deferred.mk.injEq,Target.collected.injEq,and_true]at h1;rw[h1,ih h2]
def RndB (ok:List (Nat×AObj)->Prop) (ret:List (Nat×AObj)->Prop):Exit->St->Prop
 |.normal,s=>ok (Yi newK s).o
 |.ret,s=>ret (Yi newK s).o
 |_,_=>False
def Z5a {g:RA} {p gf:Nat} {assign body:RCode} {Φ:Exit->St->Prop} {caps els:List AV} (hrd:R.Top) (hit:IterP P gf caps els) (hg:evA R.G st g = .func (.func gf) [] caps) (hp:caps.all AV.pure=true)
  (ρ:Nat->Nat) (t0:List (Nat×AV)) (objs:Nat->List (Nat×AObj)) (keys:List Nat) (Iv:Nat->Prop) (hI0:Iv 0) (hkeys:∀ k,(objs k).map (·.1)=keys) (hK:∀ k∈keys,1000<=k) (hinj:(keys.map ρ).Nodup)
  (h0:Yl ρ (objs 0) st=st) (hin:∀ k,∀ q∈objs k,Yc (objs k) q.2=true)
  (ht0:∀ q∈t0,lk st.t q.1=some (q.2.ren ρ)/\q.1≠p/\∀ k∈q.2.keys,k∈keys)
  (hround:∀ (k:Nat) (x:AV),els[k]? = some x->Iv k->∀ R':Run,R'.G=R.G->R'.N=R.N->AR P R' assign ⟨(p,x)::t0,objs k⟩ λe s1=>e = .normal/\∀ R'':Run,R''.G=R.G->R''.N=R.N ->
   AR P R'' body s1 (RndB (λo=>o=objs (k+1)/\Iv (k+1)) λo=>o.map (·.1)=keys/\Φ .ret (Yl ρ o st)))
  (hdone:Iv els.length->Φ .normal (Yl ρ (objs els.length) st)):AR P R (.rngf g [p] assign body) st Φ:=by
 intro c hc m a W hs
 cases c <;> simp only[Z1A,W05,W01,W0A]at hc
 rename_i g' ps' ca cb;obtain ⟨⟨⟨⟨hcg,hps⟩,hpn⟩,hca⟩,hcb⟩:=hc;have hpn:p<R.N:=(by simpa using hpn);obtain rfl:ps' = #[p]:=(by rw[<- W16];exact hps);rw[hrd.1];refine wpFW.2 ((wpFW (n:=3)).1 ?_);obtain ⟨κ0,hs⟩:=hs;obtain ⟨S,hS⟩ : ∃ S:Nat->St,S=λk=>Yl ρ (objs k) st:=⟨_,rfl⟩
 have hSt:∀ k,(S k).t=st.t:=λk=>by rw[hS];exact Z53 ρ _ _
 have nod:∀ {o:List (Nat×AObj)},o.map (·.1)=keys->(o.map λp=>ρ p.1).Nodup:=λ{o} ho=>by
  have:o.map (λp=>ρ p.1)=(o.map (·.1)).map ρ:=(by simp[W10,W0y]);rw[this,ho];exact hinj
 have isk:∀ {o:List (Nat×AObj)},o.map (·.1)=keys->∀ k,isK o k=true↔k∈keys:=λ{o} ho k=>by rw[isK,Z56,ho]
 have hevg:∀ k,evA R.G (S k) g = .func (.func gf) [] caps:=λk=>by
  rw[<- hg]
  cases g <;> simp only[evA,St.tmp,hSt]
 have hv0:=hs.ev hcg;rw[hg]at hv0;obtain ⟨us0,lb,hav,hus0,hlb0⟩:=hv0.func_inv
 obtain rfl:us0 = #[]:=by
  have:=hus0.1;rw[<- W16];exact W0l.1 (by simpa using this)
 have hcaps:∀ k W κ,SK R (S k) a W κ->CP ((S k).env R.M κ).M W caps lb:=λk W κ h=>by
  have h1:=h.ev hcg;rw[hevg,hav]at h1;obtain ⟨us1,lb1,h2,-,h3⟩:=h1.func_inv;simp only[Value.func.injEq]at h2;obtain ⟨-,-,rfl⟩:=h2;exact ⟨by simpa using h3.1,λi x u hx hu=>(h3.2 i x u hx (by simpa using hu)).toPV (W03.1 hp x (W0d hx))⟩
 obtain ⟨cs0,e0,nd0,hc0,-⟩:=hs.defers
 have marks:∀ (D:Nat) (st1:St) (W1:World) (κ1:Nat->Option (Nat×Nat)),W.heap.size<=D->SK R st1 a W1 κ1->W1.heap[D]? = some (.deferred (some []))->SK R st1 { a with defers:=coll D::a.defers } W1 κ1:=λD st1 W1 κ1 hD h hd=>by
  obtain ⟨cs1,e1,nd1,hc1,-⟩:=h.defers;obtain rfl:cs1=cs0:=Z59 (List.append_cancel_right (e1.symm.trans e0));refine h.odd ⟨rfl,λb=>.inl rfl⟩ rfl rfl rfl (λb _=>rfl) rfl ⟨D::cs1,by simp[e1],W1v.2 ⟨λhm=>?_,nd1⟩,λc hm=>?_,λe=>by rw[hrd.2]at e;cases e⟩
  . have:=(W0c.1 (hc0 D hm).2).1;omega
  . rcases W0g.1 hm with rfl|hm
    . exact ⟨W0O hs.kp.size hD,hd⟩
    . exact hc1 c hm
 have put:∀ (l:Nat) (st1:St) (W1:World) (κ1:Nat->Option (Nat×Nat)) (r r':Loop),W.heap.size<=l->SK R st1 a W1 κ1->W1.heap[l]? = some (.loop r)->SK R st1 a (W1.putObj l (.loop r')) κ1:=λl st1 W1 κ1 r r' hl h hr=>by
  obtain ⟨cs1,e1,nd1,hc1,hz1⟩:=h.defers;have:=hs.kp.size;refine h.odd (.put hr trivial) rfl rfl rfl (λb hb=>World.putObj_heap_other (by omega)) rfl ⟨cs1,e1,nd1,λc hm=>⟨(hc1 c hm).1,?_⟩,hz1⟩;rw[World.putObj_heap_other (by rintro rfl;have:=(hc1 _ hm).2;rw[hr]at this;cases this)];exact (hc1 c hm).2
 have hs0:SK R (S 0) a W κ0:=by rw[hS];show SK R (Yl ρ (objs 0) st) a W κ0;rw[h0];exact hs
 refine Z58 (I:=λk M W'=>∃ κ,(M=((S k).env R.M κ).M/\Iv k)/\SK R (S k) a W' κ) (K:=λW'=>∃ s κ,Φ .ret s/\SK R s a W' κ) (M0:=((S 0).env R.M κ0).M) (caps:=caps) (els:=els) hav hit (by omega) (λk M A B h e=>h.imp λκ h=>⟨h.1,h.2.grow e⟩) (λA B ⟨s,κ,h1,h2⟩ e=>⟨s,κ,h1,h2.grow e⟩)
  (λk l M W' r r' hl ⟨κ,hM,h⟩ hr=>⟨κ,hM,put l _ _ _ r r' hl h hr⟩) (λl W' r r' hl ⟨s,κ,h1,h⟩ hr=>⟨s,κ,h1,put l _ _ _ r r' hl h hr⟩) (λk M A ⟨κ,⟨hM,_⟩,h⟩=>?_) (hcaps 0 W κ0 hs0) ⟨κ0,⟨rfl,hI0⟩,hs0⟩ ?_ ?_ ?_
 . subst hM;refine ⟨λb hb=>h.owned_lt hb,λb o hb ho hodd hM=>?_⟩;rcases hM with hM | ⟨q,s,hq⟩
   . have:=h.low b hM;have:=hs.kp.size;omega
   . exact h.notOdd hq ho hodd
 . intro l k m x u M W1 lr hl hI hlr hx hxu;obtain ⟨κ,⟨rfl,hIk⟩,h⟩:=hI;have hkk:∀ q,isK (objs k) q=true->q∈keys:=λq hq=>(isk (hkeys k) q).1 hq
   have enterAt:∀ W',SK R (S k) a W' κ->SK (rC (objs k) ρ R (S k) κ W') (obSt (objs k)) noAct W' (kC (objs k) ρ κ)/\∀ (x:AV) (v:Value),inK (objs k) x->VR ((S k).env R.M κ) W' (x.ren ρ) v->VR ((obSt (objs k)).env (mC (objs k) ρ R (S k) κ) (kC (objs k) ρ κ)) W' x v:=λW' h =>
    Z50 h (λq hq=>hK q (hkk q hq)) (λq q' h1 h2 e=>Z57 hinj (hkk q h1) (hkk q' h2) e) (λq o hq=>by rw[hS];exact Z55 ρ _ _ q o (nod (hkeys k)) hq)
     (λq o hq=>by
      have h2:=hin k (q,o) (Z4J hq);have kept:∀ x,Ya (objs k) x=true->inK (objs k) x:=λx hx k' hk'=>W03.1 hx k' hk'
      cases o with
      |box cells=>exact λx hx=>kept x (W03.1 h2 x hx)
      |row sz rows=>exact λr hr x hx=>kept x (W03.1 (W03.1 h2 r hr) x hx)
      | mp kvs =>
        intro p hp;have:=W03.1 h2 p hp;simp only[W01]at this;exact ⟨kept _ this.1,kept _ this.2⟩)
   obtain ⟨h1,conv⟩:=enterAt W1 h
   have hXo:∀ W',SK R (S k) a W' κ->∀ b,(rC (objs k) ρ R (S k) κ W').X b->∀ o,W'.heap[b]? = some o->¬Odd o:=λW' h b ⟨q,s,hq⟩ o ho hodd=>by
    simp only[kC]at hq
    split at hq
    . exact h.notOdd hq ho hodd
    . cases hq
   have hMM:∀ b,((obSt (objs k)).env (mC (objs k) ρ R (S k) κ) (kC (objs k) ρ κ)).M b->((S k).env R.M κ).M b:=λb hb=>by
    rcases hb with hb | ⟨q,s,hq⟩
    . exact hb.1
    . simp only[kC]at hq
      split at hq
      . exact .inr ⟨ρ q,s,hq⟩
      . cases hq
   let R1:Run:={ rC (objs k) ρ R (S k) κ W1 with N:=R.N,rd:=some l }
   have hN:R.N=a.tmps.size:=h.size.symm
   have start:SK R1 ⟨(p,x)::t0,objs k⟩ { tmps:=a.tmps.setIfInBounds p u,defers:=[] } W1 (kC (objs k) ρ κ):=by
    refine ⟨.nil _ _ _ _,by show (a.tmps.setIfInBounds p u).size=R.N;simp[hN],λn y hy=>?_,h1.obj,h1.dom,h1.inj,h1.low,h1.apart,h1.kp,h1.gr,h1.mono,h1.ent⟩;have hy:lk ((p,x)::t0) n=some y:=hy;show VR ((obSt (objs k)).env (mC (objs k) ρ R (S k) κ) (kC (objs k) ρ κ)) W1 y ((a.tmps.setIfInBounds p u).getD n Go.undef);simp only[lk]at hy
    split at hy
    . rename_i e;subst e;obtain rfl:x=y:=(by simpa using hy);have hlt:p<a.tmps.size:=(by rw[<- hN];exact hpn);have e:(a.tmps.setIfInBounds p u).getD p Go.undef=u:=(by simp[Array.getD,hlt]);rw[e];exact .pv (hxu.mono (λb _ hb=>⟨λhb'=>hb (hMM b hb'),rfl⟩) (W0f _))
    . rename_i e
      have e2:(a.tmps.setIfInBounds p u).getD n Go.undef=a.tmps.getD n Go.undef:=by
       simp only[W0a,W0p,if_neg e]
      rw[e2];obtain ⟨g1,g2,g3⟩:=ht0 (n,y) (Z4J hy);have g4:=h.tm n (y.ren ρ) (by show lk (S k).t n=_;rw[hSt];exact g1);exact conv y _ (λq hq=>(isk (hkeys k) q).2 (g3 q hq)) g4
   refine wpIn_mono (hround k x hx hIk R1 rfl rfl ca hca m _ W1 ⟨_,start⟩) ?_;rintro e a1 W2 ⟨s1,⟨rfl,hbody⟩,κ1,h2⟩;refine ⟨λb o hb ho=>h2.keepOdd (hXo W1 h) hb ho,?_⟩;have hl2:W2.heap[l]? = some (.loop lr):=h2.keepOdd (hXo W1 h) hlr trivial;have h3:=SK.both rfl h2 (o':=.loop { lr with state:=.busy }) hl2 hlr;have hb:=put l _ W1 κ lr { lr with state:=.busy } hl h hlr;refine wpIn_mono (hbody { R1 with W0:=W1.putObj l (.loop { lr with state:=.busy }) } rfl rfl cb hcb m _ _ ⟨_,h3⟩) ?_;rintro e a2 W3 ⟨s2,hrnd,hs2⟩
   have hodd:∀ κ2,SK { R1 with W0:=W1.putObj l (.loop { lr with state:=.busy }) } s2 a2 W3 κ2->(∀ (b:Nat) (o:Obj),W1.heap[b]? = some o->Odd o->b≠l->W3.heap[b]? = some o)/\W3.heap[l]? = some (.loop { lr with state:=.busy }):=λκ2 h4 =>
    ⟨λb o hb1 ho hne=>h4.keepOdd (hXo _ hb) ((World.putObj_heap_other hne).trans hb1) ho,
     h4.keepOdd (hXo _ hb) (o:=.loop { lr with state:=.busy }) (World.putObj_heap_same (W0c.1 hlr).1) trivial⟩
   have leave:∀ o':List (Nat×AObj),o'.map (·.1)=keys->(Yi newK s2).o=o'->∃ κ3,SK R (Yl ρ o' st) a W3 κ3/\Mono ((S k).env R.M κ) (W1.putObj l (.loop { lr with state:=.busy })) ((Yl ρ o' st).env R.M κ3) W3:=λo' hk' he=>by
    obtain ⟨κ2,h4⟩:=Ym.frz newK s2 (λk hk=>by simp[newK];omega) _ a2 W3 hs2;have g:=h4.sub (t':=[]) (λn x hx=>by simp[lk]at hx);have e:({ Yi newK s2 with t:=[] }:St)=obSt o':=(by subst he;rfl);rw[e]at g
    have g2:SK (rC (objs k) ρ R (S k) κ (W1.putObj l (.loop { lr with state:=.busy }))) (obSt o') noAct W3 κ2 :=
     ⟨.nil _ _ _ _,rfl,λn x hx=>by simp[obSt,St.tmp,lk]at hx,g.obj,g.dom,g.inj,g.low,g.apart,g.kp,g.gr,g.mono,g.ent⟩
    obtain ⟨κ3,h5,h6,-⟩:=Z51 hb (st1:=Yl ρ o' st) (λq q' h1 h2 e=>Z57 hinj (hkk q h1) (hkk q' h2) e) (λq o hq=>by rw[hS];exact Z55 ρ _ _ q o (nod (hkeys k)) hq)
     (λq=>by
      have h1:=isk hk' q;have h2:=isk (hkeys k) q
      cases e1:isK o' q <;> cases e2:isK (objs k) q <;> simp_all) g2 ((Z53 ρ _ _).trans (hSt k).symm) (λq o hq=>Z55 ρ _ _ q o (nod hk') hq)
     (λj hj=>by
      have out:∀ {o:List (Nat×AObj)},o.map (·.1)=keys->(Yl ρ o st).get j=st.get j:=λ{o} ho=>Z54 ρ j _ _ λq hq=>hj q.1 ((isk (hkeys k) q.1).2 (by rw[<- ho];exact W0i.2 ⟨q,hq,rfl⟩))
      rw[hS];exact (out hk').trans (out (hkeys k)).symm)
    exact ⟨κ3,h5,h6⟩
   obtain ⟨κ2,h4⟩:=id hs2;refine ⟨hodd κ2 h4,?_⟩
   cases e with
   | normal =>
     obtain ⟨κ3,h5,h6⟩:=leave (objs (k+1)) (hkeys _) hrnd.1;refine .inl ⟨rfl,_,⟨κ3,⟨rfl,hrnd.2⟩,by rw[hS];exact h5⟩,by have:=h6.size;simpa using this,λb hb1 hM=>?_⟩;obtain ⟨g1,g2⟩:=h6.imm b (by simpa using hb1) hM;exact ⟨by rw[hS];exact g1,λhne=>g2.trans (World.putObj_heap_other hne)⟩
   | ret =>
     obtain ⟨hk',hΦ⟩:=hrnd;obtain ⟨κ3,h5,-⟩:=leave _ hk' rfl;exact .inr ⟨rfl,_,κ3,hΦ,h5⟩
   |_=>exact hrnd.elim
 . rintro D M W1 hD ⟨κ,⟨-,hIk⟩,h⟩ hd;refine ⟨_,?_,κ,marks D _ _ _ hD h hd⟩;rw[hS];exact hdone hIk
 . rintro D W1 hD ⟨s,κ,h1,h⟩ hd;exact ⟨s,h1,κ,marks D _ _ _ hD h hd⟩
end
def isO (o:Oper) (d:Nat) (f:Op->Bool):Bool:=decide (o.dst=some d)&&o.guard.isNone&&f o.op
def tmpB (n:Nat):Operand->Bool
 |.tmp m=>m == n
 |_=>false
def Z5b:RCode:=.seq (.reg 39 false [{ d:=some 2,op:=.mov (.c .nilp) },{ d:=some 3,op:=.mov (.c (.int .i64 20)) }]) .ret
def opnR (P:Program) (N:Nat):Code->Bool
 | .seq (.region _ ops1 false) (.block b1 (.loop (.seq (.region _ ops2 false) (.seq (.cond t1 .skip (.exit b2)) (.block _ (.seq (.region _ ops3 false) (.seq (.region _ ops4 false) (.cond t2 c5 .skip)))))))) =>
   b1 == b2&&tmpB 116 t1&&tmpB 120 t2&&decide (120<N)&&Z1A P N c5 Z5b&&(match ops1.toList,ops2.toList,ops3.toList,ops4.toList with
   | [o1,o2],[o3,o4],[o5,o6,o7],[o8,o9] =>
     isO o1 113 (λo=>match o with | .move x | .assign x=>tmpB 12 x|_=>false)&&isO o2 114 (λo=>match o with | .range t x=>tmpB 113 x&&(match P.underlying t with|some (.map ..)=>true|_=>false)|_=>false) &&
     isO o3 115 (λo=>match o with | .next x false=>tmpB 114 x|_=>false)&&isO o4 116 (λo=>match o with | .extract x 0=>tmpB 115 x|_=>false) &&
     isO o5 117 (λo=>match o with | .entry x=>tmpB 114 x|_=>false)&&isO o6 118 (λo=>match o with | .extract x 1=>tmpB 117 x|_=>false)&&isO o7 15 (λo=>match o with | .move x | .assign x=>tmpB 118 x|_=>false) &&
     isO o8 119 (λo=>match o with | .move x | .assign x=>tmpB 15 x|_=>false)&&isO o9 120 (λo=>match o with | .binOp .gtr t x (.const (.int .i64 6)) _=>tmpB 119 x&&Za P t|_=>false)
   |_,_,_,_=>false)
 |_=>false
def opnT:List Nat:=[15,113,114,115,116,117,118,119,120]
section
variable {P:Program} {R:Run} {st:St} {a:Act} {W:World} {κ:Nat->Option (Nat×Nat)}
def SK.retmp (h:SK R st a W κ) {a':Act} (hs:a'.tmps.size=a.tmps.size) (hd:a'.defers=a.defers) (ht:∀ n x,st.tmp n=some x->a'.tmps.getD n Go.undef=a.tmps.getD n Go.undef):SK R st a' W κ :=
 ⟨by rw[hd];exact h.defers,hs.trans h.size,λn x hx=>by rw[ht n x hx];exact h.tm n x hx,h.obj,h.dom,h.inj,h.low,h.apart,h.kp,h.gr,h.mono,h.ent⟩
def Z5c {a:Act} {d n:Nat} {v:Value} (hd:d<a.tmps.size):(a.put (some d) v).tmps.getD n Go.undef=if d=n then v else a.tmps.getD n Go.undef:=by
 show (a.tmps.setIfInBounds d v).getD n Go.undef=_;by_cases e:d=n
 . subst e;simp[Array.getD,hd]
 . simp only[W0a,W0p,if_neg e]
def Z5d {a:Act} {d:Nat} {v:Value}:(a.put (some d) v).tmps.size=a.tmps.size:=by simp[Act.put]
def Z5e {rd:Option Nat} {m:Nat} {ops:Array Oper} {j d:Nat} {o:Oper} {f:Op->Bool} {K:Act->World->Prop} {Q:Exit->Act->World->Prop} {v:Value} {W':World} (ho:ops[j]? = some o) (hk:isO o d f=true) (hnd:∀ c,o.op≠.defer c)
  (hr:(execOp a.eval o).run P W = .ok (.value v) W') (hK:K (a.put (some d) v) W'):wpOpIn (FW rd) m P ops Q j K a W:=by
 simp only[isO,W01,W0b,Option.isNone_iff_eq_none]at hk;unfold wpOpIn;simp only[ho];have hw:Region.wanted o (yielded ops a.tmps)=true:=(by unfold Region.wanted;rw[hk.1.2]);rw[if_pos hw];refine ⟨λ_ _=>trivial,?_⟩;rw[Oper.semAt_eq _ _ _ hnd,hr];show K (a.put o.dst v) W';rw[hk.1.1];exact hK
def Z5f {n:Nat} {x:Operand} (h:tmpB n x=true):x = .tmp n:=by
 cases x <;> simp[tmpB]at h
 rw[h]
def Z5g (a:Act) (n:Nat):a.eval (.tmp n)=a.tmps.getD n Go.undef:=rfl
def Z5h {o:Oper} {d:Nat} {f:Op->Bool} (h:isO o d f=true):f o.op=true:=by
 simp only[isO,W01]at h;exact h.2
def KeptT (a a':Act):Prop:=a'.tmps.size=a.tmps.size/\a'.defers=a.defers/\∀ n,n ∉ opnT->a'.tmps.getD n Go.undef=a.tmps.getD n Go.undef
def KeptT.put {a a':Act} (h:KeptT a a') {d:Nat} (hd:d∈opnT) (v:Value):KeptT a (a'.put (some d) v):=by
 refine ⟨Z5d.trans h.1,h.2.1,λn hn=>?_⟩;rw[<- h.2.2 n hn];show (a'.tmps.setIfInBounds d v).getD n Go.undef=_;have e:d≠n:=(by rintro rfl;exact hn hd);simp only[W0a,W0p,if_neg e]
def SK.iter (h:SK R st a W κ) {r bm since c c':Nat} {seen seen':Array Nat} (hr:W.heap[r]? = some (.mapIter (some bm) since seen c)) (hr0:R.W0.heap.size<=r):SK R st a (W.putObj r (.mapIter (some bm) since seen' c')) κ:=by
 refine h.odd (.put hr trivial) rfl rfl rfl (λb hb=>World.putObj_heap_other (by omega)) rfl (h.defers.of λx hx=>?_);rw[World.putObj_heap_other (by rintro rfl;rw[hr]at hx;cases hx)];exact hx
set_option maxRecDepth 4000 in
def Z5i {Φ:Exit->St->Prop} {kvs:List (Int×Int)} (h12:st.tmp 12=some (.vmap (kvs.map λp=>(.int .i64 p.1,.int .i64 p.2)))) (hfree:∀ n∈opnT,st.tmp n=none)
  (hok:(∀ p∈kvs,p.2<=6)->Φ .normal st) (hbad:(∃ p∈kvs,6<p.2)->AR P R Z5b st λe s=>e = .ret/\Φ .ret s):AR P R (.raw (opnR P)) st Φ:=by
 intro c hc m a W hs;have hc:opnR P R.N c=true:=(by cases c <;> exact hc);unfold opnR at hc
 split at hc <;> try (simp at hc;done)
 rename_i i1 ops1 b1 i2 ops2 t1 b2 b3 i3 ops3 i4 ops4 t2 c5 hcS;simp only[W01,W0A,W0b]at hc;obtain ⟨⟨⟨⟨⟨rfl,ht1⟩,ht2⟩,hN⟩,hc5⟩,hc⟩:=hc;obtain rfl:=Z5f ht1;obtain rfl:=Z5f ht2
 split at hc <;> try (simp at hc;done)
 rename_i o1 o2 o3 o4 o5 o6 o7 o8 o9 e1 e2 e3 e4;obtain rfl:ops1 = #[o1,o2]:=(by rw[<- W16];exact e1);obtain rfl:ops2 = #[o3,o4]:=(by rw[<- W16];exact e2);obtain rfl:ops3 = #[o5,o6,o7]:=(by rw[<- W16];exact e3);obtain rfl:ops4 = #[o8,o9]:=(by rw[<- W16];exact e4);simp only[W01]at hc;obtain ⟨⟨⟨⟨⟨⟨⟨⟨k1,k2⟩,k3⟩,k4⟩,k5⟩,k6⟩,k7⟩,k8⟩,k9⟩:=hc;obtain ⟨κ,hk⟩:=hs;have hsz:a.tmps.size=R.N:=hk.size;have hv:=hk.tm 12 _ h12
 obtain ⟨b,es,clock,hmap,ho,hst,hn,hvals⟩ : ∃ b es clock,a.tmps.getD 12 Go.undef = .map (some b)/\W.heap[b]? = some (.map es clock)/\MapKept.Stamped es clock/\es.size=kvs.length/\∀ (i:Nat) (p:Int×Int) (e:MapEntry),kvs[i]? = some p->es[i]? = some e->e.val = .int .i64 p.2:=by
  generalize hvv:a.tmps.getD 12 Go.undef=v at hv
  cases hv with
  | pv hv =>
    cases hv with
    | vmap _ b es clock hb hM ho hs hn hk' hv' =>
      refine ⟨b,es,clock,rfl,ho,hs,by simpa using hn,λi p e hi he=>?_⟩;have:=hv' i (.int .i64 p.1) (.int .i64 p.2) e (by rw[W09,hi];rfl) he;generalize e.val=w at this
      cases this;rfl
 have hval:∀ e∈es.toList,∃ p∈kvs,e.val = .int .i64 p.2:=λe he=>by
  obtain ⟨i,hi,rfl⟩:=W0k he;simp only[W1S]at hi;have hi2:i<kvs.length:=(by omega);exact ⟨kvs[i],W0e _,hvals i _ _ (W07 hi2) (by simp[hi])⟩
 have hval2:∀ p∈kvs,∃ e∈es.toList,e.val = .int .i64 p.2:=λp hp=>by
  obtain ⟨i,hi,rfl⟩:=W0k hp;have hi2:i<es.size:=(by omega);exact ⟨es[i],by simp,hvals i _ _ (W07 hi) (by simp[hi2])⟩
 have e1o:=Z5h k1;have e2o:=Z5h k2
 have run1:(execOp a.eval o1).run P W = .ok (.value (.map (some b))) W:=by
  split at e1o <;> try (simp at e1o;done)
  all_goals
   rename_i x hx;obtain rfl:=Z5f e1o;simp only[execOp,hx,Sem.run_bind,Sem.run_pure,Result.andThen_ok,Z5g,hmap]
 have nd1:∀ c,o1.op≠.defer c:=λc e=>by rw[e]at e1o;simp at e1o
 have nd2:∀ c,o2.op≠.defer c:=λc e=>by rw[e]at e2o;simp at e2o
 refine wpIn_seq (wpIn_region ?_);show wpOpsIn (FW R.rd) m P #[o1,o2] _ [0,1] a W;rw[wpOpsIn_cons];refine Z5e rfl k1 nd1 run1 ?_;rw[wpOpsIn_cons]
 have run2:∃ W1,W1=W.alloc (.mapIter (some b) clock #[] clock)/\(execOp (a.put (some 113) (.map (some b))).eval o2).run P W = .ok (.value (.pointer (some ⟨W.heap.size,0,none⟩))) W1:=by
  split at e2o <;> try (simp at e2o;done)
  rename_i t x hx;simp only[W01]at e2o;obtain rfl:=Z5f e2o.1;have e2p:=e2o.2
  split at e2p <;> try (simp at e2p;done)
  rename_i kt et hu;refine ⟨_,rfl,?_⟩;have hr:=run_range_map (P:=P) W t kt et b es clock hu ho;simp only[execOp,hx,Sem.run_bind,Z5g,Z5c (show 113<a.tmps.size by omega),if_true,hr,Result.andThen_ok,Sem.run_pure]
 obtain ⟨W1,hW1,run2⟩:=run2;refine Z5e rfl k2 nd2 run2 ?_;have hbW:b<W.heap.size:=(W0c.1 ho).1;have hk1:SK R st a W1 κ:=(by rw[hW1];exact hk.grow (Ext.al (Ext.refl W)));have ho1:W1.heap[b]? = some (.map es clock):=(by rw[hW1];exact (heap_alloc_old W _ hbW).trans ho);have hr1:W1.heap[W.heap.size]? = some (.mapIter (some b) clock #[] clock):=(by rw[hW1];exact heap_alloc_new W _);have hr0:R.W0.heap.size<=W.heap.size:=hk.kp.size;obtain ⟨r,hr⟩:=Qex W.heap.size;rw[<- hr]at hr1 hr0;have hK0:KeptT a ((a.put (some 113) (.map (some b))).put (some 114) (.pointer (some ⟨W.heap.size,0,none⟩))):=.put (.put ⟨rfl,rfl,λ_ _=>rfl⟩ (by decide) _) (by decide) _
 have hp0:((a.put (some 113) (.map (some b))).put (some 114) (.pointer (some ⟨W.heap.size,0,none⟩))).tmps.getD 114 Go.undef = .pointer (some ⟨r,0,none⟩):=by
  rw[Z5c (by rw[Z5d];omega),hr];rfl
 generalize (a.put (some 113) (.map (some b))).put (some 114) (.pointer (some ⟨W.heap.size,0,none⟩))=a1 at hK0 hp0 ⊢;have hne:∀ {n:Nat} {x:AV},st.tmp n=some x->n ∉ opnT:=λhx hn=>by rw[hfree _ hn]at hx;cases hx
 have back:∀ {a':Act} {W':World},KeptT a a'->SK R st a W' κ->SK R st a' W' κ:=λhK h=>h.retmp hK.1 hK.2.1 λn x hx=>hK.2.2 n (hne hx)
 have hsz':∀ {a':Act},KeptT a a'->a'.tmps.size=R.N:=λhK=>hK.1.trans hsz
 show (Code.block _ _).wpIn _ _ _ _ _ _
 refine wpIn_block (wpIn_loop_ghost (λn a' W'=>∃ seen c0,n=(leftOf es seen).size/\KeptT a a'/\a'.tmps.getD 114 Go.undef = .pointer (some ⟨r,0,none⟩)/\SK R st a W' κ /\
  W'.heap[r]? = some (.mapIter (some b) clock seen c0)/\W'.heap[b]? = some (.map es clock)/\clock<=c0/\∀ e∈es.toList,seen.contains e.born=true->∃ i,e.val = .int .i64 i/\i<=6) _ ⟨#[],clock,rfl,hK0,hp0,hk1,hr1,ho1,W0f _,by simp⟩ ?_)
 rintro n a2 W2 ⟨seen,c0,rfl,hK,hp,hk2,hri,hmb,hcl,hseen⟩;have hN2:=hsz' hK;refine wpIn_seq (wpIn_region ?_);show wpOpsIn (FW R.rd) m P #[o3,o4] _ [0,1] a2 W2;have e3o:=Z5h k3;have e4o:=Z5h k4;have e5o:=Z5h k5;have e6o:=Z5h k6;have e7o:=Z5h k7;have e8o:=Z5h k8;have e9o:=Z5h k9;have nd3:∀ c,o3.op≠.defer c:=λc e=>by rw[e]at e3o;simp at e3o
 have nd4:∀ c,o4.op≠.defer c:=λc e=>by rw[e]at e4o;simp at e4o
 have nd5:∀ c,o5.op≠.defer c:=λc e=>by rw[e]at e5o;simp at e5o
 have nd6:∀ c,o6.op≠.defer c:=λc e=>by rw[e]at e6o;simp at e6o
 have nd7:∀ c,o7.op≠.defer c:=λc e=>by rw[e]at e7o;simp at e7o
 have nd8:∀ c,o8.op≠.defer c:=λc e=>by rw[e]at e8o;simp at e8o
 have nd9:∀ c,o9.op≠.defer c:=λc e=>by rw[e]at e9o;simp at e9o
 have step:((leftOf es seen).size=0/\(execOp a2.eval o3).run P W2 = .ok (.value (.tuple #[.bool false])) W2) ∨
   ∃ e∈(leftOf es seen).toList,∃ W3,(W3=W2∨W3=W2.drew)/\(execOp a2.eval o3).run P W2 = .ok (.value (.tuple #[.bool true,e.key,e.val])) (W3.putObj r (.mapIter (some b) clock (seen.push e.born) clock)):=by
  split at e3o <;> try (simp at e3o;done)
  rename_i x hx;obtain rfl:=Z5f e3o;rcases run_next_at (P:=P) W2 o3.type r b clock c0 seen es clock hri hmb (λx hx=>hst.1 x hx) hcl with ⟨h0,hrun⟩ | ⟨e,he,W3,hW3,hrun⟩
  . refine .inl ⟨h0,?_⟩;simp only[execOp,hx,Sem.run_bind,Z5g,hp,hrun,Result.andThen_ok,Sem.run_pure]
  . refine .inr ⟨e,he,W3,hW3,?_⟩;simp only[execOp,hx,Sem.run_bind,Z5g,hp,hrun,Result.andThen_ok,Sem.run_pure];rfl
 have run4:∀ (a':Act) (W':World) (t:Bool) (vs:List Value),a'.tmps.getD 115 Go.undef = .tuple (.bool t::vs).toArray->(execOp a'.eval o4).run P W' = .ok (.value (.bool t)) W':=by
  intro a' W' t vs h
  split at e4o <;> try (simp at e4o;done)
  rename_i x hx;obtain rfl:=Z5f e4o;simp[execOp,hx,Sem.run_bind,Z5g,h,Instr.extract]
 rcases step with ⟨h0,run3⟩ | ⟨e,he,W3,hW3,run3⟩
 . -- nothing is left
   rw[wpOpsIn_cons];refine Z5e rfl k3 nd3 run3 ?_;rw[wpOpsIn_cons];refine Z5e rfl k4 nd4 (run4 _ _ false [] (by rw[Z5c (by omega)];rfl)) ?_;have hK4:KeptT a ((a2.put (some 115) (.tuple #[.bool false])).put (some 116) (.bool false)):=.put (.put hK (by decide) _) (by decide) _;have hc4:((a2.put (some 115) (.tuple #[.bool false])).put (some 116) (.bool false)).tmps.getD 116 Go.undef = .bool false:=(by rw[Z5c (by rw[Z5d];omega)];rfl);generalize (a2.put (some 115) (.tuple #[.bool false])).put (some 116) (.bool false)=a4 at hK4 hc4 ⊢;show (Code.seq _ _).wpIn _ _ _ _ _ _;refine wpIn_seq (wpIn_cond_false (by rw[Z5g];exact hc4) (wpIn_exit ?_));show if b1=b1 then _ else _
   rw[if_pos rfl];refine ⟨st,hok λp hp'=>?_,κ,back hK4 hk2⟩;obtain ⟨e,he,hv'⟩:=hval2 p hp';obtain ⟨i,hi,hle⟩:=hseen e he (all_seen es seen h0 e he);rw[hv']at hi;simp only[Value.int.injEq,true_and]at hi;omega
 . -- an entry
   have hrS:W3.heap[r]? = some (.mapIter (some b) clock seen c0):=by rcases hW3 with rfl|rfl <;> exact hri
   have hbS:W3.heap[b]? = some (.map es clock):=by rcases hW3 with rfl|rfl <;> exact hmb
   have hkS:SK R st a W3 κ:=by rcases hW3 with rfl|rfl;exact hk2;exact hk2.grow (Ext.dr (Ext.refl _))
   have hkI:=hkS.iter (seen':=seen.push e.born) (c':=clock) hrS hr0;have hrl:r<W3.heap.size:=(W0c.1 hrS).1;have hrI:(W3.putObj r (.mapIter (some b) clock (seen.push e.born) clock)).heap[r]? = some (.mapIter (some b) clock (seen.push e.born) clock):=World.putObj_heap_same hrl;have hbI:(W3.putObj r (.mapIter (some b) clock (seen.push e.born) clock)).heap[b]? = some (.map es clock):=(World.putObj_heap_other (by omega)).trans hbS;generalize W3.putObj r (.mapIter (some b) clock (seen.push e.born) clock)=W4 at hkI hrI hbI run3;have hee:=mem_left he;rw[wpOpsIn_cons];refine Z5e rfl k3 nd3 run3 ?_;rw[wpOpsIn_cons];refine Z5e rfl k4 nd4 (run4 _ _ true [e.key,e.val] (by rw[Z5c (by omega)];rfl)) ?_;have hK4:KeptT a ((a2.put (some 115) (.tuple #[.bool true,e.key,e.val])).put (some 116) (.bool true)):=.put (.put hK (by decide) _) (by decide) _;have hc4:((a2.put (some 115) (.tuple #[.bool true,e.key,e.val])).put (some 116) (.bool true)).tmps.getD 116 Go.undef = .bool true:=by rw[Z5c (by rw[Z5d];omega)];rfl
   have hp4:((a2.put (some 115) (.tuple #[.bool true,e.key,e.val])).put (some 116) (.bool true)).tmps.getD 114 Go.undef = .pointer (some ⟨r,0,none⟩):=by
    rw[Z5c (by rw[Z5d];omega),if_neg (by decide),Z5c (by omega),if_neg (by decide),hp]
   generalize (a2.put (some 115) (.tuple #[.bool true,e.key,e.val])).put (some 116) (.bool true)=a4 at hK4 hc4 hp4 ⊢;show (Code.seq _ _).wpIn _ _ _ _ _ _;refine wpIn_seq (wpIn_cond_true (by rw[Z5g];exact hc4) (wpIn_skip ?_));show (Code.block _ _).wpIn _ _ _ _ _ _;refine wpIn_block (wpIn_seq (wpIn_region ?_));show wpOpsIn (FW R.rd) m P #[o5,o6,o7] _ [0,1,2] a4 W4;have hN4:=hsz' hK4
   have run5:(execOp a4.eval o5).run P W4 = .ok (.value (.tuple #[e.key,e.val])) W4:=by
    split at e5o <;> try (simp at e5o;done)
    rename_i x hx;obtain rfl:=Z5f e5o;simp only[execOp,hx,Sem.run_bind,Z5g,hp4,run_entry_at (P:=P) W4 r b clock seen es clock e hrI hbI hee.1 hst.2.1,Result.andThen_ok,Sem.run_pure]
   rw[wpOpsIn_cons];refine Z5e rfl k5 nd5 run5 ?_;rw[wpOpsIn_cons];have hg5:(a4.put (some 117) (.tuple #[e.key,e.val])).tmps.getD 117 Go.undef = .tuple #[e.key,e.val]:=(by rw[Z5c (by omega)];rfl);have hp5:(a4.put (some 117) (.tuple #[e.key,e.val])).tmps.getD 114 Go.undef = .pointer (some ⟨r,0,none⟩):=(by rw[Z5c (by omega),if_neg (by decide),hp4]);have hK5:KeptT a (a4.put (some 117) (.tuple #[e.key,e.val])):=.put hK4 (by decide) _;generalize a4.put (some 117) (.tuple #[e.key,e.val])=a5 at hg5 hp5 hK5 ⊢;have hN5:=hsz' hK5
   have run6:(execOp a5.eval o6).run P W4 = .ok (.value e.val) W4:=by
    split at e6o <;> try (simp at e6o;done)
    rename_i x hx;obtain rfl:=Z5f e6o;simp[execOp,hx,Sem.run_bind,Z5g,hg5,Instr.extract]
   refine Z5e rfl k6 nd6 run6 ?_;rw[wpOpsIn_cons];have hg6:(a5.put (some 118) e.val).tmps.getD 118 Go.undef=e.val:=(by rw[Z5c (by omega)];rfl);have hp6:(a5.put (some 118) e.val).tmps.getD 114 Go.undef = .pointer (some ⟨r,0,none⟩):=(by rw[Z5c (by omega),if_neg (by decide),hp5]);have hK6:KeptT a (a5.put (some 118) e.val):=.put hK5 (by decide) _;generalize a5.put (some 118) e.val=a6 at hg6 hp6 hK6 ⊢;have hN6:=hsz' hK6
   have run7:(execOp a6.eval o7).run P W4 = .ok (.value e.val) W4:=by
    split at e7o <;> try (simp at e7o;done)
    all_goals
     rename_i x hx;obtain rfl:=Z5f e7o;simp only[execOp,hx,Sem.run_bind,Sem.run_pure,Result.andThen_ok,Z5g,hg6]
   refine Z5e rfl k7 nd7 run7 ?_;have hg7:(a6.put (some 15) e.val).tmps.getD 15 Go.undef=e.val:=(by rw[Z5c (by omega)];rfl);have hp7:(a6.put (some 15) e.val).tmps.getD 114 Go.undef = .pointer (some ⟨r,0,none⟩):=(by rw[Z5c (by omega),if_neg (by decide),hp6]);have hK7:KeptT a (a6.put (some 15) e.val):=.put hK6 (by decide) _;generalize a6.put (some 15) e.val=a7 at hg7 hp7 hK7 ⊢;have hN7:=hsz' hK7;show (Code.seq _ _).wpIn _ _ _ _ _ _;refine wpIn_seq (wpIn_region ?_);show wpOpsIn (FW R.rd) m P #[o8,o9] _ [0,1] a7 W4
   have run8:(execOp a7.eval o8).run P W4 = .ok (.value e.val) W4:=by
    split at e8o <;> try (simp at e8o;done)
    all_goals
     rename_i x hx;obtain rfl:=Z5f e8o;simp only[execOp,hx,Sem.run_bind,Sem.run_pure,Result.andThen_ok,Z5g,hg7]
   rw[wpOpsIn_cons];refine Z5e rfl k8 nd8 run8 ?_;rw[wpOpsIn_cons];have hg8:(a7.put (some 119) e.val).tmps.getD 119 Go.undef=e.val:=(by rw[Z5c (by omega)];rfl);have hp8:(a7.put (some 119) e.val).tmps.getD 114 Go.undef = .pointer (some ⟨r,0,none⟩):=(by rw[Z5c (by omega),if_neg (by decide),hp7]);have hK8:KeptT a (a7.put (some 119) e.val):=.put hK7 (by decide) _;generalize a7.put (some 119) e.val=a8 at hg8 hp8 hK8 ⊢;have hN8:=hsz' hK8;obtain ⟨p,hpk,hpv⟩:=hval e hee.1
   have run9:(execOp a8.eval o9).run P W4 = .ok (.value (.bool (decide (6<p.2)))) W4:=by
    split at e9o <;> try (simp at e9o;done)
    rename_i t x u hx;simp only[W01]at e9o;obtain rfl:=Z5f e9o.1;obtain ⟨rv,hrun,hrv⟩:=Zk (P:=P) (op:=.gtr) (t:=t) (x':=.tmp 119) (y':=.const (.int .i64 6)) (E:=st.env R.M κ) (W:=W4) (x:=.int .i64 p.2) (y:=.int .i64 6) e9o.2 (.pv (.int _ _)) (.pv (.int _ _)) rfl;have hrv:=hrv.bool_inv;subst hrv;have hc:a8.eval (.const (.int .i64 6)) = .int .i64 6:=rfl;have ht:a8.eval (.tmp 119) = .int .i64 p.2:=(by rw[Z5g,hg8,hpv]);simp only[execOp,hx,Sem.run_bind];rw[Sem.run_bind]at hrun;rw[hc,ht,hrun];rfl
   refine Z5e rfl k9 nd9 run9 ?_;have hg9:(a8.put (some 120) (.bool (decide (6<p.2)))).tmps.getD 120 Go.undef = .bool (decide (6<p.2)):=(by rw[Z5c (by omega)];rfl);have hp9:(a8.put (some 120) (.bool (decide (6<p.2)))).tmps.getD 114 Go.undef = .pointer (some ⟨r,0,none⟩):=(by rw[Z5c (by omega),if_neg (by decide),hp8]);have hK9:KeptT a (a8.put (some 120) (.bool (decide (6<p.2)))):=.put hK8 (by decide) _;generalize a8.put (some 120) (.bool (decide (6<p.2)))=a9 at hg9 hp9 hK9 ⊢;show (Code.cond _ _ _).wpIn _ _ _ _ _ _;refine wpIn_cond (by rw[Z5g];exact hg9) ?_;by_cases h6:6<p.2
   . simp only[h6,W1g,if_true];refine wpIn_mono (hbad ⟨p,hpk,h6⟩ c5 hc5 m a9 W4 ⟨κ,back hK9 hkI⟩) ?_;rintro ex a' W' ⟨st',⟨rfl,hΦ⟩,hs'⟩;exact ⟨st',hΦ,hs'⟩
   . simp only[h6,W1u,W05,if_false];refine wpIn_skip ?_;refine ⟨_,left_shrinks es seen e he,seen.push e.born,clock,rfl,hK9,hp9,hkI,hrI,hbI,W0f _,λx hx hxs=>?_⟩;rw[contains_push]at hxs;simp only[W0T,W0A]at hxs;rcases hxs with hxs|hxs
     . exact hseen x hx hxs
     . obtain rfl:x=e:=born_inj hst.2.1 hx hee.1 hxs;exact ⟨p.2,hpv,by omega⟩
end
def FinO (ok:Nat->Bool) (rs:List RRes) (r:AV) (objs':List (Nat×AObj)):Exit->St->Prop
 |.normal,st | .ret,st=>∃ xs,Z29 st rs=some xs/\r=tupV (xs.map (frzA ok ⟨iniT 0 xs,st.o⟩))/\(Yi ok ⟨iniT 0 xs,st.o⟩).o=objs'
 |_,_=>False
section
variable {P:Program}
def Z5j (ok:Nat->Bool) (hok:∀ k,ok k=true->k<1000) {G:Jg} {f:FuncId} {fn:Func} {c:Code} {rc:RCode} {rs:List RRes} {objs objs':List (Nat×AObj)} {args:List AV} {r:AV} (hf:P.funcs[f]? = some fn) (hb:fn.body=some c) (he:entB P f=true)
  (hc:Z1A P fn.ntmps c rc=true) (hrs:allB2 (okRes P) fn.results.toList rs=true) (hn:args.length<=fn.ntmps)
  (h:∀ R:Run,R.N=fn.ntmps->R.G=G->R.Top->AR P R rc ⟨iniT 0 args,objs⟩ (FinO ok rs r objs')):PB P G f objs args r objs':=by
 refine ⟨he,λR0 W κ vs hG hN hW hX hE hk hsz hvs=>?_⟩;refine callsIn_wide.1 (callsIn_of_wp_marks (F:=FW none) (n:=1) hf hb trivial ?_)
 let R:Run:={ R0 with N:=fn.ntmps,rd:=none,nm:=false }
 have hD0:R0.D=[]:=by
  obtain ⟨cs,e,-⟩:=hk.defers;exact (List.append_eq_nil_iff.1 e.symm).2
 have h0:SK R ⟨iniT 0 args,objs⟩ { tmps:=vs++Array.replicate (fn.ntmps-vs.size) Go.undef,defers:=[] } W κ:=by
  refine ⟨hk.defers.weak,by show (vs++_).size=fn.ntmps;simp;omega,λn x hx=>?_,hk.obj,hk.dom,hk.inj,hk.low,hk.apart,hk.kp,hk.gr,hk.mono,hk.ent⟩;simp only[St.tmp,Z2b,W1e,if_true,W1P]at hx;show VR _ W x ((vs++Array.replicate (fn.ntmps-vs.size) Go.undef).getD n Go.undef);rw[W0a,W0W];have c1:n<args.length:=(W02.1 hx).1;rw[if_pos (by omega)];have:vs[n]? = some vs[n]:=(by simp);rw[this];exact hvs n x _ hx this
 refine wpIn_mono (h R rfl hG ⟨rfl,rfl⟩ c hc 1 _ W ⟨_,h0⟩) ?_
 have key:∀ (a':Act) (W':World) (st':St),(∃ xs,Z29 st' rs=some xs/\r=tupV (xs.map (frzA ok ⟨iniT 0 xs,st'.o⟩))/\(Yi ok ⟨iniT 0 xs,st'.o⟩).o=objs')->SR R st' a' W' ->
   ∃ u,(results fn a'.tmps).run P W' = .ok u W'/\∃ v κ',Ending.returned u = .returned v/\SK R0 (obSt objs') noAct W' κ'/\VR ((obSt objs').env R0.M κ') W' r v:=by
  rintro a' W' st' ⟨xs0,h1,rfl,h3⟩ ⟨κ0,hk0⟩;obtain ⟨us,h4,h50⟩:=Z2d (P:=P) hk0 hrs h1;have hl0:us.length=xs0.length:=by have:=h50.1;omega
  have h20:SK { R with N:=us.length } ⟨iniT 0 xs0,st'.o⟩ { tmps:=us.toArray,defers:=a'.defers } W' κ0:=by
   refine ⟨hk0.defers,by simp,λn x hx=>?_,hk0.obj,hk0.dom,hk0.inj,hk0.low,hk0.apart,hk0.kp,hk0.gr,hk0.mono,hk0.ent⟩;simp only[St.tmp,Z2b,W1e,if_true,W1P]at hx;have hlt:n<us.length:=(by have:=(W02.1 hx).1;omega);have:us.toArray.getD n Go.undef=us[n]:=(by simp[Array.getD,hlt]);rw[this];exact h50.2 n x _ hx (W07 hlt)
  obtain ⟨κ',hk'⟩:=Ym.frz ok ⟨iniT 0 xs0,st'.o⟩ (λk hk=>by exact Bool.eq_false_iff.2 λe=>by have:=hok k e;omega) _ _ W' ⟨κ0,h20⟩;obtain ⟨xs,hxs⟩:=Qex (xs0.map (frzA ok ⟨iniT 0 xs0,st'.o⟩));rw[<- hxs]
  have h5:CR ((Yi ok ⟨iniT 0 xs0,st'.o⟩).env R.M κ') W' xs us:=by
   refine ⟨by rw[hxs];simp;omega,λi x u hx hu=>?_⟩;have hlt:i<us.length:=(W02.1 hu).1
   have:=hk'.tm i x (by
    simp only[Yi,St.tmp,Z4K,Z2b,W1e,if_true,W1P];rw[hxs,W09]at hx;exact hx)
   have e:us.toArray.getD i Go.undef=u:=by
    rw[W07 hlt]at hu;simp only[W00]at hu;simp[Array.getD,hlt,hu]
   have this:VR ((Yi ok ⟨iniT 0 xs0,st'.o⟩).env R.M κ') W' x (us.toArray.getD i Go.undef):=this
   rwa [e]at this
  have henv:(Yi ok ⟨iniT 0 xs0,st'.o⟩).env R.M κ'=(obSt objs').env R0.M κ':=(by subst h3;rfl);have hl:us.length=xs.length:=(by have:=h5.1;omega);refine ⟨(if h:us.toArray.size=1 then us.toArray[0] else .tuple us.toArray),?_,_,κ',rfl,?_,?_⟩
  . unfold results;rw[Sem.run_bind]
    have:(fn.results.mapM λrv=>(match rv with
     |.tmp t=>pure (a'.tmps.getD t Go.undef)
     |.cell p t=>do loadVar t (<- asAddr (a'.tmps.getD p Go.undef)):Sem Value)).run P W' = .ok us.toArray W':=by
     rw[W1K,Sem.run_map];exact congrArg (λz=>Result.andThen z (λa w'=>Result.ok a.toArray w')) h4
    erw [this]
    rfl
  . have g:=hk'.sub (t':=[]) (λn x hx=>by simp[lk]at hx);have e:({ Yi ok ⟨iniT 0 xs0,st'.o⟩ with t:=[] }:St)=obSt objs':=(by subst h3;rfl);rw[e]at g;exact ⟨by rw[hD0];exact .nil _ _ _ _,by show (#[]:Array Value).size=R0.N;rw[hN];rfl,λn x hx=>by simp[obSt,St.tmp,lk]at hx,g.obj,g.dom,g.inj,g.low,g.apart,g.kp,g.gr,g.mono,g.ent⟩
  . rw[<- henv]
    match xs,us,hl,h5 with
    |[],[],_,_=>exact .tup [] _ rfl (by simp)
    |[y],[u],_,h5=>exact h5.2 0 y u rfl rfl
    | y::y2::ys,u::u2::us,hl,h5 =>
      rw[dif_neg (by simp)];exact .tup _ _ (by simpa using hl) (λi x w hx hw=>h5.2 i x w hx (by simpa using hw))
 rintro e a' W' ⟨st',h1,κ2,h2⟩
 cases e <;> try (exact h1.elim)
 all_goals
  refine h2.leave (by simp) (show R.D=[] from hD0) λa2 W2 ht hs2=>?_
  have:=key a2 W2 st' h1 ⟨κ2,hs2⟩;rw[ht]at this;exact this
end
def AV.pure_keys:∀ x:AV,x.pure=true->x.keys=[]
 | .func fn xs ys,h=>by
   simp only[AV.pure,W01,W03,W0V,W1x,W1l]at h;simp only[AV.keys,List.append_eq_nil_iff,List.flatMap_eq_nil_iff,W0V,W1x,W1l];exact ⟨λx hx=>AV.pure_keys x (h.1 x hx),λx hx=>AV.pure_keys x (h.2 x hx)⟩
 | .agg xs,h | .tup xs,h=>by
   simp only[AV.pure,W03,W0V,W1x,W1l]at h;simp only[AV.keys,List.flatMap_eq_nil_iff,W0V,W1x,W1l];exact λx hx=>AV.pure_keys x (h x hx)
 |.hole,_ | .int ..,_ | .bool _,_ | .abool,_ | .str _,_ | .nilp,_ | .nils,_ | .nilm,_ | .nilf,_ | .nes,_ | .tok _,_ | .vptr ..,_ | .vsl _,_ | .vmap _,_=>by simp[AV.keys]
 |.undef,h | .ptr ..,h | .eptr ..,h | .osl ..,h | .oss ..,h | .mp _,h | .oof _,h=>by simp[AV.pure]at h
def ObjR.anyE {E E':Env} {W:World} {b s sz:Nat} {rows:List (List AV)} (hf:∀ r∈rows,∀ x∈r,x.flat=true) (hp:∀ r∈rows,∀ x∈r,x.pure=true) (h:ObjR E W b s (.row sz rows)):ObjR E' W b s (.row sz rows):=by
 obtain ⟨h1,cs,t,h2,h3,h4⟩:=h;refine ⟨h1,cs,t,h2,h3,λi j r x hi hj=>(h4 i j r x hi hj).imp λv hv=>⟨hv.1,?_⟩⟩;have hr:=W0d hi;have hx:=W0d hj;exact .pv ((hv.2.toPV (hp r hr x hx)).flat (hf r hr x hx))
def FinN (rs:List RRes) (sz:Nat) (rows:List (List AV)):Exit->St->Prop
 |.normal,st | .ret,st=>∃ k,Z29 st rs=some [.osl k rows.length]/\st.get k=some (.row sz rows)
 |_,_=>False
def PN_of {P:Program} {G:Jg} {f:FuncId} {fn:Func} {c:Code} {rc:RCode} {rs:List RRes} {args:List AV} {sz:Nat} {rows:List (List AV)} (hfl:∀ r∈rows,∀ x∈r,x.flat=true) (hpu:∀ r∈rows,∀ x∈r,x.pure=true)
  (hf:P.funcs[f]? = some fn) (hb:fn.body=some c) (he:entB P f=true)
  (hc:Z1A P fn.ntmps c rc=true) (hrs:allB2 (okRes P) fn.results.toList rs=true) (hn:args.length<=fn.ntmps)
  (h:∀ R:Run,R.N=fn.ntmps->R.G=G->R.Top->AR P R rc (Z2a args) (FinN rs sz rows)):PN P G f args sz rows:=by
 refine ⟨he,λM W vs hM hG hsz hvs=>?_⟩;refine callsIn_wide.1 (callsIn_of_wp_marks (F:=FW none) (n:=1) hf hb trivial ?_)
 let R:Run:={ G:=G,M:=M,X:=λ_=>False,W0:=W,N:=fn.ntmps,E0:={ M:=M,loc:=λ_=>none,row:=λ_=>none } }
 have h0:SK R (Z2a args) { tmps:=vs++Array.replicate (fn.ntmps-vs.size) Go.undef,defers:=[] } W (λ_=>none):=by
  have hGM:∀ b,b<W.heap.size->¬M b->¬((Z2a args).env M (λ_=>none)).M b/\W.heap[b]? = W.heap[b]?:=λb _ h1=>⟨(by rintro (h2 | ⟨k,s,h2⟩) <;> first|exact h1 h2|cases h2),rfl⟩
  refine ⟨.nil _ _ _ _,by show (vs++_).size=fn.ntmps;simp;omega,λn x hx=>?_,(λk o ho=>by simp[Z2a,St.get,lk]at ho),(λk p hk=>by cases hk),(λk k' b s s' hk=>by cases hk),hM,λ_ _ h=>h,Kp.refl _ _,hG.mono hGM (W0f _),⟨W0f _,hGM,λk p hk=>(by cases hk),λk sz m hk=>(by cases hk)⟩,λ_ _=>⟨rfl,rfl⟩⟩;simp only[Z2a,St.tmp,Z2b,W1e,if_true,W1P]at hx;show VR _ W x ((vs++Array.replicate (fn.ntmps-vs.size) Go.undef).getD n Go.undef);rw[W0a,W0W];have c1:n<args.length:=(W02.1 hx).1;rw[if_pos (by omega)];have:vs[n]? = some vs[n]:=(by simp);rw[this];exact .pv ((hvs n x _ hx this).mono hGM (W0f _))
 refine wpIn_mono (h R rfl rfl ⟨rfl,rfl⟩ c hc 1 _ W ⟨_,h0⟩) ?_
 have key:∀ (a':Act) (W':World) (st':St),(∃ k,Z29 st' rs=some [.osl k rows.length]/\st'.get k=some (.row sz rows))->SR R st' a' W' ->
   ∃ u,(results fn a'.tmps).run P W' = .ok u W'/\∃ b s cs t c,Ending.returned u = .returned (.slice (some ⟨b,s,none⟩) rows.length c)/\Ext W W'/\W.heap.size<=b/\b<W'.heap.size /\
   rows.length<=c/\c<=maxLen/\W'.heap[b]? = some (.cells cs t (0,0))/\s+c*sz<=cs.size/\∀ E:Env,ObjR E W' b s (.row sz rows):=by
  rintro a' W' st' ⟨k,h1,h2⟩ ⟨κ,hk⟩;obtain ⟨us,h3,h4⟩:=Z2d (P:=P) hk hrs h1;have hE:Ext W W':=⟨hk.kp.os,hk.kp.tape,hk.kp.output,hk.kp.size,λi hi=>hk.kp.block i hi (λh=>h)⟩
  obtain ⟨u,rfl⟩ : ∃ u,us=[u]:=by
   have:=h4.1
   match us,this with
   |[u],_=>exact ⟨u,rfl⟩
  have hu:=h4.2 0 _ u rfl rfl;obtain ⟨b,s,g1,g2,g3,g4⟩:=hk.obj k _ h2;have g3:W.heap.size<=b:=g3.resolve_right (λh=>h)
  obtain ⟨b',s',c,cs,t,q1,q2,q3,q4,q5,q6⟩ : ∃ b' s' c cs t,u = .slice (some ⟨b',s',none⟩) rows.length c/\κ k=some (b',s')/\rows.length<=c/\c<=maxLen/\W'.heap[b']? = some (.cells cs t (0,0))/\s'+c*sz<=cs.size:=by
   generalize hx:AV.osl k rows.length=x at hu
   cases hu with
   |pv hp=>subst hx;cases hp
   | osl k2 n sz2 m a l c hr hn' he' =>
     cases hx
     have hr:(st'.get k).bind AObj.dim=some (sz2,m):=hr;rw[h2]at hr;have hr:some (sz,rows.length)=some (sz2,m):=hr;simp only[W00,W06]at hr;obtain ⟨rfl,rfl⟩:=hr;obtain ⟨b',s',cs,t,e1,e2,e3,e4,e5,e6,e7⟩:=he' rfl;subst e2;subst e3;exact ⟨b',s',c,cs,t,rfl,e1,e4,e5,e6,e7⟩
   |_=>cases hx
  rw[g1]at q2
  cases q2
  subst q1;refine ⟨.slice (some ⟨b,s,none⟩) rows.length c,?_,b,s,cs,t,c,rfl,hE,g3,g2,q3,q4,q5,q6,λE=>g4.anyE hfl hpu⟩;unfold results;rw[Sem.run_bind]
  have:(fn.results.mapM λrv=>(match rv with
   |.tmp t=>pure (a'.tmps.getD t Go.undef)
   |.cell p t=>do loadVar t (<- asAddr (a'.tmps.getD p Go.undef)):Sem Value)).run P W' = .ok #[.slice (some ⟨b,s,none⟩) rows.length c] W':=by
   rw[W1K,Sem.run_map];exact congrArg (λz=>Result.andThen z (λa w'=>Result.ok a.toArray w')) h3
  erw [this]
  rfl
 rintro e a' W' ⟨st',h1,κ,h2⟩
 cases e <;> try (exact h1.elim)
 all_goals
  refine h2.leave (by simp) rfl λa2 W2 ht hs2=>?_
  have:=key a2 W2 st' h1 ⟨κ,hs2⟩;rw[ht]at this;exact this
section
variable {P:Program} {R:Run} {st:St} {a:Act} {W:World} {κ:Nat->Option (Nat×Nat)}
def Z5k (h:SK R st a W κ) {objs objs':List (Nat×AObj)} {ρ:Nat->Nat} (hinj:∀ k k',isK objs' k=true->isK objs' k'=true->ρ k=ρ k'->k=k')
  (ho:∀ k o,lk objs k=some o->st.get (ρ k)=some (o.ren ρ)) (hd:∀ k,isK objs k=true->isK objs' k=true) (hnw:∀ k,isK objs' k=true->isK objs k=false->st.get (ρ k)=none) {κ':Nat->Option (Nat×Nat)} {W':World} (hc:SK (rC objs ρ R st κ W) (obSt objs') noAct W' κ')
  {st1:St} (ht:st1.t=st.t) (hs1:∀ k o,lk objs' k=some o->st1.get (ρ k)=some (o.ren ρ)) (hs2:∀ j,(∀ k,isK objs' k=true->ρ k≠j)->st1.get j=st.get j) :
  ∃ κ1,SK R st1 a W' κ1/\Mono (st.env R.M κ) W (st1.env R.M κ1) W'/\∀ (x:AV) (v:Value),VR ((obSt objs').env (mC objs ρ R st κ) κ') W' x v->VR (st1.env R.M κ1) W' (x.ren ρ) v:=by
 classical
 let κ1:Nat->Option (Nat×Nat):=λj=>if e:∃ k,isK objs' k=true/\ρ k=j then κ' (Classical.choose e) else κ j
 have hκ1:∀ k,isK objs' k=true->κ1 (ρ k)=κ' k:=λk hk=>by
  have e:∃ k',isK objs' k'=true/\ρ k'=ρ k:=⟨k,hk,rfl⟩;simp only[κ1,dif_pos e];rw[hinj _ _ (W2c e).1 hk (W2c e).2]
 have hκ2:∀ j,(∀ k,isK objs' k=true->ρ k≠j)->κ1 j=κ j:=λj hj=>by
  have e:¬ ∃ k,isK objs' k=true/\ρ k=j:=λ⟨k,h1,h2⟩=>hj k h1 h2
  simp only[κ1,dif_neg e]
 have split:∀ j,(∃ k,isK objs' k=true/\ρ k=j)∨(∀ k,isK objs' k=true->ρ k≠j):=λj=>by
  by_cases e:∃ k,isK objs' k=true/\ρ k=j
  . exact .inl e
  . exact .inr λk h1 h2=>e ⟨k,h1,h2⟩
 have kc:∀ k,isK objs k=true->kC objs ρ κ k=κ (ρ k):=λk hk=>by simp only[kC,hk,if_true]
 have kcK:∀ k p,kC objs ρ κ k=some p->isK objs k=true/\κ (ρ k)=some p:=λk p hk=>by
  simp only[kC]at hk
  split at hk
  . rename_i e;exact ⟨e,hk⟩
  . cases hk
 have domK:∀ k p,κ' k=some p->isK objs' k=true:=λk p hk=>by
  exact W0t.2 (hc.dom k p hk)
 have xE:∀ b,(∃ k s,kC objs ρ κ k=some (b,s))->(st.env R.M κ).M b:=λb ⟨k,s,hk⟩=>.inr ⟨ρ k,s,(kcK k _ hk).2⟩
 have range:∀ b,(∃ k s,kC objs ρ κ k=some (b,s))->R.W0.heap.size<=b∨R.X b:=λb ⟨k,s,hk⟩=>by
  obtain ⟨-,h2⟩:=kcK k _ hk;obtain ⟨o,h3⟩:=h.dom _ _ h2;obtain ⟨b',s',g1,g2,g3,-⟩:=h.obj _ _ h3;rw[h2]at g1;simp only[W00,W06]at g1;obtain ⟨rfl,rfl⟩:=g1;exact g3
 have F1:∀ b,(st1.env R.M κ1).M b->((obSt objs').env (mC objs ρ R st κ) κ').M b:=λb hb=>by
  rcases hb with hb | ⟨j,s,hj⟩
  . refine .inl ⟨.inl hb,λhx=>?_⟩;rcases range b hx with h1|h1
    . have:=h.low b hb;omega
    . exact h.apart b hb h1
  . rcases split j with ⟨k,hk,rfl⟩|hj2
    . rw[hκ1 k hk]at hj;exact .inr ⟨k,s,hj⟩
    . rw[hκ2 j hj2]at hj;refine .inl ⟨.inr ⟨j,s,hj⟩,λ⟨k,s2,hk⟩=>?_⟩;obtain ⟨h1,h2⟩:=kcK k _ hk;exact hj2 k (hd k h1) (h.inj _ _ b s2 s h2 hj)
 have row1:∀ k,isK objs' k=true->(st1.env R.M κ1).row (ρ k)=((obSt objs').env (mC objs ρ R st κ) κ').row k:=λk hk=>by
  obtain ⟨o,h1⟩:=W0t.1 hk;show (st1.get (ρ k)).bind AObj.dim=(lk objs' k).bind AObj.dim;rw[h1,hs1 k o h1];exact AObj.ren_dim o
 have row0:∀ k,isK objs k=true->(st.env R.M κ).row (ρ k)=((obSt objs).env (mC objs ρ R st κ) (kC objs ρ κ)).row k:=λk hk=>by
  obtain ⟨o,h1⟩:=W0t.1 hk;show (st.get (ρ k)).bind AObj.dim=(lk objs k).bind AObj.dim;rw[h1,ho k o h1];exact AObj.ren_dim o
 have rowK:∀ k q,((obSt objs').env (mC objs ρ R st κ) κ').row k=some q->isK objs' k=true:=λk q hk=>by
  have hk:(lk objs' k).bind AObj.dim=some q:=hk
  cases e:lk objs' k with
  |none=>rw[e]at hk;cases hk
  |some o=>simp[isK,e]
 have conv:∀ (x:AV) (v:Value),VR ((obSt objs').env (mC objs ρ R st κ) κ') W' x v->VR (st1.env R.M κ1) W' (x.ren ρ) v:=λx v hv =>
  VR.toCaller (λb hb hb'=>hb (F1 b hb')) (λk p hk=>(hκ1 k (domK k p hk)).trans hk) (λk q hk=>⟨(row1 k (rowK k q hk)).trans hk,hκ1 k (rowK k q hk)⟩) (λk p hk hr=>(row1 k (domK k p hk)).trans hr) hv
 have same:∀ b,b<W.heap.size->¬(∃ k s,kC objs ρ κ k=some (b,s))->W'.heap[b]? = W.heap[b]?:=λb hb hx=>hc.kp.block b hb hx
 have apartK:∀ j b s,(∀ k,isK objs' k=true->ρ k≠j)->κ j=some (b,s)->¬(∃ k s,kC objs ρ κ k=some (b,s)):=λj b s hj hb ⟨k,s2,hk⟩=>by
  obtain ⟨h1,h2⟩:=kcK k _ hk;exact hj k (hd k h1) (h.inj _ _ b s2 s h2 hb)
 have m:Mono (st.env R.M κ) W (st1.env R.M κ1) W':=by
  refine ⟨hc.kp.size,λb hb hM=>⟨λhM1=>?_,same b hb λhx=>hM (xE b hx)⟩,λj p hj hr=>?_,λj sz m hj=>?_⟩
  . rcases F1 b hM1 with h1 | ⟨k,s,h1⟩
    . exact hM h1.1
    . obtain ⟨o,h2⟩:=hc.dom k _ h1;obtain ⟨b',s',g1,g2,g3,-⟩:=hc.obj k o h2;rw[h1]at g1;simp only[W00,W06]at g1;obtain ⟨rfl,rfl⟩:=g1;rcases g3 with g3|g3
      . have g3:W.heap.size<=b:=g3;omega
      . exact hM (xE b g3)
  . rcases split j with ⟨k,hk,rfl⟩|hj2
    . have hk0:isK objs k=true:=by
       cases e:isK objs k
       . obtain ⟨o,ho'⟩:=h.dom _ _ hj;rw[hnw k hk e]at ho';cases ho'
       . rfl
      obtain ⟨g1,g2⟩:=hc.mono.box k p ((kc k hk0).trans hj) ((row0 k hk0).symm.trans hr);exact ⟨(hκ1 k hk).trans g1,(row1 k hk).trans g2⟩
    . exact ⟨(hκ2 j hj2).trans hj,by show (st1.get j).bind AObj.dim=none;rw[hs2 j hj2];exact hr⟩
  . rcases split j with ⟨k,hk,rfl⟩|hj2
    . have hk0:isK objs k=true:=by
       cases e:isK objs k
       . have hj:(st.get (ρ k)).bind AObj.dim=_:=hj;rw[hnw k hk e]at hj;cases hj
       . rfl
      obtain ⟨m',g1,g2,g3⟩:=hc.mono.row k sz m ((row0 k hk0).symm.trans hj);refine ⟨m',(row1 k hk).trans g1,g2,λe b s cs t hl=>?_⟩;obtain ⟨g4,g5⟩:=g3 e b s cs t ((kc k hk0).trans hl);exact ⟨(hκ1 k hk).trans g4,g5⟩
    . refine ⟨m,by show (st1.get j).bind AObj.dim=some (sz,m);rw[hs2 j hj2];exact hj,W0f _,λ_ b s cs t hl=>⟨(hκ2 j hj2).trans hl,λhw=>⟨cs,(same b (h.loc_lt hl) (apartK j b s hj2 hl)).trans hw,rfl⟩⟩⟩
 refine ⟨κ1,⟨h.defers.of λc hc'=>(same c (W0c.1 hc').1 λ⟨k,s,hk⟩=>h.notdf (kcK k _ hk).2 hc').trans hc',h.size,λn x hx=>(h.tm n x (by simp only[St.tmp,<- ht];exact hx)).mono m,λj o hj=>?_,λj p hj=>?_,λj j' b s s' hj hj'=>?_,h.low,h.apart,?_,h.gr.mono m.imm m.size,h.mono.trans m,h.ent⟩,m,conv⟩
 . rcases split j with ⟨k,hk,rfl⟩|hj2
   . obtain ⟨o0,e0⟩:=W0t.1 hk;rw[hs1 k o0 e0]at hj;simp only[W00]at hj;subst hj;obtain ⟨b,s,g1,g2,g3,g4⟩:=hc.obj k o0 e0;refine ⟨b,s,(hκ1 k hk).trans g1,g2,?_,?_⟩
     . rcases g3 with g3|g3
       . exact .inl (W0O h.kp.size g3)
       . exact range b g3
     . cases o0 with
       | box cells =>
         obtain ⟨g0,cs,t,g5,g6,g7⟩:=g4;refine ⟨g0,cs,t,g5,by simpa [AObj.ren] using g6,λj x hj=>?_⟩;rw[W09,W04]at hj;obtain ⟨x0,g8,rfl⟩:=hj;obtain ⟨v,g9,g10⟩:=g7 j x0 g8;exact ⟨v,g9,conv _ _ g10⟩
       | row sz rows =>
         obtain ⟨g0,cs,t,g5,g6,g7⟩:=g4;refine ⟨λr hr=>?_,cs,t,g5,by simpa [AObj.ren] using g6,λi j r x hi hj=>?_⟩
         . obtain ⟨r0,g8,rfl⟩:=W0i.1 hr;simpa using g0 r0 g8
         . rw[W09,W04]at hi;obtain ⟨r0,g8,rfl⟩:=hi;rw[W09,W04]at hj;obtain ⟨x0,g9,rfl⟩:=hj;obtain ⟨v,g10,g11⟩:=g7 i j r0 x0 g8 g9;exact ⟨v,g10,conv _ _ g11⟩
       | mp kvs =>
         obtain ⟨g0,es,t,g5,g6,g7,g8⟩:=g4;refine ⟨g0,es,t,g5,g6,by simpa [AObj.ren] using g7,λi x y hi=>?_⟩;rw[W09,W04]at hi;obtain ⟨p,g9,g10⟩:=hi
         cases g10
         obtain ⟨e,g11,g12,g13⟩:=g8 i p.1 p.2 g9;exact ⟨e,g11,conv _ _ g12,conv _ _ g13⟩
   . rw[hs2 j hj2]at hj;obtain ⟨b,s,g1,g2,g3,g4⟩:=h.obj j o hj;exact ⟨b,s,(hκ2 j hj2).trans g1,W12 g2 m.size,g3,g4.mono m (same b g2 (apartK j b s hj2 g1))⟩
 . rcases split j with ⟨k,hk,rfl⟩|hj2
   . rw[hκ1 k hk]at hj;obtain ⟨o,g1⟩:=hc.dom k p hj;exact ⟨_,hs1 k o g1⟩
   . rw[hκ2 j hj2]at hj;rw[hs2 j hj2];exact h.dom j p hj
 . have cross:∀ k j' s s',isK objs' k=true->(∀ k,isK objs' k=true->ρ k≠j')->κ' k=some (b,s)->κ j'=some (b,s')->False:=λk j' s s' hk hj2 g1 g2=>by
    obtain ⟨o,g3⟩:=hc.dom k _ g1;obtain ⟨b',s2,g4,g5,g6,-⟩:=hc.obj k o g3;rw[g1]at g4;simp only[W00,W06]at g4;obtain ⟨rfl,rfl⟩:=g4;rcases g6 with g6|g6
    . have g6:W.heap.size<=b:=g6;have:=h.loc_lt g2;omega
    . exact apartK j' b s' hj2 g2 g6
   rcases split j with ⟨k,hk,rfl⟩|hj2 <;> rcases split j' with ⟨k',hk',rfl⟩|hj2'
   . rw[hκ1 k hk]at hj;rw[hκ1 k' hk']at hj';rw[hc.inj k k' b s s' hj hj']
   . rw[hκ1 k hk]at hj;rw[hκ2 j' hj2']at hj';exact (cross k j' s s' hk hj2' hj hj').elim
   . rw[hκ2 j hj2]at hj;rw[hκ1 k' hk']at hj';exact (cross k' j s' s hk' hj2 hj' hj).elim
   . rw[hκ2 j hj2]at hj;rw[hκ2 j' hj2']at hj';exact h.inj j j' b s s' hj hj'
 . refine ⟨hc.kp.os.trans h.kp.os,hc.kp.tape.trans h.kp.tape,hc.kp.output.trans h.kp.output,W0O h.kp.size hc.kp.size,λi hi hx=>?_⟩;refine (same i (W12 hi h.kp.size) λhx2=>?_).trans (h.kp.block i hi hx);rcases range i hx2 with g|g
   . omega
   . exact hx g
def Z5l (h:SK R st a W κ) {f:FuncId} {objs objs':List (Nat×AObj)} {ρ:Nat->Nat} {args:List AV} {r:AV} (hp:PB P R.G f objs args r objs')
  (hK:∀ k,isK objs k=true->1000<=k) (hinj:∀ k k',isK objs' k=true->isK objs' k'=true->ρ k=ρ k'->k=k')
  (ho:∀ k o,lk objs k=some o->st.get (ρ k)=some (o.ren ρ)) (hin:∀ k o,lk objs k=some o->inKO objs o) (hargs:∀ x∈args,inK objs x) (hd:∀ k,isK objs k=true->isK objs' k=true) (hnw:∀ k,isK objs' k=true->isK objs k=false->st.get (ρ k)=none)
  {st1:St} (ht:st1.t=st.t) (hs1:∀ k o,lk objs' k=some o->st1.get (ρ k)=some (o.ren ρ)) (hs2:∀ j,(∀ k,isK objs' k=true->ρ k≠j)->st1.get j=st.get j)
  {vs:Array Value} (ha:CR (st.env R.M κ) W (args.map (AV.ren ρ)) vs.toList) :
  entB P f=true/\Calls P f vs W λe W'=>∃ u κ1,e = .returned u/\SK R st1 a W' κ1/\VR (st1.env R.M κ1) W' (r.ren ρ) u:=by
 obtain ⟨he,hc⟩:=hp;obtain ⟨h0,conv⟩:=Z50 h hK (λk k' h1 h2 e=>hinj k k' (hd k h1) (hd k' h2) e) ho hin;have hsz:vs.size=args.length:=(by have:=ha.1;simp at this;omega);refine ⟨he,(hc (rC objs ρ R st κ W) W (kC objs ρ κ) vs rfl rfl rfl rfl rfl h0 hsz (λi x u hx hu=>conv x u (hargs x (W0d hx)) (ha.2 i (x.ren ρ) u (by rw[W09,hx];rfl) (by simpa using hu)))).mono ?_⟩;rintro e W' ⟨v,κ',rfl,h1,h2⟩;obtain ⟨κ1,h3,-,h4⟩:=Z5k h hinj ho hd hnw h1 ht hs1 hs2;exact ⟨v,κ1,rfl,h3,h4 r v h2⟩
end
section
variable {P:Program} {G:Jg} {st:St}
def Z1B.objs {f:FuncId} {objs':List (Nat×AObj)} {args:List AV} {r:AV} (h:PB P G f [] args r objs') (ρ:Nat->Nat) (hinj:(objs'.map λp=>ρ p.1).Nodup) (hnw:∀ p∈objs',st.get (ρ p.1)=none) (hargs:args.all AV.pure=true)
  {r':AV} {st1:St} (hr:r'=r.ren ρ) (hs:st1=Yl ρ objs' st):Z1B P G st f args r' st1:=by
 subst hr;subst hs;intro R a W κ vs hG hk ha;subst hG;have mem:∀ k o,lk objs' k=some o->(k,o)∈objs':=λk o h=>Z4J h
 have pure:∀ x∈args,x.pure=true:=W03.1 hargs
 have hren:args.map (AV.ren ρ)=args:=by
  conv=>rhs;rw[<- W1V args]
  exact W0K λx hx=>AV.ren_pure x (pure x hx)
 refine Z5l hk h (λk hk=>by simp[isK,lk]at hk) (λk k' h1 h2 e=>?_) (λk o ho'=>by simp[lk]at ho') (λk o ho'=>by simp[lk]at ho') (λx hx k hk'=>by rw[AV.pure_keys x (pure x hx)]at hk';cases hk') (λk hk=>by simp[isK,lk]at hk) (λk h1 _=>?_) (Z53 ρ _ _)
  (λk o ho'=>Z55 ρ _ _ k o hinj ho') (λj hj=>Z54 ρ j _ _ λp hp=>?_) (by rw[hren];exact ha)
 . have m1:=Z56.1 h1;have m2:=Z56.1 h2;have:(objs'.map (·.1)).map ρ=objs'.map (λp=>ρ p.1):=(by simp[W10,W0y]);rw[<- this]at hinj;exact Z57 hinj m1 m2 e
 . obtain ⟨o,h1⟩:=W0t.1 h1;exact hnw (k,o) (mem k o h1)
 . exact hj p.1 (Z56.2 (W0i.2 ⟨p,hp,rfl⟩))
end
structure Dm where
 n:Int
 l:Int
 u:Int
 deriving DecidableEq,Inhabited
def Dm.zero:Dm:=⟨0,0,0⟩
def Dm.beq (a b:Dm):Bool:=a.n == b.n&&(a.l == b.l&&a.u == b.u)
def vd (d:Dm):Bool:=decide (0<=d.n/\d.n<=1000000000/\0<=d.l/\d.l<=d.u/\d.u<=1000000000)
def stp (k:Int):Int:=if k=1 then 100 else if k=2 then 254 else 0
def exa (d:Dm) (s:Int):Bool:=decide (d.n % s=0/\d.l % s=0/\d.u % s=0)
def nom (n s:Int):Int:=if n / s*s+s<=1000000000/\n / s*s+s-n<n-n / s*s then n / s*s+s else n / s*s
def agn (d:Dm) (s:Int):Dm:=⟨nom d.n s,(d.l+s-1) / s*s,d.u / s*s⟩
def agnOk (d:Dm) (s:Int):Bool:=decide ((agn d s).l<=(agn d s).u)
def conv (d:Dm) (k:Int):Dm×Int :=
 if vd d=true then if stp k=0 then (Dm.zero,11) else if agnOk d (stp k)=true then (agn d (stp k),0) else (Dm.zero,6)
 else (Dm.zero,10)
section
variable {P:Program} {R:Run} {st:St} {a:Act} {W:World} {κ:Nat->Option (Nat×Nat)}
def envB (R:Run) (st:St) (κ:Nat->Option (Nat×Nat)):Env :=
 { M:=(st.env R.M κ).M,loc:=λk=>if 1000<=k then (st.env R.M κ).loc k else none,row:=λk=>if 1000<=k then (st.env R.M κ).row k else none }
def Run.base (R:Run) (st:St) (κ:Nat->Option (Nat×Nat)) (a:Act) (W:World):Run :=
 { G:=R.G,M:=R.M,X:=(λb=>∃ k s,κ k=some (b,s)),W0:=W,N:=R.N,E0:=envB R st κ,D:=a.defers,rd:=R.rd,nm:=R.nm }
end
def Ym.rnm {st:St} {t':List (Nat×AV)} {o':List (Nat×AObj)} (ρ:Nat->Nat) (ht:∀ p∈t',lk st.t p.1=some (p.2.ren ρ)/\Ya o' p.2=true) (ho:∀ p∈o',lk st.o (ρ p.1)=some (p.2.ren ρ)/\Yc o' p.2=true)
  (hinj:∀ k k',(lk o' k).isSome=true->(lk o' k').isSome=true->ρ k=ρ k'->k=k') (hbig:∀ p∈st.o,1000<=p.1->(lk o' p.1).isSome=true) (hfix:∀ k,1000<=k->(lk o' k).isSome=true->ρ k=k):Ym st ⟨t',o'⟩:=by
 rintro R a W ⟨κ,h⟩
 let κ':Nat->Option (Nat×Nat):=λk=>if (lk o' k).isSome then κ (ρ k) else none
 have hobj:∀ k o,lk o' k=some o->lk st.o (ρ k)=some (o.ren ρ):=λk o hk=>(ho (k,o) (Z4J hk)).1
 have hκ:∀ k p,κ' k=some p->(lk o' k).isSome=true/\κ (ρ k)=some p:=λk p hk=>by
  simp only[κ']at hk
  split at hk
  . rename_i e;exact ⟨e,hk⟩
  . cases hk
 have hM:∀ b,¬(st.env R.M κ).M b->¬((⟨t',o'⟩ : St).env R.M κ').M b:=λb hb hb'=>by
  rcases hb' with hb' | ⟨k,s,hk⟩
  . exact hb (.inl hb')
  . exact hb (.inr ⟨ρ k,s,(hκ k _ hk).2⟩)
 have hrow:∀ k,(lk o' k).isSome=true->((⟨t',o'⟩ : St).env R.M κ').row k=(st.env R.M κ).row (ρ k):=λk h1=>by
  obtain ⟨o,h2⟩:=W0t.1 h1;simp only[St.env,St.get,h2,hobj k o h2,W1m];exact (AObj.ren_dim o).symm
 have hkp:∀ x,Ya o' x=true->∀ k∈x.keys,((⟨t',o'⟩ : St).env R.M κ').loc k=(st.env R.M κ).loc (ρ k)/\((⟨t',o'⟩ : St).env R.M κ').row k=(st.env R.M κ).row (ρ k):=λx hx k hk=>by
  have h1:(lk o' k).isSome=true:=W03.1 hx k hk;exact ⟨by simp only[St.env,κ',h1,if_true],hrow k h1⟩
 have hv:∀ {x:AV} {v:Value},VR (st.env R.M κ) W (x.ren ρ) v->Ya o' x=true->VR ((⟨t',o'⟩ : St).env R.M κ') W x v:=λ{x v} h1 h2=>VR.toCallee hM h1 x rfl (hkp x h2)
 refine ⟨κ',⟨h.defers,h.size,?_,?_,?_,?_,h.low,h.apart,h.kp,?_,?_,h.ent⟩⟩
 . intro n x hn;obtain ⟨h1,h2⟩:=ht (n,x) (Z4J hn);exact hv (h.tm n _ h1) h2
 . intro k o hk;obtain ⟨h1,h2⟩:=ho (k,o) (Z4J hk);obtain ⟨b,s,h3,h4,h5,h6⟩:=h.obj (ρ k) _ h1;refine ⟨b,s,by simp only[κ'];rw[show lk o' k=some o from hk];exact h3,h4,h5,?_⟩
   cases o with
   | box cells =>
     obtain ⟨g0,cs,t,g1,g2,g3⟩:=h6;refine ⟨g0,cs,t,g1,by simpa using g2,λj x hj=>?_⟩;obtain ⟨v,g4,g5⟩:=g3 j (x.ren ρ) (by rw[W09,hj];rfl);exact ⟨v,g4,hv g5 (W03.1 h2 x (W0d hj))⟩
   | row sz rows =>
     obtain ⟨g0,cs,t,g1,g2,g3⟩:=h6;refine ⟨λr hr=>?_,cs,t,g1,by simpa using g2,λi j r x hi hj=>?_⟩
     . have:=g0 (r.map (AV.ren ρ)) (W0i.2 ⟨r,hr,rfl⟩);simpa using this
     . obtain ⟨v,g4,g5⟩:=g3 i j (r.map (AV.ren ρ)) (x.ren ρ) (by rw[W09,hi];rfl) (by rw[W09,hj];rfl);exact ⟨v,g4,hv g5 (W03.1 (W03.1 h2 r (W0d hi)) x (W0d hj))⟩
   | mp kvs =>
     obtain ⟨g0,es,t,g1,g2,g3,g4⟩:=h6;refine ⟨g0,es,t,g1,g2,by simpa using g3,λi x y hi=>?_⟩;obtain ⟨e,g5,g6,g7⟩:=g4 i (x.ren ρ) (y.ren ρ) (by rw[W09,hi];rfl);have:=W03.1 h2 (x,y) (W0d hi);simp only[W01]at this;exact ⟨e,g5,hv g6 this.1,hv g7 this.2⟩
 . intro k p hk;exact W0t.1 (hκ k p hk).1
 . intro k k' b s s' h1 h2;obtain ⟨q1,q2⟩:=hκ _ _ h1;obtain ⟨q3,q4⟩:=hκ _ _ h2;exact hinj k k' q1 q3 (h.inj _ _ b s s' q2 q4)
 . exact h.gr.mono (λb _ hb=>⟨hM b hb,rfl⟩) (W0f _)
 . have big:∀ k p,κ k=some p->1000<=k->(lk o' k).isSome=true:=λk p hk h1=>by
    obtain ⟨o,ho'⟩:=h.dom k p hk;exact hbig (k,o) (Z4J ho') h1
   have get:∀ k q,(st.env R.M κ).row k=some q->1000<=k->(lk o' k).isSome=true:=λk q hk h1=>by
    simp only[St.env,Option.bind_eq_some_iff]at hk;obtain ⟨o,ho',-⟩:=hk;exact hbig (k,o) (Z4J ho') h1
   have ge:∀ k,(∃ p,R.E0.loc k=some p)∨(∃ p,R.E0.row k=some p)->1000<=k:=λk hk=>by
    rcases W0q k 1000 with h1|h1
    . obtain ⟨h2,h3⟩:=h.ent k h1;rcases hk with ⟨p,hk⟩ | ⟨p,hk⟩
      . rw[h2]at hk;cases hk
      . rw[h3]at hk;cases hk
    . exact h1
   refine ⟨h.mono.size,λb hb hb0=>⟨hM b (h.mono.imm b hb hb0).1,(h.mono.imm b hb hb0).2⟩,λk p hk hr=>?_,λk sz m hk=>?_⟩
   . obtain ⟨h1,h2⟩:=h.mono.box k p hk hr;have h0:=ge k (.inl ⟨p,hk⟩);have h3:=big k p h1 h0;have hf:=hfix k h0 h3;exact ⟨by simp only[St.env,κ',h3,if_true,hf];exact h1,by rw[hrow k h3,hf];exact h2⟩
   . obtain ⟨m',h1,h2,h3⟩:=h.mono.row k sz m hk;have h0:=ge k (.inr ⟨_,hk⟩);have h4:=get k _ h1 h0;have hf:=hfix k h0 h4;refine ⟨m',by rw[hrow k h4,hf];exact h1,h2,λe b s cs t hl=>?_⟩;obtain ⟨h5,h6⟩:=h3 e b s cs t hl;exact ⟨by simp only[St.env,κ',h4,if_true,hf];exact h5,h6⟩
def Ym.key {w κ κ' n sz:Nat} {rows:List (List AV)} {T:List (Nat×AV)} {O:List (Nat×AObj)} (h1:κ<1000) (h2:κ'<1000) (hr:rows.all (λr=>r.all AV.pure)=true)
  (hT:∀ p∈T,p.1≠w/\lk T p.1=some p.2/\(p.2.pure=true∨∃ k off,p.2 = .ptr k off/\k≠κ/\k≠κ'/\(lk O k).isSome=true))
  (hO:∀ p∈O,p.1≠κ/\p.1≠κ'/\lk O p.1=some p.2/\∃ cs,p.2 = .box cs/\cs.all AV.pure=true) :
  Ym ⟨(w,.osl κ n)::T,(κ,.row sz rows)::O⟩ ⟨(w,.osl κ' n)::T,(κ',.row sz rows)::O⟩:=by
 have ln:∀ {k:Nat},(lk O k).isSome=true->k≠κ/\k≠κ':=λ{k} h=>by
  obtain ⟨o,ho⟩:=W0t.1 h;have:=hO _ (Z4J ho);exact ⟨this.1,this.2.1⟩
 have lo:∀ {k:Nat},(lk ((κ',AObj.row sz rows)::O) k).isSome=true->k=κ'∨(lk O k).isSome=true:=λ{k} h=>by
  simp only[lk]at h
  split at h
  . rename_i e;exact .inl e.symm
  . exact .inr h
 refine Ym.rnm (λk=>if k=κ' then κ else k) ?_ ?_ ?_ ?_ ?_
 . intro p hp;rcases W0g.1 hp with rfl|hp
   . exact ⟨by simp[lk,AV.ren],by simp[Ya,AV.keys,lk]⟩
   . obtain ⟨a,b,c⟩:=hT p hp;have a':¬w=p.1:=λe=>a e.symm
     rcases c with c | ⟨k,off,e,c1,c2,c3⟩
     . refine ⟨?_,by simp[Ya,AV.pure_keys _ c]⟩;rw[AV.ren_pure _ c];simp only[lk,if_neg a'];exact b
     . rw[e]at b ⊢;refine ⟨?_,?_⟩
       . simp only[lk,if_neg a',AV.ren,if_neg c2];exact b
       . have c2':¬κ'=k:=λe=>c2 e.symm
         simp only[Ya,AV.keys,List.all_cons,List.all_nil,W21,lk,if_neg c2'];exact c3
 . intro p hp;rcases W0g.1 hp with rfl|hp
   . refine ⟨?_,?_⟩
     . rw[AObj.ren_pure hr];simp[lk]
     . simp only[Yc,W03]at hr ⊢;intro r h r' h';simp[Ya,AV.pure_keys _ (hr r h r' h')]
   . obtain ⟨a,b,c,cs,e,d⟩:=hO p hp;have a':¬κ=p.1:=λe=>a e.symm
     refine ⟨?_,?_⟩
     . have er:p.2.ren (λk=>if k=κ' then κ else k)=p.2:=by
        rw[e,AObj.ren]
        congr 1
        refine (W0K λx hx=>?_).trans (W1V cs);rw[id];exact AV.ren_pure x (W03.1 d x hx)
       show lk _ (if p.1=κ' then κ else p.1)=_;rw[if_neg b,er];simp only[lk,if_neg a'];exact c
     . rw[e];simp only[Yc,W03]at d ⊢;intro x hx;simp[Ya,AV.pure_keys _ (d x hx)]
 . intro k k' g1 g2 e;have e:(if k=κ' then κ else k)=(if k'=κ' then κ else k'):=e;rcases lo g1 with a1|a1 <;> rcases lo g2 with a2|a2
   . rw[a1,a2]
   . rw[if_pos a1,if_neg (ln a2).2]at e;exact absurd e.symm (ln a2).1
   . rw[if_pos a2,if_neg (ln a1).2]at e;exact absurd e (ln a1).1
   . rw[if_neg (ln a1).2,if_neg (ln a2).2]at e;exact e
 . intro p hp hb;rcases W0g.1 hp with rfl|hp
   . exact absurd hb (by show ¬1000<=κ;omega)
   . obtain ⟨a,b,c,-⟩:=hO p hp;have b':¬κ'=p.1:=λe=>b e.symm
     simp only[lk,if_neg b',c,Option.isSome_some]
 . intro k hk _;show (if k=κ' then κ else k)=k;rw[if_neg (by omega)]
def NewS (P:Program) (G:Jg) (st:St) (ρ:Nat->Nat) (os:List (Nat×AObj)) (f:FuncId) (args:List AV) (v:AV):Prop :=
 ∃ pre:Nat->Option AObj,(∀ p∈os,st.get (ρ p.1)=pre p.1)/\∀ st':St,(∀ p∈os,st'.get (ρ p.1)=pre p.1)->Z1B P G st' f args v (Yl ρ os st')
def NewS.of {P:Program} {G:Jg} {st:St} {f:FuncId} {os:List (Nat×AObj)} {args:List AV} {r:AV} (h:PB P G f [] args r os) (ρ:Nat->Nat) (hinj:(os.map λp=>ρ p.1).Nodup) (hnw:∀ p∈os,st.get (ρ p.1)=none) (hargs:args.all AV.pure=true) {v:AV} (hv:v=r.ren ρ) :
  NewS P G st ρ os f args v:=by
 refine ⟨λ_=>none,hnw,λst' h'=>?_⟩;exact Z1B.objs h ρ hinj h' hargs hv rfl
def ZeN {ρ:Nat->Nat}:∀ (os:List (Nat×AObj)) (st:St) (n:Nat),(Yl ρ os st).tmp n=st.tmp n
 |[],_,_=>rfl
 |(k,o)::os,st,n=>by rw[Yl,ZeN os];rfl
def ZeO {ρ:Nat->Nat}:∀ (os:List (Nat×AObj)) (st:St) (k:Nat),k ∉ os.map (λp=>ρ p.1)->(Yl ρ os st).get k=st.get k
 |[],_,_,_=>rfl
 | (k0,o)::os,st,k,h=>by
   simp only[W0F,W0g,not_or]at h;rw[Yl,ZeO os _ k h.2,St.get_set,if_neg (λe=>h.1 e.symm)]
def ZeP {ρ:Nat->Nat}:∀ (os:List (Nat×AObj)) (st st2:St) (k:Nat),k∈os.map (λp=>ρ p.1)->(Yl ρ os st2).get k=(Yl ρ os st).get k
 |[],_,_,_,h=>by cases h
 | (k0,o)::os,st,st2,k,h=>by
   rw[Yl,Yl];by_cases c:k∈os.map (λp=>ρ p.1)
   . exact ZeP os _ _ k c
   . rw[ZeO os _ k c,ZeO os _ k c];simp only[W0F,W0g]at h;rcases h with rfl|h
     . rw[St.get_set,St.get_set,if_pos rfl,if_pos rfl]
     . exact absurd h c
inductive Stp2 (P:Program) (G:Jg) (r:ROper) (st:St):Rec->St->Prop
 |std {st':St} (h:Stp P G r st st'):Stp2 P G r st (recOf G r st) st'
 | new (h:wants st r.guard=some true) (f:FuncId) (args:List RA) (v:AV) (ρ:Nat->Nat) (os:List (Nat×AObj)) (ho:r.op = .call f args) (hc:NewS P G st ρ os f (args.map (evA G st)) v) :
   Stp2 P G r st ⟨r.d,r.rt,os.map (λp=>ρ p.1)++ftk G st (r.d.getD 0) r.op,os.map (λp=>ρ p.1),r.aft⟩ ((Yl ρ os st).putd r.d v)
 | ck (h:wants st r.guard=some true) (x:RA) (k n i off sz:Nat) (rows:List (List AV)) (ho:r.op = .nilck x) (hx:evA G st x = .eptr k n i off) (hk:st.get k=some (.row sz rows)) (hl:rows.length=n) :
   Stp2 P G r st ⟨r.d,r.rt,[k],[],r.aft⟩ (st.putd r.d (.eptr k n i off))
section
variable {P:Program} {G:Jg}
def Stp2.recs {r:ROper} {st st':St} {rc:Rec} (h:Stp2 P G r st rc st'):rc.d=r.d/\rc.rt=r.rt/\rc.aft=r.aft:=by
 cases h <;> exact ⟨rfl,rfl,rfl⟩
def ZeQ {r:ROper} {st st' st2:St} {rc:Rec} (h:Stp2 P G r st rc st') (ht:∀ t∈r.rt,st2.tmp t=st.tmp t) (hk:∀ k∈rc.fk,st2.get k=st.get k) :
  ∃ st2' rc',Stp2 P G r st2 rc' st2'/\(∀ n,r.d=some n->st2'.tmp n=st'.tmp n)/\(∀ n,r.d≠some n->st2'.tmp n=st2.tmp n/\st'.tmp n=st.tmp n) /\
    (∀ k∈rc.wk,st2'.get k=st'.get k)/\(∀ k,k ∉ rc.wk->st2'.get k=st2.get k/\st'.get k=st.get k):=by
 cases h with
 | std h =>
   obtain ⟨st2',h1,h2⟩:=Z2w h ht hk;exact ⟨st2',_,.std h1,h2⟩
 | new h f args v ρ os ho hc =>
   have hw:wants st2 r.guard=wants st r.guard:=by
    cases e:r.guard with
    |none=>rfl
    |some p=>obtain ⟨t,b⟩:=p;simp only[wants];rw[ht t (by simp[ROper.rt,e])]
   have ha:∀ y∈r.op.args,evA G st2 y=evA G st y:=λy hy=>by
    cases y <;> simp only[evA]
    rename_i t;rw[ht t (by simp only[ROper.rt,W0h,W0u];exact .inl ⟨_,hy,by simp[RA.tm]⟩)]
   have hargs:args.map (evA G st2)=args.map (evA G st):=W0K λy hy=>ha y (by rw[ho];exact hy)
   have putn:∀ (a:St) (x:AV) (n:Nat),r.d≠some n->(a.putd r.d x).tmp n=a.tmp n:=λa x n e=>by
    cases e2:r.d with
    |none=>rfl
    |some m=>simp only[St.putd,St.tmp_put];rw[if_neg (by rintro rfl;exact e e2)]
   have putg:∀ (a:St) (x:AV) (k:Nat),(a.putd r.d x).get k=a.get k:=λa x k=>by cases e2:r.d <;> rfl
   have hc2:NewS P G st2 ρ os f (args.map (evA G st2)) v:=by
    rw[hargs];obtain ⟨pre,hc1,hc2⟩:=hc;exact ⟨pre,λp hp=>(hk _ (List.mem_append_left _ (W0i.2 ⟨p,hp,rfl⟩))).trans (hc1 p hp),hc2⟩
   refine ⟨_,_,.new (hw.trans h) f args v ρ os ho hc2,λn e=>by simp[e,St.putd,St.tmp_put],λn hn=>⟨?_,?_⟩,λk hk'=>?_,λk hk'=>⟨?_,?_⟩⟩
   . rw[putn _ _ n hn,ZeN]
   . rw[putn _ _ n hn,ZeN]
   . rw[putg,putg];exact ZeP os st st2 k hk'
   . rw[putg];exact ZeO os st2 k hk'
   . rw[putg];exact ZeO os st k hk'
 | ck h x k n i off sz rows ho hx hg hl =>
   have hw:wants st2 r.guard=wants st r.guard:=by
    cases e:r.guard with
    |none=>rfl
    |some p=>obtain ⟨t,b⟩:=p;simp only[wants];rw[ht t (by simp[ROper.rt,e])]
   have ha:evA G st2 x=evA G st x:=by
    have hy:x∈r.op.args:=by rw[ho];simp[ROp.args]
    cases x <;> simp only[evA]
    rename_i t;rw[ht t (by simp only[ROper.rt,W0h,W0u];exact .inl ⟨_,hy,by simp[RA.tm]⟩)]
   have putn:∀ (a:St) (x:AV) (n:Nat),r.d≠some n->(a.putd r.d x).tmp n=a.tmp n:=λa x n e=>by
    cases e2:r.d with
    |none=>rfl
    |some m=>simp only[St.putd,St.tmp_put];rw[if_neg (by rintro rfl;exact e e2)]
   have putg:∀ (a:St) (x:AV) (k:Nat),(a.putd r.d x).get k=a.get k:=λa x k=>by cases e2:r.d <;> rfl
   refine ⟨_,_,.ck (hw.trans h) x k n i off sz rows ho (ha.trans hx) ((hk k (by simp)).trans hg) hl,λn e=>by simp[e,St.putd,St.tmp_put],λn hn=>⟨putn _ _ n hn,putn _ _ n hn⟩,λk hk'=>(by cases hk'),λk _=>⟨putg _ _ _,putg _ _ _⟩⟩
end
section
variable {P:Program} {R:Run}
def ZeR {st:St} {a:Act} {W:World} {rd:Option Nat} {m:Nat} {ops:Array Oper} {r:ROper} {rc:Rec} {st':St} {j:Nat} {o:Oper} {K:Act->World->Prop} {Q:Exit->Act->World->Prop} (hst:Stp2 P R.G r st rc st') (ho:ops[j]? = some o) (hk:Z1z P R.N ops o r=true)
  (hs:SR R st a W) (hK:∀ a' W',SR R st' a' W'->K a' W'):wpOpIn (FW rd) m P ops Q j K a W:=by
 cases hst with
 |std h=>exact Z26 h ho hk hs hK
 | new h f args v ρ os hcall hc =>
   obtain ⟨κ,hκ⟩:=hs;have hk0:=hk;simp only[Z1z,W01,W0b]at hk;obtain ⟨⟨⟨hd,hdn⟩,-⟩,-⟩:=hk;have hdn':∀ n,r.d=some n->n<R.N:=λn e=>by rw[e]at hdn;simpa using hdn
   refine Z25 (.inl ⟨_,.inl hcall,rfl⟩) h ho hk0 hκ λvs ha=>?_
   obtain ⟨pre,hc1,hc2⟩:=hc;obtain ⟨h1,h2⟩:=hc2 st hc1 R a W κ vs rfl hκ ha;refine ⟨h1,h2.mono ?_⟩;rintro e W' ⟨u,κ1,rfl,h3,h4⟩;refine hK _ _ ⟨κ1,?_⟩;rw[hd];exact h3.putd hdn' h4
 | ck h x k n i off sz rows hcall hx hg hl =>
   obtain ⟨κ,hκ⟩:=hs;simp only[Z1z,W01,W0b]at hk;obtain ⟨⟨⟨hd,hdn⟩,hop⟩,hgd⟩:=hk;have hdn':∀ n,r.d=some n->n<R.N:=λn e=>by rw[e]at hdn;simpa using hdn
   rw[hcall]at hop;simp only[Z1y,W05,if_false]at hop;have hnd:=Z23 hop
   have hsim:Sim P R a W o (.eptr k n i off) st:=by
    cases e:o.op <;> rw[e]at hop <;> simp only[okOp,W05]at hop
    rename_i y;have h1:=hκ.ev hop;rw[hx]at h1;generalize hv:a.eval y=v at *
    cases h1 with
    |pv h=>cases h
    | eptr _ _ _ _ sz' m p hr hn he =>
      have hm:m=n:=by
       have h2:(st.env R.M κ).row k=some (sz,rows.length):=(by simp only[St.env,hg];rfl);rw[h2]at hr;simp only[W00,W06]at hr;omega
      obtain ⟨b,s,h3,rfl⟩:=he hm;refine .val hκ (by simp[execOp,e,hv]) (.eptr _ _ _ _ sz' m _ hr hn he)
   unfold wpOpIn;simp only[ho];obtain ⟨v,W',κ',h1,h2,h3⟩:=hsim;rw[if_pos (Z20 hκ hgd h)];refine ⟨λ_ _=>trivial,?_⟩;rw[Oper.semAt_eq _ _ _ hnd]
   have fin:K (a.put o.dst v) W':=by
    refine hK _ _ ⟨κ',?_⟩;rw[hd];exact h2.putd hdn' h3
   rcases h1 with h1 | ⟨h1,rfl⟩ <;> rw[h1] <;> exact fin
def ZeS:StepK P R (Stp2 P R.G):=⟨λh=>h.recs,λh=>ZeQ h,λh=>ZeR h⟩
end
def ropE (G:Jg) (st:St) (d:Nat) (op:ROp):Option (AV×St):=match op with
 | .nilck x=>match evA G st x with
   | .eptr k n i off=>match st.get k with
     |some (.row _ rows)=>if rows.length=n then some (.eptr k n i off,st) else none
     |_=>none
   |_=>rop G st d op
 |_=>rop G st d op
def recE (G:Jg) (r:ROper) (st:St):Rec:=match r.op with
 | .nilck x=>match evA G st x with
   |.eptr k _ _ _=>⟨r.d,r.rt,[k],[],r.aft⟩
   |_=>recOf G r st
 |_=>recOf G r st
def RE (P:Program) (G:Jg):List ROper->St->List Rec->(St->Prop)->Prop
 |[],st,acc,K=>Z2t acc.reverse=true/\K st
 | r :: rs,st,acc,K=>match wants st r.guard with
   |none=>False
   |some false=>RE P G rs (st.putd r.d .hole) (recOf G r st::acc) K
   | some true=>match r.op with
     | .call f args=>(∃ v,CallR P G st f (args.map (evA G st)) v/\RE P G rs (st.putd r.d v) (recOf G r st::acc) K) ∨
       ∃ v ρ os,NewS P G st ρ os f (args.map (evA G st)) v/\RE P G rs ((Yl ρ os st).putd r.d v) (⟨r.d,r.rt,os.map (λp=>ρ p.1)++ftk G st (r.d.getD 0) r.op,os.map (λp=>ρ p.1),r.aft⟩::acc) K
     | op=>if Z1y op=true then False else match ropE G st (r.d.getD 0) op with
       |some (x,st')=>RE P G rs (st'.putd r.d x) (recE G r st::acc) K
       |none=>False
section
variable {P:Program} {G:Jg}
def Stp2.opE {r:ROper} {st st':St} {x:AV} (hw:wants st r.guard=some true) (hn:Z1y r.op=false) (hr:ropE G st (r.d.getD 0) r.op=some (x,st')):Stp2 P G r st (recE G r st) (st'.putd r.d x):=by
 unfold ropE at hr;unfold recE
 split at hr
 . rename_i y hop
   split at hr
   . rename_i k n i off he
     split at hr <;> try (simp at hr;done)
     rename_i sz rows hg
     split at hr <;> simp only[W00,W06,reduceCtorEq]at hr
     obtain ⟨rfl,rfl⟩:=hr;exact .ck hw y k n i off sz rows hop he hg ‹_›
   . exact .std (.op hw x st' hn hr)
 . exact .std (.op hw x st' hn hr)
def ZeT {r:ROper} {rs:List ROper} {st:St} {acc:List Rec} {K:St->Prop} (h:RE P G (r::rs) st acc K):∃ st' rc,Stp2 P G r st rc st'/\RE P G rs st' (rc::acc) K:=by
 simp only[RE]at h
 split at h
 . exact h.elim
 . exact ⟨_,_,.std (.skip ‹_›),h⟩
 . split at h
   . rcases h with ⟨v,hc,hv⟩ | ⟨v,ρ,os,hc,hv⟩
     . exact ⟨_,_,.std (.call ‹_› _ _ v ‹_› hc),hv⟩
     . exact ⟨_,_,.new ‹_› _ _ v ρ os ‹_› hc,hv⟩
   . split at h
     . exact h.elim
     . rename_i hn
       split at h <;> try (exact h.elim)
       rename_i x st' hr;exact ⟨_,_,Stp2.opE ‹_› (by simpa using hn) hr,h⟩
def ZeU:∀ (rs:List ROper) (st:St) (acc:List Rec) (K:St->Prop),RE P G rs st acc K ->
  ∃ (S:Nat->St) (rc:Nat->Rec),S 0=st/\(∀ (i:Nat) (r:ROper),rs[i]? = some r->Stp2 P G r (S i) (rc i) (S (i+1)))/\K (S rs.length)/\Z2t (acc.reverse++(List.range rs.length).map λi=>rc i)=true
 |[],st,acc,K,h=>⟨λ_=>st,λ_=>⟨none,[],[],[],[]⟩,rfl,by simp,h.2,by simpa using h.1⟩
 | r :: rs,st,acc,K,h=>by
   obtain ⟨st',rc0,h1,h2⟩:=ZeT h;obtain ⟨S,rc,h3,h4,h5,h6⟩:=ZeU rs st' _ K h2;refine ⟨λi=>match i with|0=>st|i+1=>S i,λi=>match i with|0=>rc0|i+1=>rc i,rfl,λi r' hi=>?_,h5,?_⟩
   . cases i with
     |zero=>simp at hi;subst hi;rw[<- h3]at h1;exact h1
     |succ i=>exact h4 i r' (by simpa using hi)
   . rw[W1n,W26];simp only[W0F,W10];simpa [W0y] using h6
end
def ZeV {P:Program} {R:Run} {st:St} {Φ:Exit->St->Prop} {id:Nat} {rs:List ROper} (hm:P.follows .mixedOrders=true) (h:RE P R.G rs st [] (Φ .normal)):AR P R (.reg id true rs) st Φ:=by
 obtain ⟨S,rc,rfl,hS,hK,hi⟩:=ZeU rs st [] _ h;exact Z2G ZeS hm hS hK (by simpa using hi)
section
variable {P:Program} {G:Jg} {d:Option Nat} {op:ROp} {g:Option (Nat×Bool)} {aft:List Nat} {rs:List ROper} {st:St} {K:St->Prop} {acc:List Rec}
def ZeW:RE P G [] st acc K=(Z2t acc.reverse=true/\K st):=rfl
def execE (P:Program) (G:Jg) (op:ROp) (d:Option Nat) (g:Option (Nat×Bool)) (aft:List Nat) (rs:List ROper) (st:St) (acc:List Rec) (K:St->Prop):Prop:=match ropE G st (d.getD 0) op with
 |some (x,st')=>RE P G rs (st'.putd d x) (recE G ⟨d,op,g,aft⟩ st::acc) K
 |none=>False
def RE_op (hw:wants st g=some true) (hn:Z1y op=false):RE P G (⟨d,op,g,aft⟩::rs) st acc K=execE P G op d g aft rs st acc K:=by
 cases op <;> first|(cases hn;done)|(simp only[RE,hw];rw[if_neg (by rw[hn];simp)];rfl)
def CallE (P:Program) (G:Jg) (f:FuncId) (args:List RA) (d:Option Nat) (g:Option (Nat×Bool)) (aft:List Nat) (rs:List ROper) (st:St) (acc:List Rec) (K:St->Prop) (as:List AV):Prop :=
 (∃ v,CallR P G st f as v/\RE P G rs (st.putd d v) (recOf G ⟨d,.call f args,g,aft⟩ st::acc) K) ∨
  ∃ v ρ os,NewS P G st ρ os f as v/\RE P G rs ((Yl ρ os st).putd d v) (⟨d,(⟨d,.call f args,g,aft⟩ : ROper).rt,os.map (λp=>ρ p.1)++ftk G st (d.getD 0) (.call f args),os.map (λp=>ρ p.1),aft⟩::acc) K
def ZeX {f:FuncId} {args:List RA} (hw:wants st g=some true):RE P G (⟨d,.call f args,g,aft⟩::rs) st acc K=CallE P G f args d g aft rs st acc K (args.map (evA G st)):=by
 simp only[RE,hw,CallE]
def CallE.of {f:FuncId} {args:List RA} {as:List AV} {v:AV} (h:PC P G f as v) (hp:as.all AV.pure=true) (hk:RE P G rs (st.putd d v) (recOf G ⟨d,.call f args,g,aft⟩ st::acc) K):CallE P G f args d g aft rs st acc K as:=.inl ⟨v,.inl ⟨hp,h⟩,hk⟩
def CallE.new {f:FuncId} {args:List RA} {as:List AV} {v:AV} {ρ:Nat->Nat} {os:List (Nat×AObj)} (h:NewS P G st ρ os f as v)
 (hk:RE P G rs ((Yl ρ os st).putd d v) (⟨d,(⟨d,.call f args,g,aft⟩ : ROper).rt,os.map (λp=>ρ p.1)++ftk G st (d.getD 0) (.call f args),os.map (λp=>ρ p.1),aft⟩::acc) K):CallE P G f args d g aft rs st acc K as:=.inr ⟨v,ρ,os,h,hk⟩
end
attribute [simp] ZeW ropE recE
end Go.Proofs.YthlcppdbldkldaaDoor
