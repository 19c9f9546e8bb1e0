/-
  The abstract machine: every operation; regions in order; functions.
-/
import Derived.Test.YthlcppdbldkldaaDoorMAmEToAmF
import Derived.RangeFuncLeaves
set_option linter.all false
set_option maxHeartbeats 8000000
namespace Go.Proofs.YthlcppdbldkldaaDoor
open Go.RowKit
section
variable {P:Program} {R:Run} {st:St} {a:Act} {W:World} {κ:Nat->Option (Nat×Nat)}
def Z1X (h:SK R st a W κ) {o:Oper} {op:BinOp} {t u:TypeId} {x y:Operand} {x' y':RA} (ho:o.op = .binOp op t x y u) (hs:Za P t=true) (hx:okA x x'=true) (hy:okA y y'=true)
  {z:AV} {st':St} {d:Nat} (hr:rop R.G st d (.bin op x' y')=some (z,st')):Sim P R a W o z st':=by
 simp only[rop,W04,W06]at hr;obtain ⟨n,hn,rfl,rfl⟩:=hr;obtain ⟨r,h1,h2⟩:=Zk (P:=P) (x':=x) (y':=y) hs (h.ev hx) (h.ev hy) hn;refine .val h ?_ h2;simp only[execOp,ho,Sem.run_bind];rw[Sem.run_bind]at h1;rw[h1];rfl
def Z1Y (h:SK R st a W κ) {o:Oper} {r:ROp} (hk:okOp P o.op r=true) {z:AV} {st':St} {d:Nat} (hr:rop R.G st d r=some (z,st')):Sim P R a W o z st':=by
 generalize ho:o.op=op at hk
 cases r with
 | mov y =>
   simp only[rop,W00,W06]at hr;obtain ⟨rfl,rfl⟩:=hr
   cases op <;> simp only[okOp,W05]at hk
   . exact Zd h (.inl ho) hk
   . exact Zd h (.inr ho) hk
 | pick c' x' y' =>
   cases op <;> simp only[okOp,W05,W01]at hk
   exact Ze h ho hk.1.1 hk.1.2 hk.2 hr
 | nilck y =>
   cases op <;> simp only[okOp,W05]at hk
   exact Zf h ho hk hr
 | bin op' x' y' =>
   cases op <;> simp only[okOp,W05,W01,W0b]at hk
   obtain ⟨⟨⟨⟨h1,rfl⟩,h2⟩,h3⟩,-⟩:=hk;exact Z1X h ho h1 h2 h3 hr
 | eqs neg ks x' y' =>
   cases op <;> try (simp[okOp]at hk;done)
   rename_i bop t x y u;simp only[okOp,W01,W0b,W1y]at hk;obtain ⟨⟨⟨⟨⟨h1,h2⟩,h3⟩,h4⟩,h5⟩,h6⟩:=hk;refine ZZ h ho ?_ h2 h3 h4 h5 h6 hr
   cases neg <;> cases bop <;> simp_all
 | un op' x' =>
   cases op <;> simp only[okOp,W05,W01,W0b]at hk
   obtain ⟨rfl,h1⟩:=hk;exact Zg h ho h1 hr
 | conv k y =>
   cases op <;> simp only[okOp,W05,W01]at hk
   obtain ⟨h1,h2⟩:=hk
   split at h1 <;> simp only[W05,W0b]at h1
   subst h1;exact Zh h ho ‹_› ⟨_,‹_›⟩ h2 hr
 | ext j y =>
   cases op <;> simp only[okOp,W05,W01,W0A]at hk
   obtain ⟨h1,rfl⟩:=hk;exact Zi h ho h1 hr
 | mkf fn xs ys =>
   cases op <;> simp only[okOp,W05,W01,W0b]at hk
   obtain ⟨⟨rfl,h1⟩,h2⟩:=hk;simp only[rop,W00,W06]at hr;obtain ⟨rfl,rfl⟩:=hr;exact Zj h ho h1 h2
 | field agg off n y =>
   cases op <;> simp only[okOp,W05,W01]at hk
   obtain ⟨h1,h2⟩:=hk
   split at h1 <;> try (simp at h1;done)
   split at h1 <;> simp only[W05,W01,W0A,W0b]at h1
   obtain ⟨⟨rfl,h3⟩,h4⟩:=h1;exact Zr h ho ‹_› ‹_› h3 h4 h2 hr
 | vop v xs =>
   cases op <;> try (simp[okOp,okV]at hk;done)
   all_goals exact Zy h ho (by unfold okOp at hk;exact hk) hr
 | faddr off y =>
   cases op <;> simp only[okOp,W05,W01]at hk
   obtain ⟨h1,h2⟩:=hk
   split at h1 <;> try (simp at h1;done)
   split at h1 <;> simp only[W05,W01,W0A]at h1
   obtain ⟨rfl,h3⟩:=h1
   split at h3 <;> simp only[W05]at h3
   exact Zz h ho ‹_› ‹_› ‹_› h2 hr
 | iaddr sz y j =>
   cases op <;> simp only[okOp,W05,W01]at hk
   obtain ⟨⟨h1,h2⟩,h3⟩:=hk
   split at h1 <;> simp only[W05,W0b]at h1
   exact ZP h ho ‹_› h1 h2 h3 hr
 | build zero qs =>
   cases op <;> try (simp[okOp]at hk;done)
   exact ZN h ho hk hr
 | len y =>
   cases op <;> try (simp[okOp]at hk;done)
   rename_i c;obtain ⟨callee,args,argTypes⟩:=c;unfold okOp at hk
   split at hk <;> try (simp at hk;done)
   all_goals simp_all only [reduceCtorEq,ROp.len.injEq,Op.call.injEq,Call.mk.injEq]
   rename_i x t ts y' e1 e2;obtain ⟨rfl,rfl,rfl⟩:=e1;subst e2;simp only[W01]at hk;obtain ⟨h1,h2⟩:=hk
   split at h1 <;> simp only[W05]at h1
   exact ZQ h ho rfl ‹_› h2 hr
 | slen y =>
   cases op <;> try (simp[okOp]at hk;done)
   rename_i c;obtain ⟨callee,args,argTypes⟩:=c;unfold okOp at hk
   split at hk <;> try (simp at hk;done)
   all_goals simp_all only [reduceCtorEq,ROp.slen.injEq,Op.call.injEq,Call.mk.injEq]
   rename_i x t ts y' e1 e2;obtain ⟨rfl,rfl,rfl⟩:=e1;subst e2;simp only[W01]at hk;obtain ⟨h1,h2⟩:=hk
   split at h1 <;> simp only[W05]at h1
   exact ZR h ho rfl ‹_› h2 hr
 | mx great y ys =>
   cases op <;> try (simp[okOp]at hk;done)
   rename_i c;obtain ⟨callee,args,argTypes⟩:=c;unfold okOp at hk
   split at hk <;> try (simp at hk;done)
   all_goals simp_all only [reduceCtorEq,ROp.mx.injEq,Op.call.injEq,Call.mk.injEq]
   all_goals
    simp only[W01]at hk;exact ZU h ho rfl hk.1 hk.2 hr
 | load agg n y =>
   cases op <;> simp only[okOp,W05,W01,W0b]at hk
   obtain ⟨⟨h1,h2⟩,h3⟩:=hk;exact Zq h ho h1 h2 h3 hr
 | store n y u =>
   cases op <;> simp only[okOp,W05,W01,W0b]at hk
   obtain ⟨⟨h1,h2⟩,h3⟩:=hk;exact ZJ h ho h1 h2 h3 hr
 | alloc cells =>
   cases op <;> simp only[okOp,W05]at hk
   split at hk <;> try (simp at hk;done)
   split at hk <;> try (simp at hk;done)
   exact ZC h ho ‹_› ‹_› hk hr
 | box y =>
   cases op <;> simp only[okOp,W05]at hk
   exact ZA h ho hk hr
 | bsl own sz n zero qs =>
   cases op <;> simp only[okOp,W05,W01,W0b,W0A]at hk
   obtain ⟨⟨⟨⟨h1,rfl⟩,h2⟩,h3⟩,h4⟩:=hk
   split at h1 <;> simp only[W05,W01,W0b]at h1
   obtain ⟨h5,h6⟩:=h1
   split at h6 <;> try (simp at h6;done)
   split at h6 <;> try (simp at h6;done)
   exact Z13 h ho ‹_› h5 ‹_› ‹_› h6 h2 h3 h4 hr
 | slc sz y lo' hi' =>
   cases op <;> try (simp[okOp]at hk;done)
   rename_i t x lo hi mx
   cases mx <;> simp only[okOp,W05,W01]at hk
   obtain ⟨⟨⟨h1,h2⟩,h3⟩,h4⟩:=hk
   split at h1 <;> simp only[W05,W0b]at h1
   exact Z18 h ho ‹_› h1 h2 h3 h4 hr
 | sslc y lo' hi' =>
   cases op <;> try (simp[okOp]at hk;done)
   rename_i t x lo hi mx
   cases mx <;> simp only[okOp,W05,W01]at hk
   obtain ⟨⟨⟨h1,h2⟩,h3⟩,h4⟩:=hk
   split at h1 <;> simp only[W05]at h1
   exact Z17 h ho ‹_› h2 h3 h4 hr
 | mksl sz bytes zero n =>
   cases op <;> simp only[okOp,W05,W01]at hk
   obtain ⟨⟨h1,h2⟩,h3⟩:=hk
   split at h1 <;> try (simp at h1;done)
   split at h1 <;> simp only[W05,W01,W0b]at h1
   obtain ⟨⟨h4,h5⟩,h6⟩:=h1
   split at h6 <;> try (simp at h6;done)
   exact Z19 h ho ‹_› ‹_› h4 h5 ‹_› h6 h2 h3 hr
 | app sz bytes s' x' =>
   cases op <;> try (simp[okOp]at hk;done)
   rename_i c;obtain ⟨callee,args,argTypes⟩:=c;unfold okOp at hk
   split at hk <;> try (simp at hk;done)
   all_goals simp_all only [reduceCtorEq,ROp.app.injEq,Op.call.injEq,Call.mk.injEq]
   simp only[W01,W0A]at hk;obtain ⟨⟨⟨rfl,h1⟩,h2⟩,h3⟩:=hk
   split at h1 <;> try (simp at h1;done)
   split at h1 <;> simp only[W05,W01,W0b]at h1
   obtain ⟨⟨h4,h5⟩,h6⟩:=h1
   split at h6 <;> simp only[W05,W0A]at h6
   exact Z1b h ho rfl ‹_› ‹_› h4.1 h4.2 h5.1 h5.2 ‹_› h6 h2 h3 hr
 |call f args=>simp[rop]at hr
 |calln f args=>simp[rop]at hr
 |callv f args=>simp[rop]at hr
 | mkmap =>
   cases op <;> try (simp[okOp]at hk;done)
   exact Z1u h ho (by unfold okOp at hk;exact hk) hr
 | look kk zero ok m k =>
   cases op <;> simp only[okOp,W05,W01,W0A]at hk
   obtain ⟨⟨⟨h1,rfl⟩,h2⟩,h3⟩:=hk
   split at h1 <;> simp only[W05,W01]at h1
   obtain ⟨h4,h5⟩:=h1
   split at h5 <;> try (simp at h5;done)
   split at h5 <;> try (simp at h5;done)
   exact Z1t h ho ‹_› h4 ‹_› ‹_› h5 h2 h3 hr
 | mupd kk m k v =>
   cases op <;> simp only[okOp,W05,W01]at hk
   all_goals
    obtain ⟨⟨⟨h1,h2⟩,h3⟩,h4⟩:=hk
    split at h1 <;> try (simp at h1;done)
    first
     |exact Z1v h (.inl ho) ‹_› h1 h2 h3 h4 hr
     |exact Z1v h (.inr ho) ‹_› h1 h2 h3 h4 hr
 | mdel kk m k =>
   cases op <;> try (simp[okOp]at hk;done)
   rename_i c;obtain ⟨callee,args,argTypes⟩:=c;unfold okOp at hk
   split at hk <;> try (simp at hk;done)
   all_goals simp_all only [reduceCtorEq,ROp.mdel.injEq,Op.call.injEq,Call.mk.injEq]
   simp only[W01]at hk;obtain ⟨⟨h1,h2⟩,h3⟩:=hk
   split at h1 <;> try (simp at h1;done)
   exact Z1w h ho rfl ‹_› h1 h2 h3 hr
 | clr sz zero y' =>
   cases op <;> try (simp[okOp]at hk;done)
   rename_i c;obtain ⟨callee,args,argTypes⟩:=c;unfold okOp at hk
   split at hk <;> try (simp at hk;done)
   all_goals simp_all only [reduceCtorEq,ROp.clr.injEq,Op.call.injEq,Call.mk.injEq]
   simp only[W01]at hk;obtain ⟨h1,h2⟩:=hk
   split at h1 <;> try (simp at h1;done)
   split at h1 <;> try (simp at h1;done)
   simp only[W01,W0b]at h1;obtain ⟨h3,h4⟩:=h1
   split at h4 <;> try (simp at h4;done)
   exact Z1c h ho rfl ‹_› ‹_› h3 ‹_› h4 h2 hr
 | mlen m =>
   cases op <;> try (simp[okOp]at hk;done)
   rename_i c;obtain ⟨callee,args,argTypes⟩:=c;unfold okOp at hk
   split at hk <;> try (simp at hk;done)
   all_goals simp_all only [reduceCtorEq,ROp.mlen.injEq,Op.call.injEq,Call.mk.injEq]
   rename_i x t ts y' e1 e2;obtain ⟨rfl,rfl,rfl⟩:=e1;subst e2;simp only[W01]at hk;obtain ⟨h1,h2⟩:=hk
   split at h1 <;> simp only[W05]at h1
   exact Z1r h ho rfl ‹_› h2 hr
def Z1Z {ops:Array Oper} {j t:Nat} (h:(ops[j]?).bind (·.dst)=some t) (ht:t<a.tmps.size):yielded ops a.tmps j=match a.tmps.getD t Go.undef with | .bool b=>some b|_=>none:=by
 unfold yielded;rw[h];simp only[W1m,Array.getD,ht,dif_pos,W0n]
 split <;> simp_all
def Z20 (h:SK R st a W κ) {ops:Array Oper} {o:Oper} {g:Option (Nat×Bool)} (hg:(match o.guard,g with
  |none,none=>true
  |some (j,b),some (t,b')=>decide ((ops[j]?).bind (·.dst)=some t)&&decide (t<R.N)&&b == b'
  |_,_=>false)=true) {c:Bool} (hw:wants st g=some c):Region.wanted o (yielded ops a.tmps)=c:=by
 unfold wants at hw;unfold Region.wanted
 split at hg <;> try (simp at hg;done)
 . rename_i e1;simp only[W00]at hw;simp[e1,hw]
 . rename_i j b t b' e1;simp only[W01,W0b,W0A]at hg;obtain ⟨⟨h1,h2⟩,rfl⟩:=hg;simp only[e1];rw[Z1Z h1 (by rw[h.size];exact h2)];simp only at hw
   split at hw <;> simp only[W00,reduceCtorEq]at hw
   . rename_i x hx;rw[(h.tm t _ hx).bool_inv];subst hw;simp
   . rename_i hx;rw[(h.tm t _ hx).hole_inv];subst hw;rfl
inductive Stp (P:Program) (G:Jg) (r:ROper) (st:St):St->Prop
 |skip (h:wants st r.guard=some false):Stp P G r st (st.putd r.d .hole)
 |call (h:wants st r.guard=some true) (f:FuncId) (args:List RA) (v:AV) (ho:r.op = .call f args) (hc:CallR P G st f (args.map (evA G st)) v):Stp P G r st (st.putd r.d v)
 |callv (h:wants st r.guard=some true) (f:RA) (g:FuncId) (first caps:List AV) (args:List RA) (v:AV) (ho:r.op = .callv f args) (hf:evA G st f = .func (.func g) first caps)
  (hc:CallR P G st g (first++args.map (evA G st)++caps) v):Stp P G r st (st.putd r.d v)
 |callp (h:wants st r.guard=some true) (f:FuncId) (args:List RA) (v:AV) (ho:r.op = .calln f args) (hc:CallR P G st f (args.map (evA G st)) v):Stp P G r st (st.putd r.d v)
 |calln (h:wants st r.guard=some true) (f:FuncId) (args:List RA) (sz:Nat) (rows:List (List AV)) (ho:r.op = .calln f args) (hc:NewR P G st (r.d.getD 0) f (args.map (evA G st)) sz rows):Stp P G r st ((st.set (r.d.getD 0) (.row sz rows)).putd r.d (.osl (r.d.getD 0) rows.length))
 |op (h:wants st r.guard=some true) (x:AV) (st':St) (hn:Z1y r.op=false) (hr:rop G st (r.d.getD 0) r.op=some (x,st')):Stp P G r st (st'.putd r.d x)
def Z21 (G:Jg) (st:St) (r:ROper) (g:FuncId) (args:List AV):Prop :=
 (∃ as,(r.op = .call g as∨r.op = .calln g as)/\args=as.map (evA G st))∨∃ f as first caps,r.op = .callv f as/\evA G st f = .func (.func g) first caps/\args=first++as.map (evA G st)++caps
def Z22 {G:Jg} {r:ROper} {rs:List ROper} {K:Exit->St->Prop} (h:RW P G (r::rs) st K) :
  (∃ st',Stp P G r st st'/\RW P G rs st' K)∨(wants st r.guard=some true/\∃ g args,Z21 G st r g args/\((∃ v st1,Z1B P G st g args v st1/\RW P G rs (st1.putd r.d v) K)∨∃ ch,Z1C P G st g args ch/\K (.panic ch) st)):=by
 simp only[RW]at h
 split at h
 . exact h.elim
 . rename_i w hw
   cases w
   . exact .inl ⟨_,.skip hw,h.1 rfl⟩
   . have h:=h.2 rfl
     split at h
     . rcases h with ⟨v,hc,hv⟩|h
       . exact .inl ⟨_,.call hw _ _ v ‹_› hc,hv⟩
       . exact .inr ⟨hw,_,_,.inl ⟨_,.inl ‹_›,rfl⟩,h⟩
     . rcases h with ⟨v,hc,hv⟩ | ⟨sz,rows,hc,hv⟩
       . exact .inl ⟨_,.callp hw _ _ v ‹_› hc,hv⟩
       . exact .inl ⟨_,.calln hw _ _ sz rows ‹_› hc,hv⟩
     . split at h <;> try (exact h.elim)
       rcases h with ⟨v,hc,hv⟩|h
       . exact .inl ⟨_,.callv hw _ _ _ _ _ v ‹_› ‹_› hc,hv⟩
       . exact .inr ⟨hw,_,_,.inr ⟨_,_,_,_,‹_›,‹_›,rfl⟩,h⟩
     . rename_i hn1 hn2
       split at h <;> try (exact h.elim)
       refine .inl ⟨_,.op hw _ _ ?_ ‹_›,h⟩
       cases e:r.op <;> simp_all [Z1y]
def Z23 {o:Op} {r:ROp} (h:okOp P o r=true):∀ c,o≠.defer c:=by
 rintro c rfl
 cases r <;> simp[okOp,okV]at h
def Z24 {rd:Option Nat} {n:Nat}:(FW rd).depth.isSome=true->1<=n:=λh=>by simp[FW,Fence.wide]at h
def Z25 {rd:Option Nat} {m:Nat} {ops:Array Oper} {r:ROper} {j:Nat} {o:Oper} {g:FuncId} {args:List AV} {K:Act->World->Prop} {Q:Exit->Act->World->Prop} (hi:Z21 R.G st r g args) (hw:wants st r.guard=some true)
  (ho:ops[j]? = some o) (hk:Z1z P R.N ops o r=true) (hκ:SK R st a W κ)
  (hc:∀ vs:Array Value,CR (st.env R.M κ) W args vs.toList->entB P g=true/\Calls P g vs W fun
   |.returned v,W'=>K (a.put o.dst v) W'
   |.panicked ch,W'=>Q (.panic ch) a W'
   |.outgrown,_=>LetsOut Q):wpOpIn (FW rd) m P ops Q j K a W:=by
 simp only[Z1z,W01,W0b]at hk;obtain ⟨⟨⟨hd,hdn⟩,hop⟩,hg⟩:=hk;unfold wpOpIn;simp only[ho];rw[if_pos (Z20 hκ hg hw)]
 have fin:∀ vs:Array Value,(∀ c,o.op≠.defer c)->CR (st.env R.M κ) W args vs.toList->(execOp a.eval o).run P W=(callFunc g vs).run P W->o.wpIn (FW rd) m P a W K Q:=λvs hnd ha he=>by
  obtain ⟨h1,h2⟩:=hc vs ha;refine ⟨λ_ _=>trivial,?_⟩;rw[Oper.semAt_eq _ _ _ hnd,he,Z1W h1];exact ⟨Z24,Z1D.2 h2⟩
 rcases hi with ⟨as,hcall|hcall,rfl⟩ | ⟨f,as,first,caps,hcall,hfun,rfl⟩
 . rw[hcall]at hop;simp only[Z1y,if_true,Z1x]at hop
   split at hop <;> try (simp at hop;done)
   . rename_i r0 g xs ats f' ys e1 e2;simp only[W01,W0A]at hop;obtain ⟨rfl,hxs⟩:=hop;simp only[ROp.call.injEq]at e2;obtain ⟨rfl,rfl⟩:=e2;refine fin (xs.map a.eval).toArray (λc e=>by rw[e1]at e;cases e) (by simpa using hκ.evs hxs) ?_;simp[execOp,e1,resolve,Deferred.ofValue,Act.eval,invoke,Sem.run_bind]
   all_goals simp_all
 . rw[hcall]at hop;simp only[Z1y,if_true,Z1x]at hop
   split at hop <;> try (simp at hop;done)
   . simp_all
   . rename_i r0 g xs ats f' ys e1 e2;simp only[W01,W0A]at hop;obtain ⟨rfl,hxs⟩:=hop;simp only[ROp.calln.injEq]at e2;obtain ⟨rfl,rfl⟩:=e2;refine fin (xs.map a.eval).toArray (λc e=>by rw[e1]at e;cases e) (by simpa using hκ.evs hxs) ?_;simp[execOp,e1,resolve,Deferred.ofValue,Act.eval,invoke,Sem.run_bind]
   . simp_all
 . rw [hcall]at hop;simp only[Z1y,if_true,Z1x]at hop
   split at hop <;> try (simp at hop;done)
   . simp_all
   . simp_all
   . rename_i r0 x xs ats y ys e1 e2;simp only[W01]at hop;simp only[ROp.callv.injEq]at e2;obtain ⟨rfl,rfl⟩:=e2;have hx:=hκ.ev hop.1;rw[hfun]at hx;obtain ⟨us,vs,hv1,hv2,hv3⟩:=hx.func_inv;have hxs:=hκ.evs hop.2;refine fin (us++(xs.map a.eval).toArray++vs) (λc e=>by rw[e1]at e;cases e) ?_ ?_
     . refine ⟨by have:=hv2.1;have:=hv3.1;have:=hxs.1;simp at *;omega,λi q u hq hu=>?_⟩;simp only[Array.toList_append]at hu;have l1:us.toList.length=first.length:=hv2.1;have l2:(xs.map a.eval).length=(as.map (evA R.G st)).length:=hxs.1;rcases W0q i first.length with c1|c1
       . rw[W0U,W0E (by simpa using c1)]at hq;rw[W0U,W0E (by omega)]at hu;exact hv2.2 i q u hq hu
       . rw[W0U,W0o (by simpa using c1)]at hq;rw[W0U,W0o (by omega),l1]at hu;rcases W0q (i-first.length) (as.map (evA R.G st)).length with c2|c2
         . rw[W0E c2]at hq;rw[W0E (by simp at *;omega)]at hu;exact hxs.2 _ q u hq (by simpa using hu)
         . rw[W0o c2]at hq;rw[W0o (by simp at *;omega)]at hu;refine hv3.2 _ q u hq ?_;rw[<- hu];congr 1;simp at *;omega
     . simp[execOp,e1,resolve,hv1,Deferred.ofValue,invoke,Sem.run_bind]
def Z26 {rd:Option Nat} {m:Nat} {ops:Array Oper} {r:ROper} {st':St} {j:Nat} {o:Oper} {K:Act->World->Prop} {Q:Exit->Act->World->Prop} (hst:Stp P R.G r st st') (ho:ops[j]? = some o) (hk:Z1z P R.N ops o r=true)
  (hs:SR R st a W) (hK:∀ a' W',SR R st' a' W'->K a' W'):wpOpIn (FW rd) m P ops Q j K a W:=by
 obtain ⟨κ,hκ⟩:=hs;have hk0:=hk;simp only[Z1z,W01,W0b]at hk;obtain ⟨⟨⟨hd,hdn⟩,hop⟩,hg⟩:=hk;have hdn':∀ n,r.d=some n->n<R.N:=λn e=>by rw[e]at hdn;simpa using hdn
 have doCall:∀ {g:FuncId} {args:List AV} {v:AV},Z21 R.G st r g args->wants st r.guard=some true->CallR P R.G st g args v->st'=st.putd r.d v->wpOpIn (FW rd) m P ops Q j K a W:=by
  intro g args v hi hw hc hv;refine Z25 hi hw ho hk0 hκ λvs ha=>?_
  obtain ⟨h1,h2⟩:=Z1U hκ hc ha;refine ⟨h1,h2.mono ?_⟩;rintro e W' ⟨u,rfl,h3,h4,h5⟩;refine hK _ _ ⟨κ,?_⟩;rw[hd,hv];exact h4.putd hdn' h5
 cases hst with
 | skip hw =>
   unfold wpOpIn;simp only[ho];rw[if_neg (by rw[Z20 hκ hg hw];simp)];refine ⟨λ_ _=>trivial,?_⟩;refine hK _ _ ⟨κ,?_⟩;rw[hd];exact hκ.putd hdn' (.pv .hole)
 |call hw f args v hcall hc=>exact doCall (.inl ⟨_,.inl hcall,rfl⟩) hw hc rfl
 |callp hw f args v hcall hc=>exact doCall (.inl ⟨_,.inr hcall,rfl⟩) hw hc rfl
 | calln hw f args sz rows hcall hc =>
   refine Z25 (.inl ⟨_,.inr hcall,rfl⟩) hw ho hk0 hκ λvs ha=>?_
   obtain ⟨hd0,hp,he,hcl⟩:=hc;refine ⟨he,(hcl (st.env R.M κ).M W vs (λb hb=>hκ.owned_lt hb) hκ.gr (by have:=ha.1;simpa using this) (λi x u hx hu=>(ha.2 i x u hx (by simpa using hu)).toPV (W03.1 hp x (W0d hx)))).mono ?_⟩;rintro e W' ⟨b,s,cs,t,c,rfl,hE,hb0,hb1,hc1,hc2,hbk,hfit,hob⟩;refine hK _ _ ⟨λk=>if k=r.d.getD 0 then some (b,s) else κ k,?_⟩;rw[hd];refine (hκ.newX hE hb0 hb1 hd0 hob).putd hdn' ?_;refine .osl _ _ sz rows.length _ _ c ?_ (W0f _) (λ_=>⟨b,s,cs,t,by simp[St.env],rfl,rfl,hc1,hc2,hbk,hfit⟩);show ((st.set (r.d.getD 0) (.row sz rows)).get (r.d.getD 0)).bind AObj.dim=_;rw[St.get_set,if_pos rfl];rfl
 |callv hw f g first caps args v hcall hfun hc=>exact doCall (.inr ⟨_,_,_,_,hcall,hfun,rfl⟩) hw hc rfl
 | op hw x st2 hnc hrop =>
   unfold wpOpIn;simp only[ho];rw[hnc]at hop;simp only[W05,if_false]at hop;obtain ⟨v,W',κ',h1,h2,h3⟩:=Z1Y hκ hop hrop;rw[if_pos (Z20 hκ hg hw)];refine ⟨λ_ _=>trivial,?_⟩;rw[Oper.semAt_eq _ _ _ (Z23 hop)]
   have fin:K (a.put o.dst v) W':=by
    refine hK _ _ ⟨κ',?_⟩;rw[hd];exact h2.putd hdn' h3
   rcases h1 with h1 | ⟨h1,rfl⟩ <;> rw[h1] <;> exact fin
def Z27 {rd:Option Nat} {m:Nat} {ops:Array Oper}:∀ (l:List Nat) (rs':List ROper) (st:St) (K:Exit->St->Prop) (Q:Exit->Act->World->Prop) (a:Act) (W:World),
  (∀ (i:Nat) (r:ROper),rs'[i]? = some r->∃ (j:Nat) (o:Oper),l[i]? = some j/\ops[j]? = some o/\Z1z P R.N ops o r=true)->l.length=rs'.length->(∀ e st' a' W',K e st'->SR R st' a' W'->Q e a' W') ->
  RW P R.G rs' st K->SR R st a W->wpOpsIn (FW rd) m P ops Q l a W:=by
 intro l
 induction l with
 | nil =>
   intro rs' st K Q a W hok hl hK hr hs
   cases rs' with
   |nil=>exact hK .normal st a W hr hs
   |cons r rs'=>simp at hl
 | cons j l ih =>
   intro rs' st K Q a W hok hl hK hr hs
   cases rs' with
   |nil=>simp at hl
   | cons r rs' =>
     obtain ⟨j',o,hj,ho,hk⟩:=hok 0 r rfl;simp at hj;subst hj
     have go:∀ (st':St) (a':Act) (W':World),RW P R.G rs' st' K->SR R st' a' W'->wpOpsIn (FW rd) m P ops Q l a' W':=λst' a' W' h2 hs' =>
      ih rs' st' K Q a' W' (λi r hi=>by simpa using hok (i+1) r (by simpa using hi)) (by simpa using hl) hK h2 hs'
     rw[wpOpsIn_cons];rcases Z22 hr with ⟨st',h1,h2⟩ | ⟨hw,g,args,hi,hc⟩
     . exact Z26 h1 ho hk hs λa' W' hs'=>go st' a' W' h2 hs'
     . obtain ⟨κ,hκ⟩:=hs;have hk0:=hk;simp only[Z1z,W01,W0b]at hk;obtain ⟨⟨⟨hd,hdn⟩,-⟩,-⟩:=hk;have hdn':∀ n,r.d=some n->n<R.N:=λn e=>by rw[e]at hdn;simpa using hdn
       refine Z25 hi hw ho hk0 hκ λvs ha=>?_
       rcases hc with ⟨v,st1,hc,hn⟩ | ⟨ch,hc,hn⟩
       . obtain ⟨h1,h2⟩:=hc R a W κ vs rfl hκ ha;refine ⟨h1,h2.mono ?_⟩;rintro e W' ⟨u,κ1,rfl,h3,h4⟩;refine go _ _ _ hn ⟨κ1,?_⟩;rw[hd];exact h3.putd hdn' h4
       . obtain ⟨h1,h2⟩:=Z1V hκ hc ha;refine ⟨h1,h2.mono ?_⟩;rintro e W' ⟨rfl,h3⟩;exact hK _ _ _ _ hn ⟨κ,h3⟩
end
def Z28 {P:Program} {R:Run} {st:St} {Φ:Exit->St->Prop} {id:Nat} {rs:List ROper} (h:RW P R.G rs st Φ):AR P R (.reg id false rs) st Φ:=by
 intro c hc m a W hs
 cases c <;> simp only[Z1A,W05,W01,W0A]at hc
 rename_i id' ops draw;obtain ⟨⟨⟨rfl,rfl⟩,hc⟩,-⟩:=hc;obtain ⟨h1,h2⟩:=Zc hc;refine wpIn_region (Z27 (R:=R) _ rs st Φ _ a W (λi r hi=>?_) (by simpa using h1) (λe st' a' W' hK hs'=>⟨st',hK,hs'⟩) h hs);have hlt:i<ops.size:=(by have:=(W02.1 hi).1;simp at h1;omega);exact ⟨i,ops[i],by simp[hlt],by simp[hlt],h2 i _ r (by simp[hlt]) hi⟩
inductive RRes where
 |t (n:Nat)
 |c (n:Nat) (agg:Bool) (sz:Nat)
def okRes (P:Program):ResultVar->RRes->Bool
 |.tmp n,.t m=>n == m
 |.cell n t,.c m agg sz=>n == m&&decide (aggB P t=some agg)&&decide (szB P t=some sz)
 |_,_=>false
def evRes (st:St):RRes->Option AV
 |.t n=>st.tmp n
 | .c n agg sz=>match st.tmp n with
   | some p=>match Z5 st p with
     |some (cs,off)=>cut agg sz cs off
     |none=>none
   |none=>none
def Z29 (st:St):List RRes->Option (List AV)
 |[]=>some []
 | r::rs=>match evRes st r,Z29 st rs with
   |some x,some xs=>some (x::xs)
   |_,_=>none
def tupV:List AV->AV
 |[x]=>x
 |xs=>.tup xs
def iniT:Nat->List AV->List (Nat×AV)
 |_,[]=>[]
 |n,x::xs=>(n,x)::iniT (n+1) xs
def Z2a (args:List AV):St:=⟨iniT 0 args,[]⟩
def Fin (rs:List RRes) (v:AV):Exit->St->Prop
 |.normal,st | .ret,st=>∃ xs ys,Z29 st rs=some xs/\Yj (snap st) xs=some ys/\v=tupV ys
 |_,_=>False
section
variable {P:Program}
def Z2b:∀ (xs:List AV) (n m:Nat),lk (iniT n xs) m=if n<=m then xs[m-n]? else none
 |[],n,m=>by simp[iniT,lk]
 | x :: xs,n,m=>by
   simp only[iniT,lk];by_cases e:n=m
   . subst e;simp
   . rw[if_neg e,Z2b xs (n+1) m];by_cases h:n<=m
     . rw[if_pos (by omega),if_pos h,show m-n=(m-(n+1))+1 by omega,List.getElem?_cons_succ]
     . rw[if_neg (by omega),if_neg h]
def Z2c {R:Run} {st:St} {a:Act} {W:World} {κ:Nat->Option (Nat×Nat)} (h:SK R st a W κ) {rv:ResultVar} {r:RRes} (hk:okRes P rv r=true) {x:AV} (hx:evRes st r=some x) :
  ∃ v,(match rv with
    |.tmp t=>pure (a.tmps.getD t Go.undef)
    |.cell p t=>do loadVar t (<- asAddr (a.tmps.getD p Go.undef)):Sem Value).run P W = .ok v W/\VR (st.env R.M κ) W x v:=by
 cases rv with
 | tmp n =>
   cases r <;> simp only[okRes,W05,W0A]at hk
   subst hk;exact ⟨_,rfl,h.tm n x hx⟩
 | cell n t =>
   cases r <;> simp only[okRes,W05,W01,W0A,W0b]at hk
   obtain ⟨⟨rfl,ha⟩,hn⟩:=hk;simp only[evRes]at hx
   split at hx <;> try (simp at hx;done)
   rename_i p hp
   split at hx <;> try (simp at hx;done)
   rename_i cs off hc;obtain ⟨b,o,hv,hcc⟩:=h.cellsAt (h.tm n p hp) hc;obtain ⟨v,h1,h2⟩:=Zp (P:=P) ha hn hcc hx;refine ⟨v,?_,h2⟩;simp only[Instr.loadAt,Instr.sureAddr,Sem.run_bind,Sem.run_pure,Result.andThen_ok]at h1;simp only[hv,asAddr,Sem.run_bind,Sem.run_pure,Result.andThen_ok];exact h1
def Z2d {R:Run} {st:St} {a:Act} {W:World} {κ:Nat->Option (Nat×Nat)} (h:SK R st a W κ):∀ {rvs:List ResultVar} {rs:List RRes} {xs:List AV},allB2 (okRes P) rvs rs=true->Z29 st rs=some xs ->
  ∃ vs:List Value,(rvs.mapM λrv=>(match rv with
    |.tmp t=>pure (a.tmps.getD t Go.undef)
    |.cell p t=>do loadVar t (<- asAddr (a.tmps.getD p Go.undef)):Sem Value)).run P W = .ok vs W/\CR (st.env R.M κ) W xs vs
 |[],[],xs,_,hx=>by simp only[Z29,W00]at hx;subst hx;exact ⟨[],rfl,rfl,by simp⟩
 |[],_::_,_,hk,_=>by simp[allB2]at hk
 |_::_,[],_,hk,_=>by simp[allB2]at hk
 | rv::rvs,r::rs,xs,hk,hx=>by
   simp only[allB2,W01]at hk;simp only[Z29]at hx
   split at hx <;> simp only[W00,reduceCtorEq]at hx
   rename_i x xs' e1 e2;subst hx;obtain ⟨v,h1,h2⟩:=Z2c h hk.1 e1;obtain ⟨vs,h3,h4⟩:=Z2d h hk.2 e2;refine ⟨v::vs,?_,by simp[h4.1],λi y u hy hu=>?_⟩
   . rw[List.mapM_cons,Sem.run_bind,h1];simp only[Result.andThen_ok,Sem.run_bind,h3,Sem.run_pure]
   . cases i with
     |zero=>simp at hy hu;subst hy;subst hu;exact h2
     |succ i=>exact h4.2 i y u (by simpa using hy) (by simpa using hu)
def SK.leave {R:Run} {st:St} {κ:Nat->Option (Nat×Nat)} {fn:Func} {Q:Ending->World->Prop} {u:FrameMode} (hu:u≠.run) (hD:R.D=[]) {a:Act} {W:World} (h:SK R st a W κ)
  (hfin:∀ (a':Act) (W':World),a'.tmps=a.tmps->SK R st a' W' κ->LeavesInM (FW none) 1 P fn a.tmps Q [] u W'):LeavesInM (FW none) 1 P fn a.tmps Q a.defers u W:=by
 obtain ⟨cs,e,nd,hc,hz⟩:=h.defers;rw[hD,W1B]at e;rw[e]
 have key:∀ (cs:List Nat) (a':Act) (W:World),a'.tmps=a.tmps->SK R st a' W κ->cs.Nodup->(∀ c∈cs,R.W0.heap.size<=c/\W.heap[c]? = some (.deferred (some [])))->(R.nm=true->cs=[])->LeavesInM (FW none) 1 P fn a.tmps Q (cs.map coll) u W:=by
  intro cs
  induction cs with
  |nil=>intro a' W ht h _ _ _;exact hfin a' W ht h
  | cons c cs ih =>
    intro a' W ht h nd hc hz;obtain ⟨n1,n2⟩:=W1v.1 nd;obtain ⟨c1,c2⟩:=hc c (W0H ..);refine ⟨hu,.inl ⟨c,_,rfl,run_takeDeferred c2,?_⟩⟩;have h2:=h.take c2 c1 (cs:=cs) (λx hx=>⟨by rintro rfl;exact n1 hx,hc x (W0z _ hx)⟩) n2 (λe=>by cases hz e);refine ih { a' with defers:=cs.map coll++R.D } _ ht h2 n2 (λx hx=>⟨(hc x (W0z _ hx)).1,?_⟩) (λe=>by cases hz e);rw[World.putObj_heap_other (by rintro rfl;exact n1 hx)];exact (hc x (W0z _ hx)).2
 exact key cs a W rfl h nd hc hz
def PC_of {G:Jg} {f:FuncId} {fn:Func} {c:Code} {rc:RCode} {rs:List RRes} {args:List AV} {v:AV} (hf:P.funcs[f]? = some fn) (hb:fn.body=some c) (he:entB P f=true)
  (hc:Z1A P fn.ntmps c rc=true) (hrs:allB2 (okRes P) fn.results.toList rs=true) (hn:args.length<=fn.ntmps)
  (h:∀ R:Run,R.N=fn.ntmps->R.G=G->R.Top->AR P R rc (Z2a args) (Fin rs v)):PC P G f args v:=by
 refine ⟨he,λM W vs hM hG hsz hvs=>?_⟩;refine callsIn_wide.1 (callsIn_of_wp_marks (F:=FW none) (n:=1) hf hb trivial ?_)
 let R:Run:={ G:=G,M:=M,X:=λ_=>False,W0:=W,N:=fn.ntmps,E0:={ M:=M,loc:=λ_=>none,row:=λ_=>none } }
 have h0:SK R (Z2a args) { tmps:=vs++Array.replicate (fn.ntmps-vs.size) Go.undef,defers:=[] } W (λ_=>none):=by
  have hGM:∀ b,b<W.heap.size->¬M b->¬((Z2a args).env M (λ_=>none)).M b/\W.heap[b]? = W.heap[b]?:=λb _ h1=>⟨(by rintro (h2 | ⟨k,s,h2⟩) <;> first|exact h1 h2|cases h2),rfl⟩
  refine ⟨.nil _ _ _ _,by show (vs++_).size=fn.ntmps;simp;omega,λn x hx=>?_,(λk o ho=>by simp[Z2a,St.get,lk]at ho),(λk p hk=>by cases hk),(λk k' b s s' hk=>by cases hk),hM,λ_ _ h=>h,Kp.refl _ _,hG.mono hGM (W0f _),⟨W0f _,hGM,λk p hk=>(by cases hk),λk sz m hk=>(by cases hk)⟩,λ_ _=>⟨rfl,rfl⟩⟩;simp only[Z2a,St.tmp,Z2b,W1e,if_true,W1P]at hx;show VR _ W x ((vs++Array.replicate (fn.ntmps-vs.size) Go.undef).getD n Go.undef);rw[W0a,W0W];have c1:n<args.length:=(W02.1 hx).1;rw[if_pos (by omega)];have:vs[n]? = some vs[n]:=(by simp);rw[this];exact .pv ((hvs n x _ hx this).mono hGM (W0f _))
 refine wpIn_mono (h R rfl rfl ⟨rfl,rfl⟩ c hc 1 _ W ⟨_,h0⟩) ?_
 have key:∀ (a':Act) (W':World) (st':St),(∃ xs ys,Z29 st' rs=some xs/\Yj (snap st') xs=some ys/\v=tupV ys)->SR R st' a' W' ->
   ∃ u,(results fn a'.tmps).run P W' = .ok u W'/\∃ u',Ending.returned u = .returned u'/\PV M W' v u'/\Ext W W':=by
  rintro a' W' st' ⟨xs,ys,h1,h2,rfl⟩ ⟨κ,hk⟩;obtain ⟨us,h3,h4⟩:=Z2d (P:=P) hk hrs h1;obtain ⟨h5,h6⟩:=Z1R h2;have hE:Ext W W':=⟨hk.kp.os,hk.kp.tape,hk.kp.output,hk.kp.size,λi hi=>hk.kp.block i hi (λh=>h)⟩
  have hp:∀ (i:Nat) (y:AV) (u:Value),ys[i]? = some y->us[i]? = some u->PV M W' y u:=λi y u hy hu=>by
   obtain ⟨x,h7,h8⟩:=h6 i y hy;exact Z1T hk (h4.2 i x u h7 hu) h8
  have hl:us.length=ys.length:=(by have:=h4.1;omega);refine ⟨(if h:us.toArray.size=1 then us.toArray[0] else .tuple us.toArray),?_,_,rfl,?_,hE⟩
  . unfold results;rw[Sem.run_bind]
    have:(fn.results.mapM λrv=>(match rv with
     |.tmp t=>pure (a'.tmps.getD t Go.undef)
     |.cell p t=>do loadVar t (<- asAddr (a'.tmps.getD p Go.undef)):Sem Value)).run P W' = .ok us.toArray W':=by
     rw[W1K,Sem.run_map,h3];rfl
    erw [this]
    rfl
  . match ys,us,hl,hp with
    |[],[],_,_=>exact .tup [] _ rfl (by simp)
    |[y],[u],_,hp=>exact hp 0 y u rfl rfl
    | y::y2::ys,u::u2::us,hl,hp =>
      rw[dif_neg (by simp)];exact .tup _ _ (by simpa using hl) (λi x w hx hw=>hp i x w hx (by simpa using hw))
 rintro e a' W' ⟨st',h1,κ,h2⟩
 cases e <;> try (exact h1.elim)
 all_goals
  refine h2.leave (by simp) rfl λa2 W2 ht hs2=>?_
  have:=key a2 W2 st' h1 ⟨κ,hs2⟩;rw[ht]at this;exact this
end
abbrev PCt (P:Program) (f:FuncId) (fn:Func) (rc:RCode) (rr:List RRes):Prop:=∀ {G:Jg} {args:List AV} {v:AV},Nat.ble args.length fn.ntmps=true->(∀ R:Run,R.G=G->R.Top->AR P R rc (Z2a args) (Fin rr v))->PC P G f args v
def pcT {P:Program} {f:FuncId} {fn:Func} {c:Code} {rc:RCode} {rr:List RRes} (hf:P.funcs[f]? = some fn) (hb:fn.body=some c) (he:entB P f=true:=by kernel_rfl) (hc:Z1A P fn.ntmps c rc=true:=by kernel_rfl) (hr:allB2 (okRes P) fn.results.toList rr=true:=by kernel_rfl):PCt P f fn rc rr :=
 λhn h=>PC_of hf hb he (rc:=rc) hc (rs:=rr) hr (W0C hn) (λR _ hG hr=>h R hG hr)
def AV.keys:AV->List Nat
 |.ptr k _ | .eptr k _ _ _ | .osl k _ | .oss k _ _ _ | .mp k=>[k]
 |.oof L=>L.map (·.1)
 |.func _ xs ys=>(xs.attach.flatMap λ⟨x,_⟩=>x.keys)++(ys.attach.flatMap λ⟨x,_⟩=>x.keys)
 |.agg xs | .tup xs=>xs.attach.flatMap λ⟨x,_⟩=>x.keys
 |_=>[]
def RA.tm:RA->List Nat
 |.t n=>[n]
 |_=>[]
def ROp.args:ROp->List RA
 |.mov x | .nilck x | .un _ x | .conv _ x | .ext _ x | .field _ _ _ x | .faddr _ x | .len x | .slen x | .load _ _ x | .box x | .mksl _ _ _ x=>[x]
 |.pick a b c=>[a,b,c]
 |.bin _ x y | .eqs _ _ x y | .iaddr _ x y | .store _ x y | .app _ _ x y=>[x,y]
 |.mkf _ xs ys=>xs++ys
 |.vop _ xs=>xs
 |.build _ ps=>ps.map λp=>p.2.2
 |.mx _ x r=>x::r
 |.alloc _=>[]
 |.bsl _ _ _ _ ps=>ps.map λp=>p.2
 |.slc _ x lo hi | .sslc x lo hi=>x::(lo.toList++hi.toList)
 |.call _ xs=>xs
 |.calln _ xs=>xs
 |.callv f xs=>f::xs
 |.mkmap=>[]
 |.look _ _ _ m k=>[m,k]
 |.mupd _ m k v=>[m,k,v]
 |.mdel _ m k=>[m,k]
 |.mlen m=>[m]
 |.clr _ _ x=>[x]
def Z2e (st:St):Nat->AV->List Nat
 |0,_=>[]
 | n+1,x=>x.keys.flatMap λk=>k::match st.get k with
   |some (.box cells)=>cells.flatMap (Z2e st n)
   |some (.row _ rows)=>rows.flatMap λr=>r.flatMap (Z2e st n)
   |some (.mp kvs)=>kvs.flatMap λp=>Z2e st n p.1++Z2e st n p.2
   |none=>[]
section
variable (G:Jg)
def ftk (st:St) (d:Nat):ROp->List Nat
 |.load _ _ p | .len p | .slc _ p _ _ | .look _ _ _ p _ | .mupd _ p _ _ | .mdel _ p _ | .mlen p | .clr _ _ p=>(evA G st p).keys
 | .faddr _ p=>match evA G st p with
   |.eptr k _ _ _=>[k]
   |_=>[]
 |.store _ p _=>(evA G st p).keys
 |.iaddr _ s _=>(evA G st s).keys
 |.app _ _ s x=>d::((evA G st s).keys++(evA G st x).keys)
 |.alloc _ | .box _ | .bsl true _ _ _ _ | .mksl .. | .mkmap=>[d]
 |.call _ xs=>xs.flatMap λx=>Z2e st 6 (evA G st x)
 |.calln _ xs=>d::xs.flatMap λx=>Z2e st 6 (evA G st x)
 |.callv f xs=>Z2e st 6 (evA G st f)++xs.flatMap λx=>Z2e st 6 (evA G st x)
 |_=>[]
def wtk (st:St) (d:Nat):ROp->List Nat
 |.store _ p _ | .mupd _ p _ _ | .mdel _ p _ | .clr _ _ p=>(evA G st p).keys
 |.app _ _ s _=>d::(evA G st s).keys
 |.alloc _ | .box _ | .bsl true _ _ _ _ | .mksl .. | .mkmap | .calln ..=>[d]
 |_=>[]
end
section
variable {G:Jg} {st st2:St}
def Z2f {p:AV} (h:∀ k∈p.keys,st2.get k=st.get k):Z5 st2 p=Z5 st p:=by
 cases p <;> simp only[Z5]
 . rw[h _ (by simp[AV.keys])]
 . rw[h _ (by simp[AV.keys])]
def Z2g {p:AV} (h:∀ k∈p.keys,st2.get k=st.get k):aLen st2 p=aLen st p:=by
 cases p <;> simp only[aLen]
 . rw[h _ (by simp[AV.keys])]
 . rw[h _ (by simp[AV.keys])]
def Z2h {sz:Nat} {p:AV} (h:∀ k∈p.keys,st2.get k=st.get k):Z9 st2 sz p=Z9 st sz p:=by
 cases p <;> simp only[Z9]
 . rw[h _ (by simp[AV.keys])]
 . rw[h _ (by simp[AV.keys])]
def Z2i {p:AV} (h:∀ k∈p.keys,st2.get k=st.get k):mapOf st2 p=mapOf st p:=by
 cases p <;> simp only[mapOf]
 rw[h _ (by simp[AV.keys])]
def Z2j {α β:Type} {f g:α->Option β}:∀ {xs:List α},(∀ x∈xs,f x=g x)->Yj f xs=Yj g xs
 |[],_=>rfl
 |x::xs,h=>by simp only[Yj];rw[h x (by simp),Z2j (λy hy=>h y (by simp[hy]))]
def Z2k {n:Nat} {x:AV} {k:Nat} (h:k∈x.keys):k∈Z2e st (n+1) x:=by
 simp only[Z2e,W0u];exact ⟨k,h,W0H ..⟩
def Z2l {n:Nat} {x y:AV} {k:Nat} {o:AObj} (hk:k∈x.keys) (ho:st.get k=some o) (hy:match o with | .box cells=>y∈cells | .row _ rows=>∃ r∈rows,y∈r | .mp kvs=>∃ p∈kvs,y=p.1∨y=p.2) {j:Nat} (hj:j∈Z2e st n y):j∈Z2e st (n+1) x:=by
 simp only[Z2e,W0u];refine ⟨k,hk,W0z _ ?_⟩;rw[ho]
 cases o with
 |box cells=>exact W0u.2 ⟨y,hy,hj⟩
 |row sz rows=>obtain ⟨r,h1,h2⟩:=hy;exact W0u.2 ⟨r,h1,W0u.2 ⟨y,h2,hj⟩⟩
 | mp kvs =>
   obtain ⟨p,h1,h2⟩:=hy;refine W0u.2 ⟨p,h1,W0h.2 ?_⟩;rcases h2 with rfl|rfl
   . exact .inl hj
   . exact .inr hj
def Z2m:∀ (n:Nat) {x:AV} {k:Nat},k∈Z2e st n x->k∈Z2e st (n+1) x:=by
 intro n
 induction n with
 |zero=>intro x k h;simp[Z2e]at h
 | succ n ih =>
   intro x k h;rw[Z2e,W0u]at h;obtain ⟨k0,h1,h2⟩:=h;rw[Z2e,W0u];refine ⟨k0,h1,?_⟩;rcases W0g.1 h2 with h2|h2
   . rw[h2];exact W0H ..
   . refine W0z _ ?_
     split at h2
     . obtain ⟨y,h3,h4⟩:=W0u.1 h2;exact W0u.2 ⟨y,h3,ih h4⟩
     . obtain ⟨r,h3,h4⟩:=W0u.1 h2;obtain ⟨y,h5,h6⟩:=W0u.1 h4;exact W0u.2 ⟨r,h3,W0u.2 ⟨y,h5,ih h6⟩⟩
     . obtain ⟨p,h3,h4⟩:=W0u.1 h2;refine W0u.2 ⟨p,h3,W0h.2 ?_⟩;rcases W0h.1 h4 with h4|h4
       . exact .inl (ih h4)
       . exact .inr (ih h4)
     . simp at h2
def Z2n {n:Nat} {x y:AV} (hp:∀ k∈y.keys,k∈x.keys) {k:Nat} (h:k∈Z2e st n y):k∈Z2e st n x:=by
 cases n with
 |zero=>simp[Z2e]at h
 | succ n =>
   rw[Z2e,W0u]at h ⊢;obtain ⟨k0,h1,h2⟩:=h;exact ⟨k0,hp k0 h1,h2⟩
def Z2o {ok:Nat->Bool}:∀ (n:Nat) {x:AV},(∀ k∈Z2e st n x,st2.get k=st.get k)->Yh ok st2 n x=Yh ok st n x:=by
 intro n
 induction n with
 |zero=>intro x h;cases x <;> simp only[Yh]
 | succ n ih =>
   intro x h;have part:∀ {y:AV},(∀ k∈y.keys,k∈x.keys)->Yh ok st2 n y=Yh ok st n y:=λhp=>ih λk hk=>h k (Z2m n (Z2n hp hk))
   cases x
   case func fn xs ys =>
    simp only[Yh];rw[Z2j (λx hx=>part λk hk=>?_),Z2j (λx hx=>part λk hk=>?_)]
    . simp only[AV.keys,W0h,W0u,W0V,true_and,W1Z];exact .inr ⟨x,hx,hk⟩
    . simp only[AV.keys,W0h,W0u,W0V,true_and,W1Z];exact .inl ⟨x,hx,hk⟩
   case agg xs =>
    simp only[Yh];rw[Z2j (λx hx=>part λk hk=>?_)];simp only[AV.keys,W0u,W0V,true_and,W1Z];exact ⟨x,hx,hk⟩
   case tup xs =>
    simp only[Yh];rw[Z2j (λx hx=>part λk hk=>?_)];simp only[AV.keys,W0u,W0V,true_and,W1Z];exact ⟨x,hx,hk⟩
   case osl k m =>
    have e:=h k (Z2k (by simp[AV.keys]));simp only[Yh,e]
    cases ho:st.get k with
    |none=>rfl
    | some o =>
      cases o with
      |box cells=>rfl
      |mp kvs=>rfl
      | row sz rows =>
        simp only;rw[Z2j (λr hr=>Z2j λy hy=>ih λj hj=>h j (Z2l (by simp[AV.keys]) ho ⟨r,hr,hy⟩ hj))]
   case oss k m lo hi =>
    have e:=h k (Z2k (by simp[AV.keys]));simp only[Yh,e]
    cases ho:st.get k with
    |none=>rfl
    | some o =>
      cases o with
      |box cells=>rfl
      |mp kvs=>rfl
      | row sz rows =>
        simp only;rw[Z2j (xs:=(rows.take hi).drop lo) (λr hr=>Z2j λy hy=>ih λj hj=>h j (Z2l (by simp[AV.keys]) ho ⟨r,W1p (W1L hr),hy⟩ hj))]
   case ptr k off =>
    have e:=h k (Z2k (by simp[AV.keys]));simp only[Yh,e]
    cases ho:st.get k with
    |none=>rfl
    | some o =>
      cases o with
      |row sz rows=>rfl
      |mp kvs=>rfl
      | box cells =>
        simp only;rw[Z2j (λy hy=>ih λj hj=>h j (Z2l (by simp[AV.keys]) ho hy hj))]
   case mp k =>
    have e:=h k (Z2k (by simp[AV.keys]));simp only[Yh,e]
    cases ho:st.get k with
    |none=>rfl
    | some o =>
      cases o with
      |row sz rows=>rfl
      |box cells=>rfl
      | mp kvs =>
        simp only;rw[Z2j (xs:=kvs.map (·.1)) (λy hy=>ih λj hj=>?_),Z2j (xs:=kvs.map (·.2)) (λy hy=>ih λj hj=>?_)]
        . obtain ⟨p,h1,rfl⟩:=W0i.1 hy;exact h j (Z2l (by simp[AV.keys]) ho ⟨p,h1,.inr rfl⟩ hj)
        . obtain ⟨p,h1,rfl⟩:=W0i.1 hy;exact h j (Z2l (by simp[AV.keys]) ho ⟨p,h1,.inl rfl⟩ hj)
   all_goals simp only[Yh]
def Z2p {P:Program} {f:FuncId} {args:List AV} {v:AV} (h:CallR P G st f args v) (hk:∀ x∈args,∀ k∈Z2e st 6 x,st2.get k=st.get k):CallR P G st2 f args v:=by
 rcases h with h | ⟨h1,ys,h2,h3⟩
 . exact .inl h
 . exact .inr ⟨h1,ys,by rw[<- h2];exact Z2j λx hx=>Z2o 6 (hk x hx),h3⟩
structure Loc (G:Jg) (st st2:St) (d:Nat) (r:ROp) (x:AV) (st' st2':St):Prop where
 run:rop G st2 d r=some (x,st2')
 t2:st2'.t=st2.t
 t1:st'.t=st.t
 inn:∀ k∈wtk G st d r,st2'.get k=st'.get k
 out:∀ k,k ∉ wtk G st d r->st2'.get k=st2.get k/\st'.get k=st.get k
def Loc.pure {d:Nat} {r:ROp} {x:AV} (hr:rop G st2 d r=some (x,st2)) (hw:wtk G st d r=[]):Loc G st st2 d r x st st2 :=
 ⟨hr,rfl,rfl,by simp[hw],λk _=>⟨rfl,rfl⟩⟩
def Loc.set {d k:Nat} {o:AObj} {r:ROp} {x:AV} (hr:rop G st2 d r=some (x,st2.set k o)) (hw:k∈wtk G st d r) (hs:∀ j∈wtk G st d r,st2.get j=st.get j):Loc G st st2 d r x (st.set k o) (st2.set k o):=by
 refine ⟨hr,rfl,rfl,λj hj=>?_,λj hj=>?_⟩
 . rw[St.get_set,St.get_set]
   split
   . rfl
   . exact hs j hj
 . have:¬k=j:=(by rintro rfl;exact hj hw);simp only[St.get_set,if_neg this,and_self]
def Z2q {us:List AV} {p:AV} {st':St} (h:Z8 st us p=some st') (hk:∀ k∈p.keys,st2.get k=st.get k) :
  ∃ k o,k∈p.keys/\st'=st.set k o/\Z8 st2 us p=some (st2.set k o):=by
 unfold Z8 at h
 split at h <;> try (simp at h;done)
 . rename_i k off;have e:=hk k (by simp[AV.keys])
   split at h <;> try (simp at h;done)
   rename_i cs hg
   split at h <;> simp only[W00,reduceCtorEq]at h
   rename_i hle;exact ⟨k,_,by simp[AV.keys],h.symm,by simp only[Z8,e,hg,if_pos hle]⟩
 . rename_i k n i off;have e:=hk k (by simp[AV.keys])
   split at h <;> try (simp at h;done)
   rename_i sz rows hg
   split at h <;> try (simp at h;done)
   rename_i hn
   split at h <;> try (simp at h;done)
   rename_i r hr
   split at h <;> simp only[W00,reduceCtorEq]at h
   rename_i hle;exact ⟨k,_,by simp[AV.keys],h.symm,by simp only[Z8,e,hg,if_pos hn,hr,if_pos hle]⟩
def Z2r {d:Nat} {r:ROp} {x:AV} {st':St} (hr:rop G st d r=some (x,st')) (ha:∀ y∈r.args,evA G st2 y=evA G st y) (hk:∀ k∈ftk G st d r,st2.get k=st.get k) :
  ∃ st2',Loc G st st2 d r x st' st2':=by
 have evs:∀ (xs:List RA),(∀ y∈xs,y∈r.args)->xs.map (evA G st2)=xs.map (evA G st):=λxs h=>W0K λy hy=>ha y (h y hy)
 cases r
 case mov y =>
  have e:=ha y (by simp[ROp.args]);simp only[rop,W00,W06]at hr;obtain ⟨rfl,rfl⟩:=hr;exact ⟨st2,.pure (by simp only[rop,e]) rfl⟩
 case pick a b c =>
  have e1:=ha a (by simp[ROp.args]);have e2:=ha b (by simp[ROp.args]);have e3:=ha c (by simp[ROp.args]);simp only[rop]at hr
  split at hr <;> simp only[W00,W06,reduceCtorEq]at hr
  all_goals
   rename_i e;obtain ⟨rfl,rfl⟩:=hr;exact ⟨st2,.pure (by simp only[rop,e1,e2,e3,e]) rfl⟩
 case nilck y =>
  have e:=ha y (by simp[ROp.args]);simp only[rop]at hr
  split at hr <;> simp only[W00,W06,reduceCtorEq]at hr
  all_goals
   rename_i e2;obtain ⟨rfl,rfl⟩:=hr;exact ⟨st2,.pure (by simp only[rop,e,e2]) rfl⟩
 case bin op a b =>
  have e1:=ha a (by simp[ROp.args]);have e2:=ha b (by simp[ROp.args]);simp only[rop,W04,W06]at hr;obtain ⟨u,hu,rfl,rfl⟩:=hr;exact ⟨st2,.pure (by simp only[rop,e1,e2,hu,W0m]) rfl⟩
 case eqs neg ks a b =>
  have e1:=ha a (by simp[ROp.args]);have e2:=ha b (by simp[ROp.args]);simp only[rop]at hr
  split at hr <;> simp only[W04,W06,reduceCtorEq]at hr
  rename_i f1 f2;obtain ⟨u,hu,rfl,rfl⟩:=hr;exact ⟨st2,.pure (by simp only[rop,e1,e2,f1,f2,hu,W0m]) rfl⟩
 case un op a =>
  have e1:=ha a (by simp[ROp.args]);simp only[rop,W04,W06]at hr;obtain ⟨u,hu,rfl,rfl⟩:=hr;exact ⟨st2,.pure (by simp only[rop,e1,hu,W0m]) rfl⟩
 case conv k y =>
  have e:=ha y (by simp[ROp.args]);simp only[rop]at hr
  split at hr <;> simp only[W00,W06,reduceCtorEq]at hr
  rename_i e2;obtain ⟨rfl,rfl⟩:=hr;exact ⟨st2,.pure (by simp only[rop,e,e2]) rfl⟩
 case ext i y =>
  have e:=ha y (by simp[ROp.args]);simp only[rop]at hr
  split at hr <;> simp only[W04,W06,reduceCtorEq]at hr
  rename_i e2;obtain ⟨u,hu,rfl,rfl⟩:=hr;exact ⟨st2,.pure (by simp only[rop,e,e2,hu,W0m]) rfl⟩
 case mkf fn xs ys =>
  simp only[rop,W00,W06]at hr;obtain ⟨rfl,rfl⟩:=hr;exact ⟨st2,.pure (by simp only[rop,evs xs (λy hy=>by simp[ROp.args,hy]),evs ys (λy hy=>by simp[ROp.args,hy])]) rfl⟩
 case field agg off n y =>
  have e:=ha y (by simp[ROp.args]);simp only[rop]at hr
  split at hr <;> simp only[W04,W06,reduceCtorEq]at hr
  rename_i e2;obtain ⟨u,hu,rfl,rfl⟩:=hr;exact ⟨st2,.pure (by simp only[rop,e,e2,hu,W0m]) rfl⟩
 case vop v xs =>
  simp only[rop,W04,W06]at hr;obtain ⟨u,hu,rfl,rfl⟩:=hr;exact ⟨st2,.pure (by simp only[rop,evs xs (λy hy=>by simp[ROp.args,hy]),hu,W0m]) rfl⟩
 case faddr off y =>
  have e:=ha y (by simp[ROp.args]);simp only[rop]at hr
  split at hr <;> try (simp at hr;done)
  . rename_i e2;simp only[W00,W06]at hr;obtain ⟨rfl,rfl⟩:=hr;exact ⟨st2,.pure (by simp only[rop,e,e2]) rfl⟩
  . rename_i k n i o e2;have e3:=hk k (by simp[ftk,e2])
    split at hr <;> try (simp at hr;done)
    rename_i hg
    split at hr <;> simp only[W00,W06,reduceCtorEq]at hr
    rename_i hn;obtain ⟨rfl,rfl⟩:=hr;exact ⟨st2,.pure (by simp only[rop,e,e2,e3,hg,if_pos hn]) rfl⟩
  . rename_i e2;simp only[W00,W06]at hr;obtain ⟨rfl,rfl⟩:=hr;exact ⟨st2,.pure (by simp only[rop,e,e2]) rfl⟩
 case iaddr sz s i =>
  have e1:=ha s (by simp[ROp.args]);have e2:=ha i (by simp[ROp.args]);simp only[rop]at hr
  split at hr <;> try (simp at hr;done)
  rename_i f1
  split at hr <;> try (simp at hr;done)
  rename_i f2
  split at hr <;> try (simp at hr;done)
  . rename_i f3
    split at hr <;> try (simp at hr;done)
    rename_i f4
    split at hr <;> simp only[W00,W06,reduceCtorEq]at hr
    rename_i f5;obtain ⟨rfl,rfl⟩:=hr;exact ⟨st2,.pure (by simp only[rop,e1,e2,f1,if_pos f2,f3,f4,if_pos f5]) rfl⟩
  . rename_i k m f3;have e3:=hk k (by simp[ftk,f3,AV.keys])
    split at hr <;> try (simp at hr;done)
    rename_i f4
    split at hr <;> simp only[W00,W06,reduceCtorEq]at hr
    rename_i f5;obtain ⟨rfl,rfl⟩:=hr;exact ⟨st2,.pure (by simp only[rop,e1,e2,f1,if_pos f2,f3,e3,f4];rw[if_pos f5]) rfl⟩
  . rename_i k m lo' hi' f3;have e3:=hk k (by simp[ftk,f3,AV.keys])
    split at hr <;> try (simp at hr;done)
    rename_i f4
    split at hr <;> simp only[W00,W06,reduceCtorEq]at hr
    rename_i f5;obtain ⟨rfl,rfl⟩:=hr;exact ⟨st2,.pure (by simp only[rop,e1,e2,f1,if_pos f2,f3,e3,f4];rw[if_pos f5]) rfl⟩
 case build zero ps =>
  have e:ps.map (λp=>(p.1,p.2.1,evA G st2 p.2.2))=ps.map (λp=>(p.1,p.2.1,evA G st p.2.2)):=W0K λp hp=>by
   rw[ha p.2.2 (by simp only[ROp.args,W0i];exact ⟨p,hp,rfl⟩)]
  simp only[rop,W04,W06]at hr;obtain ⟨u,hu,rfl,rfl⟩:=hr;exact ⟨st2,.pure (by simp only[rop,e,hu,W0m]) rfl⟩
 case len y =>
  have e:=ha y (by simp[ROp.args]);simp only[rop,W04,W06]at hr;obtain ⟨u,hu,rfl,rfl⟩:=hr;exact ⟨st2,.pure (by simp only[rop,e,Z2g (p:=evA G st y) (λk h=>hk k (by simpa [ftk] using h)),hu,W0m]) rfl⟩
 case slen y =>
  have e:=ha y (by simp[ROp.args]);simp only[rop]at hr
  split at hr <;> simp only[W00,W06,reduceCtorEq]at hr
  rename_i e2;obtain ⟨rfl,rfl⟩:=hr;exact ⟨st2,.pure (by simp only[rop,e,e2]) rfl⟩
 case mx great y ys =>
  have e:=ha y (by simp[ROp.args]);simp only[rop,W04,W06]at hr;obtain ⟨u,hu,rfl,rfl⟩:=hr;exact ⟨st2,.pure (by simp only[rop,e,evs ys (λy hy=>by simp[ROp.args,hy]),hu,W0m]) rfl⟩
 case load agg n y =>
  have e:=ha y (by simp[ROp.args]);simp only[rop]at hr
  split at hr <;> simp only[W04,W06,reduceCtorEq]at hr
  rename_i e2;obtain ⟨u,hu,rfl,rfl⟩:=hr;exact ⟨st2,.pure (by simp only[rop,e,Z2f (p:=evA G st y) (λk h=>hk k (by simpa [ftk] using h)),e2,hu,W0m]) rfl⟩
 case store n y u =>
  have e1:=ha y (by simp[ROp.args]);have e2:=ha u (by simp[ROp.args]);simp only[rop]at hr
  split at hr <;> simp only[W04,W06,reduceCtorEq]at hr
  rename_i f1;obtain ⟨st3,hs,rfl,rfl⟩:=hr;obtain ⟨k,o,h1,rfl,h3⟩:=Z2q (st2:=st2) hs (λk h=>hk k (by simpa [ftk] using h));exact ⟨_,.set (by simp only[rop,e1,e2,if_pos f1,h3,W0m]) (by simpa [wtk] using h1) (λj hj=>hk j (by simpa [ftk,wtk] using hj))⟩
 case alloc cells =>
  have e:=hk d (by simp[ftk]);simp only[rop]at hr
  split at hr <;> simp only[W00,W06,reduceCtorEq]at hr
  rename_i f1;obtain ⟨rfl,rfl⟩:=hr;exact ⟨_,.set (by simp only[rop,e,f1]) (by simp[wtk]) (λj hj=>hk j (by simpa [ftk,wtk] using hj))⟩
 case box y =>
  have e:=hk d (by simp[ftk]);have e1:=ha y (by simp[ROp.args]);simp only[rop]at hr
  split at hr <;> try (simp at hr;done)
  rename_i f1
  split at hr <;> simp only[W00,W06,reduceCtorEq]at hr
  rename_i f2;obtain ⟨rfl,rfl⟩:=hr;exact ⟨_,.set (by simp only[rop,e,e1,f1,if_pos f2]) (by simp[wtk]) (λj hj=>hk j (by simpa [ftk,wtk] using hj))⟩
 case bsl own sz n zero ps =>
  have e:ps.map (λp=>(p.1*sz,sz,evA G st2 p.2))=ps.map (λp=>(p.1*sz,sz,evA G st p.2)):=W0K λp hp=>by
   rw[ha p.2 (by simp only[ROp.args,W0i];exact ⟨p,hp,rfl⟩)]
  simp only[rop]at hr
  split at hr <;> try (simp at hr;done)
  rename_i f1
  cases own
  . simp only[W05,if_false]at hr
    split at hr <;> simp only[W00,W06,reduceCtorEq]at hr
    rename_i f2;obtain ⟨rfl,rfl⟩:=hr;exact ⟨st2,.pure (by simp only[rop,e,f1,W05,if_false,if_pos f2]) rfl⟩
  . simp only[if_true]at hr;have e3:=hk d (by simp[ftk])
    split at hr <;> simp only[W00,W06,reduceCtorEq]at hr
    rename_i f2;obtain ⟨rfl,rfl⟩:=hr;exact ⟨_,.set (by simp only[rop,e,f1,if_true,e3,f2]) (by simp[wtk]) (λj hj=>hk j (by simpa [ftk,wtk] using hj))⟩
 case slc sz y lo hi =>
  have e:=ha y (by simp[ROp.args]);have e1:lo.map (evA G st2)=lo.map (evA G st):=by cases lo with|none=>rfl|some l=>simp[ha l (by simp[ROp.args])]
  have e2:hi.map (evA G st2)=hi.map (evA G st):=by cases hi with|none=>rfl|some l=>simp[ha l (by simp[ROp.args])]
  simp only[rop]at hr
  split at hr <;> try (simp at hr;done)
  . rename_i f1
    split at hr <;> try (simp at hr;done)
    rename_i f2 f3
    split at hr <;> simp only[W00,W06,reduceCtorEq]at hr
    rename_i f4;obtain ⟨rfl,rfl⟩:=hr;exact ⟨st2,.pure (by simp only[rop,e,e1,e2,f1,f2,f3,if_pos f4]) rfl⟩
  . rename_i k n f1;have e3:=hk k (by simp[ftk,f1,AV.keys])
    split at hr <;> try (simp at hr;done)
    rename_i f5
    split at hr <;> try (simp at hr;done)
    rename_i f2 f3
    split at hr <;> simp only[W00,W06,reduceCtorEq]at hr
    rename_i f4;obtain ⟨rfl,rfl⟩:=hr;exact ⟨st2,.pure (by simp only[rop,e,e1,e2,e3,f1,f5,f2,f3];rw[if_pos f4]) rfl⟩
  . rename_i f1
    split at hr <;> simp only[W00,W06,reduceCtorEq]at hr
    rename_i f4;obtain ⟨rfl,rfl⟩:=hr;exact ⟨st2,.pure (by simp only[rop,e,e1,e2,f1,if_pos f4]) rfl⟩
 case clr sz zero y =>
  have e:=ha y (by simp[ROp.args]);simp only[rop]at hr
  split at hr <;> try (simp at hr;done)
  rename_i k n lo hi f1;have e3:=hk k (by simp[ftk,f1,AV.keys])
  split at hr <;> try (simp at hr;done)
  rename_i f2
  split at hr <;> simp only[W00,W06,reduceCtorEq]at hr
  rename_i f3;obtain ⟨rfl,rfl⟩:=hr;exact ⟨_,.set (by simp only[rop,e,f1,e3,f2];rw[if_pos f3]) (by simp[wtk,f1,AV.keys]) (λj hj=>hk j (by simpa [ftk,wtk] using hj))⟩
 case sslc y lo hi =>
  have e:=ha y (by simp[ROp.args]);have e1:lo.map (evA G st2)=lo.map (evA G st):=by cases lo with|none=>rfl|some l=>simp[ha l (by simp[ROp.args])]
  have e2:hi.map (evA G st2)=hi.map (evA G st):=by cases hi with|none=>rfl|some l=>simp[ha l (by simp[ROp.args])]
  simp only[rop]at hr
  split at hr <;> try (simp at hr;done)
  rename_i f1
  split at hr <;> try (simp at hr;done)
  rename_i f2 f3
  split at hr <;> simp only[W00,W06,reduceCtorEq]at hr
  rename_i f4;obtain ⟨rfl,rfl⟩:=hr;exact ⟨st2,.pure (by simp only[rop,e,e1,e2,f1,f2,f3,if_pos f4]) rfl⟩
 case mksl sz bytes zero y =>
  have e:=ha y (by simp[ROp.args]);have e3:=hk d (by simp[ftk]);simp only[rop]at hr
  split at hr <;> try (simp at hr;done)
  rename_i f1
  split at hr <;> try (simp at hr;done)
  rename_i f2
  split at hr <;> simp only[W00,W06,reduceCtorEq]at hr
  rename_i f3;obtain ⟨rfl,rfl⟩:=hr;exact ⟨_,.set (by simp only[rop,e,f1,if_pos f2,e3,f3]) (by simp[wtk]) (λj hj=>hk j (by simpa [ftk,wtk] using hj))⟩
 case app sz bytes s y =>
  have e1:=ha s (by simp[ROp.args]);have e2:=ha y (by simp[ROp.args]);have e3:=hk d (by simp[ftk]);have e4:Z9 st2 sz (evA G st y)=Z9 st sz (evA G st y):=Z2h λk h=>hk k (by simp[ftk,h])
  simp only[rop]at hr
  split at hr <;> try (simp at hr;done)
  rename_i ys f1
  split at hr <;> try (simp at hr;done)
  rename_i f0
  split at hr <;> try (simp at hr;done)
  . rename_i f2
    split at hr
    . rename_i f3;simp only[W00,W06]at hr;obtain ⟨rfl,rfl⟩:=hr;exact ⟨st2,by simp only[rop,e1,e2,e4,f1,if_pos f0,f2,if_pos f3],rfl,rfl,λk h=>hk k (by simp only[wtk,ftk,W0g,W0h]at h ⊢;rcases h with h|h;exact .inl h;exact .inr (.inl h)),λk _=>⟨rfl,rfl⟩⟩
    . rename_i f3
      split at hr <;> try (simp at hr;done)
      rename_i f5
      split at hr <;> simp only[W00,W06,reduceCtorEq]at hr
      rename_i f4;obtain ⟨rfl,rfl⟩:=hr;exact ⟨_,.set (by simp only[rop,e1,e2,e4,f1,if_pos f0,f2,if_neg f3,if_pos f5,e3,f4]) (by simp[wtk]) (λj hj=>hk j (by simp only[wtk,ftk,W0g,W0h]at hj ⊢;rcases hj with h|h;exact .inl h;exact .inr (.inl h)))⟩
  . rename_i k n f2;have e5:=hk k (by simp[ftk,f2,AV.keys])
    split at hr <;> try (simp at hr;done)
    rename_i f3
    split at hr <;> try (simp at hr;done)
    rename_i f4
    split at hr
    . rename_i f6;simp only[W00,W06]at hr;obtain ⟨rfl,rfl⟩:=hr;exact ⟨st2,by simp only[rop,e1,e2,e4,f1,if_pos f0,f2,e5,f3];rw[if_pos f4,if_pos f6],rfl,rfl,λk h=>hk k (by simp only[wtk,ftk,W0g,W0h]at h ⊢;rcases h with h|h;exact .inl h;exact .inr (.inl h)),λk _=>⟨rfl,rfl⟩⟩
    rename_i f6;simp only[W00,W06]at hr;obtain ⟨rfl,rfl⟩:=hr;exact ⟨_,.set (by simp only[rop,e1,e2,e4,f1,if_pos f0,f2,e5,f3];rw[if_pos f4,if_neg f6]) (by simp[wtk,f2,AV.keys]) (λj hj=>hk j (by simp only[wtk,ftk,W0g,W0h]at hj ⊢;rcases hj with h|h;exact .inl h;exact .inr (.inl h)))⟩
  . rename_i k n lo hi f2;have e5:=hk k (by simp[ftk,f2,AV.keys])
    split at hr <;> try (simp at hr;done)
    rename_i f3
    split at hr <;> try (simp at hr;done)
    rename_i f4
    split at hr
    . rename_i f6;simp only[W00,W06]at hr;obtain ⟨rfl,rfl⟩:=hr;exact ⟨st2,by simp only[rop,e1,e2,e4,f1,if_pos f0,f2,e5,f3];rw[if_pos f4,if_pos f6],rfl,rfl,λk h=>hk k (by simp only[wtk,ftk,W0g,W0h]at h ⊢;rcases h with h|h;exact .inl h;exact .inr (.inl h)),λk _=>⟨rfl,rfl⟩⟩
    rename_i f6
    split at hr
    . rename_i f7;simp only[W00,W06]at hr;obtain ⟨rfl,rfl⟩:=hr;exact ⟨_,.set (by simp only[rop,e1,e2,e4,f1,if_pos f0,f2,e5,f3];rw[if_pos f4,if_neg f6,if_pos f7]) (by simp[wtk,f2,AV.keys]) (λj hj=>hk j (by simp only[wtk,ftk,W0g,W0h]at hj ⊢;rcases hj with h|h;exact .inl h;exact .inr (.inl h)))⟩
    . rename_i f7;simp only[W00,W06]at hr;obtain ⟨rfl,rfl⟩:=hr;exact ⟨_,.set (by simp only[rop,e1,e2,e4,f1,if_pos f0,f2,e5,f3];rw[if_pos f4,if_neg f6,if_neg f7]) (by simp[wtk,f2,AV.keys]) (λj hj=>hk j (by simp only[wtk,ftk,W0g,W0h]at hj ⊢;rcases hj with h|h;exact .inl h;exact .inr (.inl h)))⟩
 case call f xs=>simp[rop]at hr
 case callv f xs=>simp[rop]at hr
 case calln f xs=>simp[rop]at hr
 case mkmap =>
  have e3:=hk d (by simp[ftk]);simp only[rop]at hr
  split at hr <;> simp only[W00,W06,reduceCtorEq]at hr
  rename_i f1;obtain ⟨rfl,rfl⟩:=hr;exact ⟨_,.set (by simp only[rop,e3,f1]) (by simp[wtk]) (λj hj=>hk j (by simpa [wtk,ftk] using hj))⟩
 case mlen y =>
  have e:=ha y (by simp[ROp.args]);simp only[rop,W04,W06]at hr;obtain ⟨u,hu,rfl,rfl⟩:=hr;exact ⟨st2,.pure (by simp only[rop,e,Z2i (p:=evA G st y) (λk h=>hk k (by simpa [ftk] using h)),hu,W0m]) rfl⟩
 case look kk zero ok m k =>
  have e1:=ha m (by simp[ROp.args]);have e2:=ha k (by simp[ROp.args]);simp only[rop]at hr
  split at hr <;> try (simp at hr;done)
  rename_i f1;have e3:=(Z2i (p:=evA G st m) (λk h=>hk k (by simpa [ftk] using h))).trans f1
  split at hr <;> simp only[W00,W06,reduceCtorEq]at hr
  all_goals
   rename_i f2;obtain ⟨rfl,rfl⟩:=hr;exact ⟨st2,.pure (by simp only[rop,e1,e2,e3,f2]) rfl⟩
 case mupd kk m k v =>
  have e1:=ha m (by simp[ROp.args]);have e2:=ha k (by simp[ROp.args]);have e4:=ha v (by simp[ROp.args]);simp only[rop]at hr
  split at hr <;> try (simp at hr;done)
  rename_i n f1;have e3:=hk n (by simp[ftk,f1,AV.keys])
  split at hr <;> try (simp at hr;done)
  rename_i f2
  split at hr <;> simp only[W00,W06,reduceCtorEq]at hr
  rename_i f3;obtain ⟨rfl,rfl⟩:=hr;exact ⟨_,.set (by simp only[rop,e1,e2,e3,e4,f1,f2,f3]) (by simp[wtk,f1,AV.keys]) (λj hj=>hk j (by simpa [wtk,ftk] using hj))⟩
 case mdel kk m k =>
  have e1:=ha m (by simp[ROp.args]);have e2:=ha k (by simp[ROp.args]);simp only[rop]at hr
  split at hr <;> try (simp at hr;done)
  rename_i n f1;have e3:=hk n (by simp[ftk,f1,AV.keys])
  split at hr <;> try (simp at hr;done)
  rename_i f2
  split at hr <;> simp only[W00,W06,reduceCtorEq]at hr
  rename_i f3;obtain ⟨rfl,rfl⟩:=hr;exact ⟨_,.set (by simp only[rop,e1,e2,e3,f1,f2,f3]) (by simp[wtk,f1,AV.keys]) (λj hj=>hk j (by simpa [wtk,ftk] using hj))⟩
end
structure Rec where
 d:Option Nat
 rt:List Nat
 fk:List Nat
 wk:List Nat
 aft:List Nat
def ROper.rt (r:ROper):List Nat:=r.op.args.flatMap RA.tm++(match r.guard with|some (t,_)=>[t]|none=>[])
def recOf (G:Jg) (r:ROper) (st:St):Rec:=⟨r.d,r.rt,ftk G st (r.d.getD 0) r.op,wtk G st (r.d.getD 0) r.op,r.aft⟩
def cuts (xs ys:List Nat):Bool:=xs.any λx=>ys.contains x
def conf (a b:Rec):Bool:=(match a.d with|some n=>b.rt.contains n||b.d == some n|none=>false)||(match b.d with|some n=>a.rt.contains n|none=>false)||cuts a.wk b.fk||cuts b.wk a.fk||cuts a.wk b.wk
def reach (rs:List Rec):Nat->Nat->Nat->Bool
 |0,_,_=>false
 | f+1,j,i=>match rs[j]? with
   |some r=>r.aft.any λe=>e == i||reach rs f e i
   |none=>false
def Z2s (rs:List Rec) (j:Nat) (b:Rec):Bool:=(List.range j).all λi=>match rs[i]? with
 |some a=>!conf a b||reach rs rs.length j i
 |none=>false
def Z2t (rs:List Rec):Bool:=(List.range rs.length).all λj=>match rs[j]? with
 |some b=>b.aft.all (λe=>decide (e<j))&&Z2s rs j b
 |none=>false
def RD (P:Program) (G:Jg):List ROper->St->List Rec->(St->Prop)->Prop
 |[],st,acc,K=>Z2t acc.reverse=true/\K st
 | r :: rs,st,acc,K=>match wants st r.guard with
   |none=>False
   | some w=>(w=false->RD P G rs (st.putd r.d .hole) (recOf G r st::acc) K)/\(w=true->match r.op with
     |.call f args=>∃ v,CallR P G st f (args.map (evA G st)) v/\RD P G rs (st.putd r.d v) (recOf G r st::acc) K
     |.calln f args=>(∃ v,CallR P G st f (args.map (evA G st)) v/\RD P G rs (st.putd r.d v) (recOf G r st::acc) K)∨∃ sz rows,NewR P G st (r.d.getD 0) f (args.map (evA G st)) sz rows/\RD P G rs ((st.set (r.d.getD 0) (.row sz rows)).putd r.d (.osl (r.d.getD 0) rows.length)) (recOf G r st::acc) K
     | .callv f args=>match evA G st f with
       |.func (.func g) first caps=>∃ v,CallR P G st g (first++args.map (evA G st)++caps) v/\RD P G rs (st.putd r.d v) (recOf G r st::acc) K
       |_=>False
     | op=>match rop G st (r.d.getD 0) op with
       |some (x,st')=>RD P G rs (st'.putd r.d x) (recOf G r st::acc) K
       |none=>False)
section
variable {P:Program} {G:Jg}
def Z2u {r:ROper} {rs:List ROper} {st:St} {acc:List Rec} {K:St->Prop} (h:RD P G (r::rs) st acc K):∃ st',Stp P G r st st'/\RD P G rs st' (recOf G r st::acc) K:=by
 simp only[RD]at h
 split at h
 . exact h.elim
 . rename_i w hw
   cases w
   . exact ⟨_,.skip hw,h.1 rfl⟩
   . have h:=h.2 rfl
     split at h
     . obtain ⟨v,hc,hv⟩:=h;exact ⟨_,.call hw _ _ v ‹_› hc,hv⟩
     . rcases h with ⟨v,hc,hv⟩ | ⟨sz,rows,hc,hv⟩
       . exact ⟨_,.callp hw _ _ v ‹_› hc,hv⟩
       . exact ⟨_,.calln hw _ _ sz rows ‹_› hc,hv⟩
     . split at h <;> try (exact h.elim)
       obtain ⟨v,hc,hv⟩:=h;exact ⟨_,.callv hw _ _ _ _ _ v ‹_› ‹_› hc,hv⟩
     . rename_i hn1 hn2
       split at h <;> try (exact h.elim)
       refine ⟨_,.op hw _ _ ?_ ‹_›,h⟩
       cases e:r.op <;> simp_all [Z1y]
def Z2v:∀ (rs:List ROper) (st:St) (acc:List Rec) (K:St->Prop),RD P G rs st acc K ->
  ∃ S:Nat->St,S 0=st/\(∀ (i:Nat) (r:ROper),rs[i]? = some r->Stp P G r (S i) (S (i+1)))/\K (S rs.length)/\Z2t (acc.reverse++(List.range rs.length).map λi=>recOf G (rs.getD i default) (S i))=true
 |[],st,acc,K,h=>⟨λ_=>st,rfl,by simp,h.2,by simpa using h.1⟩
 | r :: rs,st,acc,K,h=>by
   obtain ⟨st',h1,h2⟩:=Z2u h;obtain ⟨S,h3,h4,h5,h6⟩:=Z2v rs st' _ K h2;refine ⟨λi=>match i with|0=>st|i+1=>S i,rfl,λi r' hi=>?_,h5,?_⟩
   . cases i with
     |zero=>simp at hi;subst hi;rw[<- h3]at h1;exact h1
     |succ i=>exact h4 i r' (by simpa using hi)
   . rw[W1n,W26];simp only[W0F,W10];simpa [W0y] using h6
def Z2w {r:ROper} {st st' st2:St} (h:Stp P G r st st') (ht:∀ t∈r.rt,st2.tmp t=st.tmp t) (hk:∀ k∈ftk G st (r.d.getD 0) r.op,st2.get k=st.get k) :
  ∃ st2',Stp P G r st2 st2'/\(∀ n,r.d=some n->st2'.tmp n=st'.tmp n)/\(∀ n,r.d≠some n->st2'.tmp n=st2.tmp n/\st'.tmp n=st.tmp n) /\
    (∀ k∈wtk G st (r.d.getD 0) r.op,st2'.get k=st'.get k)/\(∀ k,k ∉ wtk G st (r.d.getD 0) r.op->st2'.get k=st2.get k/\st'.get k=st.get k):=by
 have hw:wants st2 r.guard=wants st r.guard:=by
  cases e:r.guard with
  |none=>rfl
  |some p=>obtain ⟨t,b⟩:=p;simp only[wants];rw[ht t (by simp[ROper.rt,e])]
 have ha:∀ y∈r.op.args,evA G st2 y=evA G st y:=λy hy=>by
  cases y <;> simp only[evA]
  rename_i t;rw[ht t (by simp only[ROper.rt,W0h,W0u];exact .inl ⟨_,hy,by simp[RA.tm]⟩)]
 have puts:∀ (a b:St) (x:AV),(∀ n,r.d=some n->(a.putd r.d x).tmp n=(b.putd r.d x).tmp n):=λa b x n e=>by simp[e,St.putd,St.tmp_put]
 have putn:∀ (a:St) (x:AV) (n:Nat),r.d≠some n->(a.putd r.d x).tmp n=a.tmp n:=λa x n e=>by
  cases e2:r.d with
  |none=>rfl
  |some m=>simp only[St.putd,St.tmp_put];rw[if_neg (by rintro rfl;exact e e2)]
 have putg:∀ (a:St) (x:AV) (k:Nat),(a.putd r.d x).get k=a.get k:=λa x k=>by cases e2:r.d <;> rfl
 have nowr:∀ {v:AV},wtk G st (r.d.getD 0) r.op=[]∨(∀ k∈wtk G st (r.d.getD 0) r.op,st2.get k=st.get k)->(∀ n,r.d=some n->(st2.putd r.d v).tmp n=(st.putd r.d v).tmp n)/\(∀ n,r.d≠some n->(st2.putd r.d v).tmp n=st2.tmp n/\(st.putd r.d v).tmp n=st.tmp n) /\
   (∀ k∈wtk G st (r.d.getD 0) r.op,(st2.putd r.d v).get k=(st.putd r.d v).get k)/\(∀ k,k ∉ wtk G st (r.d.getD 0) r.op->(st2.putd r.d v).get k=st2.get k/\(st.putd r.d v).get k=st.get k):=λ{v} e =>
  ⟨puts st2 st v,λn hn=>⟨putn _ _ n hn,putn _ _ n hn⟩,λk hk=>by
   rw[putg,putg];rcases e with e|e
   . rw[e]at hk;cases hk
   . exact e k hk,λk _=>⟨putg _ _ _,putg _ _ _⟩⟩
 have wsub:∀ k∈wtk G st (r.d.getD 0) r.op,k∈ftk G st (r.d.getD 0) r.op:=λk hk=>by
  cases e:r.op <;> simp only[e,wtk,ftk]at hk ⊢ <;> first
   |exact hk
   |(simp_all;done)
   |(cases hk;done)
   |(rename_i own _ _ _ _;cases own <;> simp_all;done)
   | (simp only[W0g,W0h]at hk ⊢;rcases hk with hk|hk
      . exact .inl hk
      . exact .inr (.inl hk))
 cases h with
 |skip h=>exact ⟨_,.skip (hw.trans h),nowr (.inr λk h=>hk k (wsub k h))⟩
 | call h f args v ho hc =>
   refine ⟨_,.call (hw.trans h) f args v ho ?_,nowr (.inl (by rw[ho];rfl))⟩;rw[W0K (λy hy=>ha y (by rw[ho];exact hy))];refine Z2p hc λx hx k hxk=>hk k ?_
   obtain ⟨y,hy,rfl⟩:=W0i.1 hx;simp only[ho,ftk,W0u];exact ⟨y,hy,hxk⟩
 | callp h f args v ho hc =>
   have hd:r.d.getD 0∈wtk G st (r.d.getD 0) r.op:=(by rw[ho];simp[wtk]);refine ⟨_,.callp (hw.trans h) f args v ho ?_,nowr (.inr λk hk'=>hk k (wsub k hk'))⟩;rw[W0K (λy hy=>ha y (by rw[ho];exact hy))];refine Z2p hc λx hx k hxk=>hk k ?_
   obtain ⟨y,hy,rfl⟩:=W0i.1 hx;simp only[ho,ftk,W0g,W0u];exact .inr ⟨y,hy,hxk⟩
 | calln h f args sz rows ho hc =>
   have hd:r.d.getD 0∈ftk G st (r.d.getD 0) r.op:=(by rw[ho];simp[ftk]);have hwt:wtk G st (r.d.getD 0) r.op=[r.d.getD 0]:=(by rw[ho];rfl);refine ⟨_,.calln (hw.trans h) f args sz rows ho ?_,puts _ _ _,λn hn=>⟨?_,?_⟩,λk hk'=>?_,λk hk'=>⟨?_,?_⟩⟩
   . rw[W0K (λy hy=>ha y (by rw[ho];exact hy))];exact ⟨(hk _ hd).trans hc.1,hc.2⟩
   . rw[putn _ _ n hn];rfl
   . rw[putn _ _ n hn];rfl
   . rw[hwt,W0B]at hk';rw[putg,putg,St.get_set,St.get_set,if_pos hk'.symm,if_pos hk'.symm]
   . rw[hwt,W0B]at hk';rw[putg,St.get_set,if_neg (λe=>hk' e.symm)]
   . rw[hwt,W0B]at hk';rw[putg,St.get_set,if_neg (λe=>hk' e.symm)]
 | callv h f g first caps args v ho hf hc =>
   refine ⟨_,.callv (hw.trans h) f g first caps args v ho (by rw[ha f (by rw[ho];simp[ROp.args]),hf]) ?_,nowr (.inl (by rw[ho];rfl))⟩;rw[W0K (λy hy=>ha y (by rw[ho];simp[ROp.args,hy]))];refine Z2p hc λx hx k hxk=>hk k ?_
   simp only[ho,ftk,W0h,W0u,hf];simp only[W0h,W0i]at hx;rcases hx with (hx | ⟨y,hy,rfl⟩)|hx
   . left;refine Z2n (λk hk=>?_) hxk;simp only[AV.keys,W0h,W0u,W0V,true_and,W1Z];exact .inl ⟨x,hx,hk⟩
   . right;exact ⟨y,hy,hxk⟩
   . left;refine Z2n (λk hk=>?_) hxk;simp only[AV.keys,W0h,W0u,W0V,true_and,W1Z];exact .inr ⟨x,hx,hk⟩
 | op h x st1 hn hr =>
   obtain ⟨st3,l⟩:=Z2r hr ha hk;refine ⟨_,.op (hw.trans h) x st3 hn l.run,puts _ _ _,λn hn=>⟨?_,?_⟩,λk hk=>?_,λk hk=>⟨?_,?_⟩⟩
   . rw[putn _ _ n hn];unfold St.tmp;rw[l.t2]
   . rw[putn _ _ n hn];unfold St.tmp;rw[l.t1]
   . rw[putg,putg];exact l.inn k hk
   . rw[putg];exact (l.out k hk).1
   . rw[putg];exact (l.out k hk).2
end
def SR.congr {R:Run} {st st2:St} {a:Act} {W:World} (ht:∀ n,st2.tmp n=st.tmp n) (hg:∀ k,st2.get k=st.get k) (h:SR R st2 a W):SR R st a W:=by
 obtain ⟨κ,h⟩:=h;have he:st.env R.M κ=st2.env R.M κ:=(by unfold St.env;simp only[hg]);refine ⟨κ,h.defers,h.size,λn x hx=>by rw[he];exact h.tm n x (by rw[ht];exact hx),λk o ho=>by rw[he];exact h.obj k o (by rw[hg];exact ho),λk p hk=>by rw[<- hg];exact h.dom k p hk,h.inj,h.low,h.apart,h.kp,by rw[he];exact h.gr,by rw[he];exact h.mono,h.ent⟩
section
variable {P:Program} {R:Run} {rs:List ROper} {S:Nat->St}
def TT {β:Type} (L:Nat->Bool) (w:Nat->Bool) (v:Nat->β):Nat->β
 |0=>v 0
 |i+1=>if L i=true/\w i=true then v (i+1) else TT L w v i
def Z2x {β:Type} {L L' w:Nat->Bool} {v:Nat->β} {n:Nat} (h:∀ i,i<n->w i=true->L i=L' i):TT L w v n=TT L' w v n:=by
 induction n with
 |zero=>rfl
 | succ n ih =>
   simp only[TT];rw[ih (λi hi=>h i (by omega))];by_cases hw:w n=true
   . rw[h n (by omega) hw]
   . simp[hw]
def Z2y {β:Type} {w:Nat->Bool} {v:Nat->β} {n:Nat} (hv:∀ i,i<n->w i=false->v (i+1)=v i) {j:Nat} (hj:j<=n):TT (λi=>decide (i<j)) w v n=v j:=by
 have low:∀ m,m<=j->TT (λi=>decide (i<j)) w v m=v m:=by
  intro m
  induction m with
  |zero=>intro _;rfl
  | succ m ihm =>
    intro hm;simp only[TT];by_cases hw:w m=true
    . rw[if_pos ⟨by simp;omega,hw⟩]
    . rw[if_neg (by simp[hw]),ihm (by omega),hv m (by omega) (by simpa using hw)]
 have high:∀ d,j+d<=n->TT (λi=>decide (i<j)) w v (j+d)=v j:=by
  intro d
  induction d with
  |zero=>intro _;exact low j (W0f _)
  | succ d ihd =>
    intro hd;rw[<- W1s];simp only[TT];rw[if_neg (λh=>by have h2:=W0X h.1;omega),ihd (by omega)]
 have:=high (n-j) (by omega)
 rwa [show j+(n-j)=n by omega]at this
def Z2z {β:Type} {L w:Nat->Bool} {v:Nat->β} (hL:∀ i,L i=false) (n:Nat):TT L w v n=v 0:=by
 induction n with
 |zero=>rfl
 |succ n ih=>simp[TT,hL,ih]
def Z2A {recs:List Rec} {L:Nat->Bool} (hd:∀ (j:Nat) (r:Rec),recs[j]? = some r->L j=true->∀ e∈r.aft,L e=true):∀ (f j i:Nat),reach recs f j i=true->(∀ r,recs[j]? = some r->∀ e∈r.aft,L e=true)->L i=true:=by
 intro f
 induction f with
 |zero=>intro j i h;simp[reach]at h
 | succ f ih =>
   intro j i h hj;simp only[reach]at h
   split at h <;> try (simp at h;done)
   rename_i r hr;obtain ⟨e,he,h2⟩:=W14.1 h;simp only[W0T,W0A]at h2;have hle:=hj r hr e he;rcases h2 with rfl|h2
   . exact hle
   . exact ih e i h2 (λr' hr' e' he'=>hd e r' hr' hle e' he')
structure StepK (P:Program) (R:Run) (T:ROper->St->Rec->St->Prop):Prop where
 recs:∀ {r:ROper} {st st':St} {rc:Rec},T r st rc st'->rc.d=r.d/\rc.rt=r.rt/\rc.aft=r.aft
 loc:∀ {r:ROper} {st st' st2:St} {rc:Rec},T r st rc st'->(∀ t∈r.rt,st2.tmp t=st.tmp t)->(∀ k∈rc.fk,st2.get k=st.get k) ->
  ∃ st2' rc',T r st2 rc' st2'/\(∀ n,r.d=some n->st2'.tmp n=st'.tmp n)/\(∀ n,r.d≠some n->st2'.tmp n=st2.tmp n/\st'.tmp n=st.tmp n)/\(∀ k∈rc.wk,st2'.get k=st'.get k)/\(∀ k,k ∉ rc.wk->st2'.get k=st2.get k/\st'.get k=st.get k)
 sim:∀ {st:St} {a:Act} {W:World} {rd:Option Nat} {m:Nat} {ops:Array Oper} {r:ROper} {rc:Rec} {st':St} {j:Nat} {o:Oper} {K:Act->World->Prop} {Q:Exit->Act->World->Prop},T r st rc st'->ops[j]? = some o->Z1z P R.N ops o r=true ->
  SR R st a W->(∀ a' W',SR R st' a' W'->K a' W')->wpOpIn (FW rd) m P ops Q j K a W
def Z2B {T:ROper->St->Rec->St->Prop} (hTk:StepK P R T) {rd:Option Nat} {mm:Nat} {ops:Array Oper} {Q:Exit->Act->World->Prop} {rc:Nat->Rec} (n0:Nat) (hrA:∀ (i:Nat) (r:ROper),rs[i]? = some r->(rc i).aft=r.aft) (hS:∀ (i:Nat) (r:ROper),n0<=i->rs[i]? = some r->T r (S i) (rc i) (S (i+1))) (hS0:∀ i,i<n0->S (i+1)=S i) (hl:rs.length<=ops.size)
  (hok:∀ (i:Nat) (r:ROper),rs[i]? = some r->∃ o,ops[i]? = some o/\Z1z P R.N ops o r=true/\(o.after.toList.filter (Region.binds .any ·)).map (·.on)=r.aft)
  (hi:Z2t ((List.range rs.length).map λi=>rc i)=true) (hF:∀ (j:Nat) (o:Oper) (listed:Array Bool),rs.length<=j->ops[j]? = some o->listed.size=ops.size->(∀ (j:Nat) (r:ROper),rs[j]? = some r->listed.getD j false=true->∀ e∈r.aft,listed.getD e false=true)->(∀ i,rs.length<=i->listed.getD i false=false)->(∀ e∈o.after,Region.binds .any e=true->listed.getD e.on false=true)->∀ i,i<rs.length->listed.getD i false=true)
  (hQ:∀ (fuel:Nat) (listed:Array Bool) a w,listed.size=ops.size->(∀ i,i<rs.length->listed.getD i false=true)->(∀ i,rs.length<=i->listed.getD i false=false)->(∀ (j:Nat) (r:ROper),rs[j]? = some r->listed.getD j false=true->∀ e∈r.aft,listed.getD e false=true)->ops.size-rs.length<=fuel->SR R (S rs.length) a w->wpAnyIn (FW rd) mm P .any ops Q fuel listed a w) :
  ∀ (fuel:Nat) (listed:Array Bool) (st2:St) (a:Act) (w:World),listed.size=ops.size->(∀ i,i<n0->listed.getD i false=true)->(∀ i,rs.length<=i->listed.getD i false=false) ->
    (∀ (j:Nat) (r:ROper),rs[j]? = some r->listed.getD j false=true->∀ e∈r.aft,listed.getD e false=true) ->
    ((List.range rs.length).filter (λi=>!listed.getD i false)).length+(ops.size-rs.length)<=fuel ->
    (∀ m,st2.tmp m=TT (λi=>listed.getD i false) (λi=>(rs.getD i default).d == some m&&decide (i<rs.length)) (λi=>(S i).tmp m) rs.length) ->
    (∀ k,st2.get k=TT (λi=>listed.getD i false) (λi=>(rc i).wk.contains k&&decide (i<rs.length)) (λi=>(S i).get k) rs.length) ->
    SR R st2 a w->wpAnyIn (FW rd) mm P .any ops Q fuel listed a w:=by
 have hrc:∀ (i:Nat) (r:ROper),rs[i]? = some r->(rc i).aft=r.aft/\(n0<=i->(rc i).d=r.d/\(rc i).rt=r.rt):=λi r h=>⟨hrA i r h,λc=>⟨(hTk.recs (hS i r c h)).1,(hTk.recs (hS i r c h)).2.1⟩⟩
 have hgd:∀ {i:Nat} {r:ROper},rs[i]? = some r->rs.getD i default=r:=λ{i r} h=>by simp[List.getD,h]
 have hrec:∀ {i:Nat} {r:ROper},rs[i]? = some r->((List.range rs.length).map λi=>rc i)[i]? = some (rc i):=λ{i r} h=>by
  have hlt:i<rs.length:=(W02.1 h).1;rw[W09,W0L hlt,W0m]
 have hlen:((List.range rs.length).map λi=>rc i).length=rs.length:=by simp
 have hind:∀ (j:Nat) (r:ROper),rs[j]? = some r->(∀ e∈r.aft,e<j)/\∀ (i:Nat) (q:ROper),i<j->rs[i]? = some q->conf (rc i) (rc j)=true->reach ((List.range rs.length).map λi=>rc i) rs.length j i=true:=by
  intro j r hj;have hlt:j<rs.length:=(W02.1 hj).1;have h1:=W03.1 hi j (by simp[hlt]);rw[hrec hj]at h1;simp only[W01,W03,W0b]at h1;rw[(hrc j r hj).1]at h1;refine ⟨h1.1,λi q hij hq hc=>?_⟩;have h2:=W03.1 h1.2 i (by simp[hij]);rw[hrec hq]at h2;simp only[hc,W17,Bool.false_or,hlen]at h2;exact h2
 have fr:∀ (i:Nat) (r:ROper),rs[i]? = some r->(∀ n,r.d≠some n->(S (i+1)).tmp n=(S i).tmp n)/\(∀ k,k ∉ (rc i).wk->(S (i+1)).get k=(S i).get k):=λi r h=>by
  rcases W0q i n0 with c|c
  . rw[hS0 i c];exact ⟨λ_ _=>rfl,λ_ _=>rfl⟩
  obtain ⟨st3,rc3,-,-,h2,-,h4⟩:=hTk.loc (hS i r c h) (λ_ _=>rfl) (λ_ _=>rfl);exact ⟨λn hn=>(h2 n hn).2,λk hk=>(h4 k hk).2⟩
 intro fuel
 have view:∀ {listed:Array Bool} {st2:St} {j:Nat} {r:ROper},rs[j]? = some r->listed.getD j false=false ->
   (∀ (j:Nat) (r:ROper),rs[j]? = some r->listed.getD j false=true->∀ e∈r.aft,listed.getD e false=true)->(∀ e∈r.aft,listed.getD e false=true) ->
   (∀ (i:Nat) (q:ROper),rs[i]? = some q->conf (rc i) (rc j)=true->i<j->listed.getD i false=true) /\
   (∀ (i:Nat) (q:ROper),rs[i]? = some q->conf (rc j) (rc i)=true->j<i->listed.getD i false=false):=by
  intro listed st2 j r hj hun hdc haf
  have hdc':∀ (j:Nat) (r:Rec),((List.range rs.length).map λi=>rc i)[j]? = some r->listed.getD j false=true->∀ e∈r.aft,listed.getD e false=true:=by
   intro j r hr hL e he;have hlt:j<rs.length:=(by have:=(W02.1 hr).1;simpa using this);have hq:rs[j]? = some rs[j]:=(by simp[hlt]);rw[hrec hq]at hr;simp only[W00]at hr;subst hr;exact hdc j _ hq hL e (by rw[<- (hrc j _ hq).1];exact he)
  refine ⟨λi q hq hc hij=>?_,λi q hq hc hji=>?_⟩
  . refine Z2A hdc' _ j i ((hind j r hj).2 i q hij hq hc) (λr' hr' e he=>?_);rw[hrec hj]at hr';simp only[W00]at hr';subst hr';exact haf e (by rw[<- (hrc j r hj).1];exact he)
  . cases hL:listed.getD i false with
    |false=>rfl
    | true =>
      have:=Z2A hdc' _ i j ((hind i q hq).2 j r hji hj hc) (λr' hr' e he=>hdc' i r' hr' hL e he);rw[hun]at this;cases this
 have frT:∀ m i,i<rs.length->((rs.getD i default).d == some m&&decide (i<rs.length))=false->(S (i+1)).tmp m=(S i).tmp m:=λm i hlt h=>by
  have hq:rs[i]? = some rs[i]:=(by simp[hlt]);refine (fr i _ hq).1 m (λe=>?_);rw[hgd hq]at h;simp[e,hlt]at h
 have frK:∀ k i,i<rs.length->((rc i).wk.contains k&&decide (i<rs.length))=false->(S (i+1)).get k=(S i).get k:=λk i hlt h=>by
  have hq:rs[i]? = some rs[i]:=(by simp[hlt]);refine (fr i _ hq).2 k (λe=>?_);simp[e,hlt]at h
 have cT:∀ {i j:Nat} {q r:ROper} {t:Nat},n0<=i->n0<=j->rs[i]? = some q->rs[j]? = some r->q.d=some t->(t∈r.rt∨r.d=some t)->conf (rc i) (rc j)=true:=λ{i j q r t} m1 m2 g1 g2 h1 h2=>by
  simp only[conf,((hrc i q g1).2 m1).1,((hrc i q g1).2 m1).2,((hrc j r g2).2 m2).1,((hrc j r g2).2 m2).2,h1,W0T,W0w,W0A];exact .inl (.inl (.inl (.inl h2)))
 have cT':∀ {i j:Nat} {q r:ROper} {t:Nat},n0<=i->n0<=j->rs[i]? = some q->rs[j]? = some r->q.d=some t->(t∈r.rt∨r.d=some t)->conf (rc j) (rc i)=true:=λ{i j q r t} m1 m2 g1 g2 h1 h2=>by
  simp only[conf,((hrc i q g1).2 m1).1,((hrc i q g1).2 m1).2,((hrc j r g2).2 m2).1,((hrc j r g2).2 m2).2,h1,W0T,W0w,W0A];rcases h2 with h2|h2
  . exact .inl (.inl (.inl (.inr h2)))
  . exact .inl (.inl (.inl (.inl (by simp[h2]))))
 have cutI:∀ {xs ys:List Nat} {k:Nat},k∈xs->k∈ys->cuts xs ys=true:=λ{xs ys k} h1 h2=>W14.2 ⟨k,h1,by simpa using h2⟩
 have cK:∀ {i j:Nat} {k:Nat},k∈(rc i).wk->(k∈(rc j).fk∨k∈(rc j).wk)->conf (rc i) (rc j)=true/\conf (rc j) (rc i)=true:=λ{i j k} h1 h2=>by
  simp only[conf,W0T];rcases h2 with h2|h2
  . exact ⟨.inl (.inl (.inr (cutI h1 h2))),.inl (.inr (cutI h1 h2))⟩
  . exact ⟨.inr (cutI h1 h2),.inr (cutI h2 h1)⟩
 have done:∀ {fuel:Nat} {listed:Array Bool} {st2:St} {a:Act} {w:World},listed.size=ops.size->(∀ i,i<rs.length->listed.getD i false=true)->(∀ i,rs.length<=i->listed.getD i false=false)->(∀ (j:Nat) (r:ROper),rs[j]? = some r->listed.getD j false=true->∀ e∈r.aft,listed.getD e false=true)->ops.size-rs.length<=fuel ->
   (∀ m,st2.tmp m=TT (λi=>listed.getD i false) (λi=>(rs.getD i default).d == some m&&decide (i<rs.length)) (λi=>(S i).tmp m) rs.length) ->
   (∀ k,st2.get k=TT (λi=>listed.getD i false) (λi=>(rc i).wk.contains k&&decide (i<rs.length)) (λi=>(S i).get k) rs.length) ->
   SR R st2 a w->wpAnyIn (FW rd) mm P .any ops Q fuel listed a w:=by
  intro fuel listed st2 a w hsz hall hno hdc hfu hT hK hs;refine hQ fuel listed a w hsz hall hno hdc hfu (SR.congr (λm=>?_) (λk=>?_) hs)
  . rw[hT m,Z2x (L':=λi=>decide (i<rs.length)) (λi hi _=>by simp[hall i hi,hi]),Z2y (frT m) (W0f _)]
  . rw[hK k,Z2x (L':=λi=>decide (i<rs.length)) (λi hi _=>by simp[hall i hi,hi]),Z2y (frK k) (W0f _)]
 have aftL:∀ {listed:Array Bool} {j:Nat} {o:Oper} {r:ROper},(o.after.toList.filter (Region.binds .any ·)).map (·.on)=r.aft->((∀ e∈o.after,Region.binds .any e=true->listed.getD e.on false=true)↔∀ e∈r.aft,listed.getD e false=true):=by
  intro listed j o r h;rw[<- h]
  constructor
  . intro h1 e he;obtain ⟨x,hx,rfl⟩:=W0i.1 he;obtain ⟨h2,h3⟩:=W0G.1 hx;exact h1 x (by simpa using h2) h3
  . intro h1 e he hb;exact h1 _ (W0i.2 ⟨e,W0G.2 ⟨by simpa using he,hb⟩,rfl⟩)
 have noall:∀ {listed:Array Bool},¬(∀ i,i<rs.length->listed.getD i false=true)->0<((List.range rs.length).filter (λi=>!listed.getD i false)).length:=λ{listed} h=>by
  rcases W1U ((List.range rs.length).filter (λi=>!listed.getD i false)).length with h0|h0
  . exfalso;refine h λi hi=>?_
    cases hL:listed.getD i false with
    |true=>rfl
    | false =>
      have hm:i∈(List.range rs.length).filter (λi=>!listed.getD i false):=W0G.2 ⟨by simpa using hi,by rw[hL];rfl⟩;rw[W0l.1 h0]at hm
      cases hm
  . exact h0
 induction fuel with
 | zero =>
   intro listed st2 a w hsz hlow hno hdc hcnt hT hK hs;by_cases hall:∀ i,i<rs.length->listed.getD i false=true
   . exact done hsz hall hno hdc (by omega) hT hK hs
   . have:=noall hall;omega
 | succ fuel ih =>
   intro listed st2 a w hsz hlow hno hdc hcnt hT hK hs;by_cases hall:∀ i,i<rs.length->listed.getD i false=true
   . exact done hsz hall hno hdc (by omega) hT hK hs
   refine ⟨λhnil=>(hall ?_).elim,λj hj=>?_⟩
   . intro i hi
     induction i using Nat.strongRecOn with
     | _ i ihi =>
       cases hL:listed.getD i false with
       |true=>rfl
       | false =>
         have hr:rs[i]? = some rs[i]:=(by simp[hi]);obtain ⟨o,ho,-,hae⟩:=hok i _ hr
         have:i∈Region.ready .any ops listed:=mem_ready.2 ⟨by
          simp only[W0a]at hL ⊢;rw[W0n (by omega)]at hL ⊢;simpa using hL,o,ho,(aftL (j:=i) hae).2 (λe he=>ihi e ((hind i _ hr).1 e he) (Nat.lt_trans ((hind i _ hr).1 e he) hi))⟩
         rw[hnil]at this;cases this
   . obtain ⟨h1,oj,h2,h3⟩:=mem_ready.1 hj
     have hjl:j<rs.length:=by
      rcases W0q j rs.length with c|c
      . exact c
      . exact (hall (hF j oj listed c h2 hsz hdc hno h3)).elim
     have hr:rs[j]? = some rs[j]:=(by simp[hjl]);generalize rs[j]=r at hr;obtain ⟨o,ho,hko,hae⟩:=hok j _ hr;rw[h2]at ho;simp only[W00]at ho;subst ho
     have hun:listed.getD j false=false:=by
      simp only[W0a]at h1 ⊢;rw[W0n (by omega)]at h1 ⊢;simpa using h1
     have haf:=(aftL (j:=j) hae).1 h3;obtain ⟨v1,v2⟩:=view (st2:=st2) hr hun hdc haf
     have hnj:n0<=j:=by
      rcases W0q j n0 with c|c
      . have:=hlow j c;rw[hun]at this;cases this
      . exact c
     have eqT:∀ t,(t∈r.rt∨r.d=some t)->st2.tmp t=(S j).tmp t:=λt ht=>by
      rw[hT t,Z2x (L':=λi=>decide (i<j)) (λi hi hw=>?_),Z2y (frT t) (by omega)];have hq:rs[i]? = some rs[i]:=(by simp[hi]);rw[hgd hq]at hw;simp only[W01,W0A]at hw;rcases W0q i n0 with m1|m1
      . rw[hlow i m1];symm;simp;omega
      rcases W0R i j with c|c|c
      . simp only[v1 i _ hq (cT m1 hnj hq hr hw.1 ht) c,c,W1g]
      . subst c;simp[hun]
      . rw[v2 i _ hq (cT' m1 hnj hq hr hw.1 ht) c];symm;simp;omega
     have eqK:∀ k,(k∈(rc j).fk∨k∈(rc j).wk)->st2.get k=(S j).get k:=λk hk=>by
      rw[hK k,Z2x (L':=λi=>decide (i<j)) (λi hi hw=>?_),Z2y (frK k) (by omega)];have hq:rs[i]? = some rs[i]:=(by simp[hi]);simp only[W01,W0w]at hw;rcases W0q i n0 with m1|m1
      . rw[hlow i m1];symm;simp;omega
      rcases W0R i j with c|c|c
      . simp only[v1 i _ hq (cK hw.1 hk).1 c,c,W1g]
      . subst c;simp[hun]
      . rw[v2 i _ hq (cK hw.1 hk).2 c];symm;simp;omega
     obtain ⟨st3,rc3,hst,u1,u2,u3,u4⟩:=hTk.loc (hS j r hnj hr) (λt ht=>eqT t (.inl ht)) (λk hk=>eqK k (.inl hk))
     have gset:∀ i,(listed.setIfInBounds j true).getD i false=if i=j then true else listed.getD i false:=λi=>by
      simp only[W0a,W0p];by_cases c:j=i
      . subst c;rw[if_pos rfl,if_pos (by omega),if_pos rfl];rfl
      . rw[if_neg c,if_neg (λe=>c e.symm)]
     refine hTk.sim hst h2 hko hs λa' w' hs'=>ih (listed.setIfInBounds j true) st3 a' w' (by simpa using hsz) (λi hi=>by rw[gset,hlow i hi];split <;> rfl) (λi hi=>by rw[gset,if_neg (by omega)];exact hno i hi) (λi q hq hL e he=>?_) ?_ (λm=>?_) (λk=>?_) hs'
     . rw [gset]at hL ⊢
       split
       . rfl
       . split at hL
         . rename_i e2;subst e2;rw[hr]at hq;simp only[W00]at hq;subst hq;exact haf e he
         . exact hdc i q hq hL e he
     . have hsub:((List.range rs.length).filter (λi=>!(listed.setIfInBounds j true).getD i false)).length<((List.range rs.length).filter (λi=>!listed.getD i false)).length:=by
        rw[<- W1b,<- W1b]
        have e1:(List.range rs.length).countP (λi=>!listed.getD i false)=(List.range rs.length).countP (λi=>!(listed.setIfInBounds j true).getD i false)+(List.range rs.length).countP (λi=>i == j):=by
         generalize List.range rs.length=l
         induction l with
         |nil=>rfl
         | cons x l ihl =>
           simp only[W20,ihl,gset];by_cases c:x=j
           . subst c;simp[hun];omega
           . simp[c];omega
        have e2:0<(List.range rs.length).countP (λi=>i == j):=List.countP_pos_iff.2 ⟨j,by simp[hjl],by simp⟩;omega
       omega
     . by_cases c:r.d=some m
       . rw[u1 m c,Z2x (L':=λi=>decide (i<j+1)) (λi hi hw=>?_),Z2y (frT m) (by omega)];have hq:rs[i]? = some rs[i]:=(by simp[hi]);rw[hgd hq]at hw;simp only[W01,W0A]at hw;rw[gset];rcases W0q i n0 with m1|m1
         . rw[if_neg (by omega),hlow i m1];symm;simp;omega
         rcases W0R i j with c2|c2|c2
         . rw[if_neg (by omega),v1 i _ hq (cT m1 hnj hq hr hw.1 (.inr c)) c2];symm;simp;omega
         . subst c2;simp
         . rw[if_neg (by omega),v2 i _ hq (cT' m1 hnj hq hr hw.1 (.inr c)) c2];symm;simp;omega
       . rw[(u2 m c).1,hT m];refine Z2x λi hi hw=>?_
         have hq:rs[i]? = some rs[i]:=(by simp[hi]);rw[hgd hq]at hw;simp only[W01,W0A]at hw;rw[gset,if_neg];rintro rfl;rw[hr]at hq;simp only[W00]at hq;rw[<- hq]at hw;exact c hw.1
     . by_cases c:k∈(rc j).wk
       . rw[u3 k c,Z2x (L':=λi=>decide (i<j+1)) (λi hi hw=>?_),Z2y (frK k) (by omega)];have hq:rs[i]? = some rs[i]:=(by simp[hi]);simp only[W01,W0w]at hw;rw[gset];rcases W0q i n0 with m1|m1
         . rw[if_neg (by omega),hlow i m1];symm;simp;omega
         rcases W0R i j with c2|c2|c2
         . rw[if_neg (by omega),v1 i _ hq (cK hw.1 (.inr c)).1 c2];symm;simp;omega
         . subst c2;simp
         . rw[if_neg (by omega),v2 i _ hq (cK hw.1 (.inr c)).2 c2];symm;simp;omega
       . rw[(u4 k c).1,hK k];refine Z2x λi hi hw=>?_
         have hq:rs[i]? = some rs[i]:=(by simp[hi]);simp only[W01,W0w]at hw;rw[gset,if_neg];rintro rfl;rw[hr]at hq;simp only[W00]at hq;exact c hw.1
def Z2C {T:ROper->St->Rec->St->Prop} (hT:StepK P R T) {rd:Option Nat} {mm:Nat} {ops:Array Oper} {Q:Exit->Act->World->Prop} {rc:Nat->Rec} (hS:∀ (i:Nat) (r:ROper),rs[i]? = some r->T r (S i) (rc i) (S (i+1))) (hl:rs.length<=ops.size)
  (hok:∀ (i:Nat) (r:ROper),rs[i]? = some r->∃ o,ops[i]? = some o/\Z1z P R.N ops o r=true/\(o.after.toList.filter (Region.binds .any ·)).map (·.on)=r.aft)
  (hi:Z2t ((List.range rs.length).map λi=>rc i)=true) (hF:∀ (j:Nat) (o:Oper) (listed:Array Bool),rs.length<=j->ops[j]? = some o->listed.size=ops.size->(∀ (j:Nat) (r:ROper),rs[j]? = some r->listed.getD j false=true->∀ e∈r.aft,listed.getD e false=true)->(∀ i,rs.length<=i->listed.getD i false=false)->(∀ e∈o.after,Region.binds .any e=true->listed.getD e.on false=true)->∀ i,i<rs.length->listed.getD i false=true)
  (hQ:∀ (fuel:Nat) (listed:Array Bool) a w,listed.size=ops.size->(∀ i,i<rs.length->listed.getD i false=true)->(∀ i,rs.length<=i->listed.getD i false=false)->(∀ (j:Nat) (r:ROper),rs[j]? = some r->listed.getD j false=true->∀ e∈r.aft,listed.getD e false=true)->ops.size-rs.length<=fuel->SR R (S rs.length) a w->wpAnyIn (FW rd) mm P .any ops Q fuel listed a w)
  {a:Act} {w:World} (hs:SR R (S 0) a w):wpAnyIn (FW rd) mm P .any ops Q ops.size (Array.replicate ops.size false) a w.drew:=by
 refine Z2B hT 0 (λi r hr=>(hT.recs (hS i r hr)).2.2) (λi r _ hr=>hS i r hr) (λi hi=>absurd hi (Nat.not_lt_zero _)) hl hok hi hF hQ ops.size _ (S 0) a _ (by simp) (λi hi=>absurd hi (Nat.not_lt_zero _)) (λi hi=>?_) (λj r _ hL=>?_) ?_ (λm=>?_) (λk=>?_) ?_
 . simp[Array.getD]
 . simp[Array.getD]at hL
 . have:=W0D (λi=>!(Array.replicate ops.size false).getD i false) (List.range rs.length);simp only[List.length_range]at this;omega
 . exact (Z2z (v:=λi=>(S i).tmp m) (L:=λi=>(Array.replicate ops.size false).getD i false) (λi=>by simp[Array.getD]) _).symm
 . exact (Z2z (v:=λi=>(S i).get k) (L:=λi=>(Array.replicate ops.size false).getD i false) (λi=>by simp[Array.getD]) _).symm
 . obtain ⟨κ,hκ⟩:=hs;exact ⟨κ,hκ.grow (Ext.dr (Ext.refl w))⟩
def Z2D {ops:Array Oper} {listed:Array Bool} (hsz:listed.size=ops.size) (h:∀ i,i<ops.size->listed.getD i false=true):Region.ready .any ops listed=[]:=by
 apply List.eq_nil_iff_forall_not_mem.2
 intro j hj;obtain ⟨g1,oj,g2,-⟩:=mem_ready.1 hj;have hjl:=(W0c.1 g2).1;have:=h j hjl;simp only[W0a]at g1 this;rw[W0n (by omega)]at g1 this;simp at g1 this;rw[g1]at this;cases this
def Z2E {rd:Option Nat} {mm fuel:Nat} {ops:Array Oper} {Q:Exit->Act->World->Prop} {listed:Array Bool} {a:Act} {w:World} (hsz:listed.size=ops.size) (h:∀ i,i<ops.size->listed.getD i false=true) (hq:Q .normal a w):wpAnyIn (FW rd) mm P .any ops Q fuel listed a w:=by
 have hnil:=Z2D hsz h
 cases fuel with
 |zero=>exact ⟨hnil,hq⟩
 |succ fuel=>exact ⟨λ_=>hq,λj hj=>by rw[hnil]at hj;cases hj⟩
end
def Z2F {P:Program} {N:Nat} {ops:Array Oper} {rs:List ROper} (hc:allB2 (Z1z P N ops) ops.toList rs=true) (hae:allB2 (λ(o:Oper) (r:ROper)=>decide ((o.after.toList.filter (Region.binds .any ·)).map (·.on)=r.aft)) ops.toList rs=true) :
  ops.size=rs.length/\∀ (i:Nat) (r:ROper),rs[i]? = some r->∃ o,ops[i]? = some o/\Z1z P N ops o r=true/\(o.after.toList.filter (Region.binds .any ·)).map (·.on)=r.aft:=by
 obtain ⟨h1,h2⟩:=Zc hc;obtain ⟨-,h3⟩:=Zc hae;have hl:ops.size=rs.length:=(by simpa using h1);refine ⟨hl,λi r hr=>?_⟩;have hlt:i<ops.size:=(by have:=(W02.1 hr).1;omega);exact ⟨ops[i],by simp[hlt],h2 i _ r (by simp[hlt]) hr,by simpa using h3 i ops[i] r (by simp[hlt]) hr⟩
def Z2G {P:Program} {R:Run} {T:ROper->St->Rec->St->Prop} (hT:StepK P R T) {Φ:Exit->St->Prop} {id:Nat} {rs:List ROper} (hm:P.follows .mixedOrders=true) {S:Nat->St} {rc:Nat->Rec} (hS:∀ (i:Nat) (r:ROper),rs[i]? = some r->T r (S i) (rc i) (S (i+1)))
  (hK:Φ .normal (S rs.length)) (hi:Z2t ((List.range rs.length).map λi=>rc i)=true):AR P R (.reg id true rs) (S 0) Φ:=by
 intro c hc mm a W hs
 cases c <;> simp only[Z1A,W05,W01,W0A]at hc
 rename_i id' ops draw;obtain ⟨⟨⟨rfl,rfl⟩,hc⟩,hae⟩:=hc;simp only[W17,Bool.false_or]at hae;obtain ⟨hl,hop⟩:=Z2F hc hae;refine wpIn_region_any hm (Z2C hT hS (by omega) hop hi (λj o listed hj ho=>?_) (λfuel listed a' w' hsz hall _ _ _ hs'=>Z2E hsz (λi h=>hall i (by omega)) ⟨_,hK,hs'⟩) hs);have:=(W0c.1 ho).1;omega
def stepK (P:Program) (R:Run):StepK P R λr st rc st'=>Stp P R.G r st st'/\rc=recOf R.G r st:=by
 refine ⟨?_,?_,?_⟩
 . rintro r st st' rc ⟨-,rfl⟩;exact ⟨rfl,rfl,rfl⟩
 . rintro r st st' st2 rc ⟨h,rfl⟩ ht hk;obtain ⟨st3,h1,h2,h3,h4,h5⟩:=Z2w h ht hk;exact ⟨st3,_,⟨h1,rfl⟩,h2,h3,h4,h5⟩
 . rintro st a W rd m ops r rc st' j o K Q ⟨h,-⟩ ho hk hs hK;exact Z26 h ho hk hs hK
def Z2H {P:Program} {R:Run} {st:St} {Φ:Exit->St->Prop} {id:Nat} {rs:List ROper} (hm:P.follows .mixedOrders=true) (h:RD P R.G rs st [] (Φ .normal)):AR P R (.reg id true rs) st Φ:=by
 obtain ⟨S,rfl,hS,hK,hi⟩:=Z2v rs st [] _ h;exact Z2G (stepK P R) hm (rc:=λi=>recOf R.G (rs.getD i default) (S i)) (λi r hr=>⟨hS i r hr,by simp[List.getD,hr]⟩) hK (by simpa using hi)
inductive KF where
 |sq (b:RCode)
 |bk (id:Nat)
 |sc
section
variable (P:Program) (R:Run)
def RetP:List KF->(Exit->St->Prop)->Exit->St->Prop
 |[],Φ,e,st=>Φ e st
 |.sq b::ks,Φ,.normal,st=>AR P R b st (RetP ks Φ)
 |.sq _::ks,Φ,e,st=>RetP ks Φ e st
 |.bk id::ks,Φ,.exit j,st=>if j=id then RetP ks Φ .normal st else RetP ks Φ (.exit j) st
 |.bk _::ks,Φ,e,st=>RetP ks Φ e st
 |.sc::_,_,.goto _,_=>False
 |.sc::ks,Φ,e,st=>RetP ks Φ e st
inductive Md where
 |run (c:RCode)
 |out (e:Exit)
def GO:Nat->Md->List KF->(Exit->St->Prop)->St->Prop
 |0,.run c,ks,Φ,st=>AR P R c st (RetP P R ks Φ)
 |0,.out e,ks,Φ,st=>RetP P R ks Φ e st
 |n+1,.run .skip,ks,Φ,st=>GO n (.out .normal) ks Φ st
 |n+1,.run .ret,ks,Φ,st=>GO n (.out .ret) ks Φ st
 |n+1,.run (.exit id),ks,Φ,st=>GO n (.out (.exit id)) ks Φ st
 |n+1,.run (.seq a b),ks,Φ,st=>GO n (.run a) (.sq b::ks) Φ st
 | n+1,.run (.cond c a b),ks,Φ,st=>match evA R.G st c with
   |.bool t=>(t=true->GO n (.run a) ks Φ st)/\(t=false->GO n (.run b) ks Φ st)
   |.abool=>GO n (.run a) ks Φ st/\GO n (.run b) ks Φ st
   |_=>False
 |n+1,.run (.block id a),ks,Φ,st=>GO n (.run a) (.bk id::ks) Φ st
 |n+1,.run (.reg _ false ops),ks,Φ,st=>RW P R.G ops st (λe st=>GO n (.out e) ks Φ st)
 |n+1,.run (.reg _ true ops),ks,Φ,st=>RD P R.G ops st [] (GO n (.out .normal) ks Φ)
 |_+1,.run (.loop c),ks,Φ,st=>AR P R (.loop c) st (RetP P R ks Φ)
 |_+1,.run (.raw p),ks,Φ,st=>AR P R (.raw p) st (RetP P R ks Φ)
 |_+1,.run (.rngf g ps c b),ks,Φ,st=>AR P R (.rngf g ps c b) st (RetP P R ks Φ)
 |n+1,.run (.scope a),ks,Φ,st=>GO n (.run a) (.sc::ks) Φ st
 |n+1,.run (.label _),ks,Φ,st=>GO n (.out .normal) ks Φ st
 |n+1,.out .normal,.sc::ks,Φ,st=>GO n (.out .normal) ks Φ st
 |n+1,.out .ret,.sc::ks,Φ,st=>GO n (.out .ret) ks Φ st
 |n+1,.out (.exit j),.sc::ks,Φ,st=>GO n (.out (.exit j)) ks Φ st
 |n+1,.out (.panic ch),.sc::ks,Φ,st=>GO n (.out (.panic ch)) ks Φ st
 |_+1,.out e,[],Φ,st=>Φ e st
 |n+1,.out .normal,.sq b::ks,Φ,st=>GO n (.run b) ks Φ st
 |n+1,.out .ret,.sq _::ks,Φ,st=>GO n (.out .ret) ks Φ st
 |n+1,.out (.panic ch),.sq _::ks,Φ,st=>GO n (.out (.panic ch)) ks Φ st
 |n+1,.out (.panic ch),.bk _::ks,Φ,st=>GO n (.out (.panic ch)) ks Φ st
 |n+1,.out (.exit j),.sq _::ks,Φ,st=>GO n (.out (.exit j)) ks Φ st
 |n+1,.out .normal,.bk _::ks,Φ,st=>GO n (.out .normal) ks Φ st
 |n+1,.out .ret,.bk _::ks,Φ,st=>GO n (.out .ret) ks Φ st
 |n+1,.out (.exit j),.bk id::ks,Φ,st=>if j=id then GO n (.out .normal) ks Φ st else GO n (.out (.exit j)) ks Φ st
 |_+1,.out _,_::_,_,_=>False
end
section
variable {P:Program} {R:Run}
def Z2I {rc:RCode} {st:St} {Φ Ψ:Exit->St->Prop} (h:AR P R rc st Φ) (hm:∀ e s,Φ e s->Ψ e s):AR P R rc st Ψ:=λc hc m a W hs =>
 wpIn_mono (h c hc m a W hs) λ_ _ _ ⟨s,h1,h2⟩=>⟨s,hm _ _ h1,h2⟩
def Z2J {G:Jg} {st:St} {f:FuncId} {args:List AV} {n n':AV->St->Prop} {p p':List PanicEntry->Prop} (h:CallW P G st f args n p) (hn:∀ v s,n v s->n' v s) (hp:∀ c,p c->p' c):CallW P G st f args n' p':=by
 rcases h with ⟨v,h1,h2⟩ | ⟨v,s,h1,h2⟩ | ⟨c,h1,h2⟩
 . exact .inl ⟨v,h1,hn _ _ h2⟩
 . exact .inr (.inl ⟨v,s,h1,hn _ _ h2⟩)
 . exact .inr (.inr ⟨c,h1,hp _ h2⟩)
def Z2K {G:Jg} {K K':Exit->St->Prop} (hm:∀ e s,K e s->K' e s):∀ {rs:List ROper} {st:St},RW P G rs st K->RW P G rs st K'
 |[],st,h=>hm _ st h
 | r :: rs,st,h=>by
   simp only[RW]at h ⊢
   split at h
   . exact h.elim
   . refine ⟨λe=>Z2K hm (h.1 e),λe=>?_⟩;have h:=h.2 e
     split at h
     . exact Z2J h (λv s hs=>Z2K hm hs) (λc hc=>hm _ _ hc)
     . exact h.imp (λ⟨v,h1,h2⟩=>⟨v,h1,Z2K hm h2⟩) (λ⟨sz,rows,h1,h2⟩=>⟨sz,rows,h1,Z2K hm h2⟩)
     . split at h <;> try (exact h.elim)
       exact Z2J h (λv s hs=>Z2K hm hs) (λc hc=>hm _ _ hc)
     . split at h <;> try (exact h.elim)
       exact Z2K hm h
def Z2L {G:Jg} {K K':St->Prop} (hm:∀ s,K s->K' s):∀ {rs:List ROper} {st:St} {acc:List Rec},RD P G rs st acc K->RD P G rs st acc K'
 |[],st,acc,h=>⟨h.1,hm st h.2⟩
 | r :: rs,st,acc,h=>by
   simp only[RD]at h ⊢
   split at h
   . exact h.elim
   . refine ⟨λe=>Z2L hm (h.1 e),λe=>?_⟩;have h:=h.2 e
     split at h
     . obtain ⟨v,h1,h2⟩:=h;exact ⟨v,h1,Z2L hm h2⟩
     . exact h.imp (λ⟨v,h1,h2⟩=>⟨v,h1,Z2L hm h2⟩) (λ⟨sz,rows,h1,h2⟩=>⟨sz,rows,h1,Z2L hm h2⟩)
     . split at h <;> try (exact h.elim)
       obtain ⟨v,h1,h2⟩:=h;exact ⟨v,h1,Z2L hm h2⟩
     . split at h <;> try (exact h.elim)
       exact Z2L hm h
def Z2M {b:RCode} {ks:List KF} {Φ:Exit->St->Prop} {e:Exit} {s:St} (h:RetP P R (.sq b::ks) Φ e s):Thn P R b (RetP P R ks Φ) e s:=by
 cases e <;> exact h
def Z2N {id:Nat} {ks:List KF} {Φ:Exit->St->Prop} {e:Exit} {s:St} (h:RetP P R (.bk id::ks) Φ e s):Blk' id (RetP P R ks Φ) e s:=by
 cases e <;> exact h
def Z2O {ks:List KF} {Φ:Exit->St->Prop} {e:Exit} {s:St} (h:RetP P R (.sc::ks) Φ e s):Scp (RetP P R ks Φ) e s:=by
 cases e <;> exact h
def Z2P (hm:P.follows .mixedOrders=true):∀ (n:Nat) (m:Md) (ks:List KF) (Φ:Exit->St->Prop) (st:St),GO P R n m ks Φ st ->
  match m with
  |.run c=>AR P R c st (RetP P R ks Φ)
  |.out e=>RetP P R ks Φ e st:=by
 intro n
 induction n with
 |zero=>intro m ks Φ st h;cases m <;> exact h
 | succ n ih =>
   intro m ks Φ st h
   cases m with
   | run c =>
     simp only
     cases c with
     |skip=>exact Z1H (ih _ _ _ _ h)
     |ret=>exact Z1I (ih _ _ _ _ h)
     |exit id=>exact Z1L (ih _ _ _ _ h)
     |seq a b=>exact Z1M (Z2I (ih _ _ _ _ h) λ_ _=>Z2M)
     | cond c a b =>
       simp only[GO]at h
       split at h <;> try (exact h.elim)
       . exact Z1N _ ‹_› (λe=>ih _ _ _ _ (h.1 e)) (λe=>ih _ _ _ _ (h.2 e))
       . exact Z1O ‹_› (ih _ _ _ _ h.1) (ih _ _ _ _ h.2)
     |block id a=>exact Z1P (Z2I (ih _ _ _ _ h) λ_ _=>Z2N)
     | reg id draw ops =>
       cases draw
       . exact Z28 (Z2K (λe s hs=>ih _ _ _ _ hs) (show RW P R.G ops st _ from h))
       . exact Z2H hm (Z2L (λs hs=>ih _ _ _ _ hs) (show RD P R.G ops st [] _ from h))
     |loop c=>exact h
     |rngf g ps c b=>exact h
     |raw p=>exact h
     |scope c=>exact Z1K (Z2I (ih _ _ _ _ h) λ_ _=>Z2O)
     |label id=>exact Z1J (ih _ _ _ _ h)
   | out e =>
     simp only
     cases ks with
     |nil=>cases e <;> exact h
     | cons k ks =>
       cases k with
       |sq b=>cases e <;> first|exact ih _ _ _ _ h|exact (h:False).elim
       |sc=>cases e <;> first|exact ih _ _ _ _ h|exact (h:False).elim
       | bk id =>
         cases e <;> try (first|exact ih _ _ _ _ h|exact (h:False).elim)
         simp only[GO]at h;simp only[RetP]
         split at h
         . rename_i e;rw[if_pos e];exact ih _ _ _ _ h
         . rename_i e;rw[if_neg e];exact ih _ _ _ _ h
def Yb (hm:P.follows .mixedOrders=true) (n:Nat) {c:RCode} {Φ:Exit->St->Prop} {st:St} (h:GO P R n (.run c) [] Φ st):AR P R c st Φ:=Z2P hm n _ _ _ _ h
def Z2Q {c:RCode} {st st':St} {Φ:Exit->St->Prop} (hw:Ym st st') (h:AR P R c st' Φ):AR P R c st Φ:=λk hk m a W hs=>h k hk m a W (hw R a W hs)
def Z2R (hm:P.follows .mixedOrders=true) (n:Nat) {e:Exit} {ks:List KF} {Φ:Exit->St->Prop} {st:St} (h:GO P R n (.out e) ks Φ st):RetP P R ks Φ e st:=Z2P hm n _ _ _ _ h
end
section
variable {P:Program} {R:Run} {G:Jg} {d:Option Nat} {op:ROp} {g:Option (Nat×Bool)} {aft:List Nat} {rs:List ROper} {st:St} {K:St->Prop} {Kx:Exit->St->Prop} {acc:List Rec}
def Yd (P:Program) (G:Jg) (st:St) (f:FuncId) (args:List AV) (d:Option Nat) (rs:List ROper) (K:Exit->St->Prop):Prop:=CallW P G st f args (λv st1=>RW P G rs (st1.putd d v) K) (λch=>K (.panic ch) st)
def Ye (P:Program) (G:Jg) (st:St) (f:FuncId) (args:List AV) (d:Option Nat) (rs:List ROper) (acc:List Rec) (K:St->Prop):Prop:=∃ v,CallR P G st f args v/\RD P G rs (st.putd d v) acc K
def Yd.of {f:FuncId} {args:List AV} {v:AV} (h:PC P G f args v) (hp:args.all AV.pure=true) (hk:RW P G rs (st.putd d v) Kx):Yd P G st f args d rs Kx:=.inl ⟨v,.inl ⟨hp,h⟩,hk⟩
def Ye.of {f:FuncId} {args:List AV} {v:AV} (h:PC P G f args v) (hp:args.all AV.pure=true) (hk:RD P G rs (st.putd d v) acc K):Ye P G st f args d rs acc K:=⟨v,.inl ⟨hp,h⟩,hk⟩
def Yd.flat {f:FuncId} {args ys:List AV} {v:AV} (h:PC P G f ys v) (hf:v.flat=true) (hs:Yj (snap st) args=some ys) (hk:RW P G rs (st.putd d v) Kx):Yd P G st f args d rs Kx:=.inl ⟨v,.inr ⟨hf,ys,hs,h⟩,hk⟩
def Yd.pan {f:FuncId} {args ys:List AV} {ch:List PanicEntry} (h:PPC P G f ys ch) (hs:Yj (snap st) args=some ys) (hk:Kx (.panic ch) st):Yd P G st f args d rs Kx:=.inr (.inr ⟨ch,⟨ys,hs,h⟩,hk⟩)
def Yd.sem {f:FuncId} {args:List AV} {v:AV} {st1:St} (h:Z1B P G st f args v st1) (hk:RW P G rs (st1.putd d v) Kx):Yd P G st f args d rs Kx:=.inr (.inl ⟨v,st1,h,hk⟩)
def Ye.flat {f:FuncId} {args ys:List AV} {v:AV} (h:PC P G f ys v) (hf:v.flat=true) (hs:Yj (snap st) args=some ys) (hk:RD P G rs (st.putd d v) acc K):Ye P G st f args d rs acc K:=⟨v,.inr ⟨hf,ys,hs,h⟩,hk⟩
def thenW (P:Program) (G:Jg) (d:Option Nat) (rs:List ROper) (K:Exit->St->Prop):Option (AV×St)->Prop
 |some (x,st')=>RW P G rs (st'.putd d x) K
 |none=>False
def thenD (P:Program) (G:Jg) (d:Option Nat) (rs:List ROper) (acc:List Rec) (K:St->Prop):Option (AV×St)->Prop
 |some (x,st')=>RD P G rs (st'.putd d x) acc K
 |none=>False
def Z2S (P:Program) (G:Jg) (st:St) (f:FuncId) (args:List AV) (d:Option Nat) (rs:List ROper) (K:Exit->St->Prop):Prop :=
 (∃ v,CallR P G st f args v/\RW P G rs (st.putd d v) K)∨∃ sz rows,NewR P G st (d.getD 0) f args sz rows/\RW P G rs ((st.set (d.getD 0) (.row sz rows)).putd d (.osl (d.getD 0) rows.length)) K
def Z2T (P:Program) (G:Jg) (st:St) (f:FuncId) (args:List AV) (d:Option Nat) (rs:List ROper) (acc:List Rec) (K:St->Prop):Prop :=
 (∃ v,CallR P G st f args v/\RD P G rs (st.putd d v) acc K)∨∃ sz rows,NewR P G st (d.getD 0) f args sz rows/\RD P G rs ((st.set (d.getD 0) (.row sz rows)).putd d (.osl (d.getD 0) rows.length)) acc K
def Z2S.of {f:FuncId} {args:List AV} {v:AV} (h:PC P G f args v) (hp:args.all AV.pure=true) (hk:RW P G rs (st.putd d v) Kx):Z2S P G st f args d rs Kx:=.inl ⟨v,.inl ⟨hp,h⟩,hk⟩
def Z2T.of {f:FuncId} {args:List AV} {v:AV} (h:PC P G f args v) (hp:args.all AV.pure=true) (hk:RD P G rs (st.putd d v) acc K):Z2T P G st f args d rs acc K:=.inl ⟨v,.inl ⟨hp,h⟩,hk⟩
def Z2S.new {f:FuncId} {args:List AV} {sz:Nat} {rows:List (List AV)} (h:PN P G f args sz rows) (hp:args.all AV.pure=true) (hg:st.get (d.getD 0)=none) (hk:RW P G rs ((st.set (d.getD 0) (.row sz rows)).putd d (.osl (d.getD 0) rows.length)) Kx):Z2S P G st f args d rs Kx:=.inr ⟨sz,rows,⟨hg,hp,h⟩,hk⟩
def Z2T.new {f:FuncId} {args:List AV} {sz:Nat} {rows:List (List AV)} (h:PN P G f args sz rows) (hp:args.all AV.pure=true) (hg:st.get (d.getD 0)=none) (hk:RD P G rs ((st.set (d.getD 0) (.row sz rows)).putd d (.osl (d.getD 0) rows.length)) acc K):Z2T P G st f args d rs acc K:=.inr ⟨sz,rows,⟨hg,hp,h⟩,hk⟩
def Z2U (P:Program) (G:Jg) (st:St) (f:AV) (args:List AV) (d:Option Nat) (rs:List ROper) (K:Exit->St->Prop):Prop:=match f with
 |.func (.func g) first caps=>Yd P G st g (first++args++caps) d rs K
 |_=>False
def Z2V (P:Program) (G:Jg) (st:St) (f:AV) (args:List AV) (d:Option Nat) (rs:List ROper) (acc:List Rec) (K:St->Prop):Prop:=match f with
 |.func (.func g) first caps=>Ye P G st g (first++args++caps) d rs acc K
 |_=>False
def execW (P:Program) (G:Jg) (op:ROp) (d:Option Nat) (rs:List ROper) (st:St) (K:Exit->St->Prop):Prop:=match op with
 |.call f args=>Yd P G st f (args.map (evA G st)) d rs K
 |.calln f args=>Z2S P G st f (args.map (evA G st)) d rs K
 |.callv f args=>Z2U P G st (evA G st f) (args.map (evA G st)) d rs K
 |op=>thenW P G d rs K (rop G st (d.getD 0) op)
def execD (P:Program) (G:Jg) (op:ROp) (d:Option Nat) (rs:List ROper) (st:St) (acc:List Rec) (K:St->Prop):Prop:=match op with
 |.call f args=>Ye P G st f (args.map (evA G st)) d rs acc K
 |.calln f args=>Z2T P G st f (args.map (evA G st)) d rs acc K
 |.callv f args=>Z2V P G st (evA G st f) (args.map (evA G st)) d rs acc K
 |op=>thenD P G d rs acc K (rop G st (d.getD 0) op)
def Z2W (P:Program) (G:Jg) (w:Option Bool) (op:ROp) (d:Option Nat) (rs:List ROper) (st:St) (K:Exit->St->Prop):Prop:=match w with
 |none=>False
 |some w=>(w=false->RW P G rs (st.putd d .hole) K)/\(w=true->execW P G op d rs st K)
def Z2X (P:Program) (G:Jg) (w:Option Bool) (op:ROp) (d:Option Nat) (rs:List ROper) (st:St) (rc:Rec) (acc:List Rec) (K:St->Prop):Prop:=match w with
 |none=>False
 |some w=>(w=false->RD P G rs (st.putd d .hole) (rc::acc) K)/\(w=true->execD P G op d rs st (rc::acc) K)
def Z2Y:RW P G [] st Kx=Kx .normal st:=rfl
def Z2Z:RW P G (⟨d,op,g,aft⟩::rs) st Kx=Z2W P G (wants st g) op d rs st Kx:=by
 simp only[RW,Z2W];rcases wants st g with _|w
 . rfl
 . congr 1
def Z30:Z2W P G (some true) op d rs st Kx=execW P G op d rs st Kx:=by simp[Z2W]
def Z31:Z2W P G (some false) op d rs st Kx=RW P G rs (st.putd d .hole) Kx:=by simp[Z2W]
def Z32 {f:FuncId} {args:List RA}:execW P G (.call f args) d rs st Kx=Yd P G st f (args.map (evA G st)) d rs Kx:=rfl
def Z33 {f:FuncId} {args:List RA}:execW P G (.calln f args) d rs st Kx=Z2S P G st f (args.map (evA G st)) d rs Kx:=rfl
def Z34 {f:RA} {args:List RA}:execW P G (.callv f args) d rs st Kx=Z2U P G st (evA G st f) (args.map (evA G st)) d rs Kx:=rfl
def Z35 {g0:FuncId} {first caps args:List AV}:Z2U P G st (.func (.func g0) first caps) args d rs Kx=Yd P G st g0 (first++args++caps) d rs Kx:=rfl
def Z36 {x:AV} {st':St}:thenW P G d rs Kx (some (x,st'))=RW P G rs (st'.putd d x) Kx:=rfl
def Z37:RD P G [] st acc K=(Z2t acc.reverse=true/\K st):=rfl
def Z38:RD P G (⟨d,op,g,aft⟩::rs) st acc K=Z2X P G (wants st g) op d rs st (recOf G ⟨d,op,g,aft⟩ st) acc K:=by
 simp only[RD,Z2X];rcases wants st g with _|w
 . rfl
 . congr 1
def Z39 {rc:Rec}:Z2X P G (some true) op d rs st rc acc K=execD P G op d rs st (rc::acc) K:=by simp[Z2X]
def Z3a {rc:Rec}:Z2X P G (some false) op d rs st rc acc K=RD P G rs (st.putd d .hole) (rc::acc) K:=by simp[Z2X]
def Z3b {f:FuncId} {args:List RA}:execD P G (.call f args) d rs st acc K=Ye P G st f (args.map (evA G st)) d rs acc K:=rfl
def Z3c {f:FuncId} {args:List RA}:execD P G (.calln f args) d rs st acc K=Z2T P G st f (args.map (evA G st)) d rs acc K:=rfl
def Z3d {f:RA} {args:List RA}:execD P G (.callv f args) d rs st acc K=Z2V P G st (evA G st f) (args.map (evA G st)) d rs acc K:=rfl
def Z3e {g0:FuncId} {first caps args:List AV}:Z2V P G st (.func (.func g0) first caps) args d rs acc K=Ye P G st g0 (first++args++caps) d rs acc K:=rfl
def Z3f {x:AV} {st':St}:thenD P G d rs acc K (some (x,st'))=RD P G rs (st'.putd d x) acc K:=rfl
def Z3g {x_:RA}:execW P G (.mov x_) d rs st Kx=thenW P G d rs Kx (rop G st (d.getD 0) (.mov x_)):=rfl
def Z3h {x_:RA}:execD P G (.mov x_) d rs st acc K=thenD P G d rs acc K (rop G st (d.getD 0) (.mov x_)):=rfl
def Z3i {c_ a_ b_:RA}:execW P G (.pick c_ a_ b_) d rs st Kx=thenW P G d rs Kx (rop G st (d.getD 0) (.pick c_ a_ b_)):=rfl
def Z3j {c_ a_ b_:RA}:execD P G (.pick c_ a_ b_) d rs st acc K=thenD P G d rs acc K (rop G st (d.getD 0) (.pick c_ a_ b_)):=rfl
def Z3k {x_:RA}:execW P G (.nilck x_) d rs st Kx=thenW P G d rs Kx (rop G st (d.getD 0) (.nilck x_)):=rfl
def Z3l {x_:RA}:execD P G (.nilck x_) d rs st acc K=thenD P G d rs acc K (rop G st (d.getD 0) (.nilck x_)):=rfl
def Z3m {op_:BinOp} {x_ y_:RA}:execW P G (.bin op_ x_ y_) d rs st Kx=thenW P G d rs Kx (rop G st (d.getD 0) (.bin op_ x_ y_)):=rfl
def Z3n {op_:BinOp} {x_ y_:RA}:execD P G (.bin op_ x_ y_) d rs st acc K=thenD P G d rs acc K (rop G st (d.getD 0) (.bin op_ x_ y_)):=rfl
def Z3o {neg_:Bool} {ks_:List CK} {x_ y_:RA}:execW P G (.eqs neg_ ks_ x_ y_) d rs st Kx=thenW P G d rs Kx (rop G st (d.getD 0) (.eqs neg_ ks_ x_ y_)):=rfl
def Z3p {neg_:Bool} {ks_:List CK} {x_ y_:RA}:execD P G (.eqs neg_ ks_ x_ y_) d rs st acc K=thenD P G d rs acc K (rop G st (d.getD 0) (.eqs neg_ ks_ x_ y_)):=rfl
def Z3q {op_:UnOp} {x_:RA}:execW P G (.un op_ x_) d rs st Kx=thenW P G d rs Kx (rop G st (d.getD 0) (.un op_ x_)):=rfl
def Z3r {op_:UnOp} {x_:RA}:execD P G (.un op_ x_) d rs st acc K=thenD P G d rs acc K (rop G st (d.getD 0) (.un op_ x_)):=rfl
def Z3s {k_:IntKind} {x_:RA}:execW P G (.conv k_ x_) d rs st Kx=thenW P G d rs Kx (rop G st (d.getD 0) (.conv k_ x_)):=rfl
def Z3t {k_:IntKind} {x_:RA}:execD P G (.conv k_ x_) d rs st acc K=thenD P G d rs acc K (rop G st (d.getD 0) (.conv k_ x_)):=rfl
def Z3u {i_:Nat} {x_:RA}:execW P G (.ext i_ x_) d rs st Kx=thenW P G d rs Kx (rop G st (d.getD 0) (.ext i_ x_)):=rfl
def Z3v {i_:Nat} {x_:RA}:execD P G (.ext i_ x_) d rs st acc K=thenD P G d rs acc K (rop G st (d.getD 0) (.ext i_ x_)):=rfl
def Z3w {fn_:Fn} {first_ caps_:List RA}:execW P G (.mkf fn_ first_ caps_) d rs st Kx=thenW P G d rs Kx (rop G st (d.getD 0) (.mkf fn_ first_ caps_)):=rfl
def Z3x {fn_:Fn} {first_ caps_:List RA}:execD P G (.mkf fn_ first_ caps_) d rs st acc K=thenD P G d rs acc K (rop G st (d.getD 0) (.mkf fn_ first_ caps_)):=rfl
def Z3y {agg_:Bool} {off_ n_:Nat} {x_:RA}:execW P G (.field agg_ off_ n_ x_) d rs st Kx=thenW P G d rs Kx (rop G st (d.getD 0) (.field agg_ off_ n_ x_)):=rfl
def Z3z {agg_:Bool} {off_ n_:Nat} {x_:RA}:execD P G (.field agg_ off_ n_ x_) d rs st acc K=thenD P G d rs acc K (rop G st (d.getD 0) (.field agg_ off_ n_ x_)):=rfl
def Z3A {v_:VOp} {x_:List RA}:execW P G (.vop v_ x_) d rs st Kx=thenW P G d rs Kx (rop G st (d.getD 0) (.vop v_ x_)):=rfl
def Z3B {v_:VOp} {x_:List RA}:execD P G (.vop v_ x_) d rs st acc K=thenD P G d rs acc K (rop G st (d.getD 0) (.vop v_ x_)):=rfl
def Z3C {off_:Nat} {p_:RA}:execW P G (.faddr off_ p_) d rs st Kx=thenW P G d rs Kx (rop G st (d.getD 0) (.faddr off_ p_)):=rfl
def Z3D {off_:Nat} {p_:RA}:execD P G (.faddr off_ p_) d rs st acc K=thenD P G d rs acc K (rop G st (d.getD 0) (.faddr off_ p_)):=rfl
def Z3E {sz_:Nat} {s_ i_:RA}:execW P G (.iaddr sz_ s_ i_) d rs st Kx=thenW P G d rs Kx (rop G st (d.getD 0) (.iaddr sz_ s_ i_)):=rfl
def Z3F {sz_:Nat} {s_ i_:RA}:execD P G (.iaddr sz_ s_ i_) d rs st acc K=thenD P G d rs acc K (rop G st (d.getD 0) (.iaddr sz_ s_ i_)):=rfl
def Z3G {zero_:List AV} {parts_:List (Nat×Nat×RA)}:execW P G (.build zero_ parts_) d rs st Kx=thenW P G d rs Kx (rop G st (d.getD 0) (.build zero_ parts_)):=rfl
def Z3H {zero_:List AV} {parts_:List (Nat×Nat×RA)}:execD P G (.build zero_ parts_) d rs st acc K=thenD P G d rs acc K (rop G st (d.getD 0) (.build zero_ parts_)):=rfl
def Z3I {x_:RA}:execW P G (.len x_) d rs st Kx=thenW P G d rs Kx (rop G st (d.getD 0) (.len x_)):=rfl
def Z3J {x_:RA}:execD P G (.len x_) d rs st acc K=thenD P G d rs acc K (rop G st (d.getD 0) (.len x_)):=rfl
def Z3K {x_:RA}:execW P G (.slen x_) d rs st Kx=thenW P G d rs Kx (rop G st (d.getD 0) (.slen x_)):=rfl
def Z3L {x_:RA}:execD P G (.slen x_) d rs st acc K=thenD P G d rs acc K (rop G st (d.getD 0) (.slen x_)):=rfl
def Z3M {great_:Bool} {x_:RA} {r_:List RA}:execW P G (.mx great_ x_ r_) d rs st Kx=thenW P G d rs Kx (rop G st (d.getD 0) (.mx great_ x_ r_)):=rfl
def Z3N {great_:Bool} {x_:RA} {r_:List RA}:execD P G (.mx great_ x_ r_) d rs st acc K=thenD P G d rs acc K (rop G st (d.getD 0) (.mx great_ x_ r_)):=rfl
def Z3O {agg_:Bool} {n_:Nat} {p_:RA}:execW P G (.load agg_ n_ p_) d rs st Kx=thenW P G d rs Kx (rop G st (d.getD 0) (.load agg_ n_ p_)):=rfl
def Z3P {agg_:Bool} {n_:Nat} {p_:RA}:execD P G (.load agg_ n_ p_) d rs st acc K=thenD P G d rs acc K (rop G st (d.getD 0) (.load agg_ n_ p_)):=rfl
def Z3Q {n_:Nat} {p_ v_:RA}:execW P G (.store n_ p_ v_) d rs st Kx=thenW P G d rs Kx (rop G st (d.getD 0) (.store n_ p_ v_)):=rfl
def Z3R {n_:Nat} {p_ v_:RA}:execD P G (.store n_ p_ v_) d rs st acc K=thenD P G d rs acc K (rop G st (d.getD 0) (.store n_ p_ v_)):=rfl
def Z3S {cells_:List AV}:execW P G (.alloc cells_) d rs st Kx=thenW P G d rs Kx (rop G st (d.getD 0) (.alloc cells_)):=rfl
def Z3T {cells_:List AV}:execD P G (.alloc cells_) d rs st acc K=thenD P G d rs acc K (rop G st (d.getD 0) (.alloc cells_)):=rfl
def Z3U {x_:RA}:execW P G (.box x_) d rs st Kx=thenW P G d rs Kx (rop G st (d.getD 0) (.box x_)):=rfl
def Z3V {x_:RA}:execD P G (.box x_) d rs st acc K=thenD P G d rs acc K (rop G st (d.getD 0) (.box x_)):=rfl
def Z3W {own_:Bool} {sz_ len_:Nat} {zero_:List AV} {parts_:List (Nat×RA)}:execW P G (.bsl own_ sz_ len_ zero_ parts_) d rs st Kx=thenW P G d rs Kx (rop G st (d.getD 0) (.bsl own_ sz_ len_ zero_ parts_)):=rfl
def Z3X {own_:Bool} {sz_ len_:Nat} {zero_:List AV} {parts_:List (Nat×RA)}:execD P G (.bsl own_ sz_ len_ zero_ parts_) d rs st acc K=thenD P G d rs acc K (rop G st (d.getD 0) (.bsl own_ sz_ len_ zero_ parts_)):=rfl
def Z3Y {sz_:Nat} {x_:RA} {lo_ hi_:Option RA}:execW P G (.slc sz_ x_ lo_ hi_) d rs st Kx=thenW P G d rs Kx (rop G st (d.getD 0) (.slc sz_ x_ lo_ hi_)):=rfl
def Z3Z {sz_:Nat} {x_:RA} {lo_ hi_:Option RA}:execD P G (.slc sz_ x_ lo_ hi_) d rs st acc K=thenD P G d rs acc K (rop G st (d.getD 0) (.slc sz_ x_ lo_ hi_)):=rfl
def Z40 {x_:RA} {lo_ hi_:Option RA}:execW P G (.sslc x_ lo_ hi_) d rs st Kx=thenW P G d rs Kx (rop G st (d.getD 0) (.sslc x_ lo_ hi_)):=rfl
def Z41 {x_:RA} {lo_ hi_:Option RA}:execD P G (.sslc x_ lo_ hi_) d rs st acc K=thenD P G d rs acc K (rop G st (d.getD 0) (.sslc x_ lo_ hi_)):=rfl
def Z42 {sz_ bytes_:Nat} {zero_:List AV} {n_:RA}:execW P G (.mksl sz_ bytes_ zero_ n_) d rs st Kx=thenW P G d rs Kx (rop G st (d.getD 0) (.mksl sz_ bytes_ zero_ n_)):=rfl
def Z43 {sz_ bytes_:Nat} {zero_:List AV} {n_:RA}:execD P G (.mksl sz_ bytes_ zero_ n_) d rs st acc K=thenD P G d rs acc K (rop G st (d.getD 0) (.mksl sz_ bytes_ zero_ n_)):=rfl
def Z44 {sz_ bytes_:Nat} {s_ x_:RA}:execW P G (.app sz_ bytes_ s_ x_) d rs st Kx=thenW P G d rs Kx (rop G st (d.getD 0) (.app sz_ bytes_ s_ x_)):=rfl
def Z45 {sz_ bytes_:Nat} {s_ x_:RA}:execD P G (.app sz_ bytes_ s_ x_) d rs st acc K=thenD P G d rs acc K (rop G st (d.getD 0) (.app sz_ bytes_ s_ x_)):=rfl
def Z46:execW P G .mkmap d rs st Kx=thenW P G d rs Kx (rop G st (d.getD 0) .mkmap):=rfl
def Z47:execD P G .mkmap d rs st acc K=thenD P G d rs acc K (rop G st (d.getD 0) .mkmap):=rfl
def Z48 {kk_:KK} {zero_:AV} {ok_:Bool} {m_ k_:RA}:execW P G (.look kk_ zero_ ok_ m_ k_) d rs st Kx=thenW P G d rs Kx (rop G st (d.getD 0) (.look kk_ zero_ ok_ m_ k_)):=rfl
def Z49 {kk_:KK} {zero_:AV} {ok_:Bool} {m_ k_:RA}:execD P G (.look kk_ zero_ ok_ m_ k_) d rs st acc K=thenD P G d rs acc K (rop G st (d.getD 0) (.look kk_ zero_ ok_ m_ k_)):=rfl
def Z4a {kk_:KK} {m_ k_ v_:RA}:execW P G (.mupd kk_ m_ k_ v_) d rs st Kx=thenW P G d rs Kx (rop G st (d.getD 0) (.mupd kk_ m_ k_ v_)):=rfl
def Z4b {kk_:KK} {m_ k_ v_:RA}:execD P G (.mupd kk_ m_ k_ v_) d rs st acc K=thenD P G d rs acc K (rop G st (d.getD 0) (.mupd kk_ m_ k_ v_)):=rfl
def Z4c {kk_:KK} {m_ k_:RA}:execW P G (.mdel kk_ m_ k_) d rs st Kx=thenW P G d rs Kx (rop G st (d.getD 0) (.mdel kk_ m_ k_)):=rfl
def Z4d {kk_:KK} {m_ k_:RA}:execD P G (.mdel kk_ m_ k_) d rs st acc K=thenD P G d rs acc K (rop G st (d.getD 0) (.mdel kk_ m_ k_)):=rfl
def Z4e {m_:RA}:execW P G (.mlen m_) d rs st Kx=thenW P G d rs Kx (rop G st (d.getD 0) (.mlen m_)):=rfl
def Z4f {sz_:Nat} {zero_:List AV} {x_:RA}:execW P G (.clr sz_ zero_ x_) d rs st Kx=thenW P G d rs Kx (rop G st (d.getD 0) (.clr sz_ zero_ x_)):=rfl
def Z4g {sz_:Nat} {zero_:List AV} {x_:RA}:execD P G (.clr sz_ zero_ x_) d rs st acc K=thenD P G d rs acc K (rop G st (d.getD 0) (.clr sz_ zero_ x_)):=rfl
def Z4h {m_:RA}:execD P G (.mlen m_) d rs st acc K=thenD P G d rs acc K (rop G st (d.getD 0) (.mlen m_)):=rfl
def condK (P:Program) (R:Run) (c:AV) (n:Nat) (a b:RCode) (ks:List KF) (Φ:Exit->St->Prop) (st:St):Prop:=match c with
 |.bool t=>(t=true->GO P R n (.run a) ks Φ st)/\(t=false->GO P R n (.run b) ks Φ st)
 |.abool=>GO P R n (.run a) ks Φ st/\GO P R n (.run b) ks Φ st
 |_=>False
variable {n id:Nat} {ks:List KF} {Φ:Exit->St->Prop} {a b c0:RCode} {c:RA} {ops:List ROper} {e:Exit}
def Z4i:GO P R (n+1) (.run .skip) ks Φ st=GO P R n (.out .normal) ks Φ st:=rfl
def GO_rt:GO P R (n+1) (.run .ret) ks Φ st=GO P R n (.out .ret) ks Φ st:=rfl
def Z4j:GO P R (n+1) (.run (.exit id)) ks Φ st=GO P R n (.out (.exit id)) ks Φ st:=rfl
def Z4k:GO P R (n+1) (.run (.seq a b)) ks Φ st=GO P R n (.run a) (.sq b::ks) Φ st:=rfl
def Z4l:GO P R (n+1) (.run (.block id a)) ks Φ st=GO P R n (.run a) (.bk id::ks) Φ st:=rfl
def Z4m:GO P R (n+1) (.run (.cond c a b)) ks Φ st=condK P R (evA R.G st c) n a b ks Φ st:=by simp only[GO,condK]
def Z4n:condK P R .abool n a b ks Φ st=(GO P R n (.run a) ks Φ st/\GO P R n (.run b) ks Φ st):=rfl
def Z4o:condK P R (.bool true) n a b ks Φ st=GO P R n (.run a) ks Φ st:=by simp[condK]
def Z4p:condK P R (.bool false) n a b ks Φ st=GO P R n (.run b) ks Φ st:=by simp[condK]
def GOx (P:Program) (R:Run) (n:Nat) (ks:List KF) (Φ:Exit->St->Prop):Exit->St->Prop:=λe st=>GO P R n (.out e) ks Φ st
def Z4q:GOx P R n ks Φ e st=GO P R n (.out e) ks Φ st:=rfl
def Z4r:GO P R (n+1) (.run (.reg id false ops)) ks Φ st=RW P R.G ops st (GOx P R n ks Φ):=rfl
def Z4s:GO P R (n+1) (.run (.reg id true ops)) ks Φ st=RD P R.G ops st [] (GO P R n (.out .normal) ks Φ):=rfl
def Z4t:GO P R (n+1) (.run (.loop c0)) ks Φ st=AR P R (.loop c0) st (RetP P R ks Φ):=rfl
def Z4u {p:Nat->Code->Bool}:GO P R (n+1) (.run (.raw p)) ks Φ st=AR P R (.raw p) st (RetP P R ks Φ):=rfl
def Z4v {g:RA} {ps:List Nat}:GO P R (n+1) (.run (.rngf g ps c0 b)) ks Φ st=AR P R (.rngf g ps c0 b) st (RetP P R ks Φ):=rfl
def Z4w:GO P R (n+1) (.out e) [] Φ st=Φ e st:=by cases e <;> rfl
def GO_sq:GO P R (n+1) (.out .normal) (.sq b::ks) Φ st=GO P R n (.run b) ks Φ st:=rfl
def Z4x:GO P R (n+1) (.out .ret) (.sq b::ks) Φ st=GO P R n (.out .ret) ks Φ st:=rfl
def Z4y:GO P R (n+1) (.run (.scope a)) ks Φ st=GO P R n (.run a) (.sc::ks) Φ st:=rfl
def Z4z:GO P R (n+1) (.run (.label id)) ks Φ st=GO P R n (.out .normal) ks Φ st:=rfl
def GO_sc:GO P R (n+1) (.out .normal) (.sc::ks) Φ st=GO P R n (.out .normal) ks Φ st:=rfl
def Z4A:GO P R (n+1) (.out .ret) (.sc::ks) Φ st=GO P R n (.out .ret) ks Φ st:=rfl
def Z4B {j:Nat}:GO P R (n+1) (.out (.exit j)) (.sc::ks) Φ st=GO P R n (.out (.exit j)) ks Φ st:=rfl
def Z4C {ch:List PanicEntry}:GO P R (n+1) (.out (.panic ch)) (.sc::ks) Φ st=GO P R n (.out (.panic ch)) ks Φ st:=rfl
def Z4D {ch:List PanicEntry}:GO P R (n+1) (.out (.panic ch)) (.sq b::ks) Φ st=GO P R n (.out (.panic ch)) ks Φ st:=rfl
def Z4E {ch:List PanicEntry}:GO P R (n+1) (.out (.panic ch)) (.bk id::ks) Φ st=GO P R n (.out (.panic ch)) ks Φ st:=rfl
def Z4F:GO P R (n+1) (.out (.exit id)) (.sq b::ks) Φ st=GO P R n (.out (.exit id)) ks Φ st:=rfl
def GO_bk:GO P R (n+1) (.out .normal) (.bk id::ks) Φ st=GO P R n (.out .normal) ks Φ st:=rfl
def Z4G:GO P R (n+1) (.out .ret) (.bk id::ks) Φ st=GO P R n (.out .ret) ks Φ st:=rfl
def Z4H {j:Nat}:GO P R (n+1) (.out (.exit j)) (.bk id::ks) Φ st=if j=id then GO P R n (.out .normal) ks Φ st else GO P R n (.out (.exit j)) ks Φ st:=rfl
end
attribute [simp] Z2Y Z2Z Z30 Z31 Z32 Z33 Z34 Z35 Z36 Z37 Z38 Z39 Z3a Z3b Z3c Z3d Z3e Z3f
 Z46 Z47 Z48 Z49 Z4a Z4b Z4c Z4d Z4e Z4h Z4f Z4g mapOf
 Z3g Z3h Z3i Z3j Z3k Z3l Z3m Z3n Z3o Z3p Z3q Z3r Z3s Z3t Z3u Z3v Z3w Z3x Z3y Z3z Z3A Z3B Z3C Z3D Z3E Z3F Z3G Z3H Z3I Z3J Z3K Z3L Z3M Z3N Z3O Z3P Z3Q Z3R Z3S Z3T Z3U Z3V Z3W Z3X Z3Y Z3Z Z40 Z41 Z42 Z43 Z44 Z45
 Z4y Z4z GO_sc Z4A Z4B Z4C Z4q Z4D Z4E Z4i GO_rt Z4j Z4k Z4l Z4m Z4o Z4p Z4n Z4r Z4s Z4t Z4v Z4u Z4w GO_sq Z4x Z4F GO_bk Z4G Z4H
 wants rop vopF evA aBin aUn aFill Z5 cut AV.cellsL AV.known AV.one Z4 Z8 eqL eq1 aMx aMxs Z9 aLen bnd St.tmp St.get St.put St.putd St.set lk putO Z2a iniT evRes Z29 Yj snap Yh okAll Z2e tupV Fin AV.pure AV.flat chunk
 recOf ROper.rt ROp.args RA.tm ftk wtk AV.keys
class Qcl (C:Prop) (P:outParam Program) (G:outParam (Nat->Option (List AV))) (f:outParam FuncId) (as:outParam (List AV)) (N:outParam (AV->Prop)):Prop where
 w:∀ v,PC P G f as v->as.all AV.pure=true->N v->C
instance {P:Program} {G:Jg} {st:St} {f:FuncId} {as:List AV} {d:Option Nat} {rs:List ROper} {K:Exit->St->Prop}:Qcl (Yd P G st f as d rs K) P G f as (λv=>RW P G rs (st.putd d v) K):=⟨λ_=>Yd.of⟩
instance {P:Program} {G:Jg} {st:St} {f:FuncId} {as:List AV} {d:Option Nat} {rs:List ROper} {a:List Rec} {K:St->Prop}:Qcl (Ye P G st f as d rs a K) P G f as (λv=>RD P G rs (st.putd d v) a K):=⟨λ_=>Ye.of⟩
def Qco {C:Prop} {P:Program} {G:Jg} {f:FuncId} {as bs:List AV} {v:AV} {N:AV->Prop} [q:Qcl C P G f as N] (h:PC P G f bs v) (n:N v) (hp:as.all AV.pure=true:=by simp) (e:bs=as:=by rfl):C:=q.w v (e ▸ h) hp n
def Z4I {xs:List AV} {x:AV} (hx:x∈xs) {k:Nat} (hk:k∈x.keys):k∈xs.attach.flatMap (λ⟨x,_⟩=>x.keys):=by
 simp only[W0u,W0V,true_and,W1Z];exact ⟨x,hx,hk⟩
def VR.keep {E E':Env} {W:World} (hM:∀ b,¬E.M b->¬E'.M b) {x:AV} {v:Value} (h:VR E W x v):(∀ k∈x.keys,E'.loc k=E.loc k/\E'.row k=E.row k)->VR E' W x v:=by
 induction h with
 |pv h=>exact λ_=>.pv (h.mono (λb _ hb=>⟨hM b hb,rfl⟩) (W0f _))
 |undef v=>exact λ_=>.undef v
 | ptr k off b s h hr =>
   intro hk;obtain ⟨h1,h2⟩:=hk k (by simp[AV.keys]);exact .ptr k off b s (h1.trans h) (h2.trans hr)
 | eptr k n i off sz m p h hn he =>
   intro hk;obtain ⟨h1,h2⟩:=hk k (by simp[AV.keys]);exact .eptr k n i off sz m p (h2.trans h) hn (λe=>by rw[h1];exact he e)
 | osl k n sz m a l c h hn he =>
   intro hk;obtain ⟨h1,h2⟩:=hk k (by simp[AV.keys]);exact .osl k n sz m a l c (h2.trans h) hn (λe=>by rw[h1];exact he e)
 | oss k n lo hi sz m a l c h hn he =>
   intro hk;obtain ⟨h1,h2⟩:=hk k (by simp[AV.keys]);exact .oss k n lo hi sz m a l c (h2.trans h) hn (λe=>by rw[h1];exact he e)
 | func fn xs ys us vs h1 h2 hx hy ihx ihy =>
   intro hk;refine .func fn xs ys us vs h1 h2 (λi x u hi hu=>ihx i x u hi hu λk h=>hk k ?_) (λi x u hi hu=>ihy i x u hi hu λk h=>hk k ?_)
   . simp only[AV.keys,W0h];exact .inl (Z4I (W0d hi) h)
   . simp only[AV.keys,W0h];exact .inr (Z4I (W0d hi) h)
 | agg xs us h1 hx ih =>
   intro hk;refine .agg xs us h1 (λi x u hi hu=>ih i x u hi hu λk h=>hk k ?_);simp only[AV.keys];exact Z4I (W0d hi) h
 | tup xs us h1 hx ih =>
   intro hk;refine .tup xs us h1 (λi x u hi hu=>ih i x u hi hu λk h=>hk k ?_);simp only[AV.keys];exact Z4I (W0d hi) h
 | mp k b h hr =>
   intro hk;obtain ⟨h1,h2⟩:=hk k (by simp[AV.keys]);exact .mp k b (h1.trans h) (h2.trans hr)
 | oof L k n a l c hm h ih =>
   intro hk;refine .oof L k n a l c hm (ih λj hj=>hk j ?_);simp only[AV.keys,W0B]at hj ⊢;exact W0i.2 ⟨_,hm,hj.symm⟩
def Ya (o':List (Nat×AObj)) (x:AV):Bool:=x.keys.all λk=>(lk o' k).isSome
def Yc (o':List (Nat×AObj)):AObj->Bool
 |.box cells=>cells.all (Ya o')
 |.row _ rows=>rows.all λr=>r.all (Ya o')
 |.mp kvs=>kvs.all λp=>Ya o' p.1&&Ya o' p.2
def Z4J {α:Type} {l:List (Nat×α)} {n:Nat} {x:α} (h:lk l n=some x):(n,x)∈l:=by
 induction l with
 |nil=>simp[lk]at h
 | cons p l ih =>
   obtain ⟨m,y⟩:=p;simp only[lk]at h
   split at h
   . rename_i e;simp only[W00]at h;subst h;subst e;exact W0H ..
   . exact W0z _ (ih h)
def Ym.sub {st:St} {t':List (Nat×AV)} {o':List (Nat×AObj)} (ht:∀ p∈t',lk st.t p.1=some p.2/\Ya o' p.2=true) (ho:∀ p∈o',lk st.o p.1=some p.2/\Yc o' p.2=true)
  (hbig:∀ p∈st.o,1000<=p.1->(lk o' p.1).isSome=true:=by simp[lk]):Ym st ⟨t',o'⟩:=by
 rintro R a W ⟨κ,h⟩
 let κ':Nat->Option (Nat×Nat):=λk=>if (lk o' k).isSome then κ k else none
 have hobj:∀ k o,lk o' k=some o->lk st.o k=some o:=λk o hk=>(ho (k,o) (Z4J hk)).1
 have hκ:∀ k p,κ' k=some p->κ k=some p:=λk p hk=>by
  simp only[κ']at hk
  split at hk
  . exact hk
  . cases hk
 have hM:∀ b,¬(st.env R.M κ).M b->¬((⟨t',o'⟩ : St).env R.M κ').M b:=λb hb hb'=>by
  rcases hb' with hb' | ⟨k,s,hk⟩
  . exact hb (.inl hb')
  . exact hb (.inr ⟨k,s,hκ k _ hk⟩)
 have hkp:∀ x,Ya o' x=true->∀ k∈x.keys,((⟨t',o'⟩ : St).env R.M κ').loc k=(st.env R.M κ).loc k/\((⟨t',o'⟩ : St).env R.M κ').row k=(st.env R.M κ).row k:=λx hx k hk=>by
  have h1:(lk o' k).isSome=true:=W03.1 hx k hk;obtain ⟨o,h2⟩:=W0t.1 h1;refine ⟨by simp only[St.env,κ',h1,if_true],?_⟩;simp only[St.env,St.get,h2,hobj k o h2]
 have hv:∀ {x:AV} {v:Value},VR (st.env R.M κ) W x v->Ya o' x=true->VR ((⟨t',o'⟩ : St).env R.M κ') W x v:=λh1 h2=>h1.keep hM (hkp _ h2)
 refine ⟨κ',⟨h.defers,h.size,?_,?_,?_,?_,h.low,h.apart,h.kp,?_,?_,?_⟩⟩
 . intro n x hn;obtain ⟨h1,h2⟩:=ht (n,x) (Z4J hn);exact hv (h.tm n x h1) h2
 . intro k o hk;obtain ⟨h1,h2⟩:=ho (k,o) (Z4J hk);obtain ⟨b,s,h3,h4,h5,h6⟩:=h.obj k o h1;refine ⟨b,s,by simp only[κ'];rw[show lk o' k=some o from hk];exact h3,h4,h5,?_⟩
   cases o with
   | box cells =>
     obtain ⟨g0,cs,t,g1,g2,g3⟩:=h6;refine ⟨g0,cs,t,g1,g2,λj x hj=>?_⟩;obtain ⟨v,g4,g5⟩:=g3 j x hj;exact ⟨v,g4,hv g5 (W03.1 h2 x (W0d hj))⟩
   | row sz rows =>
     obtain ⟨g0,cs,t,g1,g2,g3⟩:=h6;refine ⟨g0,cs,t,g1,g2,λi j r x hi hj=>?_⟩;obtain ⟨v,g4,g5⟩:=g3 i j r x hi hj;exact ⟨v,g4,hv g5 (W03.1 (W03.1 h2 r (W0d hi)) x (W0d hj))⟩
   | mp kvs =>
     obtain ⟨g0,es,t,g1,g2,g3,g4⟩:=h6;refine ⟨g0,es,t,g1,g2,g3,λi x y hi=>?_⟩;obtain ⟨e,g5,g6,g7⟩:=g4 i x y hi;have:=W03.1 h2 (x,y) (W0d hi);simp only[W01]at this;exact ⟨e,g5,hv g6 this.1,hv g7 this.2⟩
 . intro k p hk
   have h1:(lk o' k).isSome=true:=by
    simp only[κ']at hk
    split at hk
    . assumption
    . cases hk
   exact W0t.1 h1
 . intro k k' b s s' h1 h2;exact h.inj k k' b s s' (hκ _ _ h1) (hκ _ _ h2)
 . exact h.gr.mono (λb _ hb=>⟨hM b hb,rfl⟩) (W0f _)
 . have big:∀ k p,κ k=some p->1000<=k->(lk o' k).isSome=true:=λk p hk h1=>by
    obtain ⟨o,ho'⟩:=h.dom k p hk;exact hbig (k,o) (Z4J ho') h1
   have get:∀ k q,(st.env R.M κ).row k=some q->1000<=k->(lk o' k).isSome=true:=λk q hk h1=>by
    simp only[St.env,Option.bind_eq_some_iff]at hk;obtain ⟨o,ho',-⟩:=hk;exact hbig (k,o) (Z4J ho') h1
   have row:∀ k,(lk o' k).isSome=true->((⟨t',o'⟩ : St).env R.M κ').row k=(st.env R.M κ).row k:=λk h1=>by
    obtain ⟨o,h2⟩:=W0t.1 h1;simp only[St.env,St.get,h2,hobj k o h2]
   have ge:∀ k,(∃ p,R.E0.loc k=some p)∨(∃ p,R.E0.row k=some p)->1000<=k:=λk hk=>by
    rcases W0q k 1000 with h1|h1
    . obtain ⟨h2,h3⟩:=h.ent k h1;rcases hk with ⟨p,hk⟩ | ⟨p,hk⟩
      . rw[h2]at hk;cases hk
      . rw[h3]at hk;cases hk
    . exact h1
   refine ⟨h.mono.size,λb hb hb0=>⟨hM b (h.mono.imm b hb hb0).1,(h.mono.imm b hb hb0).2⟩,λk p hk hr=>?_,λk sz m hk=>?_⟩
   . obtain ⟨h1,h2⟩:=h.mono.box k p hk hr;have h3:=big k p h1 (ge k (.inl ⟨p,hk⟩));exact ⟨by simp only[St.env,κ',h3,if_true];exact h1,(row k h3).trans h2⟩
   . obtain ⟨m',h1,h2,h3⟩:=h.mono.row k sz m hk;have h4:=get k _ h1 (ge k (.inr ⟨_,hk⟩));refine ⟨m',(row k h4).trans h1,h2,λe b s cs t hl=>?_⟩;obtain ⟨h5,h6⟩:=h3 e b s cs t hl;exact ⟨by simp only[St.env,κ',h4,if_true];exact h5,h6⟩
 . exact h.ent
def frz (ok:Nat->Bool) (st:St):Nat->AV->Option AV
 | n+1,.func fn xs ys=>match Yj (frz ok st n) xs,Yj (frz ok st n) ys with
   |some a,some b=>some (.func fn a b)
   |_,_=>none
 |n+1,.agg xs=>(Yj (frz ok st n) xs).map .agg
 |n+1,.tup xs=>(Yj (frz ok st n) xs).map .tup
 |n+1,.osl k m=>if ok k=true then Yh ok st (n+1) (.osl k m) else some (.osl k m)
 |n+1,.oss k m lo hi=>if ok k=true then Yh ok st (n+1) (.oss k m lo hi) else some (.oss k m lo hi)
 |n+1,.ptr k off=>if ok k=true then Yh ok st (n+1) (.ptr k off) else some (.ptr k off)
 |n+1,.mp k=>if ok k=true then Yh ok st (n+1) (.mp k) else some (.mp k)
 |_,x=>if x.keys.all (λk=>!ok k)=true then some x else none
def frzA (ok:Nat->Bool) (st:St) (x:AV):AV:=(frz ok st 6 x).getD .undef
def frzO (ok:Nat->Bool) (st:St):AObj->AObj
 |.box cells=>.box (cells.map (frzA ok st))
 |.row sz rows=>.row sz (rows.map λr=>r.map (frzA ok st))
 |.mp kvs=>.mp (kvs.map λp=>(frzA ok st p.1,frzA ok st p.2))
def Yi (ok:Nat->Bool) (st:St):St:=⟨st.t.map λp=>(p.1,frzA ok st p.2),(st.o.filter λp=>!ok p.1).map λp=>(p.1,frzO ok st p.2)⟩
def Z4K {α β:Type} {f:α->β} {l:List (Nat×α)} {n:Nat}:lk (l.map λp=>(p.1,f p.2)) n=(lk l n).map f:=by
 induction l with
 |nil=>rfl
 | cons p l ih =>
   obtain ⟨m,y⟩:=p;simp only[W0F,lk]
   split
   . rfl
   . exact ih
def Z4L {α:Type} {ok:Nat->Bool} {l:List (Nat×α)} {n:Nat}:lk (l.filter λp=>!ok p.1) n=if ok n=true then none else lk l n:=by
 induction l with
 |nil=>simp[lk]
 | cons p l ih =>
   obtain ⟨m,y⟩:=p;rw[List.filter_cons];by_cases h:ok m=true
   . simp only[h,W17,W05,if_false,ih,lk];by_cases e:m=n
     . subst e;simp[h]
     . simp[e]
   . simp only[h,W1z,if_true,lk,ih];by_cases e:m=n
     . subst e;simp[h]
     . simp[e]
def Ym.frz (ok:Nat->Bool) (st:St) (hok:∀ k,1000<=k->ok k=false:=by intro k hk;simp;omega):Ym st (Yi ok st):=by
 rintro R a W ⟨κ,h⟩
 let κ':Nat->Option (Nat×Nat):=λk=>if ok k=true then none else κ k
 have hget:∀ k,(Yi ok st).get k=if ok k=true then none else (st.get k).map (frzO ok st):=λk=>by
  simp only[Yi,St.get,Z4K,Z4L]
  split <;> rfl
 have hκ:∀ k p,κ' k=some p->κ k=some p/\ok k=false:=λk p hk=>by
  simp only[κ']at hk
  split at hk
  . cases hk
  . rename_i e;exact ⟨hk,by simpa using e⟩
 have hdim:∀ o:AObj,(frzO ok st o).dim=o.dim:=λo=>by cases o <;> simp[frzO,AObj.dim]
 have hM':∀ b,((Yi ok st).env R.M κ').M b->(st.env R.M κ).M b:=λb hb=>by
  rcases hb with hb | ⟨k,s,hk⟩
  . exact .inl hb
  . exact .inr ⟨k,s,(hκ k _ hk).1⟩
 have hN:∀ k b s,κ k=some (b,s)->ok k=true->¬((Yi ok st).env R.M κ').M b:=λk b s hk hok hM=>by
  rcases hM with hM | ⟨k2,s2,hk2⟩
  . obtain ⟨o,ho⟩:=h.dom k _ hk;obtain ⟨b',s',h1,h2,h3,-⟩:=h.obj k o ho;rw[hk]at h1;simp only[W00,W06]at h1;obtain ⟨rfl,rfl⟩:=h1;rcases h3 with h3|h3
    . have:=h.low b hM;omega
    . exact h.apart b hM h3
  . obtain ⟨g1,g2⟩:=hκ k2 _ hk2;have:=h.inj k k2 b s s2 hk g1;subst this;rw[hok]at g2;cases g2
 have keep:∀ {x:AV} {v:Value},VR (st.env R.M κ) W x v->(∀ k∈x.keys,ok k=false)->VR ((Yi ok st).env R.M κ') W x v:=λhx hk =>
  hx.keep (λb hb hb'=>hb (hM' b hb')) λk hk'=>by
   have e:=hk k hk';refine ⟨by simp[St.env,κ',e],?_⟩;simp only[St.env,hget,e,W05,if_false]
   cases st.get k with
   |none=>rfl
   |some o=>exact hdim o
 have leaf:∀ {x y:AV} {v:Value},VR (st.env R.M κ) W x v->(if x.keys.all (λk=>!ok k)=true then some x else none)=some y->VR ((Yi ok st).env R.M κ') W y v:=λ{x y v} hx hs=>by
  split at hs <;> simp only[W00,reduceCtorEq]at hs
  rename_i hp;subst hs;exact keep hx λk hk=>by simpa using W03.1 hp k hk
 have fz:∀ (n:Nat) {x y:AV} {v:Value},VR (st.env R.M κ) W x v->Go.Proofs.YthlcppdbldkldaaDoor.frz ok st n x=some y->VR ((Yi ok st).env R.M κ') W y v:=by
  intro n
  induction n with
  |zero=>intro x y v hx hs;cases x <;> exact leaf hx (by simpa only [Go.Proofs.YthlcppdbldkldaaDoor.frz] using hs)
  | succ n ih =>
    intro x y v hx hs
    cases x
    case func fn xs ys =>
     simp only[Go.Proofs.YthlcppdbldkldaaDoor.frz]at hs
     split at hs <;> simp only[W00,reduceCtorEq]at hs
     rename_i a1 b1 e1 e2;subst hs;obtain ⟨us,vs,rfl,h1,h2⟩:=hx.func_inv;obtain ⟨g1,g2⟩:=Z1R e1;obtain ⟨g3,g4⟩:=Z1R e2;refine .func _ a1 b1 us vs (by have:=h1.1;simp at this;omega) (by have:=h2.1;simp at this;omega) (λi x u hi hu=>?_) (λi x u hi hu=>?_)
     . obtain ⟨x',h3,h4⟩:=g2 i x hi;exact ih (h1.2 i x' u h3 (by simpa using hu)) h4
     . obtain ⟨x',h3,h4⟩:=g4 i x hi;exact ih (h2.2 i x' u h3 (by simpa using hu)) h4
    case agg xs =>
     simp only[Go.Proofs.YthlcppdbldkldaaDoor.frz,W04]at hs;obtain ⟨a1,e1,rfl⟩:=hs;obtain ⟨us,rfl,h1⟩:=hx.agg_inv;obtain ⟨g1,g2⟩:=Z1R e1;refine .agg a1 us (by have:=h1.1;simp at this;omega) (λi x u hi hu=>?_);obtain ⟨x',h3,h4⟩:=g2 i x hi;exact ih (h1.2 i x' u h3 (by simpa using hu)) h4
    case tup xs =>
     simp only[Go.Proofs.YthlcppdbldkldaaDoor.frz,W04]at hs;obtain ⟨a1,e1,rfl⟩:=hs;obtain ⟨us,rfl,h1⟩:=hx.tup_inv;obtain ⟨g1,g2⟩:=Z1R e1;refine .tup a1 us (by have:=h1.1;simp at this;omega) (λi x u hi hu=>?_);obtain ⟨x',h3,h4⟩:=g2 i x hi;exact ih (h1.2 i x' u h3 (by simpa using hu)) h4
    case osl k m =>
     simp only[Go.Proofs.YthlcppdbldkldaaDoor.frz]at hs
     split at hs
     . exact .pv (Z1S h hM' hN _ hx hs)
     . rename_i e;simp only[W00]at hs;subst hs;exact keep hx λk' hk'=>by simp only[AV.keys,W0B]at hk';subst hk';simpa using e
    case oss k m lo hi =>
     simp only[Go.Proofs.YthlcppdbldkldaaDoor.frz]at hs
     split at hs
     . exact .pv (Z1S h hM' hN _ hx hs)
     . rename_i e;simp only[W00]at hs;subst hs;exact keep hx λk' hk'=>by simp only[AV.keys,W0B]at hk';subst hk';simpa using e
    case ptr k off =>
     simp only[Go.Proofs.YthlcppdbldkldaaDoor.frz]at hs
     split at hs
     . exact .pv (Z1S h hM' hN _ hx hs)
     . rename_i e;simp only[W00]at hs;subst hs;exact keep hx λk' hk'=>by simp only[AV.keys,W0B]at hk';subst hk';simpa using e
    case mp k =>
     simp only[Go.Proofs.YthlcppdbldkldaaDoor.frz]at hs
     split at hs
     . exact .pv (Z1S h hM' hN _ hx hs)
     . rename_i e;simp only[W00]at hs;subst hs;exact keep hx λk' hk'=>by simp only[AV.keys,W0B]at hk';subst hk';simpa using e
    all_goals exact leaf hx (by simpa only [Go.Proofs.YthlcppdbldkldaaDoor.frz] using hs)
 have fzA:∀ {x:AV} {v:Value},VR (st.env R.M κ) W x v->VR ((Yi ok st).env R.M κ') W (frzA ok st x) v:=λ{x v} hx=>by
  unfold frzA
  cases e:Go.Proofs.YthlcppdbldkldaaDoor.frz ok st 6 x with
  |none=>exact .undef v
  |some y=>exact fz 6 hx e
 refine ⟨κ',⟨h.defers,h.size,?_,?_,?_,?_,h.low,h.apart,h.kp,?_,?_,?_⟩⟩
 . intro n x hn;simp only[Yi,St.tmp,Z4K,W04]at hn;obtain ⟨x0,h1,rfl⟩:=hn;exact fzA (h.tm n x0 h1)
 . intro k o hk;rw[hget]at hk
   split at hk
   . cases hk
   . rename_i e;simp only[W04]at hk;obtain ⟨o0,h1,rfl⟩:=hk;obtain ⟨b,s,h3,h4,h5,h6⟩:=h.obj k o0 h1;refine ⟨b,s,by simp only[κ',e,W05,if_false];exact h3,h4,h5,?_⟩
     cases o0 with
     | box cells =>
       obtain ⟨g0,cs,t,g1,g2,g3⟩:=h6;refine ⟨g0,cs,t,g1,by simpa [frzO] using g2,λj x hj=>?_⟩;simp only[frzO,W09,W04]at hj;obtain ⟨x0,h7,rfl⟩:=hj;obtain ⟨v,g4,g5⟩:=g3 j x0 h7;exact ⟨v,g4,fzA g5⟩
     | row sz rows =>
       obtain ⟨g0,cs,t,g1,g2,g3⟩:=h6;refine ⟨λr hr=>?_,cs,t,g1,by simpa [frzO] using g2,λi j r x hi hj=>?_⟩
       . simp only[frzO,W0i]at hr;obtain ⟨r0,h7,rfl⟩:=hr;simpa using g0 r0 h7
       . simp only[frzO,W09,W04]at hi;obtain ⟨r0,h7,rfl⟩:=hi;simp only[W09,W04]at hj;obtain ⟨x0,h8,rfl⟩:=hj;obtain ⟨v,g4,g5⟩:=g3 i j r0 x0 h7 h8;exact ⟨v,g4,fzA g5⟩
     | mp kvs =>
       obtain ⟨g0,es,t,g1,g2,g3,g4⟩:=h6;refine ⟨g0,es,t,g1,g2,by simpa [frzO] using g3,λi x y hi=>?_⟩;simp only[frzO,W09,W04,W06]at hi;obtain ⟨p,h7,rfl,rfl⟩:=hi;obtain ⟨e,g5,g6,g7⟩:=g4 i p.1 p.2 h7;exact ⟨e,g5,fzA g6,fzA g7⟩
 . intro k p hk;obtain ⟨g1,g2⟩:=hκ k p hk;obtain ⟨o,ho⟩:=h.dom k p g1;exact ⟨_,by rw[hget,g2,ho];rfl⟩
 . intro k k' b s s' h1 h2;exact h.inj k k' b s s' (hκ _ _ h1).1 (hκ _ _ h2).1
 . exact h.gr.mono (λb _ hb=>⟨λhb'=>hb (hM' b hb'),rfl⟩) (W0f _)
 . have ge:∀ k,(∃ p,R.E0.loc k=some p)∨(∃ p,R.E0.row k=some p)->ok k=false:=λk hk=>by
    rcases W0q k 1000 with h1|h1
    . obtain ⟨h2,h3⟩:=h.ent k h1;rcases hk with ⟨p,hk⟩ | ⟨p,hk⟩
      . rw[h2]at hk;cases hk
      . rw[h3]at hk;cases hk
    . exact hok k h1
   have row:∀ k,ok k=false->((Yi ok st).env R.M κ').row k=(st.env R.M κ).row k:=λk e=>by
    simp only[St.env,hget,e,W05,if_false]
    cases st.get k with
    |none=>rfl
    |some o=>exact hdim o
   refine ⟨h.mono.size,λb hb hb0=>⟨λhb'=>(h.mono.imm b hb hb0).1 (hM' b hb'),(h.mono.imm b hb hb0).2⟩,λk p hk hr=>?_,λk sz m hk=>?_⟩
   . obtain ⟨h1,h2⟩:=h.mono.box k p hk hr;have h3:=ge k (.inl ⟨p,hk⟩);exact ⟨by simp only[St.env,κ',h3,W05,if_false];exact h1,(row k h3).trans h2⟩
   . obtain ⟨m',h1,h2,h3⟩:=h.mono.row k sz m hk;have h4:=ge k (.inr ⟨_,hk⟩);refine ⟨m',(row k h4).trans h1,h2,λe b s cs t hl=>?_⟩;obtain ⟨h5,h6⟩:=h3 e b s cs t hl;exact ⟨by simp only[St.env,κ',h4,W05,if_false];exact h5,h6⟩
 . exact h.ent
def Z4M {α:Type} {S:α->St} {I:α->Prop} {μ:α->Nat} {x:α} {Φ:Exit->St->Prop} {st:St}:Rnd S I μ x Φ .ret st=Φ .ret st:=rfl
def Z4N {α:Type} {S:α->St} {I:α->Prop} {μ:α->Nat} {x:α} {Φ:Exit->St->Prop} {st:St} {j:Nat}:Rnd S I μ x Φ (.exit j) st=Φ (.exit j) st:=rfl
attribute [simp] Z4M Z4N
def Ym.tm {st:St} {t':List (Nat×AV)} (h:∀ p∈t',lk st.t p.1=some p.2):Ym st { st with t:=t' } :=
 Ym.tmps λ_ _ hx=>h _ (Z4J hx)
def Ym.of {st:St} {t':List (Nat×AV)} {o':List (Nat×AObj)} (ho:st.o=o') (h:∀ p∈t',lk st.t p.1=some p.2):Ym st ⟨t',o'⟩:=by
 subst ho;exact Ym.tm h
def Wkl {α:Type}:(∀ (Q:α->Prop) (x:α) (l:List α),(∀ p∈x::l,Q p)↔(Q x/\∀ p∈l,Q p))/\(∀ Q:α->Prop,(∀ p∈([]:List α),Q p)↔True)/\(∀ (a:α) (s t:List α),(a::s)++t=a::(s++t))/\∀ s:List α,[]++s=s :=
 ⟨λ_ _ _=>List.forall_mem_cons,λ_=>by simp,λ_ _ _=>rfl,λ_=>rfl⟩
def Wka {st:St} {t':List (Nat×AV)} (h:∀ p∈t',lk st.t p.1=some p.2:=by simp[lk]):Ym st ⟨t',st.o⟩:=Ym.tm h
def Wkb {st:St} {t':List (Nat×AV)} {o':List (Nat×AObj)} (ht:∀ p∈t',lk st.t p.1=some p.2/\Ya o' p.2=true:=by simp[lk,Ya,AV.keys]) (ho:∀ p∈o',lk st.o p.1=some p.2/\Yc o' p.2=true:=by simp[lk,Yc,Ya,AV.keys])
 (hb:∀ p∈st.o,1000<=p.1->(lk o' p.1).isSome=true:=by simp[lk]):Ym st ⟨t',o'⟩:=Ym.sub ht ho hb
def Wkc {st:St} {t':List (Nat×AV)} {o':List (Nat×AObj)} (ho:∀ p∈o',lk st.o p.1=some p.2/\Yc o' p.2=true) (ht:∀ p∈t',lk st.t p.1=some p.2/\Ya o' p.2=true:=by simp[lk,Ya,AV.keys])
 (hb:∀ p∈st.o,1000<=p.1->(lk o' p.1).isSome=true:=by simp[lk]):Ym st ⟨t',o'⟩:=Ym.sub ht ho hb
end Go.Proofs.YthlcppdbldkldaaDoor
