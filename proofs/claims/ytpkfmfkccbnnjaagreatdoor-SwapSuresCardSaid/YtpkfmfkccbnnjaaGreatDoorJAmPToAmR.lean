/-
  The abstract machine: functions that return what they own. By a single list in new memory (PN), and by any objects (PB with more objects at its end).
-/
import Derived.Test.YtpkfmfkccbnnjaaGreatDoorJAmHToAmO
import Derived.RowKit
set_option linter.all false
set_option linter.unusedSimpArgs false
set_option linter.unusedVariables false
set_option linter.unusedSectionVars false
namespace Go.Proofs.YtpkfmfkccbnnjaaGreatDoor
open Go.RowKit
def FinO (ok:Nat→Bool) (rs:List RRes) (r:AV) (objs':List (Nat×AObj)):Exit→St→Prop
 |.normal,st | .ret,st=>∃ xs,Z29 st rs=some xs∧r=tupV (xs.map (frzA ok ⟨iniT 0 xs,st.o⟩))∧(frzSt ok ⟨iniT 0 xs,st.o⟩).o=objs'
 |_,_=>False
section
variable {P:Program}
theorem Z5e (ok:Nat→Bool) (hok:∀ k,ok k=true→k<1000) {G:Nat→Option (List AV)} {f:FuncId} {fn:Func} {c:Code} {rc:RCode} {rs:List RRes} {objs objs':List (Nat×AObj)} {args:List AV} {r:AV} (hf:P.funcs[f]? = some fn) (hb:fn.body=some c) (he:entB P f=true)
  (hc:Z1A P fn.ntmps c rc=true) (hrs:allB2 (okRes P) fn.results.toList rs=true) (hn:args.length≤fn.ntmps)
  (h:∀ R:Run,R.N=fn.ntmps→R.G=G→R.Top→AR P R rc ⟨iniT 0 args,objs⟩ (FinO ok rs r objs')):PB P G f objs args r objs':=by
 refine ⟨he,fun R0 W κ vs hG hN hW hX hE hk hsz hvs=>?_⟩
 refine callsIn_wide.1 (callsIn_of_wp_marks (F:=FW none) (n:=1) hf hb trivial ?_)
 let R:Run:={ R0 with N:=fn.ntmps,rd:=none,nm:=false }
 have hD0:R0.D=[]:=by
  obtain ⟨cs,e,-⟩:=hk.defers
  exact (List.append_eq_nil_iff.1 e.symm).2
 have h0:SK R ⟨iniT 0 args,objs⟩ { tmps:=vs++Array.replicate (fn.ntmps-vs.size) Go.undef,defers:=[] } W κ:=by
  refine ⟨hk.defers.weak,by show (vs++_).size=fn.ntmps;simp;omega,fun n x hx=>?_,hk.obj,hk.dom,hk.inj,hk.low,hk.apart,hk.kp,hk.gr,hk.mono,hk.ent⟩
  simp only [St.tmp,Z2b,Nat.zero_le,if_true,Nat.sub_zero]at hx
  show VR _ W x ((vs++Array.replicate (fn.ntmps-vs.size) Go.undef).getD n Go.undef)
  rw [Array.getD_eq_getD_getElem?,Array.getElem?_append]
  have c1:n<args.length:=(List.getElem?_eq_some_iff.1 hx).1
  rw [if_pos (by omega)]
  have:vs[n]? = some vs[n]:=by simp
  rw [this]
  exact hvs n x _ hx this
 refine wpIn_mono (h R rfl hG ⟨rfl,rfl⟩ c hc 1 _ W ⟨_,h0⟩) ?_
 have key:∀ (a':Act) (W':World) (st':St),(∃ xs,Z29 st' rs=some xs∧r=tupV (xs.map (frzA ok ⟨iniT 0 xs,st'.o⟩))∧(frzSt ok ⟨iniT 0 xs,st'.o⟩).o=objs')→SR R st' a' W' →
   ∃ u,(results fn a'.tmps).run P W' = .ok u W'∧∃ v κ',Ending.returned u = .returned v∧SK R0 (obSt objs') noAct W' κ'∧VR ((obSt objs').env R0.M κ') W' r v:=by
  rintro a' W' st' ⟨xs0,h1,rfl,h3⟩ ⟨κ0,hk0⟩
  obtain ⟨us,h4,h50⟩:=Z2d (P:=P) hk0 hrs h1
  have hl0:us.length=xs0.length:=by have:=h50.1;omega
  have h20:SK { R with N:=us.length } ⟨iniT 0 xs0,st'.o⟩ { tmps:=us.toArray,defers:=a'.defers } W' κ0:=by
   refine ⟨hk0.defers,by simp,fun n x hx=>?_,hk0.obj,hk0.dom,hk0.inj,hk0.low,hk0.apart,hk0.kp,hk0.gr,hk0.mono,hk0.ent⟩
   simp only [St.tmp,Z2b,Nat.zero_le,if_true,Nat.sub_zero]at hx
   have hlt:n<us.length:=by have:=(List.getElem?_eq_some_iff.1 hx).1;omega
   have:us.toArray.getD n Go.undef=us[n]:=by simp [Array.getD,hlt]
   rw [this]
   exact h50.2 n x _ hx (List.getElem?_eq_getElem hlt)
  obtain ⟨κ',hk'⟩:=Weak.frz ok ⟨iniT 0 xs0,st'.o⟩ (fun k hk=>by exact Bool.eq_false_iff.2 fun e=>by have:=hok k e;omega) _ _ W' ⟨κ0,h20⟩
  obtain ⟨xs,hxs⟩ : ∃ xs,xs=xs0.map (frzA ok ⟨iniT 0 xs0,st'.o⟩):=⟨_,rfl⟩
  rw [← hxs]
  have h5:CR ((frzSt ok ⟨iniT 0 xs0,st'.o⟩).env R.M κ') W' xs us:=by
   refine ⟨by rw [hxs];simp;omega,fun i x u hx hu=>?_⟩
   have hlt:i<us.length:=(List.getElem?_eq_some_iff.1 hu).1
   have:=hk'.tm i x (by
    simp only [frzSt,St.tmp,Z4G,Z2b,Nat.zero_le,if_true,Nat.sub_zero]
    rw [hxs,List.getElem?_map]at hx
    exact hx)
   have e:us.toArray.getD i Go.undef=u:=by
    rw [List.getElem?_eq_getElem hlt]at hu
    simp only [Option.some.injEq]at hu
    simp [Array.getD,hlt,hu]
   have this:VR ((frzSt ok ⟨iniT 0 xs0,st'.o⟩).env R.M κ') W' x (us.toArray.getD i Go.undef):=this
   rwa [e]at this
  have henv:(frzSt ok ⟨iniT 0 xs0,st'.o⟩).env R.M κ'=(obSt objs').env R0.M κ':=by subst h3;rfl
  have hl:us.length=xs.length:=by have:=h5.1;omega
  refine ⟨(if h:us.toArray.size=1 then us.toArray[0] else .tuple us.toArray),?_,_,κ',rfl,?_,?_⟩
  · unfold results
    rw [Sem.run_bind]
    have:(fn.results.mapM fun rv=>(match rv with
     |.tmp t=>pure (a'.tmps.getD t Go.undef)
     |.cell p t=>do loadVar t (← asAddr (a'.tmps.getD p Go.undef)):Sem Value)).run P W' = .ok us.toArray W':=by
     rw [Array.mapM_eq_mapM_toList,Sem.run_map]
     exact congrArg (fun z=>Result.andThen z (fun a w'=>Result.ok a.toArray w')) h4
    erw [this]
    rfl
  · have g:=hk'.sub (t':=[]) (fun n x hx=>by simp [lk]at hx)
    have e:({ frzSt ok ⟨iniT 0 xs0,st'.o⟩ with t:=[] }:St)=obSt objs':=by subst h3;rfl
    rw [e]at g
    exact ⟨by rw [hD0];exact .nil _ _ _ _,by show (#[]:Array Value).size=R0.N;rw [hN];rfl,fun n x hx=>by simp [obSt,St.tmp,lk]at hx,g.obj,g.dom,g.inj,g.low,g.apart,g.kp,g.gr,g.mono,g.ent⟩
  · rw [← henv]
    match xs,us,hl,h5 with
    |[],[],_,_=>exact .tup [] _ rfl (by simp)
    |[y],[u],_,h5=>exact h5.2 0 y u rfl rfl
    | y::y2::ys,u::u2::us,hl,h5 =>
      rw [dif_neg (by simp)]
      exact .tup _ _ (by simpa using hl) (fun i x w hx hw=>h5.2 i x w hx (by simpa using hw))
 rintro e a' W' ⟨st',h1,κ2,h2⟩
 cases e <;> try (exact h1.elim)
 all_goals
  refine h2.leave (by simp) (show R.D=[] from hD0) fun a2 W2 ht hs2=>?_
  have:=key a2 W2 st' h1 ⟨κ2,hs2⟩
  rw [ht]at this
  exact this
end
theorem AV.pure_keys:∀ x:AV,x.pure=true→x.keys=[]
 | .func fn xs ys,h=>by
   simp only [AV.pure,Bool.and_eq_true,List.all_eq_true,List.mem_attach,forall_const,Subtype.forall]at h
   simp only [AV.keys,List.append_eq_nil_iff,List.flatMap_eq_nil_iff,List.mem_attach,forall_const,Subtype.forall]
   exact ⟨fun x hx=>AV.pure_keys x (h.1 x hx),fun x hx=>AV.pure_keys x (h.2 x hx)⟩
 | .agg xs,h | .tup xs,h=>by
   simp only [AV.pure,List.all_eq_true,List.mem_attach,forall_const,Subtype.forall]at h
   simp only [AV.keys,List.flatMap_eq_nil_iff,List.mem_attach,forall_const,Subtype.forall]
   exact fun x hx=>AV.pure_keys x (h x hx)
 |.hole,_ | .int ..,_ | .bool _,_ | .abool,_ | .str _,_ | .nilp,_ | .nils,_ | .nilm,_ | .nilf,_ | .vptr ..,_ | .vsl _,_ | .vmap _,_=>by simp [AV.keys]
 |.undef,h | .ptr ..,h | .eptr ..,h | .osl ..,h | .oss ..,h | .mp _,h=>by simp [AV.pure]at h
theorem ObjR.anyE {E E':Env} {W:World} {b s sz:Nat} {rows:List (List AV)} (hf:∀ r∈rows,∀ x∈r,x.flat=true) (hp:∀ r∈rows,∀ x∈r,x.pure=true) (h:ObjR E W b s (.row sz rows)):ObjR E' W b s (.row sz rows):=by
 obtain ⟨h1,cs,t,h2,h3,h4⟩:=h
 refine ⟨h1,cs,t,h2,h3,fun i j r x hi hj=>(h4 i j r x hi hj).imp fun v hv=>⟨hv.1,?_⟩⟩
 have hr:=List.mem_of_getElem? hi
 have hx:=List.mem_of_getElem? hj
 exact .pv ((hv.2.toPV (hp r hr x hx)).flat (hf r hr x hx))
def FinN (rs:List RRes) (sz:Nat) (rows:List (List AV)):Exit→St→Prop
 |.normal,st | .ret,st=>∃ k,Z29 st rs=some [.osl k rows.length]∧st.get k=some (.row sz rows)
 |_,_=>False
theorem PN_of {P:Program} {G:Nat→Option (List AV)} {f:FuncId} {fn:Func} {c:Code} {rc:RCode} {rs:List RRes} {args:List AV} {sz:Nat} {rows:List (List AV)} (hfl:∀ r∈rows,∀ x∈r,x.flat=true) (hpu:∀ r∈rows,∀ x∈r,x.pure=true)
  (hf:P.funcs[f]? = some fn) (hb:fn.body=some c) (he:entB P f=true)
  (hc:Z1A P fn.ntmps c rc=true) (hrs:allB2 (okRes P) fn.results.toList rs=true) (hn:args.length≤fn.ntmps)
  (h:∀ R:Run,R.N=fn.ntmps→R.G=G→R.Top→AR P R rc (Z2a args) (FinN rs sz rows)):PN P G f args sz rows:=by
 refine ⟨he,fun M W vs hM hG hsz hvs=>?_⟩
 refine callsIn_wide.1 (callsIn_of_wp_marks (F:=FW none) (n:=1) hf hb trivial ?_)
 let R:Run:={ G:=G,M:=M,X:=fun _=>False,W0:=W,N:=fn.ntmps,E0:={ M:=M,loc:=fun _=>none,row:=fun _=>none } }
 have h0:SK R (Z2a args) { tmps:=vs++Array.replicate (fn.ntmps-vs.size) Go.undef,defers:=[] } W (fun _=>none):=by
  have hGM:∀ b,b<W.heap.size→¬M b→¬((Z2a args).env M (fun _=>none)).M b∧W.heap[b]? = W.heap[b]?:=fun b _ h1=>⟨(by rintro (h2 | ⟨k,s,h2⟩) <;> first|exact h1 h2|cases h2),rfl⟩
  refine ⟨.nil _ _ _ _,by show (vs++_).size=fn.ntmps;simp;omega,fun n x hx=>?_,(fun k o ho=>by simp [Z2a,St.get,lk]at ho),(fun k p hk=>by cases hk),(fun k k' b s s' hk=>by cases hk),hM,fun _ _ h=>h,Kp.refl _ _,hG.mono hGM (Nat.le_refl _),⟨Nat.le_refl _,hGM,fun k p hk=>(by cases hk),fun k sz m hk=>(by cases hk)⟩,fun _ _=>⟨rfl,rfl⟩⟩
  simp only [Z2a,St.tmp,Z2b,Nat.zero_le,if_true,Nat.sub_zero]at hx
  show VR _ W x ((vs++Array.replicate (fn.ntmps-vs.size) Go.undef).getD n Go.undef)
  rw [Array.getD_eq_getD_getElem?,Array.getElem?_append]
  have c1:n<args.length:=(List.getElem?_eq_some_iff.1 hx).1
  rw [if_pos (by omega)]
  have:vs[n]? = some vs[n]:=by simp
  rw [this]
  exact .pv ((hvs n x _ hx this).mono hGM (Nat.le_refl _))
 refine wpIn_mono (h R rfl rfl ⟨rfl,rfl⟩ c hc 1 _ W ⟨_,h0⟩) ?_
 have key:∀ (a':Act) (W':World) (st':St),(∃ k,Z29 st' rs=some [.osl k rows.length]∧st'.get k=some (.row sz rows))→SR R st' a' W' →
   ∃ u,(results fn a'.tmps).run P W' = .ok u W'∧∃ b s cs t c,Ending.returned u = .returned (.slice (some ⟨b,s,none⟩) rows.length c)∧Ext W W'∧W.heap.size≤b∧b<W'.heap.size ∧
   rows.length≤c∧c≤maxLen∧W'.heap[b]? = some (.cells cs t (0,0))∧s+c*sz≤cs.size∧∀ E:Env,ObjR E W' b s (.row sz rows):=by
  rintro a' W' st' ⟨k,h1,h2⟩ ⟨κ,hk⟩
  obtain ⟨us,h3,h4⟩:=Z2d (P:=P) hk hrs h1
  have hE:Ext W W':=⟨hk.kp.os,hk.kp.tape,hk.kp.output,hk.kp.size,fun i hi=>hk.kp.block i hi (fun h=>h)⟩
  obtain ⟨u,rfl⟩ : ∃ u,us=[u]:=by
   have:=h4.1
   match us,this with
   |[u],_=>exact ⟨u,rfl⟩
  have hu:=h4.2 0 _ u rfl rfl
  obtain ⟨b,s,g1,g2,g3,g4⟩:=hk.obj k _ h2
  have g3:W.heap.size≤b:=g3.resolve_right (fun h=>h)
  obtain ⟨b',s',c,cs,t,q1,q2,q3,q4,q5,q6⟩ : ∃ b' s' c cs t,u = .slice (some ⟨b',s',none⟩) rows.length c∧κ k=some (b',s')∧rows.length≤c∧c≤maxLen∧W'.heap[b']? = some (.cells cs t (0,0))∧s'+c*sz≤cs.size:=by
   generalize hx:AV.osl k rows.length=x at hu
   cases hu with
   |pv hp=>subst hx;cases hp
   | osl k2 n sz2 m a l c hr hn' he' =>
     cases hx
     have hr:(st'.get k).bind AObj.dim=some (sz2,m):=hr
     rw [h2]at hr
     have hr:some (sz,rows.length)=some (sz2,m):=hr
     simp only [Option.some.injEq,Prod.mk.injEq]at hr
     obtain ⟨rfl,rfl⟩:=hr
     obtain ⟨b',s',cs,t,e1,e2,e3,e4,e5,e6,e7⟩:=he' rfl
     subst e2;subst e3
     exact ⟨b',s',c,cs,t,rfl,e1,e4,e5,e6,e7⟩
   |_=>cases hx
  rw [g1]at q2
  cases q2
  subst q1
  refine ⟨.slice (some ⟨b,s,none⟩) rows.length c,?_,b,s,cs,t,c,rfl,hE,g3,g2,q3,q4,q5,q6,fun E=>g4.anyE hfl hpu⟩
  unfold results
  rw [Sem.run_bind]
  have:(fn.results.mapM fun rv=>(match rv with
   |.tmp t=>pure (a'.tmps.getD t Go.undef)
   |.cell p t=>do loadVar t (← asAddr (a'.tmps.getD p Go.undef)):Sem Value)).run P W' = .ok #[.slice (some ⟨b,s,none⟩) rows.length c] W':=by
   rw [Array.mapM_eq_mapM_toList,Sem.run_map]
   exact congrArg (fun z=>Result.andThen z (fun a w'=>Result.ok a.toArray w')) h3
  erw [this]
  rfl
 rintro e a' W' ⟨st',h1,κ,h2⟩
 cases e <;> try (exact h1.elim)
 all_goals
  refine h2.leave (by simp) rfl fun a2 W2 ht hs2=>?_
  have:=key a2 W2 st' h1 ⟨κ,hs2⟩
  rw [ht]at this
  exact this
section
variable {P:Program} {R:Run} {st:St} {a:Act} {W:World} {κ:Nat→Option (Nat×Nat)}
theorem Z5f (h:SK R st a W κ) {objs objs':List (Nat×AObj)} {ρ:Nat→Nat} (hinj:∀ k k',isK objs' k=true→isK objs' k'=true→ρ k=ρ k'→k=k')
  (ho:∀ k o,lk objs k=some o→st.get (ρ k)=some (o.ren ρ)) (hd:∀ k,isK objs k=true→isK objs' k=true) (hnw:∀ k,isK objs' k=true→isK objs k=false→st.get (ρ k)=none) {κ':Nat→Option (Nat×Nat)} {W':World} (hc:SK (rC objs ρ R st κ W) (obSt objs') noAct W' κ')
  {st1:St} (ht:st1.t=st.t) (hs1:∀ k o,lk objs' k=some o→st1.get (ρ k)=some (o.ren ρ)) (hs2:∀ j,(∀ k,isK objs' k=true→ρ k≠j)→st1.get j=st.get j) :
  ∃ κ1,SK R st1 a W' κ1∧Mono (st.env R.M κ) W (st1.env R.M κ1) W'∧∀ (x:AV) (v:Value),VR ((obSt objs').env (mC objs ρ R st κ) κ') W' x v→VR (st1.env R.M κ1) W' (x.ren ρ) v:=by
 classical
 let κ1:Nat→Option (Nat×Nat):=fun j=>if e:∃ k,isK objs' k=true∧ρ k=j then κ' (Classical.choose e) else κ j
 have hκ1:∀ k,isK objs' k=true→κ1 (ρ k)=κ' k:=fun k hk=>by
  have e:∃ k',isK objs' k'=true∧ρ k'=ρ k:=⟨k,hk,rfl⟩
  simp only [κ1,dif_pos e]
  rw [hinj _ _ (Classical.choose_spec e).1 hk (Classical.choose_spec e).2]
 have hκ2:∀ j,(∀ k,isK objs' k=true→ρ k≠j)→κ1 j=κ j:=fun j hj=>by
  have e:¬ ∃ k,isK objs' k=true∧ρ k=j:=fun ⟨k,h1,h2⟩=>hj k h1 h2
  simp only [κ1,dif_neg e]
 have split:∀ j,(∃ k,isK objs' k=true∧ρ k=j)∨(∀ k,isK objs' k=true→ρ k≠j):=fun j=>by
  by_cases e:∃ k,isK objs' k=true∧ρ k=j
  · exact .inl e
  · exact .inr fun k h1 h2=>e ⟨k,h1,h2⟩
 have kc:∀ k,isK objs k=true→kC objs ρ κ k=κ (ρ k):=fun k hk=>by simp only [kC,hk,if_true]
 have kcK:∀ k p,kC objs ρ κ k=some p→isK objs k=true∧κ (ρ k)=some p:=fun k p hk=>by
  simp only [kC]at hk
  split at hk
  · rename_i e;exact ⟨e,hk⟩
  · cases hk
 have domK:∀ k p,κ' k=some p→isK objs' k=true:=fun k p hk=>by
  exact Option.isSome_iff_exists.2 (hc.dom k p hk)
 have xE:∀ b,(∃ k s,kC objs ρ κ k=some (b,s))→(st.env R.M κ).M b:=fun b ⟨k,s,hk⟩=>.inr ⟨ρ k,s,(kcK k _ hk).2⟩
 have range:∀ b,(∃ k s,kC objs ρ κ k=some (b,s))→R.W0.heap.size≤b∨R.X b:=fun b ⟨k,s,hk⟩=>by
  obtain ⟨-,h2⟩:=kcK k _ hk
  obtain ⟨o,h3⟩:=h.dom _ _ h2
  obtain ⟨b',s',g1,g2,g3,-⟩:=h.obj _ _ h3
  rw [h2]at g1
  simp only [Option.some.injEq,Prod.mk.injEq]at g1
  obtain ⟨rfl,rfl⟩:=g1
  exact g3
 have F1:∀ b,(st1.env R.M κ1).M b→((obSt objs').env (mC objs ρ R st κ) κ').M b:=fun b hb=>by
  rcases hb with hb | ⟨j,s,hj⟩
  · refine .inl ⟨.inl hb,fun hx=>?_⟩
    rcases range b hx with h1|h1
    · have:=h.low b hb;omega
    · exact h.apart b hb h1
  · rcases split j with ⟨k,hk,rfl⟩|hj2
    · rw [hκ1 k hk]at hj;exact .inr ⟨k,s,hj⟩
    · rw [hκ2 j hj2]at hj
      refine .inl ⟨.inr ⟨j,s,hj⟩,fun ⟨k,s2,hk⟩=>?_⟩
      obtain ⟨h1,h2⟩:=kcK k _ hk
      exact hj2 k (hd k h1) (h.inj _ _ b s2 s h2 hj)
 have row1:∀ k,isK objs' k=true→(st1.env R.M κ1).row (ρ k)=((obSt objs').env (mC objs ρ R st κ) κ').row k:=fun k hk=>by
  obtain ⟨o,h1⟩:=Option.isSome_iff_exists.1 hk
  show (st1.get (ρ k)).bind AObj.dim=(lk objs' k).bind AObj.dim
  rw [h1,hs1 k o h1]
  exact AObj.ren_dim o
 have row0:∀ k,isK objs k=true→(st.env R.M κ).row (ρ k)=((obSt objs).env (mC objs ρ R st κ) (kC objs ρ κ)).row k:=fun k hk=>by
  obtain ⟨o,h1⟩:=Option.isSome_iff_exists.1 hk
  show (st.get (ρ k)).bind AObj.dim=(lk objs k).bind AObj.dim
  rw [h1,ho k o h1]
  exact AObj.ren_dim o
 have rowK:∀ k q,((obSt objs').env (mC objs ρ R st κ) κ').row k=some q→isK objs' k=true:=fun k q hk=>by
  have hk:(lk objs' k).bind AObj.dim=some q:=hk
  cases e:lk objs' k with
  |none=>rw [e]at hk;cases hk
  |some o=>simp [isK,e]
 have conv:∀ (x:AV) (v:Value),VR ((obSt objs').env (mC objs ρ R st κ) κ') W' x v→VR (st1.env R.M κ1) W' (x.ren ρ) v:=fun x v hv =>
  VR.toCaller (fun b hb hb'=>hb (F1 b hb')) (fun k p hk=>(hκ1 k (domK k p hk)).trans hk) (fun k q hk=>⟨(row1 k (rowK k q hk)).trans hk,hκ1 k (rowK k q hk)⟩) (fun k p hk hr=>(row1 k (domK k p hk)).trans hr) hv
 have same:∀ b,b<W.heap.size→¬(∃ k s,kC objs ρ κ k=some (b,s))→W'.heap[b]? = W.heap[b]?:=fun b hb hx=>hc.kp.block b hb hx
 have apartK:∀ j b s,(∀ k,isK objs' k=true→ρ k≠j)→κ j=some (b,s)→¬(∃ k s,kC objs ρ κ k=some (b,s)):=fun j b s hj hb ⟨k,s2,hk⟩=>by
  obtain ⟨h1,h2⟩:=kcK k _ hk
  exact hj k (hd k h1) (h.inj _ _ b s2 s h2 hb)
 have m:Mono (st.env R.M κ) W (st1.env R.M κ1) W':=by
  refine ⟨hc.kp.size,fun b hb hM=>⟨fun hM1=>?_,same b hb fun hx=>hM (xE b hx)⟩,fun j p hj hr=>?_,fun j sz m hj=>?_⟩
  · rcases F1 b hM1 with h1 | ⟨k,s,h1⟩
    · exact hM h1.1
    · obtain ⟨o,h2⟩:=hc.dom k _ h1
      obtain ⟨b',s',g1,g2,g3,-⟩:=hc.obj k o h2
      rw [h1]at g1
      simp only [Option.some.injEq,Prod.mk.injEq]at g1
      obtain ⟨rfl,rfl⟩:=g1
      rcases g3 with g3|g3
      · have g3:W.heap.size≤b:=g3;omega
      · exact hM (xE b g3)
  · rcases split j with ⟨k,hk,rfl⟩|hj2
    · have hk0:isK objs k=true:=by
       cases e:isK objs k
       · obtain ⟨o,ho'⟩:=h.dom _ _ hj;rw [hnw k hk e]at ho';cases ho'
       · rfl
      obtain ⟨g1,g2⟩:=hc.mono.box k p ((kc k hk0).trans hj) ((row0 k hk0).symm.trans hr)
      exact ⟨(hκ1 k hk).trans g1,(row1 k hk).trans g2⟩
    · exact ⟨(hκ2 j hj2).trans hj,by show (st1.get j).bind AObj.dim=none;rw [hs2 j hj2];exact hr⟩
  · rcases split j with ⟨k,hk,rfl⟩|hj2
    · have hk0:isK objs k=true:=by
       cases e:isK objs k
       · have hj:(st.get (ρ k)).bind AObj.dim=_:=hj
         rw [hnw k hk e]at hj;cases hj
       · rfl
      obtain ⟨m',g1,g2,g3⟩:=hc.mono.row k sz m ((row0 k hk0).symm.trans hj)
      refine ⟨m',(row1 k hk).trans g1,g2,fun e b s cs t hl=>?_⟩
      obtain ⟨g4,g5⟩:=g3 e b s cs t ((kc k hk0).trans hl)
      exact ⟨(hκ1 k hk).trans g4,g5⟩
    · refine ⟨m,by show (st1.get j).bind AObj.dim=some (sz,m);rw [hs2 j hj2];exact hj,Nat.le_refl _,fun _ b s cs t hl=>⟨(hκ2 j hj2).trans hl,fun hw=>⟨cs,(same b (h.loc_lt hl) (apartK j b s hj2 hl)).trans hw,rfl⟩⟩⟩
 refine ⟨κ1,⟨h.defers.of fun c hc'=>(same c (Array.getElem?_eq_some_iff.1 hc').1 fun ⟨k,s,hk⟩=>h.notdf (kcK k _ hk).2 hc').trans hc',h.size,fun n x hx=>(h.tm n x (by simp only [St.tmp,← ht];exact hx)).mono m,fun j o hj=>?_,fun j p hj=>?_,fun j j' b s s' hj hj'=>?_,h.low,h.apart,?_,h.gr.mono m.imm m.size,h.mono.trans m,h.ent⟩,m,conv⟩
 · rcases split j with ⟨k,hk,rfl⟩|hj2
   · obtain ⟨o0,e0⟩:=Option.isSome_iff_exists.1 hk
     rw [hs1 k o0 e0]at hj
     simp only [Option.some.injEq]at hj
     subst hj
     obtain ⟨b,s,g1,g2,g3,g4⟩:=hc.obj k o0 e0
     refine ⟨b,s,(hκ1 k hk).trans g1,g2,?_,?_⟩
     · rcases g3 with g3|g3
       · exact .inl (Nat.le_trans h.kp.size g3)
       · exact range b g3
     · cases o0 with
       | box cells =>
         obtain ⟨g0,cs,t,g5,g6,g7⟩:=g4
         refine ⟨g0,cs,t,g5,by simpa [AObj.ren] using g6,fun j x hj=>?_⟩
         rw [List.getElem?_map,Option.map_eq_some_iff]at hj
         obtain ⟨x0,g8,rfl⟩:=hj
         obtain ⟨v,g9,g10⟩:=g7 j x0 g8
         exact ⟨v,g9,conv _ _ g10⟩
       | row sz rows =>
         obtain ⟨g0,cs,t,g5,g6,g7⟩:=g4
         refine ⟨fun r hr=>?_,cs,t,g5,by simpa [AObj.ren] using g6,fun i j r x hi hj=>?_⟩
         · obtain ⟨r0,g8,rfl⟩:=List.mem_map.1 hr
           simpa using g0 r0 g8
         · rw [List.getElem?_map,Option.map_eq_some_iff]at hi
           obtain ⟨r0,g8,rfl⟩:=hi
           rw [List.getElem?_map,Option.map_eq_some_iff]at hj
           obtain ⟨x0,g9,rfl⟩:=hj
           obtain ⟨v,g10,g11⟩:=g7 i j r0 x0 g8 g9
           exact ⟨v,g10,conv _ _ g11⟩
       | mp kvs =>
         obtain ⟨g0,es,t,g5,g6,g7,g8⟩:=g4
         refine ⟨g0,es,t,g5,g6,by simpa [AObj.ren] using g7,fun i x y hi=>?_⟩
         rw [List.getElem?_map,Option.map_eq_some_iff]at hi
         obtain ⟨p,g9,g10⟩:=hi
         cases g10
         obtain ⟨e,g11,g12,g13⟩:=g8 i p.1 p.2 g9
         exact ⟨e,g11,conv _ _ g12,conv _ _ g13⟩
   · rw [hs2 j hj2]at hj
     obtain ⟨b,s,g1,g2,g3,g4⟩:=h.obj j o hj
     exact ⟨b,s,(hκ2 j hj2).trans g1,Nat.lt_of_lt_of_le g2 m.size,g3,g4.mono m (same b g2 (apartK j b s hj2 g1))⟩
 · rcases split j with ⟨k,hk,rfl⟩|hj2
   · rw [hκ1 k hk]at hj
     obtain ⟨o,g1⟩:=hc.dom k p hj
     exact ⟨_,hs1 k o g1⟩
   · rw [hκ2 j hj2]at hj
     rw [hs2 j hj2]
     exact h.dom j p hj
 · have cross:∀ k j' s s',isK objs' k=true→(∀ k,isK objs' k=true→ρ k≠j')→κ' k=some (b,s)→κ j'=some (b,s')→False:=fun k j' s s' hk hj2 g1 g2=>by
    obtain ⟨o,g3⟩:=hc.dom k _ g1
    obtain ⟨b',s2,g4,g5,g6,-⟩:=hc.obj k o g3
    rw [g1]at g4
    simp only [Option.some.injEq,Prod.mk.injEq]at g4
    obtain ⟨rfl,rfl⟩:=g4
    rcases g6 with g6|g6
    · have g6:W.heap.size≤b:=g6
      have:=h.loc_lt g2;omega
    · exact apartK j' b s' hj2 g2 g6
   rcases split j with ⟨k,hk,rfl⟩|hj2 <;> rcases split j' with ⟨k',hk',rfl⟩|hj2'
   · rw [hκ1 k hk]at hj
     rw [hκ1 k' hk']at hj'
     rw [hc.inj k k' b s s' hj hj']
   · rw [hκ1 k hk]at hj
     rw [hκ2 j' hj2']at hj'
     exact (cross k j' s s' hk hj2' hj hj').elim
   · rw [hκ2 j hj2]at hj
     rw [hκ1 k' hk']at hj'
     exact (cross k' j s' s hk' hj2 hj' hj).elim
   · rw [hκ2 j hj2]at hj
     rw [hκ2 j' hj2']at hj'
     exact h.inj j j' b s s' hj hj'
 · refine ⟨hc.kp.os.trans h.kp.os,hc.kp.tape.trans h.kp.tape,hc.kp.output.trans h.kp.output,Nat.le_trans h.kp.size hc.kp.size,fun i hi hx=>?_⟩
   refine (same i (Nat.lt_of_lt_of_le hi h.kp.size) fun hx2=>?_).trans (h.kp.block i hi hx)
   rcases range i hx2 with g|g
   · omega
   · exact hx g
theorem Z5g (h:SK R st a W κ) {f:FuncId} {objs objs':List (Nat×AObj)} {ρ:Nat→Nat} {args:List AV} {r:AV} (hp:PB P R.G f objs args r objs')
  (hK:∀ k,isK objs k=true→1000≤k) (hinj:∀ k k',isK objs' k=true→isK objs' k'=true→ρ k=ρ k'→k=k')
  (ho:∀ k o,lk objs k=some o→st.get (ρ k)=some (o.ren ρ)) (hin:∀ k o,lk objs k=some o→inKO objs o) (hargs:∀ x∈args,inK objs x) (hd:∀ k,isK objs k=true→isK objs' k=true) (hnw:∀ k,isK objs' k=true→isK objs k=false→st.get (ρ k)=none)
  {st1:St} (ht:st1.t=st.t) (hs1:∀ k o,lk objs' k=some o→st1.get (ρ k)=some (o.ren ρ)) (hs2:∀ j,(∀ k,isK objs' k=true→ρ k≠j)→st1.get j=st.get j)
  {vs:Array Value} (ha:CR (st.env R.M κ) W (args.map (AV.ren ρ)) vs.toList) :
  entB P f=true∧Calls P f vs W fun e W'=>∃ u κ1,e = .returned u∧SK R st1 a W' κ1∧VR (st1.env R.M κ1) W' (r.ren ρ) u:=by
 obtain ⟨he,hc⟩:=hp
 obtain ⟨h0,conv⟩:=Z4V h hK (fun k k' h1 h2 e=>hinj k k' (hd k h1) (hd k' h2) e) ho hin
 have hsz:vs.size=args.length:=by have:=ha.1;simp at this;omega
 refine ⟨he,(hc (rC objs ρ R st κ W) W (kC objs ρ κ) vs rfl rfl rfl rfl rfl h0 hsz (fun i x u hx hu=>conv x u (hargs x (List.mem_of_getElem? hx)) (ha.2 i (x.ren ρ) u (by rw [List.getElem?_map,hx];rfl) (by simpa using hu)))).mono ?_⟩
 rintro e W' ⟨v,κ',rfl,h1,h2⟩
 obtain ⟨κ1,h3,-,h4⟩:=Z5f h hinj ho hd hnw h1 ht hs1 hs2
 exact ⟨v,κ1,rfl,h3,h4 r v h2⟩
end
section
variable {P:Program} {G:Nat→Option (List AV)} {st:St}
theorem Z1B.objs {f:FuncId} {objs':List (Nat×AObj)} {args:List AV} {r:AV} (h:PB P G f [] args r objs') (ρ:Nat→Nat) (hinj:(objs'.map fun p=>ρ p.1).Nodup) (hnw:∀ p∈objs',st.get (ρ p.1)=none) (hargs:args.all AV.pure=true)
  {r':AV} {st1:St} (hr:r'=r.ren ρ) (hs:st1=setsB ρ objs' st):Z1B P G st f args r' st1:=by
 subst hr;subst hs
 intro R a W κ vs hG hk ha
 subst hG
 have mem:∀ k o,lk objs' k=some o→(k,o)∈objs':=fun k o h=>Z4F h
 have pure:∀ x∈args,x.pure=true:=List.all_eq_true.1 hargs
 have hren:args.map (AV.ren ρ)=args:=by
  conv=>rhs;rw [← List.map_id args]
  exact List.map_congr_left fun x hx=>AV.ren_pure x (pure x hx)
 refine Z5g hk h (fun k hk=>by simp [isK,lk]at hk) (fun k k' h1 h2 e=>?_) (fun k o ho'=>by simp [lk]at ho') (fun k o ho'=>by simp [lk]at ho') (fun x hx k hk'=>by rw [AV.pure_keys x (pure x hx)]at hk';cases hk') (fun k hk=>by simp [isK,lk]at hk) (fun k h1 _=>?_) (Z4Y ρ _ _)
  (fun k o ho'=>Z50 ρ _ _ k o hinj ho') (fun j hj=>Z4Z ρ j _ _ fun p hp=>?_) (by rw [hren];exact ha)
 · have m1:=Z51.1 h1
   have m2:=Z51.1 h2
   have:(objs'.map (·.1)).map ρ=objs'.map (fun p=>ρ p.1):=by simp [List.map_map,Function.comp_def]
   rw [← this]at hinj
   exact Z52 hinj m1 m2 e
 · obtain ⟨o,h1⟩:=Option.isSome_iff_exists.1 h1
   exact hnw (k,o) (mem k o h1)
 · exact hj p.1 (Z51.2 (List.mem_map.2 ⟨p,hp,rfl⟩))
end
section
variable {P:Program} {R:Run} {rs:List ROper} {S:Nat→St}
theorem Z5h {rd:Option Nat} {mm:Nat} {ops:Array Oper} {Q:Exit→Act→World→Prop} (hS:∀ (i:Nat) (r:ROper),rs[i]? = some r→Stp P R.G r (S i) (S (i+1))) (hl:rs.length≤ops.size)
  (hok:∀ (i:Nat) (r:ROper),rs[i]? = some r→∃ o,ops[i]? = some o∧Z1z P R.N ops o r=true∧(o.after.toList.filter (Region.binds .any ·)).map (·.on)=r.aft)
  (hi:Z2t ((List.range rs.length).map fun i=>recOf R.G (rs.getD i default) (S i))=true) (hF:∀ (j:Nat) (o:Oper) (listed:Array Bool),rs.length≤j→ops[j]? = some o→listed.size=ops.size→(∀ (j:Nat) (r:ROper),rs[j]? = some r→listed.getD j false=true→∀ e∈r.aft,listed.getD e false=true)→(∀ i,rs.length≤i→listed.getD i false=false)→(∀ e∈o.after,Region.binds .any e=true→listed.getD e.on false=true)→∀ i,i<rs.length→listed.getD i false=true)
  (hQ:∀ (fuel:Nat) (listed:Array Bool) a w,listed.size=ops.size→(∀ i,i<rs.length→listed.getD i false=true)→(∀ i,rs.length≤i→listed.getD i false=false)→ops.size-rs.length≤fuel→SR R (S rs.length) a w→wpAnyIn (FW rd) mm P .any ops Q fuel listed a w) :
  ∀ (fuel:Nat) (listed:Array Bool) (st2:St) (a:Act) (w:World),listed.size=ops.size→(∀ i,rs.length≤i→listed.getD i false=false) →
    (∀ (j:Nat) (r:ROper),rs[j]? = some r→listed.getD j false=true→∀ e∈r.aft,listed.getD e false=true) →
    ((List.range rs.length).filter (fun i=>!listed.getD i false)).length+(ops.size-rs.length)≤fuel →
    (∀ m,st2.tmp m=TT (fun i=>listed.getD i false) (fun i=>(rs.getD i default).d == some m&&decide (i<rs.length)) (fun i=>(S i).tmp m) rs.length) →
    (∀ k,st2.get k=TT (fun i=>listed.getD i false) (fun i=>(wtk R.G (S i) ((rs.getD i default).d.getD 0) (rs.getD i default).op).contains k&&decide (i<rs.length)) (fun i=>(S i).get k) rs.length) →
    SR R st2 a w→wpAnyIn (FW rd) mm P .any ops Q fuel listed a w:=by
 have hgd:∀ {i:Nat} {r:ROper},rs[i]? = some r→rs.getD i default=r:=fun {i r} h=>by simp [List.getD,h]
 have hrec:∀ {i:Nat} {r:ROper},rs[i]? = some r→((List.range rs.length).map fun i=>recOf R.G (rs.getD i default) (S i))[i]? = some (recOf R.G r (S i)):=fun {i r} h=>by
  have hlt:i<rs.length:=(List.getElem?_eq_some_iff.1 h).1
  rw [List.getElem?_map,List.getElem?_range hlt,Option.map_some,hgd h]
 have hlen:((List.range rs.length).map fun i=>recOf R.G (rs.getD i default) (S i)).length=rs.length:=by simp
 have hind:∀ (j:Nat) (r:ROper),rs[j]? = some r→(∀ e∈r.aft,e<j)∧∀ (i:Nat) (q:ROper),i<j→rs[i]? = some q→conf (recOf R.G q (S i)) (recOf R.G r (S j))=true→reach ((List.range rs.length).map fun i=>recOf R.G (rs.getD i default) (S i)) rs.length j i=true:=by
  intro j r hj
  have hlt:j<rs.length:=(List.getElem?_eq_some_iff.1 hj).1
  have h1:=List.all_eq_true.1 hi j (by simp [hlt])
  rw [hrec hj]at h1
  simp only [Bool.and_eq_true,List.all_eq_true,decide_eq_true_eq]at h1
  refine ⟨h1.1,fun i q hij hq hc=>?_⟩
  have h2:=List.all_eq_true.1 h1.2 i (by simp [hij])
  rw [hrec hq]at h2
  simp only [hc,Bool.not_true,Bool.false_or,hlen]at h2
  exact h2
 have fr:∀ (i:Nat) (r:ROper),rs[i]? = some r→(∀ n,r.d≠some n→(S (i+1)).tmp n=(S i).tmp n)∧(∀ k,k ∉ wtk R.G (S i) (r.d.getD 0) r.op→(S (i+1)).get k=(S i).get k):=fun i r h=>by
  obtain ⟨st3,-,-,h2,-,h4⟩:=Z2w (hS i r h) (fun _ _=>rfl) (fun _ _=>rfl)
  exact ⟨fun n hn=>(h2 n hn).2,fun k hk=>(h4 k hk).2⟩
 intro fuel
 have view:∀ {listed:Array Bool} {st2:St} {j:Nat} {r:ROper},rs[j]? = some r→listed.getD j false=false →
   (∀ (j:Nat) (r:ROper),rs[j]? = some r→listed.getD j false=true→∀ e∈r.aft,listed.getD e false=true)→(∀ e∈r.aft,listed.getD e false=true) →
   (∀ (i:Nat) (q:ROper),rs[i]? = some q→conf (recOf R.G q (S i)) (recOf R.G r (S j))=true→i<j→listed.getD i false=true) ∧
   (∀ (i:Nat) (q:ROper),rs[i]? = some q→conf (recOf R.G r (S j)) (recOf R.G q (S i))=true→j<i→listed.getD i false=false):=by
  intro listed st2 j r hj hun hdc haf
  have hdc':∀ (j:Nat) (r:Rec),((List.range rs.length).map fun i=>recOf R.G (rs.getD i default) (S i))[j]? = some r→listed.getD j false=true→∀ e∈r.aft,listed.getD e false=true:=by
   intro j r hr hL e he
   have hlt:j<rs.length:=by have:=(List.getElem?_eq_some_iff.1 hr).1;simpa using this
   have hq:rs[j]? = some rs[j]:=by simp [hlt]
   rw [hrec hq]at hr
   simp only [Option.some.injEq]at hr
   subst hr
   exact hdc j _ hq hL e he
  refine ⟨fun i q hq hc hij=>?_,fun i q hq hc hji=>?_⟩
  · refine Z2A hdc' _ j i ((hind j r hj).2 i q hij hq hc) (fun r' hr' e he=>?_)
    rw [hrec hj]at hr'
    simp only [Option.some.injEq]at hr'
    subst hr'
    exact haf e he
  · cases hL:listed.getD i false with
    |false=>rfl
    | true =>
      have:=Z2A hdc' _ i j ((hind i q hq).2 j r hji hj hc) (fun r' hr' e he=>hdc' i r' hr' hL e he)
      rw [hun]at this;cases this
 have frT:∀ m i,i<rs.length→((rs.getD i default).d == some m&&decide (i<rs.length))=false→(S (i+1)).tmp m=(S i).tmp m:=fun m i hlt h=>by
  have hq:rs[i]? = some rs[i]:=by simp [hlt]
  refine (fr i _ hq).1 m (fun e=>?_)
  rw [hgd hq]at h
  simp [e,hlt]at h
 have frK:∀ k i,i<rs.length→((wtk R.G (S i) ((rs.getD i default).d.getD 0) (rs.getD i default).op).contains k&&decide (i<rs.length))=false→(S (i+1)).get k=(S i).get k:=fun k i hlt h=>by
  have hq:rs[i]? = some rs[i]:=by simp [hlt]
  refine (fr i _ hq).2 k (fun e=>?_)
  rw [hgd hq]at h
  rw [List.contains_iff_mem.2 e,decide_eq_true hlt]at h
  cases h
 have cT:∀ {i j:Nat} {q r:ROper} {t:Nat},q.d=some t→(t∈r.rt∨r.d=some t)→conf (recOf R.G q (S i)) (recOf R.G r (S j))=true:=fun {i j q r t} h1 h2=>by
  simp only [conf,recOf,h1,Bool.or_eq_true,List.contains_iff_mem,beq_iff_eq]
  exact .inl (.inl (.inl (.inl h2)))
 have cT':∀ {i j:Nat} {q r:ROper} {t:Nat},q.d=some t→(t∈r.rt∨r.d=some t)→conf (recOf R.G r (S j)) (recOf R.G q (S i))=true:=fun {i j q r t} h1 h2=>by
  simp only [conf,recOf,h1,Bool.or_eq_true,List.contains_iff_mem,beq_iff_eq]
  rcases h2 with h2|h2
  · exact .inl (.inl (.inl (.inr h2)))
  · exact .inl (.inl (.inl (.inl (by simp [h2]))))
 have cutI:∀ {xs ys:List Nat} {k:Nat},k∈xs→k∈ys→cuts xs ys=true:=fun {xs ys k} h1 h2=>List.any_eq_true.2 ⟨k,h1,by simpa using h2⟩
 have cK:∀ {i j:Nat} {q r:ROper} {k:Nat},k∈wtk R.G (S i) (q.d.getD 0) q.op→(k∈ftk R.G (S j) (r.d.getD 0) r.op∨k∈wtk R.G (S j) (r.d.getD 0) r.op)→conf (recOf R.G q (S i)) (recOf R.G r (S j))=true∧conf (recOf R.G r (S j)) (recOf R.G q (S i))=true:=fun {i j q r k} h1 h2=>by
  simp only [conf,recOf,Bool.or_eq_true]
  rcases h2 with h2|h2
  · exact ⟨.inl (.inl (.inr (cutI h1 h2))),.inl (.inr (cutI h1 h2))⟩
  · exact ⟨.inr (cutI h1 h2),.inr (cutI h2 h1)⟩
 have done:∀ {fuel:Nat} {listed:Array Bool} {st2:St} {a:Act} {w:World},listed.size=ops.size→(∀ i,i<rs.length→listed.getD i false=true)→(∀ i,rs.length≤i→listed.getD i false=false)→ops.size-rs.length≤fuel →
   (∀ m,st2.tmp m=TT (fun i=>listed.getD i false) (fun i=>(rs.getD i default).d == some m&&decide (i<rs.length)) (fun i=>(S i).tmp m) rs.length) →
   (∀ k,st2.get k=TT (fun i=>listed.getD i false) (fun i=>(wtk R.G (S i) ((rs.getD i default).d.getD 0) (rs.getD i default).op).contains k&&decide (i<rs.length)) (fun i=>(S i).get k) rs.length) →
   SR R st2 a w→wpAnyIn (FW rd) mm P .any ops Q fuel listed a w:=by
  intro fuel listed st2 a w hsz hall hno hfu hT hK hs
  refine hQ fuel listed a w hsz hall hno hfu (SR.congr (fun m=>?_) (fun k=>?_) hs)
  · rw [hT m,Z2x (L':=fun i=>decide (i<rs.length)) (fun i hi _=>by simp [hall i hi,hi]),Z2y (frT m) (Nat.le_refl _)]
  · rw [hK k,Z2x (L':=fun i=>decide (i<rs.length)) (fun i hi _=>by simp [hall i hi,hi]),Z2y (frK k) (Nat.le_refl _)]
 have aftL:∀ {listed:Array Bool} {j:Nat} {o:Oper} {r:ROper},(o.after.toList.filter (Region.binds .any ·)).map (·.on)=r.aft→((∀ e∈o.after,Region.binds .any e=true→listed.getD e.on false=true)↔∀ e∈r.aft,listed.getD e false=true):=by
  intro listed j o r h
  rw [← h]
  constructor
  · intro h1 e he
    obtain ⟨x,hx,rfl⟩:=List.mem_map.1 he
    obtain ⟨h2,h3⟩:=List.mem_filter.1 hx
    exact h1 x (by simpa using h2) h3
  · intro h1 e he hb
    exact h1 _ (List.mem_map.2 ⟨e,List.mem_filter.2 ⟨by simpa using he,hb⟩,rfl⟩)
 have noall:∀ {listed:Array Bool},¬(∀ i,i<rs.length→listed.getD i false=true)→0<((List.range rs.length).filter (fun i=>!listed.getD i false)).length:=fun {listed} h=>by
  rcases Nat.eq_zero_or_pos ((List.range rs.length).filter (fun i=>!listed.getD i false)).length with h0|h0
  · exfalso
    refine h fun i hi=>?_
    cases hL:listed.getD i false with
    |true=>rfl
    | false =>
      have hm:i∈(List.range rs.length).filter (fun i=>!listed.getD i false):=List.mem_filter.2 ⟨by simpa using hi,by rw [hL];rfl⟩
      rw [List.length_eq_zero_iff.1 h0]at hm
      cases hm
  · exact h0
 induction fuel with
 | zero =>
   intro listed st2 a w hsz hno hdc hcnt hT hK hs
   by_cases hall:∀ i,i<rs.length→listed.getD i false=true
   · exact done hsz hall hno (by omega) hT hK hs
   · have:=noall hall;omega
 | succ fuel ih =>
   intro listed st2 a w hsz hno hdc hcnt hT hK hs
   by_cases hall:∀ i,i<rs.length→listed.getD i false=true
   · exact done hsz hall hno (by omega) hT hK hs
   refine ⟨fun hnil=>(hall ?_).elim,fun j hj=>?_⟩
   · intro i hi
     induction i using Nat.strongRecOn with
     | _ i ihi =>
       cases hL:listed.getD i false with
       |true=>rfl
       | false =>
         have hr:rs[i]? = some rs[i]:=by simp [hi]
         obtain ⟨o,ho,-,hae⟩:=hok i _ hr
         have:i∈Region.ready .any ops listed:=mem_ready.2 ⟨by
          simp only [Array.getD_eq_getD_getElem?]at hL ⊢
          rw [Array.getElem?_eq_getElem (by omega)]at hL ⊢
          simpa using hL,o,ho,(aftL (j:=i) hae).2 (fun e he=>ihi e ((hind i _ hr).1 e he) (Nat.lt_trans ((hind i _ hr).1 e he) hi))⟩
         rw [hnil]at this;cases this
   · obtain ⟨h1,oj,h2,h3⟩:=mem_ready.1 hj
     have hjl:j<rs.length:=by
      rcases Nat.lt_or_ge j rs.length with c|c
      · exact c
      · exact (hall (hF j oj listed c h2 hsz hdc hno h3)).elim
     have hr:rs[j]? = some rs[j]:=by simp [hjl]
     generalize rs[j]=r at hr
     obtain ⟨o,ho,hko,hae⟩:=hok j _ hr
     rw [h2]at ho
     simp only [Option.some.injEq]at ho
     subst ho
     have hun:listed.getD j false=false:=by
      simp only [Array.getD_eq_getD_getElem?]at h1 ⊢
      rw [Array.getElem?_eq_getElem (by omega)]at h1 ⊢
      simpa using h1
     have haf:=(aftL (j:=j) hae).1 h3
     obtain ⟨v1,v2⟩:=view (st2:=st2) hr hun hdc haf
     have eqT:∀ t,(t∈r.rt∨r.d=some t)→st2.tmp t=(S j).tmp t:=fun t ht=>by
      rw [hT t,Z2x (L':=fun i=>decide (i<j)) (fun i hi hw=>?_),Z2y (frT t) (by omega)]
      have hq:rs[i]? = some rs[i]:=by simp [hi]
      rw [hgd hq]at hw
      simp only [Bool.and_eq_true,beq_iff_eq]at hw
      rcases Nat.lt_trichotomy i j with c|c|c
      · simp only [v1 i _ hq (cT hw.1 ht) c,c,decide_true]
      · subst c;simp [hun]
      · rw [v2 i _ hq (cT' hw.1 ht) c];symm;simp;omega
     have eqK:∀ k,(k∈ftk R.G (S j) (r.d.getD 0) r.op∨k∈wtk R.G (S j) (r.d.getD 0) r.op)→st2.get k=(S j).get k:=fun k hk=>by
      rw [hK k,Z2x (L':=fun i=>decide (i<j)) (fun i hi hw=>?_),Z2y (frK k) (by omega)]
      have hq:rs[i]? = some rs[i]:=by simp [hi]
      rw [hgd hq]at hw
      simp only [Bool.and_eq_true,List.contains_iff_mem]at hw
      rcases Nat.lt_trichotomy i j with c|c|c
      · simp only [v1 i _ hq (cK hw.1 hk).1 c,c,decide_true]
      · subst c;simp [hun]
      · rw [v2 i _ hq (cK hw.1 hk).2 c];symm;simp;omega
     obtain ⟨st3,hst,u1,u2,u3,u4⟩:=Z2w (hS j r hr) (fun t ht=>eqT t (.inl ht)) (fun k hk=>eqK k (.inl hk))
     have gset:∀ i,(listed.setIfInBounds j true).getD i false=if i=j then true else listed.getD i false:=fun i=>by
      simp only [Array.getD_eq_getD_getElem?,Array.getElem?_setIfInBounds]
      by_cases c:j=i
      · subst c;rw [if_pos rfl,if_pos (by omega),if_pos rfl];rfl
      · rw [if_neg c,if_neg (fun e=>c e.symm)]
     refine Z26 hst h2 hko hs fun a' w' hs'=>ih (listed.setIfInBounds j true) st3 a' w' (by simpa using hsz) (fun i hi=>by rw [gset,if_neg (by omega)];exact hno i hi) (fun i q hq hL e he=>?_) ?_ (fun m=>?_) (fun k=>?_) hs'
     · rw [gset]at hL ⊢
       split
       · rfl
       · split at hL
         · rename_i e2
           subst e2
           rw [hr]at hq
           simp only [Option.some.injEq]at hq
           subst hq
           exact haf e he
         · exact hdc i q hq hL e he
     · have hsub:((List.range rs.length).filter (fun i=>!(listed.setIfInBounds j true).getD i false)).length<((List.range rs.length).filter (fun i=>!listed.getD i false)).length:=by
        rw [← List.countP_eq_length_filter,← List.countP_eq_length_filter]
        have e1:(List.range rs.length).countP (fun i=>!listed.getD i false)=(List.range rs.length).countP (fun i=>!(listed.setIfInBounds j true).getD i false)+(List.range rs.length).countP (fun i=>i == j):=by
         generalize List.range rs.length=l
         induction l with
         |nil=>rfl
         | cons x l ihl =>
           simp only [List.countP_cons,ihl,gset]
           by_cases c:x=j
           · subst c;simp [hun];omega
           · simp [c];omega
        have e2:0<(List.range rs.length).countP (fun i=>i == j):=List.countP_pos_iff.2 ⟨j,by simp [hjl],by simp⟩
        omega
       omega
     · by_cases c:r.d=some m
       · rw [u1 m c,Z2x (L':=fun i=>decide (i<j+1)) (fun i hi hw=>?_),Z2y (frT m) (by omega)]
         have hq:rs[i]? = some rs[i]:=by simp [hi]
         rw [hgd hq]at hw
         simp only [Bool.and_eq_true,beq_iff_eq]at hw
         rw [gset]
         rcases Nat.lt_trichotomy i j with c2|c2|c2
         · rw [if_neg (by omega),v1 i _ hq (cT hw.1 (.inr c)) c2];symm;simp;omega
         · subst c2;simp
         · rw [if_neg (by omega),v2 i _ hq (cT' hw.1 (.inr c)) c2];symm;simp;omega
       · rw [(u2 m c).1,hT m]
         refine Z2x fun i hi hw=>?_
         have hq:rs[i]? = some rs[i]:=by simp [hi]
         rw [hgd hq]at hw
         simp only [Bool.and_eq_true,beq_iff_eq]at hw
         rw [gset,if_neg]
         rintro rfl
         rw [hr]at hq
         simp only [Option.some.injEq]at hq
         rw [← hq]at hw
         exact c hw.1
     · by_cases c:k∈wtk R.G (S j) (r.d.getD 0) r.op
       · rw [u3 k c,Z2x (L':=fun i=>decide (i<j+1)) (fun i hi hw=>?_),Z2y (frK k) (by omega)]
         have hq:rs[i]? = some rs[i]:=by simp [hi]
         rw [hgd hq]at hw
         simp only [Bool.and_eq_true,List.contains_iff_mem]at hw
         rw [gset]
         rcases Nat.lt_trichotomy i j with c2|c2|c2
         · rw [if_neg (by omega),v1 i _ hq (cK hw.1 (.inr c)).1 c2];symm;simp;omega
         · subst c2;simp
         · rw [if_neg (by omega),v2 i _ hq (cK hw.1 (.inr c)).2 c2];symm;simp;omega
       · rw [(u4 k c).1,hK k]
         refine Z2x fun i hi hw=>?_
         have hq:rs[i]? = some rs[i]:=by simp [hi]
         rw [hgd hq]at hw
         simp only [Bool.and_eq_true,List.contains_iff_mem]at hw
         rw [gset,if_neg]
         rintro rfl
         rw [hr]at hq
         simp only [Option.some.injEq]at hq
         rw [← hq]at hw
         exact c hw.1
theorem Z5i {rd:Option Nat} {m:Nat} {ops:Array Oper}:∀ (rs2:List ROper) (n:Nat) (st:St) (K:Exit→St→Prop) (Q:Exit→Act→World→Prop) (a:Act) (W:World) (fuel:Nat) (listed:Array Bool),
  n+rs2.length=ops.size→listed.size=ops.size→(∀ i,i<n→listed.getD i false=true)→(∀ i,n≤i→listed.getD i false=false) →
  (∀ (i:Nat) (r:ROper),rs2[i]? = some r→∃ o,ops[n+i]? = some o∧Z1z P R.N ops o r=true∧(∀ e∈o.after,Region.binds .any e=true→e.on<n+i)∧(0<i→∃ e∈o.after,Region.binds .any e=true∧e.on+1=n+i)) →
  rs2.length≤fuel→(∀ e st' a' W',K e st'→SR R st' a' W'→Q e a' W')→RW P R.G rs2 st K→SR R st a W→wpAnyIn (FW rd) m P .any ops Q fuel listed a W:=by
 intro rs2
 induction rs2 with
 | nil =>
   intro n st K Q a W fuel listed hn hsz h1 h2 hok hfu hK hr hs
   have hnil:Region.ready .any ops listed=[]:=by
    apply List.eq_nil_iff_forall_not_mem.2
    intro j hj
    obtain ⟨g1,oj,g2,-⟩:=mem_ready.1 hj
    have hjl:=(Array.getElem?_eq_some_iff.1 g2).1
    have:=h1 j (by simp at hn;omega)
    simp only [Array.getD_eq_getD_getElem?]at g1 this
    rw [Array.getElem?_eq_getElem (by omega)]at g1 this
    simp at g1 this
    rw [g1]at this;cases this
   have hq:=hK .normal st a W hr hs
   cases fuel with
   |zero=>exact ⟨hnil,hq⟩
   |succ fuel=>exact ⟨fun _=>hq,fun j hj=>by rw [hnil]at hj;cases hj⟩
 | cons r rs2 ih =>
   intro n st K Q a W fuel listed hn hsz h1 h2 hok hfu hK hr hs
   obtain ⟨o,ho,hk,hbef,-⟩:=hok 0 r rfl
   simp only [Nat.add_zero]at ho hbef
   cases fuel with
   |zero=>simp at hfu
   | succ fuel =>
     simp only [List.length_cons]at hn hfu
     have unl:∀ j,n≤j→j<ops.size→listed.getD j true=false:=fun j hj hjl=>by
      have:=h2 j hj
      simp only [Array.getD_eq_getD_getElem?]at this ⊢
      rw [Array.getElem?_eq_getElem (by omega)]at this ⊢
      simpa using this
     have hmem:n∈Region.ready .any ops listed:=mem_ready.2 ⟨unl n (Nat.le_refl _) (by omega),o,ho,fun e he hb=>h1 _ (hbef e he hb)⟩
     refine ⟨fun hnil=>(by rw [hnil]at hmem;cases hmem),fun j hj=>?_⟩
     obtain rfl:j=n:=by
      obtain ⟨g1,oj,g2,g3⟩:=mem_ready.1 hj
      have hjl:=(Array.getElem?_eq_some_iff.1 g2).1
      rcases Nat.lt_trichotomy j n with c|c|c
      · have:=h1 j c
        simp only [Array.getD_eq_getD_getElem?]at g1 this
        rw [Array.getElem?_eq_getElem (by omega)]at g1 this
        simp at g1 this
        rw [g1]at this;cases this
      · exact c
      · obtain ⟨i,rfl⟩ : ∃ i,j=n+(i+1):=⟨j-n-1,by omega⟩
        have hlt:i<rs2.length:=by omega
        obtain ⟨o2,ho2,-,-,hch⟩:=hok (i+1) rs2[i] (by simp [hlt])
        rw [g2]at ho2
        simp only [Option.some.injEq]at ho2
        subst ho2
        obtain ⟨e,he,hb,heq⟩:=hch (by omega)
        have:=g3 e he hb
        rw [h2 e.on (by omega)]at this
        cases this
     have go:∀ (st':St) (a':Act) (W':World),RW P R.G rs2 st' K→SR R st' a' W'→wpAnyIn (FW rd) m P .any ops Q fuel (listed.setIfInBounds j true) a' W':=fun st' a' W' g1 g2=>by
      have gset:∀ i,(listed.setIfInBounds j true).getD i false=if i=j then true else listed.getD i false:=fun i=>by
       simp only [Array.getD_eq_getD_getElem?,Array.getElem?_setIfInBounds]
       by_cases c:j=i
       · subst c;rw [if_pos rfl,if_pos (by omega),if_pos rfl];rfl
       · rw [if_neg c,if_neg (fun e=>c e.symm)]
      refine ih (j+1) st' K Q a' W' fuel _ (by omega) (by simpa using hsz) (fun i hi=>?_) (fun i hi=>?_) (fun i r' hi=>?_) (by omega) hK g1 g2
      · rw [gset]
        split
        · rfl
        · exact h1 i (by omega)
      · rw [gset,if_neg (by omega)];exact h2 i (by omega)
      · obtain ⟨o',q1,q2,q3,q4⟩:=hok (i+1) r' (by simpa using hi)
        refine ⟨o',by rw [← q1];congr 1;omega,q2,fun e he hb=>by have:=q3 e he hb;omega,fun _=>?_⟩
        obtain ⟨e,he,hb,heq⟩:=q4 (by omega)
        exact ⟨e,he,hb,by omega⟩
     rcases Z22 hr with ⟨st',g1,g2⟩ | ⟨hw,g,args,hi,hc⟩
     · exact Z26 g1 ho hk hs fun a' W' hs'=>go st' a' W' g2 hs'
     · obtain ⟨κ,hκ⟩:=hs
       have hk0:=hk
       simp only [Z1z,Bool.and_eq_true,decide_eq_true_eq]at hk
       obtain ⟨⟨⟨hd,hdn⟩,-⟩,-⟩:=hk
       have hdn':∀ n,r.d=some n→n<R.N:=fun n e=>by rw [e]at hdn;simpa using hdn
       refine Z25 hi hw ho hk0 hκ fun vs ha=>?_
       rcases hc with ⟨v,st1,hc,hn2⟩ | ⟨ch,hc,hn2⟩
       · obtain ⟨q1,q2⟩:=hc R a W κ vs rfl hκ ha
         refine ⟨q1,q2.mono ?_⟩
         rintro e W' ⟨u,κ1,rfl,q3,q4⟩
         refine go _ _ _ hn2 ⟨κ1,?_⟩
         rw [hd]
         exact q3.putd hdn' q4
       · obtain ⟨q1,q2⟩:=Z1V hκ hc ha
         refine ⟨q1,q2.mono ?_⟩
         rintro e W' ⟨rfl,q3⟩
         exact hK _ _ _ _ hn2 ⟨κ,q3⟩
end
def tailB (rs1 rs2:List ROper):Bool :=
 let recs:List Rec:=rs1.map fun r=>⟨none,[],[],[],r.aft⟩
 (List.range rs2.length).all fun t=>match rs2[t]? with
  |some r=>r.aft.all (fun e=>decide (e<rs1.length+t))&&(t == 0||r.aft.contains (rs1.length+t-1))&&(t != 0||(List.range rs1.length).all fun i=>r.aft.any fun e=>e == i||reach recs rs1.length e i)
  |none=>false
theorem Z5j {P:Program} {R:Run} {st:St} {Φ:Exit→St→Prop} {id:Nat} {rs:List ROper} (hm:P.follows .mixedOrders=true) (n:Nat) (ht:tailB (rs.take n) (rs.drop n)=true)
  (h:RD P R.G (rs.take n) st [] fun st'=>RW P R.G (rs.drop n) st' Φ):AR P R (.reg id true rs) st Φ:=by
 intro c hc mm a W hs
 cases c <;> simp only [Z1A,Bool.false_eq_true,Bool.and_eq_true,beq_iff_eq]at hc
 rename_i id' ops draw
 obtain ⟨⟨⟨rfl,rfl⟩,hc⟩,hae⟩:=hc
 simp only [Bool.not_true,Bool.false_or]at hae
 obtain ⟨h1,h2⟩:=Zc hc
 obtain ⟨-,h3⟩:=Zc hae
 obtain ⟨rs1,e1⟩ : ∃ rs1,rs1=rs.take n:=⟨_,rfl⟩
 obtain ⟨rs2,e2⟩ : ∃ rs2,rs2=rs.drop n:=⟨_,rfl⟩
 have e3:rs=rs1++rs2:=by rw [e1,e2,List.take_append_drop]
 rw [← e1,← e2]at h ht
 subst e3
 obtain ⟨S,rfl,hS,hK,hi⟩:=Z2v rs1 st [] _ h
 have hl:ops.size=rs1.length+rs2.length:=by simpa using h1
 have hop:∀ (i:Nat) (r:ROper),(rs1++rs2)[i]? = some r→∃ o,ops[i]? = some o∧Z1z P R.N ops o r=true∧(o.after.toList.filter (Region.binds .any ·)).map (·.on)=r.aft:=fun i r hr=>by
  have hlt:i<ops.size:=by have:=(List.getElem?_eq_some_iff.1 hr).1;simp at this;omega
  exact ⟨ops[i],by simp [hlt],h2 i _ r (by simp [hlt]) hr,by simpa using h3 i ops[i] r (by simp [hlt]) hr⟩
 have aftM:∀ {o:Oper} {r:ROper},(o.after.toList.filter (Region.binds .any ·)).map (·.on)=r.aft→∀ x,x∈r.aft↔∃ e∈o.after,Region.binds .any e=true∧e.on=x:=fun {o r} hae x=>by
  rw [← hae]
  constructor
  · intro hx
    obtain ⟨e,he,rfl⟩:=List.mem_map.1 hx
    obtain ⟨g1,g2⟩:=List.mem_filter.1 he
    exact ⟨e,by simpa using g1,g2,rfl⟩
  · rintro ⟨e,he,hb,rfl⟩
    exact List.mem_map.2 ⟨e,List.mem_filter.2 ⟨by simpa using he,hb⟩,rfl⟩
 have tl:∀ (t:Nat) (r:ROper),rs2[t]? = some r→(∀ e∈r.aft,e<rs1.length+t)∧(0<t→rs1.length+t-1∈r.aft)∧(t=0→∀ i,i<rs1.length→∃ e∈r.aft,e=i∨reach (rs1.map fun r=>(⟨none,[],[],[],r.aft⟩ : Rec)) rs1.length e i=true):=fun t r hr=>by
  have hlt:=(List.getElem?_eq_some_iff.1 hr).1
  have:=List.all_eq_true.1 ht t (by simpa using hlt)
  rw [hr]at this
  simp only [Bool.and_eq_true,List.all_eq_true,decide_eq_true_eq,Bool.or_eq_true,beq_iff_eq,List.contains_iff_mem,bne_iff_ne,List.mem_range,List.any_eq_true]at this
  refine ⟨this.1.1,fun h0=>this.1.2.resolve_left (by omega),fun h0 i hi=>?_⟩
  have:=(this.2.resolve_left (fun h=>h h0)) i hi
  exact this
 refine wpIn_region_any hm (Z5h hS (by omega) (fun i r hr=>?_) (by simpa using hi) (fun j o listed hj ho hsz hdc hno haf=>?_) (fun fuel listed a' w' hsz hall hno hfu hs'=>?_) ops.size _ (S 0) a _ (by simp) (fun i hi=>?_) (fun j r _ hL=>?_) ?_ (fun m=>?_) (fun k=>?_) ?_)
 · exact hop i r (by rw [List.getElem?_append_left (List.getElem?_eq_some_iff.1 hr).1];exact hr)
 · -- no operation of the tail comes up before
   have hlt:=(Array.getElem?_eq_some_iff.1 ho).1
   obtain ⟨t,rfl⟩ : ∃ t,j=rs1.length+t:=⟨j-rs1.length,by omega⟩
   have ht2:t<rs2.length:=by omega
   obtain ⟨o',ho',-,hae⟩:=hop (rs1.length+t) rs2[t] (by rw [List.getElem?_append_right (by omega)];simp [ht2])
   rw [ho]at ho'
   simp only [Option.some.injEq]at ho'
   subst ho'
   obtain ⟨q1,q2,q3⟩:=tl t rs2[t] (by simp [ht2])
   have lst:∀ e∈rs2[t].aft,listed.getD e false=true:=fun e he=>by
    obtain ⟨x,hx,hb,rfl⟩:=(aftM hae e).1 he
    exact haf x hx hb
   rcases Nat.eq_zero_or_pos t with c|c
   · intro i hi
     obtain ⟨e,he,h|h⟩:=q3 c i hi
     · rw [← h];exact lst e he
     · refine Z2A (L:=fun i=>listed.getD i false) (fun k rc hk hL x hx=>?_) _ e i h (fun rc hk x hx=>?_)
       · rw [List.getElem?_map,Option.map_eq_some_iff]at hk
         obtain ⟨r',hr',rfl⟩:=hk
         exact hdc k r' hr' hL x hx
       · rw [List.getElem?_map,Option.map_eq_some_iff]at hk
         obtain ⟨r',hr',rfl⟩:=hk
         exact hdc e r' hr' (lst e he) x hx
   · have:=lst _ (q2 c)
     rw [hno _ (by omega)]at this
     cases this
 · refine Z5i rs2 rs1.length (S rs1.length) Φ _ a' w' fuel listed (by omega) hsz hall hno (fun t r hr=>?_) (by omega) (fun e st' a2 w2 hk hs2=>⟨st',hk,hs2⟩) hK hs'
   obtain ⟨o,ho,hk,hae⟩:=hop (rs1.length+t) r (by rw [List.getElem?_append_right (by omega)];simpa using hr)
   obtain ⟨q1,q2,-⟩:=tl t r hr
   refine ⟨o,ho,hk,fun e he hb=>q1 _ ((aftM hae _).2 ⟨e,he,hb,rfl⟩),fun h0=>?_⟩
   obtain ⟨e,he,hb,heq⟩:=(aftM hae _).1 (q2 h0)
   exact ⟨e,he,hb,by omega⟩
 · simp [Array.getD]
 · simp [Array.getD]at hL
 · have:=List.length_filter_le (fun i=>!(Array.replicate ops.size false).getD i false) (List.range rs1.length)
   simp only [List.length_range]at this
   omega
 · exact (Z2z (v:=fun i=>(S i).tmp m) (L:=fun i=>(Array.replicate ops.size false).getD i false) (fun i=>by simp [Array.getD]) _).symm
 · exact (Z2z (v:=fun i=>(S i).get k) (L:=fun i=>(Array.replicate ops.size false).getD i false) (fun i=>by simp [Array.getD]) _).symm
 · obtain ⟨κ,hκ⟩:=hs
   exact ⟨κ,hκ.grow (Ext.dr (Ext.refl W))⟩
structure Dm where
 n:Int
 l:Int
 u:Int
 deriving DecidableEq,Inhabited
def Dm.zero:Dm:=⟨0,0,0⟩
def Dm.beq (a b:Dm):Bool:=a.n == b.n&&(a.l == b.l&&a.u == b.u)
def vd (d:Dm):Bool:=decide (0≤d.n∧d.n≤1000000000∧0≤d.l∧d.l≤d.u∧d.u≤1000000000)
def stp (k:Int):Int:=if k=1 then 100 else if k=2 then 254 else 0
def nom (n s:Int):Int:=if n / s*s+s≤1000000000∧n / s*s+s-n<n-n / s*s then n / s*s+s else n / s*s
def agn (d:Dm) (s:Int):Dm:=⟨nom d.n s,(d.l+s-1) / s*s,d.u / s*s⟩
def agnOk (d:Dm) (s:Int):Bool:=decide ((agn d s).l≤(agn d s).u)
def conv (d:Dm) (k:Int):Dm×Int :=
 if vd d=true then if stp k=0 then (Dm.zero,11) else if agnOk d (stp k)=true then (agn d (stp k),0) else (Dm.zero,6)
 else (Dm.zero,10)
section
variable {P:Program} {G:Nat→Option (List AV)} {st:St}
end
end Go.Proofs.YtpkfmfkccbnnjaaGreatDoor
