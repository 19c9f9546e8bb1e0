/-
  The abstract machine: composite values, elements, lengths, comparisons, slices.
-/
import Derived.Test.YthlcppdbldkldaaDoorMRegToAmD
import Derived.ArgAppend
import Derived.Laws.MakeOwn
import Derived.Laws.AppendOwn
import Derived.ChangeKeysEq
import Derived.Deep.LoopGhost
import Derived.Scope
import Derived.LoopN
import Derived.LoopNIn
import Derived.Sort.LoopGhostIn
import Derived.OrdersIn
import Derived.CallsIn
set_option linter.all false
set_option maxHeartbeats 8000000
namespace Go.Proofs.YthlcppdbldkldaaDoor
open Go.RowKit
section
variable {P:Program} {R:Run} {st:St} {a:Act} {W W':World} {κ:Nat->Option (Nat×Nat)}
def ZM (h:SK R st a W κ) {place:Nat->Option (Nat×Nat)} {zs:List Value} {zero:List AV} {parts:List (Nat×Operand)} {qs:List (Nat×Nat×RA)} (hz:allB2 cstB zs zero=true) (hl:parts.length=qs.length)
  (hp:∀ (i:Nat) (p:Nat×Operand) (q:Nat×Nat×RA),parts[i]? = some p->qs[i]? = some q->place p.1=some (q.1,q.2.1)/\okA p.2 q.2.2=true) {cs:List AV}
  (hf:aFill zero (qs.map λp=>(p.1,p.2.1,evA R.G st p.2.2))=some cs) :
  ∃ us,Instr.fill place zs.toArray (parts.map λp=>(p.1,a.eval p.2))=some us/\CR (st.env R.M κ) W cs us.toList:=by
 refine ZL _ _ _ _ _ (by simpa using ZB hz) (by simpa using hl) (λi p q h1 h2=>?_) hf;simp only[W09,W04]at h1 h2;obtain ⟨p',h1,rfl⟩:=h1;obtain ⟨q',h2,rfl⟩:=h2;obtain ⟨h3,h4⟩:=hp i p' q' h1 h2;exact ⟨h3,h.ev h4⟩
def ZN (h:SK R st a W κ) {o:Oper} {t:TypeId} {parts:Array (Nat×Operand)} {zero:List AV} {qs:List (Nat×Nat×RA)} (ho:o.op = .build t parts) (hk:okOp P (.build t parts) (.build zero qs)=true)
  {z:AV} {st':St} {d:Nat} (hr:rop R.G st d (.build zero qs)=some (z,st')):Sim P R a W o z st':=by
 simp only[rop,W04,W06]at hr;obtain ⟨cs,hf,rfl,rfl⟩:=hr;simp only[okOp]at hk
 split at hk <;> try (simp at hk;done)
 . rename_i it fs hi hu
   split at hk <;> try (simp at hk;done)
   rename_i zv places hz hpl;simp only[W01]at hk;obtain ⟨h1,h2⟩:=Zc hk.2
   obtain ⟨us,hus,hc⟩:=ZM (R:=R) (a:=a) (W:=W) (κ:=κ) (place:=(places.toArray[·]?)) h hk.1 h1 (λi p q hp hq=>by
    have:=h2 i p q hp hq;simp only[W01,W0b]at this;exact this) hf
   have hb:P.built t (parts.toList.map λp=>(p.1,a.eval p.2))=some us:=by
    simp only[Program.built,hi,hu,hz,hpl];simpa using hus
   have hrun:=run_build W t (parts.map λp=>(p.1,a.eval p.2)) us (by simpa using hb);exact .val h (by simp only[execOp,ho,Sem.run_bind];erw [hrun];rfl) (by simpa using VR.agg_of hc)
 . rename_i it n e hi hu
   split at hk <;> try (simp at hk;done)
   rename_i zv ie hz hie;simp only[W01]at hk;obtain ⟨h1,h2⟩:=Zc hk.2
   obtain ⟨us,hus,hc⟩:=ZM (R:=R) (a:=a) (W:=W) (κ:=κ) (place:=λi=>some (i*ie.size,ie.size)) h hk.1 h1 (λi p q hp hq=>by
    have:=h2 i p q hp hq;simp only[W01,W0b]at this;obtain ⟨⟨e1,e2⟩,e3⟩:=this;exact ⟨by rw[e1,e2],e3⟩) hf
   have hb:P.built t (parts.toList.map λp=>(p.1,a.eval p.2))=some us:=by
    simp only[Program.built,hi,hu,hz,hie];simpa using hus
   have hrun:=run_build W t (parts.map λp=>(p.1,a.eval p.2)) us (by simpa using hb);exact .val h (by simp only[execOp,ho,Sem.run_bind];erw [hrun];rfl) (by simpa using VR.agg_of hc)
def VR.osl_inv {E:Env} {k n:Nat} {v:Value} (h:VR E W (.osl k n) v):∃ sz m a' l c,v = .slice a' l c/\E.row k=some (sz,m)/\n<=m /\
  (m=n->∃ b s cs t,E.loc k=some (b,s)/\a'=some ⟨b,s,none⟩/\l=n/\n<=c/\c<=maxLen/\W.heap[b]? = some (.cells cs t (0,0))/\s+c*sz<=cs.size):=by
 cases h with
 |pv h=>cases h
 |osl _ _ sz m a' l c h hn he=>exact ⟨sz,m,a',l,c,rfl,h,hn,he⟩
def SK.osl (h:SK R st a W κ) {k n sz:Nat} {rows:List (List AV)} {v:Value} (hv:VR (st.env R.M κ) W (.osl k n) v) (hg:st.get k=some (.row sz rows)) (hn:rows.length=n) :
  ∃ b s c cs t,κ k=some (b,s)/\v = .slice (some ⟨b,s,none⟩) n c/\n<=c/\c<=maxLen/\W.heap[b]? = some (.cells cs t (0,0))/\s+c*sz<=cs.size/\(∀ r∈rows,r.length=sz) /\
    ∀ (i j:Nat) (r:List AV) (x:AV),rows[i]? = some r->r[j]? = some x->∃ v,cs[s+i*sz+j]? = some v/\VR (st.env R.M κ) W x v:=by
 obtain ⟨sz',m,a',l,c,rfl,h1,h2,h3⟩:=hv.osl_inv;simp only[St.env,hg,W1m,AObj.dim,W00,W06]at h1;obtain ⟨rfl,rfl⟩:=h1;obtain ⟨b,s,cs,t,h4,rfl,rfl,h5,h6,h7,h8⟩:=h3 hn;obtain ⟨b',s',g2,g3,g4,g5,cs',t',g6,g7,g8⟩:=h.obj k _ hg;rw[show (st.env R.M κ).loc k=κ k from rfl,g2]at h4;simp only[W00,W06]at h4;obtain ⟨rfl,rfl⟩:=h4;rw[h7]at g6;simp only[W00,Obj.cells.injEq]at g6;obtain ⟨rfl,rfl,-⟩:=g6;exact ⟨b',s',c,cs,t,g2,rfl,h5,h6,h7,h8,g5,g8⟩
def VR.oss_inv {E:Env} {k n lo hi:Nat} {v:Value} (h:VR E W (.oss k n lo hi) v):∃ sz m a l c,v = .slice a l c/\E.row k=some (sz,m)/\n<=m /\
  (m=n->∃ b s cs t ad,E.loc k=some (b,s)/\a=some ad/\(0<c->ad=⟨b,s+lo*sz,none⟩)/\l=hi-lo/\lo<=hi/\hi<=n/\n-lo<=c/\c<=maxLen/\W.heap[b]? = some (.cells cs t (0,0))/\s+(lo+c)*sz<=cs.size):=by
 cases h with
 |pv h=>cases h
 |oss _ _ _ _ sz m a' l c h hn he=>exact ⟨sz,m,a',l,c,rfl,h,hn,he⟩
def SK.oss (h:SK R st a W κ) {k n lo hi sz:Nat} {rows:List (List AV)} {v:Value} (hv:VR (st.env R.M κ) W (.oss k n lo hi) v) (hg:st.get k=some (.row sz rows)) (hn:rows.length=n) :
  ∃ b s c cs t ad,κ k=some (b,s)/\v = .slice (some ad) (hi-lo) c/\(0<c->ad=⟨b,s+lo*sz,none⟩)/\lo<=hi/\hi<=n/\n-lo<=c/\c<=maxLen/\W.heap[b]? = some (.cells cs t (0,0))/\s+(lo+c)*sz<=cs.size/\(∀ r∈rows,r.length=sz) /\
    (∀ (i j:Nat) (r:List AV) (x:AV),rows[i]? = some r->r[j]? = some x->∃ v,cs[s+i*sz+j]? = some v/\VR (st.env R.M κ) W x v)/\s+n*sz<=cs.size:=by
 obtain ⟨sz',m,a',l,c,rfl,h1,h2,h3⟩:=hv.oss_inv;simp only[St.env,hg,W1m,AObj.dim,W00,W06]at h1;obtain ⟨rfl,rfl⟩:=h1;obtain ⟨b,s,cs,t,ad,h4,rfl,h5,rfl,h6,h7,h8,h9,h10,h11⟩:=h3 hn;obtain ⟨b',s',g2,g3,g4,g5,cs',t',g6,g7,g8⟩:=h.obj k _ hg;rw[show (st.env R.M κ).loc k=κ k from rfl,g2]at h4;simp only[W00,W06]at h4;obtain ⟨rfl,rfl⟩:=h4;rw[h10]at g6;simp only[W00,Obj.cells.injEq]at g6;obtain ⟨rfl,rfl,-⟩:=g6;exact ⟨b',s',c,cs,t,ad,g2,rfl,h5,h6,h7,h8,h9,h10,h11,g5,g8,by rw[<- hn];exact g7⟩
def ZO {M:Nat->Prop} {rows:List (List AV)} {v:Value} (h:PV M W (.vsl rows) v):∃ (a':Option Addr) (cap sz b o:Nat) (f:Nat->Nat->Value),v = .slice a' rows.length cap/\rows.length<=cap/\cap<=maxLen /\
  (rows≠[]->a'=some ⟨b,o,none⟩/\b<W.heap.size/\¬M b)/\(a'=none->rows=[]/\cap=0)/\(∀ r∈rows,r.length=sz) /\
  (∀ i j,i<rows.length->j<sz->W.cell? ⟨b,o+i*sz+j,none⟩=some (f i j))/\(∀ (i j:Nat) (r:List AV) (x:AV),rows[i]? = some r->r[j]? = some x->PV M W x (f i j)):=by
 cases h with
 |vsl _ a' cap sz b o f hcap hmax ha hn hs hc hr=>exact ⟨a',cap,sz,b,o,f,rfl,hcap,hmax,ha,hn,hs,hc,hr⟩
def VR.vsl_inv' {E:Env} {rows:List (List AV)} {v:Value} (h:VR E W (.vsl rows) v):PV E.M W (.vsl rows) v:=by cases h with|pv h=>exact h
def VR.nes_inv {E:Env} {v:Value} (h:VR E W .nes v):∃ a c,v = .slice (some a) 0 c:=by cases h with|pv h=>cases h;exact ⟨_,_,rfl⟩
def VR.nils_inv {E:Env} {v:Value} (h:VR E W .nils v):v = .slice none 0 0:=by cases h with|pv h=>cases h;rfl
def ZP (h:SK R st a W κ) {o:Oper} {t e:TypeId} {sz:Nat} {x i:Operand} {y j:RA} (ho:o.op = .indexAddr t x i) (hu:P.underlying t=some (.slice e)) (hn:szB P e=some sz) (hk:okA x y=true) (hj:okA i j=true)
  {z:AV} {st':St} {d:Nat} (hr:rop R.G st d (.iaddr sz y j)=some (z,st')):Sim P R a W o z st':=by
 have h1:=h.ev hk;have h2:=h.ev hj;simp only[rop]at hr
 split at hr <;> try (simp at hr;done)
 rename_i k n ei
 split at hr <;> try (simp at hr;done)
 rename_i hpos;rw[ei]at h2;have hi:=h2.int_inv
 have run:∀ b s len cap,n.toNat<len->(Instr.indexAt t (.slice (some ⟨b,s,none⟩) len cap) (.int k n)).run P W = .ok (.pointer (some ⟨b,s+n.toNat*sz,none⟩)) W:=λb s len cap hlt=>by
  simp only[Instr.indexAt,asIntOf,Sem.run_bind,Sem.run_pure,Result.andThen_ok,run_underlying hu,Zo hn];rw[if_pos (by omega)];simp[Sem.run_bind,Zo hn,Addr.add_mid]
 split at hr <;> try (simp at hr;done)
 . rename_i rows es
   split at hr <;> try (simp at hr;done)
   rename_i r hrow
   split at hr <;> simp only[W00,W06,reduceCtorEq]at hr
   rename_i hlen;obtain ⟨rfl,rfl⟩:=hr;rw[es]at h1;obtain ⟨a',cap,sz',b,off,f,hv,g1,g2,g3,g4,g5,g6,g7⟩:=ZO h1.vsl_inv';have hlt:n.toNat<rows.length:=(W02.1 hrow).1;obtain ⟨rfl,g8,g9⟩:=g3 (by intro e;simp[e]at hlt);have hsz:sz'=sz:=(by rw[<- g5 r (W0d hrow),hlen]);subst hsz;refine .val h (by simp only[execOp,ho,hv,hi,Sem.run_bind,run _ _ _ _ hlt,Result.andThen_ok,Sem.run_pure];rfl) (.pv (.vptr r 0 b (off+n.toNat*sz') (f n.toNat) g8 g9 (λj hj=>g6 _ _ hlt (by omega)) (λj x hx=>g7 _ _ r x hrow hx)))
 . rename_i k' m es
   split at hr <;> try (simp at hr;done)
   rename_i sz' rows hg
   split at hr <;> simp only[W00,W06,reduceCtorEq]at hr
   rename_i hc;obtain ⟨rfl,hm,hlt⟩:=hc;obtain ⟨rfl,rfl⟩:=hr;rw[es]at h1;obtain ⟨b,s,c,cs,t',g1,hv,g2,g3,g4,g5,g6,g7⟩:=h.osl h1 hg hm;refine .val h (by simp only[execOp,ho,hv,hi,Sem.run_bind,run _ _ _ _ hlt,Result.andThen_ok,Sem.run_pure];rfl) (.eptr k' m n.toNat 0 sz' rows.length _ (by simp[St.env,hg,AObj.dim]) (by omega) λ_=>⟨b,s,g1,by simp⟩)
 . rename_i k' m lo hi' es
   split at hr <;> try (simp at hr;done)
   rename_i sz' rows hg
   split at hr <;> simp only[W00,W06,reduceCtorEq]at hr
   rename_i hc;obtain ⟨rfl,hm,hlt⟩:=hc;obtain ⟨rfl,rfl⟩:=hr;rw[es]at h1;obtain ⟨b,s,c,cs,t',ad,g1,hv,g2,g3,g4,g5,-⟩:=h.oss h1 hg hm;obtain rfl:=g2 (by omega);refine .val h (by simp only[execOp,ho,hv,hi,Sem.run_bind,run _ _ _ _ hlt,Result.andThen_ok,Sem.run_pure];rfl) (.eptr k' m (lo+n.toNat) 0 sz' rows.length _ (by simp[St.env,hg,AObj.dim]) (by omega) λ_=>⟨b,s,g1,by simp[W0Z,W1s]⟩)
def ZQ (h:SK R st a W κ) {o:Oper} {c:Call} {t:TypeId} {ts:List TypeId} {x:Operand} {y:RA} (ho:o.op = .call c) (hc:c={ callee:=.builtin .len,args:=⟨[x]⟩,argTypes:=⟨t::ts⟩ })
  {e:TypeId} (hu:P.underlying t=some (.slice e)) (hk:okA x y=true)
  {z:AV} {st':St} {d:Nat} (hr:rop R.G st d (.len y)=some (z,st')):Sim P R a W o z st':=by
 have h1:=h.ev hk;simp only[rop,W04,W06]at hr;obtain ⟨n,hn,rfl,rfl⟩:=hr;subst hc
 have key:∃ p c,a.eval x = .slice p n c:=by
  unfold aLen at hn
  split at hn <;> try (simp at hn;done)
  . rename_i rows e;rw[e]at h1;simp only[W00]at hn;obtain ⟨a',cap,sz',b,off,f,hv,-⟩:=ZO h1.vsl_inv';exact ⟨a',cap,by rw[hv,hn]⟩
  . rename_i e;rw[e]at h1;simp only[W00]at hn;exact ⟨none,0,by rw[h1.nils_inv,hn]⟩
  . rename_i e;rw[e]at h1;simp only[W00]at hn;obtain ⟨q,c,hv⟩:=h1.nes_inv;exact ⟨some q,c,by rw[hv,hn]⟩
  . rename_i k m e;rw[e]at h1
    split at hn <;> try (simp at hn;done)
    rename_i sz rows hg
    split at hn <;> simp only[W00,reduceCtorEq]at hn
    rename_i hm;subst hn;obtain ⟨b,s,c,cs,t',g1,hv,-⟩:=h.osl h1 hg hm;exact ⟨_,c,hv⟩
  . rename_i k m lo hi e;rw[e]at h1
    split at hn <;> try (simp at hn;done)
    rename_i sz rows hg
    split at hn <;> simp only[W00,reduceCtorEq]at hn
    rename_i hm;subst hn;obtain ⟨b,s,c,cs,t',ad,g1,hv,-⟩:=h.oss h1 hg hm;exact ⟨_,c,hv⟩
 refine .val (v:=.int .i64 ((n:Nat):Int)) h ?_ (.pv (.int _ _));obtain ⟨p,c,hs⟩:=key;simp[execOp,ho,resolve,invoke,builtin,Builtin.len_,Sem.run_bind,run_underlying hu,hs,goInt]
def ZR (h:SK R st a W κ) {o:Oper} {c:Call} {t:TypeId} {ts:List TypeId} {x:Operand} {y:RA} (ho:o.op = .call c) (hc:c={ callee:=.builtin .len,args:=⟨[x]⟩,argTypes:=⟨t::ts⟩ })
  (hu:P.underlying t=some .string) (hk:okA x y=true)
  {z:AV} {st':St} {d:Nat} (hr:rop R.G st d (.slen y)=some (z,st')):Sim P R a W o z st':=by
 have h1:=h.ev hk;simp only[rop]at hr
 split at hr <;> simp only[W00,W06,reduceCtorEq]at hr
 rename_i s e;obtain ⟨rfl,rfl⟩:=hr;subst hc;rw[e]at h1;refine .val (v:=.int .i64 ((s.size:Nat):Int)) h ?_ (.pv (.int _ _));simp[execOp,ho,resolve,invoke,builtin,Builtin.len_,Sem.run_bind,run_underlying hu,h1.str_inv,goInt]
def ZS {E:Env} {great:Bool} {x y z:AV} {u v:Value} (hx:VR E W x u) (hy:VR E W y v) (h:aMx great x y=some z) :
  ∃ w,(if great=true then Builtin.max2 u v else Builtin.min2 u v).run P W = .ok w W/\VR E W z w:=by
 unfold aMx at h
 split at h <;> try (simp at h;done)
 rename_i k a k' b
 split at h <;> simp only[W00,reduceCtorEq]at h
 rename_i e;subst e;subst h;rw[hx.int_inv,hy.int_inv];refine ⟨_,?_,.pv (.int _ _)⟩
 cases great
 . simp only[W05,if_false,Builtin.min2,Sem.run_pure]
   congr 2
   simp only[Int.min_def]
   split <;> split <;> omega
 . simp only[if_true,Builtin.max2,Sem.run_pure]
   congr 2
   simp only[Int.max_def]
   split <;> split <;> omega
def ZT {E:Env} {great:Bool}:∀ (xs:List AV) (us:List Value) (x z:AV) (u:Value),VR E W x u->CR E W xs us->aMxs great x xs=some z ->
  ∃ w,(us.foldlM (λp q=>if great=true then Builtin.max2 p q else Builtin.min2 p q) u).run P W = .ok w W/\VR E W z w
 | [],us,x,z,u,hx,hc,h=>by
   have:us=[]:=W0l.1 hc.1;subst this;simp only[aMxs,W00]at h;subst h;exact ⟨u,rfl,hx⟩
 |y::ys,[],x,z,u,hx,hc,h=>by have:=hc.1;simp at this
 | y::ys,v::vs,x,z,u,hx,hc,h=>by
   simp only[aMxs]at h
   split at h <;> try (simp at h;done)
   rename_i q hq;obtain ⟨w,hw,hr⟩:=ZS (P:=P) hx (hc.2 0 y v rfl rfl) hq;obtain ⟨w',hw',hr'⟩:=ZT ys vs q z w hr ⟨by simpa using hc.1,λi x u h1 h2=>hc.2 (i+1) x u (by simpa using h1) (by simpa using h2)⟩ h;refine ⟨w',?_,hr'⟩;rw[List.foldlM_cons,Sem.run_bind,hw];exact hw'
def ZU (h:SK R st a W κ) {o:Oper} {c:Call} {great:Bool} {ts:Array TypeId} {x:Operand} {xs:List Operand} {y:RA} {ys:List RA} (ho:o.op = .call c)
  (hc:c={ callee:=.builtin (if great=true then .max else .min),args:=⟨x::xs⟩,argTypes:=ts }) (hk:okA x y=true) (hks:allB2 okA xs ys=true)
  {z:AV} {st':St} {d:Nat} (hr:rop R.G st d (.mx great y ys)=some (z,st')):Sim P R a W o z st':=by
 simp only[rop,W04,W06]at hr;obtain ⟨n,hn,rfl,rfl⟩:=hr;obtain ⟨w,hw,hr⟩:=ZT (P:=P) _ _ _ _ _ (h.ev hk) (h.evs hks) hn;subst hc;refine .val h ?_ hr
 cases great
 . simp only[W05,if_false]at hw;simp[execOp,ho,resolve,invoke,builtin,Builtin.min_,Sem.run_bind,hw]
 . simp only[if_true]at hw;simp[execOp,ho,resolve,invoke,builtin,Builtin.max_,Sem.run_bind,hw]
def ZV:∀ (ks ks':List CK) (xs xs' ys ys':List AV) (b:Bool),xs.length=ks.length->ys.length=ks.length->eqL (ks++ks') (xs++xs') (ys++ys')=some b ->
  ∃ b1 b2,eqL ks xs ys=some b1/\eqL ks' xs' ys'=some b2/\b=(b1&&b2)
 |[],ks',[],xs',[],ys',b,_,_,h=>⟨true,b,rfl,h,rfl⟩
 | k::ks,ks',x::xs,xs',y::ys,ys',b,h1,h2,h=>by
   simp only[W1d,eqL]at h
   split at h <;> simp only[W00,reduceCtorEq]at h
   rename_i c1 c2 e1 e2;subst h;obtain ⟨b1,b2,g1,g2,rfl⟩:=ZV ks ks' xs xs' ys ys' c2 (by simpa using h1) (by simpa using h2) e2;exact ⟨c1&&b1,b2,by simp only[eqL,e1,g1],g2,by rw[Bool.and_assoc]⟩
 |[],_,_::_,_,_,_,_,h,_,_=>by simp at h
 |[],_,[],_,_::_,_,_,_,h,_=>by simp at h
 |_::_,_,[],_,_,_,_,h,_,_=>by simp at h
 |_::_,_,_::_,_,[],_,_,_,h,_=>by simp at h
def mkV (agg:Bool) (us:List Value):Value:=if agg=true then .agg us.toArray else us.headD Go.undef
def CR.part {E:Env} {xs:List AV} {us:List Value} (h:CR E W xs us) (off n:Nat):CR E W ((xs.drop off).take n) ((us.drop off).take n):=by
 refine ⟨by simp[h.1],λi x u hx hu=>?_⟩;rw[W1k]at hx hu
 split at hx <;> try (simp at hx;done)
 rename_i hi;rw[if_pos hi]at hu;rw[W13]at hx hu;exact h.2 _ x u hx hu
def ZW {t:TypeId} {agg:Bool} {n off:Nat} {us:List Value} (ha:aggB P t=some agg) (hn:szB P t=some n) (h1:agg=false->n=1) (hle:off+n<=us.length) :
  (Go.part t us.toArray off).run P W = .ok (mkV agg ((us.drop off).take n)) W:=by
 cases agg with
 | true =>
   simp only[Go.part,Sem.run_bind,Zn ha,Result.andThen_ok,if_true,Zo hn,Sem.run_pure,mkV]
   congr 2
   apply Array.ext'
   simp[Array.toList_extract,List.extract]
 | false =>
   have h2:=h1 rfl;subst h2;have hg:us.toArray[off]? = some us[off]:=(by simp);simp only[Go.part,Sem.run_bind,Zn ha,Result.andThen_ok,W05,if_false,hg,Sem.run_pure,mkV]
   congr 1
   rw[W0x (by omega)];rfl
def ZX {d:Nat} {t:TypeId} {ks:List CK} (h:flatK P d t=some ks):szB P t=some ks.length/\((aggB P t=some true)∨(aggB P t=some false/\ks.length=1)):=by
 cases d with
 |zero=>simp[flatK]at h
 | succ d =>
   simp only[flatK]at h
   split at h <;> try (simp at h;done)
   . rename_i hu
     split at h <;> simp only[W00,reduceCtorEq]at h
     subst h;exact ⟨‹_›,.inr ⟨by simp[aggB,hu,TypeDesc.isRow],rfl⟩⟩
   . rename_i hu
     split at h <;> simp only[W00,reduceCtorEq]at h
     subst h;exact ⟨‹_›,.inr ⟨by simp[aggB,hu,TypeDesc.isRow],rfl⟩⟩
   . rename_i hu
     split at h <;> simp only[W00,reduceCtorEq]at h
     subst h;exact ⟨‹_›,.inr ⟨by simp[aggB,hu,TypeDesc.isRow],rfl⟩⟩
   . rename_i hu
     split at h <;> try (simp at h;done)
     split at h <;> try (simp at h;done)
     split at h <;> simp only[W00,reduceCtorEq]at h
     subst h;exact ⟨‹_›,.inl (by simp[aggB,hu,TypeDesc.isRow])⟩
   . rename_i n e hu
     split at h <;> try (simp at h;done)
     rename_i ks' _
     split at h <;> simp only[W00,reduceCtorEq]at h
     rename_i hs;subst h;exact ⟨by rw[hs];simp,.inl (by simp[aggB,hu,TypeDesc.isRow])⟩
def ZY {E:Env}:∀ (d:Nat) (t:TypeId) (ks:List CK),flatK P d t=some ks->∀ (D:Nat),d<=D->∀ (agg:Bool),aggB P t=some agg->∀ (xs ys:List AV) (us vs:List Value) (b:Bool),
  xs.length=ks.length->ys.length=ks.length->CR E W xs us->CR E W ys vs->eqL ks xs ys=some b->(Op.equalIn D t (mkV agg us) (mkV agg vs)).run P W = .ok b W:=by
 intro d
 induction d with
 |zero=>intro t ks h;simp[flatK]at h
 | succ d ih =>
   intro t ks h D hD agg ha xs ys us vs b hx hy hu hv he;obtain ⟨D,rfl⟩ : ∃ D',D=D'+1:=⟨D-1,by omega⟩;simp only[flatK]at h
   have one:∀ {k:CK},ks=[k]->∃ x y u v,xs=[x]/\ys=[y]/\us=[u]/\vs=[v]/\VR E W x u/\VR E W y v:=by
    rintro k rfl
    match xs,ys,hx,hy with
    | [x],[y],_,_ =>
      match us,vs,hu,hv with
      |[u],[v],hu,hv=>exact ⟨x,y,u,v,rfl,rfl,rfl,rfl,hu.2 0 x u rfl rfl,hv.2 0 y v rfl rfl⟩
      |[],_,hu,_=>exact absurd hu.1 (by simp)
      |_::_::_,_,hu,_=>exact absurd hu.1 (by simp)
      |[_],[],_,hv=>exact absurd hv.1 (by simp)
      |[_],_::_::_,_,hv=>exact absurd hv.1 (by simp)
   have one1:∀ {k:CK} {x y:AV} {c:Bool},eqL [k] [x] [y]=some c->eq1 k x y=some c:=λ{k x y c} h=>by
    simp only[eqL]at h
    split at h <;> simp only[W00,reduceCtorEq]at h
    rename_i e1 e2;simp only[W00]at e2;subst e2;rw[e1,<- h,W21]
   split at h <;> try (simp at h;done)
   . rename_i k hk
     split at h <;> simp only[W00,reduceCtorEq]at h
     subst h;have hagg:agg=false:=(by simp only[aggB,hk,TypeDesc.isRow,W0m,W00]at ha;exact ha.symm);subst hagg;obtain ⟨x,y,u,v,rfl,rfl,rfl,rfl,h1,h2⟩:=one rfl;replace he:=one1 he
     cases x <;> try (simp[eq1]at he;done)
     cases y <;> simp only[eq1,reduceCtorEq]at he
     split at he <;> simp only[W00,reduceCtorEq]at he
     rename_i hkk;subst hkk;subst he;simp only[mkV,W05,if_false,W22];rw[h1.int_inv,h2.int_inv,run_equalIn_int W D t _ k _ _ hk];rfl
   . rename_i hk
     split at h <;> simp only[W00,reduceCtorEq]at h
     subst h;have hagg:agg=false:=(by simp only[aggB,hk,TypeDesc.isRow,W0m,W00]at ha;exact ha.symm);subst hagg;obtain ⟨x,y,u,v,rfl,rfl,rfl,rfl,h1,h2⟩:=one rfl;replace he:=one1 he
     cases x <;> try (simp[eq1]at he;done)
     cases y <;> simp only[eq1,reduceCtorEq,W00]at he
     subst he;simp only[mkV,W05,if_false,W22];rw[h1.str_inv,h2.str_inv,run_equalIn_string W D t _ _ hk]
   . rename_i hk
     split at h <;> simp only[W00,reduceCtorEq]at h
     subst h;have hagg:agg=false:=(by simp only[aggB,hk,TypeDesc.isRow,W0m,W00]at ha;exact ha.symm);subst hagg;obtain ⟨x,y,u,v,rfl,rfl,rfl,rfl,h1,h2⟩:=one rfl;replace he:=one1 he
     cases x <;> try (simp[eq1]at he;done)
     cases y <;> simp only[eq1,reduceCtorEq,W00]at he
     subst he;simp only[mkV,W05,if_false,W22];rw[h1.bool_inv,h2.bool_inv,run_equalIn_bool' W D t _ _ hk]
   . rename_i fs hk
     split at h <;> try (simp at h;done)
     rename_i hst
     split at h <;> try (simp at h;done)
     rename_i ks' hf
     split at h <;> simp only[W00,reduceCtorEq]at h
     rename_i hsz;subst h;have hagg:agg=true:=(by simp only[aggB,hk,TypeDesc.isRow,W0m,W00]at ha;exact ha.symm);subst hagg;simp only[mkV,if_true];have hfo:P.fieldsOf t=fs:=(by simp[Program.fieldsOf,hk]);rw[run_equalIn_struct W D t _ _ (by rw[hfo];exact hk) hst,hfo]
     have key:∀ (l:List Field) (off:Nat) (kl:List CK) (c:Bool),fldK (flatK P d) off l=some kl->off+kl.length<=xs.length->eqL kl ((xs.drop off).take kl.length) ((ys.drop off).take kl.length)=some c ->
       (Op.eqFields D us.toArray vs.toArray l).run P W = .ok c W:=by
      intro l
      induction l with
      | nil =>
        intro off kl c h1 _ h3;simp only[fldK,W00]at h1;subst h1;simp[eqL]at h3;subst h3;rfl
      | cons f l ihl =>
        intro off kl c h1 h2 h3;simp only[fldK]at h1
        split at h1 <;> try (simp at h1;done)
        rename_i hn;obtain ⟨hn1,rfl⟩:=hn
        split at h1 <;> try (simp at h1;done)
        rename_i kf hkf;simp only[W04]at h1;obtain ⟨kr,hkr,rfl⟩:=h1;obtain ⟨gs,gagg⟩:=ZX hkf;simp only[W0s]at h2 h3;have hul:=hu.1;have hvl:=hv.1
        have tk:∀ (q:List AV),(q.drop f.offset).take (kf.length+kr.length)=(q.drop f.offset).take kf.length++(q.drop (f.offset+kf.length)).take kr.length:=λq=>by
         rw[List.take_add,List.drop_drop]
        rw[tk,tk]at h3;obtain ⟨b1,b2,e1,e2,rfl⟩:=ZV kf kr _ _ _ _ c (by simp;omega) (by simp;omega) h3
        have hfa:∃ ag,aggB P f.type=some ag/\(ag=false->kf.length=1):=by
         rcases gagg with g | ⟨g,g2⟩
         . exact ⟨true,g,by simp⟩
         . exact ⟨false,g,λ_=>g2⟩
        obtain ⟨ag,ha1,ha2⟩:=hfa;have r1:=ZW (P:=P) (W:=W) (us:=us) ha1 gs ha2 (off:=f.offset) (by omega);have r2:=ZW (P:=P) (W:=W) (us:=vs) ha1 gs ha2 (off:=f.offset) (by omega);have r3:=ih f.type kf hkf D (by omega) ag ha1 _ _ _ _ b1 (by simp;omega) (by simp;omega) (hu.part f.offset kf.length) (hv.part f.offset kf.length) e1;simp only[Op.eqFields,hn1,ne_eq,not_false_eq_true,if_true,Sem.run_bind,r1,r2,r3,Result.andThen_ok]
        cases b1
        . simp
        . simp only[W17,W05,if_false,W1i];exact ihl (f.offset+kf.length) kr b2 hkr (by omega) e2
     exact key fs.toList 0 ks' b hf (by omega) (by rw[W1J,W1J,W0J (by omega),W0J (by omega)];exact he)
   . rename_i n e hk
     split at h <;> try (simp at h;done)
     rename_i ks' hf
     split at h <;> simp only[W00,reduceCtorEq]at h
     subst h;have hagg:agg=true:=(by simp only[aggB,hk,TypeDesc.isRow,W0m,W00]at ha;exact ha.symm);subst hagg;simp only[mkV,if_true];obtain ⟨gs,gagg⟩:=ZX hf;obtain ⟨ie,hie,hsz⟩:=W04.1 gs;have hc:P.cellsOf e=ks'.length:=by simp[Program.cellsOf,hie,hsz]
     have hfa:∃ ag,aggB P e=some ag/\(ag=false->ks'.length=1):=by
      rcases gagg with g | ⟨g,g2⟩
      . exact ⟨true,g,by simp⟩
      . exact ⟨false,g,λ_=>g2⟩
     obtain ⟨ag,ha1,ha2⟩:=hfa;rw[run_equalIn_array W D _ _ hk hie,hc,List.range_eq_range'];have hul:=hu.1;have hvl:=hv.1;have hxl:xs.length=n*ks'.length:=(by rw[hx];simp);have hyl:ys.length=n*ks'.length:=by rw[hy];simp
     have key:∀ (m j:Nat) (c:Bool),j+m=n->eqL (List.replicate m ks').flatten (xs.drop (j*ks'.length)) (ys.drop (j*ks'.length))=some c ->
       (Op.eqItems D e ks'.length us.toArray vs.toArray (List.range' j m)).run P W = .ok c W:=by
      intro m
      induction m with
      | zero =>
        intro j c h1 h3;have:j=n:=(by omega);subst this;rw[W1h (by omega),W1h (by omega)]at h3;simp[eqL]at h3;subst h3;rfl
      | succ m ihm =>
        intro j c h1 h3;have e1:(j+1)*ks'.length<=n*ks'.length:=W0I _ (by omega);rw[Nat.succ_mul]at e1
        have tk:∀ (q:List AV),q.drop (j*ks'.length)=(q.drop (j*ks'.length)).take ks'.length++q.drop ((j+1)*ks'.length):=λq=>by
         rw[Nat.succ_mul,<- List.drop_drop,W11]
        rw[tk xs,tk ys,List.replicate_succ,List.flatten_cons]at h3;obtain ⟨b1,b2,e2,e3,rfl⟩:=ZV ks' _ _ _ _ _ c (by simp;omega) (by simp;omega) h3;have r1:=ZW (P:=P) (W:=W) (us:=us) ha1 gs ha2 (off:=j*ks'.length) (by omega);have r2:=ZW (P:=P) (W:=W) (us:=vs) ha1 gs ha2 (off:=j*ks'.length) (by omega);have r3:=ih e ks' hf D (by omega) ag ha1 _ _ _ _ b1 (by simp;omega) (by simp;omega) (hu.part (j*ks'.length) ks'.length) (hv.part (j*ks'.length) ks'.length) e2;simp only[List.range'_succ,Op.eqItems,Sem.run_bind,r1,r2,r3,Result.andThen_ok]
        cases b1
        . simp
        . simp only[W17,W05,if_false,W1i];exact ihm (j+1) b2 (by omega) e3
     exact key n 0 b (by omega) (by simpa using he)
def ZZ (h:SK R st a W κ) {o:Oper} {op:BinOp} {t u:TypeId} {x y:Operand} {neg:Bool} {ks:List CK} {x' y':RA} (ho:o.op = .binOp op t x y u) (hop:op=if neg=true then .neq else .eql) (hf:flatK P 8 t=some ks) (ha:aggB P t=some true)
  (hg:P.eqGuardType P.depth t=false) (hx:okA x x'=true) (hy:okA y y'=true) {z:AV} {st':St} {d:Nat} (hr:rop R.G st d (.eqs neg ks x' y')=some (z,st')):Sim P R a W o z st':=by
 have h1:=h.ev hx;have h2:=h.ev hy;simp only[rop]at hr
 split at hr <;> simp only[W04,W06,reduceCtorEq]at hr
 rename_i xs ys e1 e2;obtain ⟨b,hb,rfl,rfl⟩:=hr;rw[e1]at h1;rw[e2]at h2;obtain ⟨us,hu1,hu2⟩:=h1.agg_inv;obtain ⟨vs,hv1,hv2⟩:=h2.agg_inv
 have len:∀ {ks:List CK} {xs ys:List AV} {b:Bool},eqL ks xs ys=some b->xs.length=ks.length/\ys.length=ks.length:=by
  intro ks
  induction ks with
  |nil=>intro xs ys b h;cases xs <;> cases ys <;> simp_all [eqL]
  | cons k ks ih =>
    intro xs ys b h
    cases xs <;> cases ys <;> simp only[eqL,reduceCtorEq]at h
    split at h <;> try (simp at h;done)
    rename_i e1 e2;obtain ⟨l1,l2⟩:=ih e2;exact ⟨by simp[l1],by simp[l2]⟩
 obtain ⟨l1,l2⟩:=len hb;have run:=ZY (P:=P) (W:=W) 8 t ks hf 10000 (by omega) true ha xs ys us.toList vs.toList b l1 l2 hu2 hv2 hb;simp only[mkV,if_true]at run;refine .val h ?_ (.pv (.bool _));subst hop
 cases neg
 . simp only[execOp,ho,hu1,hv1,Sem.run_bind,run_eqGuard_agg W _ t _ _ _ _ hg,Result.andThen_ok,W05,if_false,run_eql_struct,run,Sem.run_pure]
 . simp only[execOp,ho,hu1,hv1,Sem.run_bind,run_eqGuard_agg W _ t _ _ _ _ hg,Result.andThen_ok,if_true,run_neq_struct,run,Sem.run_pure]
def SK.rowNew (h:SK R st a W κ) {d:Nat} (hd:st.get d=none) {sz:Nat} {rows:List (List AV)} {us:Array Value} {c:Nat} (hr:RowOk (st.env R.M κ) W us 0 (.row sz rows)) (hc:rows.length<=c) (hm:c<=maxLen) (hz:c*sz<=us.size) (t:TypeId) :
  SK R (st.set d (.row sz rows)) a (W.alloc (.cells us t)) (λk=>if k=d then some (W.heap.size,0) else κ k) /\
   VR ((st.set d (.row sz rows)).env R.M (λk=>if k=d then some (W.heap.size,0) else κ k)) (W.alloc (.cells us t)) (.osl d rows.length) (.slice (some ⟨W.heap.size,0,none⟩) rows.length c):=by
 refine ⟨h.new hd hr,.osl d rows.length sz rows.length _ _ _ (by simp[St.env,St.get_set,AObj.dim]) (W0f _) λ_=>⟨W.heap.size,0,us,t,by simp[St.env],rfl,rfl,hc,hm,World.alloc_heap_new _ _,by omega⟩⟩
def Z10:∀ {qs:List (Nat×Nat×AV)} {xs zs:List AV},aFill xs qs=some zs->zs.length=xs.length
 |[],xs,zs,h=>by simp only[aFill,W00]at h;rw[h]
 | (off,n,x)::qs,xs,zs,h=>by
   simp only[aFill]at h
   split at h <;> try (simp at h;done)
   rename_i hc;rw[Z10 h,ZH (by have:=hc.2.1;have:=hc.2.2;omega)]
def Z11 {sz n i:Nat} {cs r:List AV} (h:(chunk sz n cs)[i]? = some r):i<n/\r=(cs.drop (i*sz)).take sz:=by
 unfold chunk at h;rw[W09]at h
 have hi:i<n:=by
  have:=(W04.1 h);obtain ⟨j,hj,-⟩:=this;have:=(W02.1 hj).1;simpa using this
 rw[W0L hi]at h;simp only[W0m,W00]at h;exact ⟨hi,h.symm⟩
def Z12 {i n sz:Nat} (h:i<n):i*sz+sz<=n*sz:=by
 have:=W0I sz (show i+1<=n by omega)
 rwa [W0Z,Nat.one_mul]at this
def Z13 (h:SK R st a W κ) {o:Oper} {t e:TypeId} {n:Nat} {parts:Array (Nat×Operand)} {ie:TypeInfo} {zv:Value} {own:Bool} {sz:Nat} {zero:List AV} {qs:List (Nat×RA)} (ho:o.op = .buildSlice t n parts)
  (hu:P.underlying t=some (.slice e)) (hn:szB P e=some sz) (hi:P.info? e=some ie) (hz:ie.zero=some zv) (hzero:allB2 cstB (if n*sz=0 then [] else ((List.range (n*sz)).map λi=>zv.cells[i % zv.cells.size]!)) zero=true)
  (h1:n*sz<=16777216) (h2:n<=16777216) (hp:allB2 (λ(p:Nat×Operand) (q:Nat×RA)=>p.1 == q.1&&okA p.2 q.2) parts.toList qs=true)
  {z:AV} {st':St} {d:Nat} (hr:rop R.G st d (.bsl own sz n zero qs)=some (z,st')):Sim P R a W o z st':=by
 simp only[rop]at hr
 split at hr <;> try (simp at hr;done)
 rename_i cs hf;obtain ⟨p1,p2⟩:=Zc hp
 have hzl:zero.length=n*sz:=by
  have:=(Zc hzero).1
  split at this
  . simp at this;omega
  . simp at this;omega
 have hcl:cs.length=n*sz:=by rw[Z10 hf,hzl]
 obtain ⟨us,hus,hc⟩:=ZM (R:=R) (a:=a) (W:=W) (κ:=κ) (place:=λi=>some (i*sz,sz)) (parts:=parts.toList) (qs:=qs.map λp=>(p.1*sz,sz,p.2)) h hzero (by simpa using p1) (λi p q hp hq=>by
  simp only[W09,W04]at hq;obtain ⟨q',hq',rfl⟩:=hq;have:=p2 i p q' hp hq';simp only[W01,W0A]at this;exact ⟨by rw[this.1],this.2⟩) (by rw[W10];exact hf)
 have husz:us.size=n*sz:=by have:=hc.1;simp at this;omega
 have run:(Instr.buildSlice t n (parts.map λp=>(p.1,a.eval p.2))).run P W = .ok (.slice (some ⟨W.heap.size,0,none⟩) n n) (W.alloc (.cells us e)):=by
  have hz2:(zeroValue e).run P W = .ok zv W:=(by simp[zeroValue,typeInfo,hi,hz,Sem.run_bind]);simp only[Instr.buildSlice,Sem.run_bind,run_underlying hu,Result.andThen_ok,Zo hn];rw[if_neg (by omega)]
  have hfill:∀ (zc:Array Value),(n*sz≠0->zc=zv.cells)->Instr.fill (λi=>some (i*sz,sz)) ((Array.range (n*sz)).map (zc[· % zc.size]!)) ((parts.map λp=>(p.1,a.eval p.2)).toList)=some us:=by
   intro zc hzc;rw[<- hus]
   congr 1
   . by_cases c:n*sz=0
     . rw[if_pos c,c];simp
     . rw[if_neg c,hzc c]
       apply Array.ext'
       simp
   . simp
  by_cases c:n*sz=0
  . have hf2:=hfill #[] (λh=>absurd c h);have e0:(pure #[]:Sem (Array Value)).run P W = .ok #[] W:=rfl;rw[if_pos c,Sem.run_bind,e0];simp only[Result.andThen_ok,hf2,Sem.run_bind];rfl
  . rw[if_neg c];simp only[Sem.run_bind,hz2,Result.andThen_ok,Sem.run_pure];have:=hfill zv.cells (λ_=>rfl);simp only[this,Sem.run_bind];rfl
 have rowOk:RowOk (st.env R.M κ) W us 0 (.row sz (chunk sz n cs)):=by
  refine ⟨λr hr=>?_,by simp[chunk];omega,λi j r x hi hj=>?_⟩
  . obtain ⟨i,hi⟩:=W1E hr;obtain ⟨hin,rfl⟩:=Z11 hi;have:=Z12 (sz:=sz) hin;simp;omega
  . obtain ⟨hin,rfl⟩:=Z11 hi;have hj2:j<sz:=(by have:=(W02.1 hj).1;simp at this;omega);rw[W1k,if_pos hj2,W13]at hj;have hlt:i*sz+j<us.size:=(by have:=Z12 (sz:=sz) hin;omega);exact ⟨us[i*sz+j],by simp[hlt],hc.2 _ _ _ hj (by simp[hlt])⟩
 have exe:(execOp a.eval o).run P W = .ok (.value (.slice (some ⟨W.heap.size,0,none⟩) n n)) (W.alloc (.cells us e)):=by
  simp only[execOp,ho,Sem.run_bind];erw [run];rfl
 have hcn:(chunk sz n cs).length=n:=by simp[chunk]
 split at hr
 . split at hr <;> simp only[W00,W06,reduceCtorEq]at hr
   rename_i hd;obtain ⟨rfl,rfl⟩:=hr;obtain ⟨g1,g2⟩:=h.rowNew hd rowOk (c:=n) (by omega) (by unfold maxLen;omega) (by omega) e;rw[hcn]at g2;exact ⟨_,_,_,.inl exe,g1,g2⟩
 . split at hr <;> simp only[W00,W06,reduceCtorEq]at hr
   rename_i hp;obtain ⟨rfl,rfl⟩:=hr;have hE:Ext W (W.alloc (.cells us e)):=Ext.al (Ext.refl W);refine ⟨_,_,κ,.inl exe,h.grow hE,.pv ?_⟩
   have:=PV.vsl (M:=(st.env R.M κ).M) (W:=W.alloc (.cells us e)) (chunk sz n cs) (some ⟨W.heap.size,0,none⟩) n sz W.heap.size 0 (λi j=>us.getD (i*sz+j) Go.undef) (by omega) (by unfold maxLen;omega)
    (λ_=>⟨rfl,by simp,λhM=>by have:=h.owned_lt hM;omega⟩) (λe=>by cases e) rowOk.1 (λi j hi hj=>by
     have hlt:i*sz+j<us.size:=by have:=Z12 (sz:=sz) (show i<n by omega);omega
     have hcell:(W.alloc (.cells us e)).cell? ⟨W.heap.size,i*sz+j,none⟩=us[i*sz+j]?:=by
      unfold World.cell?;simp only[World.alloc_heap_new];rfl
     rw[W1I,hcell,W0a,W0n hlt];rfl) (λi j r x hi hj=>by
     obtain ⟨u,hu1,hu2⟩:=rowOk.2.2 i j r x hi hj;simp only[W1I]at hu1;simp only[W0a,hu1,W0P];obtain ⟨hin,rfl⟩:=Z11 hi
     have hx:x∈cs:=by
      rw[W1k]at hj
      split at hj <;> try (simp at hj;done)
      rw[W13]at hj;exact W0d hj
     exact (hu2.toPV (W03.1 hp x hx)).ext hE)
   rwa [hcn]at this
def Z14 (h:SK R st a W κ) {dflt:Nat} {x:Option Operand} {y:Option RA} (hk:okO x y=true) {n:Nat} (hb:bnd dflt (y.map (evA R.G st))=some n) :
  (x=none/\n=dflt)∨∃ l k,x=some l/\a.eval l = .int k (n:Int):=by
 cases x with
 | none =>
   cases y with
   |none=>simp only[Option.map_none,bnd,W00]at hb;exact .inl ⟨rfl,hb.symm⟩
   |some l'=>simp[okO]at hk
 | some l =>
   cases y with
   |none=>simp[okO]at hk
   | some l' =>
     have h1:=h.ev (show okA l l'=true from hk);simp only[W0m]at hb;unfold bnd at hb
     split at hb <;> try (simp at hb;done)
     . rename_i e;simp at e
     . rename_i k m e;simp only[W00]at e
       split at hb <;> simp only[W00,reduceCtorEq]at hb
       rename_i hpos;subst hb;rw[e]at h1;exact .inr ⟨l,k,rfl,by rw[h1.int_inv,Int.toNat_of_nonneg hpos]⟩
def Z15 {k:IntKind} {n y:Nat} {c:BoundsCode} (h:n<=y):(Instr.sliceBound (.int k (n:Int)) y c).run P W = .ok n W:=by
 simp only[Instr.sliceBound,asIntOf,Sem.run_bind,Sem.run_pure,Result.andThen_ok];rw[if_pos ⟨by omega,by omega⟩];simp
def Z16 (h:SK R st a W κ) {isS:Bool} {len cap l hh:Nat} {lo hi:Option Operand} {lo' hi':Option RA} (hl:okO lo lo'=true)
  (hhk:okO hi hi'=true) (h1:bnd 0 (lo'.map (evA R.G st))=some l) (h2:bnd len (hi'.map (evA R.G st))=some hh) (hle:l<=hh) (hcap:hh<=cap) (_hlen:hh<=len) :
  (Instr.sliceBounds isS len cap (lo.map a.eval) (hi.map a.eval) none).run P W = .ok (l,hh,cap) W:=by
 rcases Z14 h hl h1 with ⟨rfl,rfl⟩ | ⟨x,k,rfl,hx⟩ <;> rcases Z14 h hhk h2 with ⟨rfl,rfl⟩ | ⟨y,k',rfl,hy⟩
 . simp[Instr.sliceBounds,Sem.run_bind]
 . simp[Instr.sliceBounds,Sem.run_bind,hy,Z15 hcap]
 . simp[Instr.sliceBounds,Sem.run_bind,hx,Z15 hle]
 . simp[Instr.sliceBounds,Sem.run_bind,hx,hy,Z15 hle,Z15 hcap]
def Z17 (h:SK R st a W κ) {o:Oper} {t:TypeId} {x:Operand} {lo hi:Option Operand} {y:RA} {lo' hi':Option RA} (ho:o.op = .slice t x lo hi none)
  (hu:P.underlying t=some .string) (hk:okA x y=true) (hl:okO lo lo'=true)
  (hh:okO hi hi'=true)
  {z:AV} {st':St} {d:Nat} (hr:rop R.G st d (.sslc y lo' hi')=some (z,st')):Sim P R a W o z st':=by
 have h1:=h.ev hk;simp only[rop]at hr
 split at hr <;> try (simp at hr;done)
 rename_i s es
 split at hr <;> try (simp at hr;done)
 rename_i l hh' e1 e2
 split at hr <;> simp only[W00,W06,reduceCtorEq]at hr
 rename_i hc;obtain ⟨rfl,rfl⟩:=hr;rw[es]at h1;have hb:=λisS=>Z16 (P:=P) (W:=W) (isS:=isS) (cap:=s.size) h hl hh e1 e2 hc.1 hc.2 hc.2
 refine .val (v:=.string (s.extract l hh')) h ?_ (.pv (.str _));simp[execOp,ho,Instr.sliceAt,Sem.run_bind,run_underlying hu,Instr.slice,h1.str_inv,hb]
def Z18 (h:SK R st a W κ) {o:Oper} {t e:TypeId} {sz:Nat} {x:Operand} {lo hi:Option Operand} {y:RA} {lo' hi':Option RA} (ho:o.op = .slice t x lo hi none)
  (hu:P.underlying t=some (.slice e)) (hn:szB P e=some sz) (hk:okA x y=true) (hl:okO lo lo'=true)
  (hh:okO hi hi'=true)
  {z:AV} {st':St} {d:Nat} (hr:rop R.G st d (.slc sz y lo' hi')=some (z,st')):Sim P R a W o z st':=by
 have h1:=h.ev hk;simp only[rop]at hr
 split at hr <;> try (simp at hr;done)
 rotate_left
 . rename_i k n es
   split at hr <;> try (simp at hr;done)
   rename_i sz' rows hg
   split at hr <;> try (simp at hr;done)
   rename_i l hh' e1 e2
   split at hr <;> simp only[W00,W06,reduceCtorEq]at hr
   rename_i hc;obtain ⟨rfl,hn2,hc1,hc2⟩:=hc;obtain ⟨rfl,rfl⟩:=hr;rw[es]at h1;obtain ⟨b,s,cap,cs,t',g1,hv,g2,g3,g4,g5,g6,g7⟩:=h.osl h1 hg hn2;have hb:=Z16 (P:=P) (W:=W) (isS:=true) (cap:=cap) h hl hh e1 e2 hc1 (by omega) hc2;refine .val (v:=.slice (some (if cap=l then ⟨b,s,none⟩ else ⟨b,s+l*sz',none⟩)) (hh'-l) (cap-l)) h ?_ (.oss k n l hh' sz' rows.length _ _ _ (by simp[St.env,hg,AObj.dim]) (by omega) λ_=>⟨b,s,cs,t',_,g1,rfl,λhp=>by rw[if_neg (by omega)],rfl,hc1,hc2,by omega,by omega,g4,?_⟩)
   . simp[execOp,ho,Instr.sliceAt,Sem.run_bind,run_underlying hu,Instr.slice,hv,hb,Zo hn]
     split <;> simp[Addr.add_mid]
   . rw[show l+(cap-l)=cap by omega];exact g5
 . rename_i es
   split at hr <;> simp only[W00,W06,reduceCtorEq]at hr
   rename_i hc;obtain ⟨e1,e2⟩:=hc;obtain ⟨rfl,rfl⟩:=hr;rw[es]at h1;have hb:=Z16 (P:=P) (W:=W) (isS:=true) (cap:=0) h hl hh e1 e2 (W0f 0) (W0f 0) (W0f 0);refine .val (v:=.slice none 0 0) h ?_ (.pv .nils);simp[execOp,ho,Instr.sliceAt,Sem.run_bind,run_underlying hu,Instr.slice,h1.nils_inv,hb,Zo hn]
 rename_i rows es
 split at hr <;> try (simp at hr;done)
 rename_i l hh' e1 e2
 split at hr <;> simp only[W00,W06,reduceCtorEq]at hr
 rename_i hc;obtain ⟨hc1,hc2,hc3⟩:=hc;obtain ⟨rfl,rfl⟩:=hr;rw[es]at h1;obtain ⟨a',cap,sz',b,off,f,hv,g1,g2,g3,g4,g5,g6,g7⟩:=ZO h1.vsl_inv';have hb:=Z16 (P:=P) (W:=W) (isS:=true) (cap:=cap) h hl hh e1 e2 hc1 (by omega) hc2;have hlen:((rows.take hh').drop l).length=hh'-l:=by simp;omega
 have hsz:rows≠[]->sz'=sz:=λhne=>by
  obtain ⟨r,hr⟩:=List.exists_mem_of_ne_nil rows hne;rw[<- g5 r hr];simpa using W03.1 hc3 r hr
 refine .val (v:=.slice (if cap=l then a' else a'.map (·.add (l*sz))) (hh'-l) (cap-l)) h ?_ (.pv ?_)
 . simp[execOp,ho,Instr.sliceAt,Sem.run_bind,run_underlying hu,Instr.slice,hv,hb,Zo hn]
 . have key:=PV.vsl (M:=(st.env R.M κ).M) (W:=W) ((rows.take hh').drop l) (if cap=l then a' else a'.map (·.add (l*sz))) (cap-l) sz b (off+l*sz) (λi j=>f (l+i) j) (by omega) (by omega)
    (λhne=>by
     have hne2:rows≠[]:=by rintro rfl;simp at hne
     have hlt:l<hh':=by
      rcases W0q l hh' with c|c
      . exact c
      . exact absurd (W0l.1 (by rw[hlen];omega)) hne
     obtain ⟨rfl,k2,k3⟩:=g3 hne2;rw[if_neg (by omega)];exact ⟨by simp[Addr.add_mid],k2,k3⟩)
    (λhno=>by
     have:a'=none:=by
      split at hno
      . exact hno
      . simpa using hno
     obtain ⟨rfl,rfl⟩:=g4 this;exact ⟨by simp,by omega⟩)
    (λr hr=>by simpa using W03.1 hc3 r (W1p (W1L hr)))
    (λi j hi hj=>by
     have hne2:rows≠[]:=(by rintro rfl;simp at hi);have:=g6 (l+i) j (by omega) (by rw[hsz hne2];exact hj);rw[hsz hne2]at this;rw[<- this]
     congr 2
     rw[W0Z];omega)
    (λi j r x hi hj=>by
     rw[W13,W1k]at hi
     split at hi <;> try (simp at hi;done)
     exact g7 (l+i) j r x hi hj)
   rwa [hlen]at key
def Z19 (h:SK R st a W κ) {o:Oper} {t e:TypeId} {n c:Operand} {n':RA} {ie:TypeInfo} {zv:Value} {sz bytes:Nat} {zero:List AV} (ho:o.op = .makeSlice t n c) (hu:P.underlying t=some (.slice e)) (hi:P.info? e=some ie)
  (hsz:ie.size=sz) (hby:ie.bytes=bytes) (hz:ie.zero=some zv) (hzero:allB2 cstB zv.cells.toList zero=true) (hk:okA n n'=true) (hk2:okA c n'=true)
  {z:AV} {st':St} {d:Nat} (hr:rop R.G st d (.mksl sz bytes zero n')=some (z,st')):Sim P R a W o z st':=by
 have h1:=h.ev hk;have h2:=h.ev hk2;simp only[rop]at hr
 split at hr <;> try (simp at hr;done)
 rename_i k m en
 split at hr <;> try (simp at hr;done)
 rename_i hc;obtain ⟨hpos,hle,hbytes,hzl⟩:=hc
 split at hr <;> simp only[W00,W06,reduceCtorEq]at hr
 rename_i hd;obtain ⟨rfl,rfl⟩:=hr;rw[en]at h1 h2;have en1:=h1.int_inv;have en2:=h2.int_inv;obtain ⟨q,rfl⟩:=Int.eq_ofNat_of_zero_le hpos;have hzs:zv.cells.size=sz:=by have:=(Zc hzero).1;simp at this;omega
 have hmul:(ie.bytes:Int)*(q:Int)<=281474976710656:=by
  have:ie.bytes*q<=65536*16777216:=Nat.mul_le_mul (by omega) (by omega);have h3:ie.bytes*q<=281474976710656:=W0O this (by omega);rw[<- Int.natCast_mul];omega
 have run:=run_make W t e ie zv hu hi hz k k (q:Int) (q:Int) (by omega) (W1R _) hmul (by omega);simp only[Int.toNat_natCast,hsz]at run ⊢;have husz:(madeCells zv.cells (q*sz)).size=q*sz:=(by simp[madeCells]);have hcst:=ZB (E:=st.env R.M κ) (W:=W) hzero
 obtain ⟨g1,g2⟩:=h.rowNew hd (sz:=sz) (rows:=List.replicate q zero) (us:=madeCells zv.cells (q*sz)) (c:=q) ⟨λr hr=>by rw[List.eq_of_mem_replicate hr,hzl],by rw[husz];simp,λi j r x hi2 hj=>by
  rw[List.getElem?_replicate]at hi2
  split at hi2 <;> simp only[W00,reduceCtorEq]at hi2
  rename_i hiq;subst hi2;have hj2:j<sz:=(by have:=(W02.1 hj).1;omega);have hlt:i*sz+j<q*sz:=(by have:=Z12 (sz:=sz) hiq;omega);have hmod:(i*sz+j) % sz=j:=(by rw[Nat.mul_comm,Nat.mul_add_mod,Nat.mod_eq_of_lt hj2]);refine ⟨zv.cells[j]'(by omega),?_,hcst.2 j x _ hj (by simp)⟩;simp only[W1I,madeCells,Array.getElem?_map,Array.getElem?_range,if_pos hlt,W0m,hzs,hmod,W00];rw[getElem!_pos _ _ (by omega)]⟩ (by simp) (by unfold maxLen;omega) (by rw[husz];omega) e
 rw[W1C]at g2;exact ⟨_,_,_,.inl (by simp only[execOp,ho,en1,en2,Sem.run_bind,run,Result.andThen_ok,Sem.run_pure]),g1,g2⟩
def Z1a (h:SK R st a W κ) {x:AV} {v:Value} {sz:Nat} {ys:List (List AV)} (hx:VR (st.env R.M κ) W x v) (hr:Z9 st sz x=some ys) :
  ∃ p c,v = .slice p ys.length c/\(p=none->ys=[])/\(∀ r∈ys,r.length=sz)/\∃ f:Nat->Value,(ys≠[]->∃ ad,p=some ad/\∀ i j,i<ys.length->j<sz->W.cell? (ad.add (i*sz+j))=some (f (i*sz+j))) /\
    ∀ (i j:Nat) (r:List AV) (x:AV),ys[i]? = some r->r[j]? = some x->VR (st.env R.M κ) W x (f (i*sz+j)):=by
 have hrl:∀ {ys:List (List AV)},(∀ r∈ys,r.length=sz)->∀ {i j:Nat} {r:List AV} {x:AV},ys[i]? = some r->r[j]? = some x->i<ys.length/\j<sz:=λ{ys} h {i j r x} hi hj =>
  ⟨(W02.1 hi).1,by have:=(W02.1 hj).1;rw[h r (W0d hi)]at this;exact this⟩
 unfold Z9 at hr
 split at hr <;> try (simp at hr;done)
 . rename_i rows
   split at hr <;> simp only[W00,reduceCtorEq]at hr
   rename_i hall;subst hr;have hsz:∀ r∈rows,r.length=sz:=λr hr=>by simpa using W03.1 hall r hr
   obtain ⟨a',cap,sz',b,off,f,rfl,g1,g2,g3,g4,g5,g6,g7⟩:=ZO hx.vsl_inv'
   have hsz':rows≠[]->sz'=sz:=λhne=>by
    obtain ⟨r,hr⟩:=List.exists_mem_of_ne_nil rows hne;rw[<- g5 r hr,hsz r hr]
   refine ⟨a',cap,rfl,λe=>(g4 e).1,hsz,λq=>(W.cell? ⟨b,off+q,none⟩).getD Go.undef,λhne=>?_,λi j r x hi hj=>?_⟩
   . obtain ⟨rfl,-,-⟩:=g3 hne;refine ⟨_,rfl,λi j hi hj=>?_⟩;have:=g6 i j hi (by rw[hsz' hne];exact hj);rw[hsz' hne,W1s]at this;rw[Addr.add_mid];show W.cell? _=some ((W.cell? ⟨b,off+(i*sz+j),none⟩).getD Go.undef);rw[this];rfl
   . obtain ⟨l1,l2⟩:=hrl hsz hi hj;have hne:rows≠[]:=(by rintro rfl;simp at l1);have:=g6 i j l1 (by rw[hsz' hne];exact l2);rw[hsz' hne,W1s]at this;simp only[this,W0P];exact .pv (g7 i j r x hi hj)
 . simp only[W00]at hr;subst hr;exact ⟨none,0,hx.nils_inv,λ_=>rfl,by simp,λ_=>Go.undef,λh=>absurd rfl h,by simp⟩
 . simp only[W00]at hr;subst hr;obtain ⟨a',cap,rfl⟩:=hx.nes_inv;exact ⟨some a',cap,rfl,(λe=>by cases e),by simp,λ_=>Go.undef,λh=>absurd rfl h,by simp⟩
 . rename_i k n
   split at hr <;> try (simp at hr;done)
   rename_i sz' rows hg
   split at hr <;> simp only[W00,reduceCtorEq]at hr
   rename_i hc;obtain ⟨rfl,hn⟩:=hc;subst hr;subst hn;obtain ⟨b,s,c,cs,t,g1,rfl,g2,g3,g4,g5,g6,g7⟩:=h.osl hx hg rfl;refine ⟨_,c,rfl,(λe=>by cases e),g6,λq=>cs.getD (s+q) Go.undef,λ_=>⟨_,rfl,λi j hi hj=>?_⟩,λi j r x hi hj=>?_⟩
   . have h1:=Z12 (sz:=sz') hi;have h2:=W0I sz' g2;have hlt:s+(i*sz'+j)<cs.size:=(by omega);rw[Addr.add_mid];simp[World.cell?,g4,W0a,hlt]
   . obtain ⟨u,hu,hq⟩:=g7 i j r x hi hj;rw[W1s]at hu;simp only[W0a,hu,W0P];exact hq
 . rename_i k n lo hi
   split at hr <;> try (simp at hr;done)
   rename_i sz' rows hg
   split at hr <;> simp only[W00,reduceCtorEq]at hr
   rename_i hc;obtain ⟨rfl,hn⟩:=hc;subst hr;subst hn;obtain ⟨b,s,c,cs,t,ad,g1,rfl,g2,g3,g4,g5,g6,g7,g8,g9,g10,g11⟩:=h.oss hx hg rfl;have hlen:((rows.take hi).drop lo).length=hi-lo:=(by simp;omega);have hmem:∀ r∈(rows.take hi).drop lo,r.length=sz':=λr hr=>g9 r (W1p (W1L hr))
   refine ⟨_,c,by rw[hlen],(λe=>by cases e),hmem,λq=>cs.getD (s+lo*sz'+q) Go.undef,λhne=>⟨_,rfl,λi j hi2 hj=>?_⟩,λi j r x hi2 hj=>?_⟩
   . rw[hlen]at hi2;obtain rfl:=g2 (by omega);have h1:=Z12 (sz:=sz') (show lo+i<hi by omega);have h2:=W0I sz' g4;rw[W0Z]at h1;have hlt:s+lo*sz'+(i*sz'+j)<cs.size:=(by omega);rw[Addr.add_mid];simp[World.cell?,g7,W0a,hlt]
   . rw[W13,W1k]at hi2
     split at hi2 <;> try (simp at hi2;done)
     obtain ⟨u,hu,hq⟩:=g10 (lo+i) j r x hi2 hj;rw[W0Z,show s+(lo*sz'+i*sz')+j=s+lo*sz'+(i*sz'+j) by omega]at hu;simp only[W0a,hu,W0P];exact hq
def SK.regrow (h:SK R st a W κ) {k b s sz:Nat} {rows rows':List (List AV)} {cs:Array Value} {t:TypeId} {nb:Nat×Nat} (hg:st.get k=some (.row sz rows)) (hk:κ k=some (b,s)) (hlen:rows.length<rows'.length)
  (hz:W.heap.size<=W'.heap.size) (hot:∀ i,i<W.heap.size->i≠b->W'.heap[i]? = W.heap[i]?) (hos:W'.os=W.os) (hta:W'.tape=W.tape) (hou:W'.output=W.output)
  (hw:W'.heap[nb.1]? = some (.cells cs t (0,0))) (hnb:nb=(b,s)∨(nb=(W.heap.size,0)/\W.heap.size<W'.heap.size/\W'.heap[b]? = W.heap[b]?))
  (hr:(∀ r∈rows',r.length=sz)/\nb.2+rows'.length*sz<=cs.size/\∀ (i j:Nat) (r:List AV) (x:AV),rows'[i]? = some r->r[j]? = some x->∃ v,cs[nb.2+i*sz+j]? = some v/\VR (st.env R.M κ) W x v) :
  SK R (st.set k (.row sz rows')) a W' (λj=>if j=k then some nb else κ j)/\Mono (st.env R.M κ) W ((st.set k (.row sz rows')).env R.M (λj=>if j=k then some nb else κ j)) W':=by
 obtain ⟨b1,s1,g1,g2,g3,g4⟩:=h.obj k _ hg;rw[hk]at g1;simp only[W00,W06]at g1;obtain ⟨rfl,rfl⟩:=g1
 have m : Mono (st.env R.M κ) W ((st.set k (.row sz rows')).env R.M (λj=>if j=k then some nb else κ j)) W':=by
  refine ⟨hz,λi hi hM=>⟨?_,hot i hi (λe=>hM (.inr ⟨k,s,by rw[e];exact hk⟩))⟩,λj p hj hrj=>?_,λj sz' m hj=>?_⟩
  . rintro (h1 | ⟨j,s',h1⟩)
    . exact hM (.inl h1)
    . by_cases e:j=k
      . simp only[e,if_true,W00]at h1;rcases hnb with hnb | ⟨hnb,-,-⟩
        . rw[hnb]at h1;simp only[W06]at h1;exact hM (.inr ⟨k,s,by rw[<- h1.1];exact hk⟩)
        . rw[hnb]at h1;simp only[W06]at h1;omega
      . simp only[e,if_false]at h1;exact hM (.inr ⟨j,s',h1⟩)
  . have e:¬j=k:=(by rintro rfl;simp[St.env,hg,AObj.dim]at hrj);refine ⟨by simp only[St.env,e,if_false];exact hj,?_⟩;simp only[St.env,St.get_set];rw[if_neg (λe2=>e e2.symm)];exact hrj
  . by_cases e:j=k
    . subst e;simp only[St.env,hg,W1m,AObj.dim,W00,W06]at hj;obtain ⟨rfl,rfl⟩:=hj;exact ⟨rows'.length,by simp[St.env,St.get_set,AObj.dim],by omega,λe=>by omega⟩
    . refine ⟨m,?_,W0f _,λ_ b' s' cs' t' hl=>⟨by simp only[St.env,e,if_false];exact hl,λhw'=>⟨cs',?_,rfl⟩⟩⟩
      . simp only[St.env,St.get_set];rw[if_neg (λe2=>e e2.symm)];exact hj
      . rw[hot b' (h.loc_lt hl) (λe2=>e (h.inj j k b s' s (by rw[<- e2];exact hl) hk))];exact hw'
 refine ⟨⟨h.defers.of (λc hc=>(hot c (W0c.1 hc).1 (by rintro rfl;obtain ⟨-,cs0,t0,q,-⟩:=g4;rw[q]at hc;cases hc)).trans hc),h.size,λn x hx=>(h.tm n x hx).mono m,λj o hj=>?_,λj p hj=>?_,λj j' b2 s2 s2' hj hj'=>?_,h.low,h.apart,?_,h.gr.mono m.imm m.size,h.mono.trans m,h.ent⟩,m⟩
 . rw[St.get_set]at hj;by_cases e:k=j
   . subst e;rw[if_pos rfl]at hj;simp only[W00]at hj;subst hj;refine ⟨nb.1,nb.2,by simp,(W0c.1 hw).1,?_,hr.1,cs,t,hw,hr.2.1,λi j r x hi hj=>(hr.2.2 i j r x hi hj).imp λv hv=>⟨hv.1,hv.2.mono m⟩⟩;rcases hnb with hnb | ⟨hnb,-,-⟩
     . rw[hnb];exact g3
     . rw[hnb];exact .inl h.kp.size
   . rw[if_neg e]at hj;obtain ⟨b2,s2,h1,h2,h3,h4⟩:=h.obj j o hj;have hne:b2≠b:=λe2=>e (h.inj k j b s s2 hk (by rw[<- e2];exact h1))
     refine ⟨b2,s2,by rw[if_neg (λe2=>e e2.symm)];exact h1,by omega,h3,h4.mono m (hot b2 h2 hne)⟩
 . rw[St.get_set];by_cases e:k=j
   . exact ⟨_,by rw[if_pos e]⟩
   . rw[if_neg e];rw[if_neg (λe2=>e e2.symm)]at hj;exact h.dom j p hj
 . by_cases e:j=k <;> by_cases e':j'=k
   . rw[e,e']
   . simp only[e,e',if_true,if_false,W00]at hj hj';exfalso;rcases hnb with hnb | ⟨hnb,-,-⟩
     . rw[hnb]at hj;simp only[W06]at hj;exact e' (h.inj j' k b2 s2' s hj' (by rw[<- hj.1];exact hk))
     . rw[hnb]at hj;simp only[W06]at hj;have:=h.loc_lt hj';omega
   . simp only[e,e',if_true,if_false,W00]at hj hj';exfalso;rcases hnb with hnb | ⟨hnb,-,-⟩
     . rw[hnb]at hj';simp only[W06]at hj';exact e (h.inj j k b2 s2 s hj (by rw[<- hj'.1];exact hk))
     . rw[hnb]at hj';simp only[W06]at hj';have:=h.loc_lt hj;omega
   . simp only[e,e',if_false]at hj hj';exact h.inj j j' b2 s2 s2' hj hj'
 . refine ⟨hos.trans h.kp.os, hta.trans h.kp.tape, hou.trans h.kp.output,W0O h.kp.size hz,λi hi hx=>?_⟩
   rw [hot i (Nat.lt_of_lt_of_le hi h.kp.size) (by rintro rfl;rcases g3 with g3|g3
                                                   . omega
                                                   . exact hx g3)]
   exact h.kp.block i hi hx
def Z1b (h:SK R st a W κ) {o:Oper} {c:Call} {t e:TypeId} {ie:TypeInfo} {zv:Value} {sz bytes:Nat} {s x:Operand} {s' x':RA} (ho:o.op = .call c) (hc:c={ callee:=.builtin .append,args:=⟨[s,x]⟩,argTypes:=⟨[t,t]⟩ })
  (hu:P.underlying t=some (.slice e)) (hi:P.info? e=some ie) (hsz:ie.size=sz) (hsz0:0<sz) (hby:ie.bytes=bytes) (hby0:0<bytes) (hz:ie.zero=some zv) (hzs:zv.cells.size=sz) (hk:okA s s'=true) (hk2:okA x x'=true)
  {z:AV} {st':St} {d:Nat} (hr:rop R.G st d (.app sz bytes s' x')=some (z,st')):Sim P R a W o z st':=by
 have h1:=h.ev hk;have h2:=h.ev hk2;subst hc;subst hsz;subst hby
 have exe:∀ {v:Value} {W':World},(Builtin.append_ #[t,t] o.type #[a.eval s,a.eval x]).run P W = .ok v W'->(execOp a.eval o).run P W = .ok (.value v) W':=λ{v W'} hrun=>by
  simp only[execOp,ho,resolve,invoke,builtin,Sem.run_bind,Sem.run_pure,Result.andThen_ok,List.map_toArray,W0F,W1c,hrun]
 simp only[rop]at hr
 split at hr <;> try (simp at hr;done)
 rename_i ys hys
 split at hr <;> try (simp at hr;done)
 rename_i hone;obtain ⟨p,cx,hxv,hpn,hyl,f,hfc,hfv⟩:=Z1a h h2 hys
 have hnews:ys≠[]->∃ ad,p=some ad/\(∀ (j:Nat) (u:Value),((List.range (ys.length*ie.size)).map f)[j]? = some u->W.cell? (ad.add j)=some u)/\∀ u∈(List.range (ys.length*ie.size)).map f,u.oneCell'=true:=λhne=>by
  obtain ⟨ad,hp,hcell⟩:=hfc hne
  have split:∀ q,q<ys.length*ie.size->q / ie.size<ys.length/\q % ie.size<ie.size/\q / ie.size*ie.size+q % ie.size=q:=λq hq =>
   ⟨Nat.div_lt_of_lt_mul (by rwa [Nat.mul_comm]),Nat.mod_lt _ hsz0,by rw[Nat.mul_comm];exact Nat.div_add_mod q ie.size⟩
  refine ⟨ad,hp,λj u hj=>?_,λu hu=>?_⟩
  . have hlt:j<ys.length*ie.size:=(by have:=(W02.1 hj).1;simpa using this);rw[W09,W0L hlt]at hj;simp only[W0m,W00]at hj;obtain ⟨q1,q2,q3⟩:=split j hlt;have:=hcell _ _ q1 q2;rw[q3]at this;rw[this,hj]
  . obtain ⟨q,hq,rfl⟩:=W0i.1 hu;have hlt:q<ys.length*ie.size:=(by simpa using hq);obtain ⟨q1,q2,q3⟩:=split q hlt;have hrr:=hyl ys[q / ie.size] (W0e q1);have hq2:q % ie.size<(ys[q / ie.size]).length:=(by rw[hrr];exact q2);have:=hfv (q / ie.size) (q % ie.size) (ys[q / ie.size]) ((ys[q / ie.size])[q % ie.size]) (W07 q1) (W07 hq2);rw[q3]at this;exact this.oneCell (W03.1 (W03.1 hone _ (W0e q1)) _ (W0e _))
 have hnl:((List.range (ys.length*ie.size)).map f).length=ys.length*ie.size:=by simp
 have newCells:∀ (i j:Nat) (r:List AV) (y:AV),ys[i]? = some r->r[j]? = some y->i*ie.size+j<ys.length*ie.size/\VR (st.env R.M κ) W y (f (i*ie.size+j)):=λi j r y hi hj=>by
  have hil:i<ys.length:=(W02.1 hi).1;have hjl:j<ie.size:=(by have:=(W02.1 hj).1;rw[hyl r (W0d hi)]at this;exact this);have:=Z12 (sz:=ie.size) hil;exact ⟨by omega,hfv i j r y hi hj⟩
 split at hr <;> try (simp at hr;done)
 . rename_i es;rw[es]at h1;have hsv:=h1.nils_inv
   split at hr
   . rename_i he;simp only[W00,W06]at hr;obtain ⟨rfl,rfl⟩:=hr;subst he;refine ⟨.slice none 0 0,W,κ,.inl (exe ?_),h,.pv .nils⟩;rw[hsv,hxv]
     cases p with
     |none=>simp[Builtin.append_,run_underlying hu,sizeOf,typeInfo,hi,Builtin.lenOf,Builtin.firstCells,Sem.run_bind]
     |some ad=>simp[Builtin.append_,run_underlying hu,sizeOf,typeInfo,hi,Builtin.lenOf,Builtin.firstCells,loadCells,loadCellsFrom,Sem.run_bind]
   . rename_i hne
     split at hr <;> try (simp at hr;done)
     rename_i hb
     split at hr <;> simp only[W00,W06,reduceCtorEq]at hr
     rename_i hd;obtain ⟨rfl,rfl⟩:=hr;obtain ⟨ad,rfl,n1,n2⟩:=hnews hne;have hpos:0<ys.length:=by cases ys with|nil=>exact absurd rfl hne|cons _ _=>simp
     have hyb:ys.length<=70368744177664:=W0O (Nat.le_mul_of_pos_right _ hby0) hb;have hrun:=run_append_nil (P:=P) W t o.type e ie zv hu hi hz ad ys.length cx _ hnl n1 hpos (by omega) (by omega);have hge:=grownCap_ge W ys.length 0 e;have hcm:grownCap W ys.length 0 e<=maxLen:=grownCap_le_maxLen W ys.length 0 e (by unfold maxLen;omega);have hE:Ext W W.drew:=Ext.dr (Ext.refl W)
     obtain ⟨g1,g2⟩:=(h.grow hE).rowNew hd (sz:=ie.size) (rows:=ys) (us:=((List.range (ys.length*ie.size)).map f).toArray++Builtin.zeroCells zv.cells (grownCap W ys.length 0 e-ys.length)) (c:=grownCap W ys.length 0 e)
      ⟨hyl,by simp[size_zeroCells],λi j r y hi hj=>by
       obtain ⟨q1,q2⟩:=newCells i j r y hi hj;refine ⟨f (i*ie.size+j),?_,q2.mono (.grow hE (λk b s hk=>h.loc_lt hk))⟩;rw[W1I,W0W,if_pos (by simpa using q1)];simp[q1]⟩ hge hcm (by simp[size_zeroCells,hzs,<- W0Z];rw[show ys.length+(grownCap W ys.length 0 e-ys.length)=grownCap W ys.length 0 e by omega];exact W0f _) e
     exact ⟨_,_,_,.inl (exe (by rw[hsv,hxv];exact hrun)),g1,g2⟩
 . rename_i k n es;rw[es]at h1
   split at hr <;> try (simp at hr;done)
   rename_i sz' rows hg
   split at hr <;> try (simp at hr;done)
   rename_i hc;obtain ⟨rfl,hn,hb⟩:=hc;obtain ⟨b,s0,cap,cs,t0,g1,hsv,g2,g3,g4,g5,g6,g7⟩:=h.osl h1 hg hn
   split at hr
   . rename_i he;simp only[W00,W06]at hr;obtain ⟨rfl,rfl⟩:=hr;subst he;refine ⟨_,W,κ,.inl (exe (v:=a.eval s) ?_),h,h1⟩;rw[hsv,hxv];have hnc:n<=cap:=g2
     cases p with
     |none=>simp[Builtin.append_,run_underlying hu,sizeOf,typeInfo,hi,Builtin.lenOf,Builtin.firstCells,Sem.run_bind,hnc,storeCells]
     |some ad=>simp[Builtin.append_,run_underlying hu,sizeOf,typeInfo,hi,Builtin.lenOf,Builtin.firstCells,loadCells,loadCellsFrom,Sem.run_bind,hnc,storeCells]
   . rename_i hne;simp only[W00,W06]at hr;obtain ⟨rfl,rfl⟩:=hr;obtain ⟨ad,rfl,n1,n2⟩:=hnews hne;have hpos:0<ys.length:=by cases ys with|nil=>exact absurd rfl hne|cons _ _=>simp
     have hyb:n+ys.length<=70368744177664:=W0O (Nat.le_mul_of_pos_right _ hby0) hb;have hblt:=h.loc_lt g1
     have hrows:∀ r∈rows++ys,r.length=ie.size:=λr hr=>by
      rcases W0h.1 hr with hr|hr
      . exact g6 r hr
      . exact hyl r hr
     subst hn;by_cases hroom:rows.length+ys.length<=cap
     . -- in its place
       have hcap:=W0I ie.size hroom;rw[W0Z]at hcap;obtain ⟨cs',c1,c2,c3,c4⟩:=ZD b ((List.range (ys.length*ie.size)).map f) (s0+rows.length*ie.size) W cs t0 g4 (by rw[hnl];omega);have hrun:=run_append_room_cells (P:=P) W t o.type e ie hu hi b s0 rows.length cap ad ys.length cx _ hnl n1 n2 hroom (λj hj=>by rw[hnl]at hj;simp[World.cell?,g4];omega) (λj _=>by simp[World.frozen?,g4])
       obtain ⟨k1,k2⟩:=h.regrow (rows':=rows++ys) (nb:=(b,s0)) (W':=W.setCells b (s0+rows.length*ie.size) ((List.range (ys.length*ie.size)).map f)) hg g1 (by simp;exact hpos) (by rw[ZE];exact W0f _)
        (λi hi hne=>World.heap_setCells_other W b _ _ hi hne) (World.os_setCells W b _ _) (ZF b _ _ W) (World.output_setCells W b _ _) c1 (.inl rfl)
        ⟨hrows,by rw[c2,W0s,W0Z];omega,λi j r y hi hj=>by
         rw[W1q]at hi
         split at hi
         . rename_i hil;obtain ⟨u,hu,hv⟩:=g7 i j r y hi hj;have hjl:j<ie.size:=(by have:=(W02.1 hj).1;rw[g6 r (W0d hi)]at this;exact this);have:=Z12 (sz:=ie.size) hil;exact ⟨u,(c3 _ (.inl (by simp only;omega))).trans hu,hv⟩
         . rename_i hil;obtain ⟨q1,q2⟩:=newCells _ j r y hi hj;refine ⟨f ((i-rows.length)*ie.size+j),?_,q2⟩;have:=c4 ((i-rows.length)*ie.size+j) (f ((i-rows.length)*ie.size+j)) (by rw[W09,W0L q1];rfl);rw[<- this]
           congr 1
           have e2:i*ie.size=rows.length*ie.size+(i-rows.length)*ie.size:=(by rw[<- W0Z];congr 1;omega);simp only;omega⟩
       refine ⟨_,_,_,.inl (exe (by rw[hsv,hxv];exact hrun)),k1,.osl k _ ie.size (rows++ys).length _ _ _ (by simp[St.env,St.get_set,AObj.dim]) (by simp) λ_=>⟨b,s0,cs',t0,by simp[St.env],rfl,by simp,by simpa using hroom,g3,c1,by omega⟩⟩
     . -- in a new row
       have hlo:((List.range (rows.length*ie.size)).map λq=>cs.getD (s0+q) Go.undef).length=rows.length*ie.size:=(by simp);have hcap2:=W0I ie.size g2
       have hrun:=run_append_grow (P:=P) W t o.type e ie zv hu hi hz ⟨b,s0,none⟩ rows.length cap ((List.range (rows.length*ie.size)).map λq=>cs.getD (s0+q) Go.undef) hlo (λj v hj=>by
        have hlt:j<rows.length*ie.size:=(by have:=(W02.1 hj).1;simpa using this);rw[W09,W0L hlt]at hj;simp only[W0m,W00]at hj;have hlt2:s0+j<cs.size:=(by omega);rw[Addr.add_mid,<- hj];simp[World.cell?,g4,W0a,hlt2]) ad ys.length cx _ hnl n1 (by omega) (by omega) (growslice_fits (by omega) (by omega))
       have hge:=grownCap_ge W (rows.length+ys.length) cap e;have hcm:grownCap W (rows.length+ys.length) cap e<=maxLen:=grownCap_le_maxLen W (rows.length+ys.length) cap e (by unfold maxLen;omega);generalize hgc:grownCap W (rows.length+ys.length) cap e=gc at *
       have hus:(((List.range (rows.length*ie.size)).map λq=>cs.getD (s0+q) Go.undef).toArray++((List.range (ys.length*ie.size)).map f).toArray++Builtin.zeroCells zv.cells (gc-(rows.length+ys.length))).size=gc*ie.size:=by
        simp only[Array.size_append,List.size_toArray,hlo,hnl,size_zeroCells,hzs,<- W0Z]
        congr 1;omega
       have hgm:=W0I ie.size hge
       obtain ⟨k1,k2⟩:=h.regrow (rows':=rows++ys) (nb:=(W.heap.size,0)) (W':=W.drew.alloc (.cells (((List.range (rows.length*ie.size)).map λq=>cs.getD (s0+q) Go.undef).toArray++((List.range (ys.length*ie.size)).map f).toArray++Builtin.zeroCells zv.cells (gc-(rows.length+ys.length))) e)) hg g1 (by simp;exact hpos) (by simp)
        (λi hi _=>heap_alloc_old W.drew _ i hi) rfl rfl rfl (heap_alloc_new W.drew _) (.inr ⟨rfl,by simp,heap_alloc_old W.drew _ b hblt⟩)
        ⟨hrows,by rw[hus,W0s];simp only;omega,λi j r y hi hj=>by
         rw[W1q]at hi
         split at hi
         . rename_i hil;obtain ⟨u,hu,hv⟩:=g7 i j r y hi hj;have hjl:j<ie.size:=(by have:=(W02.1 hj).1;rw[g6 r (W0d hi)]at this;exact this);have hm:=Z12 (sz:=ie.size) hil;refine ⟨u,?_,hv⟩;simp only[W1I];rw[W0W,if_pos (by simp;omega),W0W,if_pos (by simp;omega)];rw[<- hu];simp only[W2b,W09,W0L (show i*ie.size+j<rows.length*ie.size by omega),W0m,W0a];rw[<- W1s,hu];rfl
         . rename_i hil;obtain ⟨q1,q2⟩:=newCells _ j r y hi hj;refine ⟨f ((i-rows.length)*ie.size+j),?_,q2⟩;have e2:i*ie.size=rows.length*ie.size+(i-rows.length)*ie.size:=(by rw[<- W0Z];congr 1;omega);simp only[W1I];rw[W0W,if_pos (by simp;omega),W0W,if_neg (by simp;omega)];simp only[List.size_toArray,hlo];rw[show i*ie.size+j-rows.length*ie.size=(i-rows.length)*ie.size+j by omega,W2b,W09,W0L q1];rfl⟩
       refine ⟨_,_,_,.inl (exe (by rw[hsv,hxv];exact hrun)),k1,.osl k _ ie.size (rows++ys).length _ _ _ (by simp[St.env,St.get_set,AObj.dim]) (by simp) λ_=>⟨W.heap.size,0,_,e,by simp[St.env],rfl,by simp,by simpa using hge,hcm,heap_alloc_new W.drew _,by rw[hus];omega⟩⟩
 . rename_i k n lo hi2 es;rw[es]at h1
   split at hr <;> try (simp at hr;done)
   rename_i sz' rows hg
   split at hr <;> try (simp at hr;done)
   rename_i hc;obtain ⟨rfl,hn,rfl,hb⟩:=hc;obtain ⟨b,s0,cap,cs,t0,ad0,g1,hsv,q1,q2,q3,g2,g3,g4,g5,g6,g7,q4⟩:=h.oss h1 hg hn;simp only[W1P,Nat.zero_mul,W1Q,W1I]at q1 g2 g5 hsv
   split at hr
   . rename_i he;simp only[W00,W06]at hr;obtain ⟨rfl,rfl⟩:=hr;subst he;refine ⟨_,W,κ,.inl (exe (v:=a.eval s) ?_),h,h1⟩;rw[hsv,hxv];have hnc:hi2<=cap:=by omega
     cases p with
     |none=>simp[Builtin.append_,run_underlying hu,sizeOf,typeInfo,hi,Builtin.lenOf,Builtin.firstCells,Sem.run_bind,hnc,storeCells]
     |some ad=>simp[Builtin.append_,run_underlying hu,sizeOf,typeInfo,hi,Builtin.lenOf,Builtin.firstCells,loadCells,loadCellsFrom,Sem.run_bind,hnc,storeCells]
   . rename_i hne;obtain ⟨ad,rfl,n1,n2⟩:=hnews hne;have hpos:0<ys.length:=by cases ys with|nil=>exact absurd rfl hne|cons _ _=>simp
     have hyb:hi2+ys.length<=70368744177664:=W0O (Nat.le_mul_of_pos_right _ hby0) hb;have hblt:=h.loc_lt g1;subst hn;have htk:(rows.take hi2).length=hi2:=by simp;omega
     split at hr
     . -- inside
       rename_i hin;simp only[W00,W06]at hr;obtain ⟨rfl,rfl⟩:=hr;obtain rfl:=q1 (by omega);have hcap:=W0I ie.size hin;rw[W0Z]at hcap;have hroom:hi2+ys.length<=cap:=(by omega);obtain ⟨cs',c1,c2,c3,c4⟩:=ZD b ((List.range (ys.length*ie.size)).map f) (s0+hi2*ie.size) W cs t0 g4 (by rw[hnl];omega);have hrun:=run_append_room_cells (P:=P) W t o.type e ie hu hi b s0 hi2 cap ad ys.length cx _ hnl n1 n2 hroom (λj hj=>by rw[hnl]at hj;simp[World.cell?,g4];omega) (λj _=>by simp[World.frozen?,g4]);have hlen:(rows.take hi2++ys++rows.drop (hi2+ys.length)).length=rows.length:=by simp;omega
       have hmem:∀ r∈rows.take hi2++ys++rows.drop (hi2+ys.length),r.length=ie.size:=λr hr=>by
        simp only[W0h]at hr;rcases hr with (hr|hr)|hr
        . exact g6 r (W1p hr)
        . exact hyl r hr
        . exact g6 r (W1L hr)
       have hdim:(AObj.row ie.size (rows.take hi2++ys++rows.drop (hi2+ys.length))).dim=(AObj.row ie.size rows).dim:=by simp only[AObj.dim];rw[hlen]
       have k1:=h.change (cs':=cs') (W':=W.setCells b (s0+hi2*ie.size) ((List.range (ys.length*ie.size)).map f)) hg g1 g4 hdim c2 (by rw[ZE]) c1 (λi hi hne=>World.heap_setCells_other W b _ _ hi hne) (World.os_setCells W b _ _) (ZF b _ _ W) (World.output_setCells W b _ _)
        ⟨hmem,by rw[hlen,c2];exact q4,λi j r y hir hj=>by
         have hjl:j<ie.size:=(by have:=(W02.1 hj).1;rw[hmem r (W0d hir)]at this;exact this);rw[W1q]at hir
         split at hir
         . rename_i hil;simp only[W0s,htk]at hil;rw[W1q]at hir
           split at hir
           . rename_i hil2;rw[htk]at hil2;rw[List.getElem?_take_of_lt hil2]at hir;obtain ⟨u,hu,hv⟩:=g7 i j r y hir hj;have:=Z12 (sz:=ie.size) hil2;exact ⟨u,(c3 _ (.inl (by omega))).trans hu,hv⟩
           . rename_i hil2;rw[htk]at hil2 hir;obtain ⟨z1,z2⟩:=newCells _ j r y hir hj;refine ⟨f ((i-hi2)*ie.size+j),?_,z2⟩;have:=c4 ((i-hi2)*ie.size+j) (f ((i-hi2)*ie.size+j)) (by rw[W09,W0L z1];rfl);rw[<- this]
             congr 1
             have e2:i*ie.size=hi2*ie.size+(i-hi2)*ie.size:=(by rw[<- W0Z];congr 1;omega);omega
         . rename_i hil;simp only[W0s,htk]at hil hir;rw[W13,show hi2+ys.length+(i-(hi2+ys.length))=i by omega]at hir;obtain ⟨u,hu,hv⟩:=g7 i j r y hir hj;have:=W0I ie.size (show hi2+ys.length<=i by omega);rw[W0Z]at this;exact ⟨u,(c3 _ (.inr (by rw[hnl];omega))).trans hu,hv⟩⟩
       refine ⟨_,_,_,.inl (exe (by rw[hsv,hxv];exact hrun)),k1,.oss k rows.length 0 (hi2+ys.length) ie.size rows.length _ _ _ (by simp only[St.env,St.get_set,if_true,W1m,AObj.dim];rw[hlen]) (W0f _) λ_=>⟨b,s0,cs',t0,_,g1,rfl,λ_=>by simp,by simp,by omega,hin,by omega,g3,c1,by rw[c2];simpa using g5⟩⟩
     . -- beyond
       rename_i hout;simp only[W00,W06]at hr;obtain ⟨rfl,rfl⟩:=hr
       have hrows:∀ r∈rows.take hi2++ys,r.length=ie.size:=λr hr=>by
        rcases W0h.1 hr with hr|hr
        . exact g6 r (W1p hr)
        . exact hyl r hr
       have hll:(rows.take hi2++ys).length=hi2+ys.length:=by rw[W0s,htk]
       have hold:∀ (i j:Nat) (r:List AV) (y:AV),(rows.take hi2)[i]? = some r->r[j]? = some y->i<hi2/\j<ie.size/\∃ u,cs[s0+i*ie.size+j]? = some u/\VR (st.env R.M κ) W y u:=λi j r y hir hj=>by
        have hil:i<hi2:=(by have:=(W02.1 hir).1;rw[htk]at this;exact this);rw[List.getElem?_take_of_lt hil]at hir;exact ⟨hil,by have:=(W02.1 hj).1;rw[g6 r (W0d hir)]at this;exact this,g7 i j r y hir hj⟩
       have hm2:=W0I ie.size (show hi2<=rows.length by omega);by_cases hroom:hi2+ys.length<=cap
       . obtain rfl:=q1 (by omega);have hcap:=W0I ie.size hroom;rw[W0Z]at hcap;obtain ⟨cs',c1,c2,c3,c4⟩:=ZD b ((List.range (ys.length*ie.size)).map f) (s0+hi2*ie.size) W cs t0 g4 (by rw[hnl];omega);have hrun:=run_append_room_cells (P:=P) W t o.type e ie hu hi b s0 hi2 cap ad ys.length cx _ hnl n1 n2 hroom (λj hj=>by rw[hnl]at hj;simp[World.cell?,g4];omega) (λj _=>by simp[World.frozen?,g4])
         obtain ⟨k1,k2⟩:=h.regrow (rows':=rows.take hi2++ys) (nb:=(b,s0)) (W':=W.setCells b (s0+hi2*ie.size) ((List.range (ys.length*ie.size)).map f)) hg g1 (by rw[hll];omega) (by rw[ZE];exact W0f _)
          (λi hi hne=>World.heap_setCells_other W b _ _ hi hne) (World.os_setCells W b _ _) (ZF b _ _ W) (World.output_setCells W b _ _) c1 (.inl rfl)
          ⟨hrows,by rw[c2,hll,W0Z];simp only;omega,λi j r y hir hj=>by
           rw[W1q]at hir
           split at hir
           . obtain ⟨hil,hjl,u,hu,hv⟩:=hold i j r y hir hj;have:=Z12 (sz:=ie.size) hil;exact ⟨u,(c3 _ (.inl (by simp only;omega))).trans hu,hv⟩
           . rename_i hil;rw[htk]at hil hir;obtain ⟨z1,z2⟩:=newCells _ j r y hir hj;refine ⟨f ((i-hi2)*ie.size+j),?_,z2⟩;have:=c4 ((i-hi2)*ie.size+j) (f ((i-hi2)*ie.size+j)) (by rw[W09,W0L z1];rfl);rw[<- this]
             congr 1
             have e2:i*ie.size=hi2*ie.size+(i-hi2)*ie.size:=(by rw[<- W0Z];congr 1;omega);simp only;omega⟩
         refine ⟨_,_,_,.inl (exe (by rw[hsv,hxv];exact hrun)),k1,.osl k _ ie.size (rows.take hi2++ys).length _ _ _ (by simp only[St.env,St.get_set,if_true,W1m,AObj.dim]) (by rw[hll];exact W0f _) λ_=>⟨b,s0,cs',t0,by simp[St.env],by simp,rfl,hroom,g3,c1,by rw[c2];exact g5⟩⟩
       . have hlo:((List.range (hi2*ie.size)).map λq=>cs.getD (s0+q) Go.undef).length=hi2*ie.size:=by simp
         have hrun:=run_append_grow (P:=P) W t o.type e ie zv hu hi hz ad0 hi2 cap ((List.range (hi2*ie.size)).map λq=>cs.getD (s0+q) Go.undef) hlo (λj v hj=>by
          have hlt:j<hi2*ie.size:=by have:=(W02.1 hj).1;simpa using this
          have hp2:0<hi2:=by
           rcases W1U hi2 with c|c
           . rw[c]at hlt;omega
           . exact c
          obtain rfl:=q1 (by omega);rw[W09,W0L hlt]at hj;simp only[W0m,W00]at hj;have hlt2:s0+j<cs.size:=(by omega);rw[Addr.add_mid,<- hj];simp[World.cell?,g4,W0a,hlt2]) ad ys.length cx _ hnl n1 (by omega) (by omega) (growslice_fits (by omega) (by omega))
         have hge:=grownCap_ge W (hi2+ys.length) cap e;have hcm:grownCap W (hi2+ys.length) cap e<=maxLen:=grownCap_le_maxLen W (hi2+ys.length) cap e (by unfold maxLen;omega);generalize hgc:grownCap W (hi2+ys.length) cap e=gc at *
         have hus:(((List.range (hi2*ie.size)).map λq=>cs.getD (s0+q) Go.undef).toArray++((List.range (ys.length*ie.size)).map f).toArray++Builtin.zeroCells zv.cells (gc-(hi2+ys.length))).size=gc*ie.size:=by
          simp only[Array.size_append,List.size_toArray,hlo,hnl,size_zeroCells,hzs,<- W0Z]
          congr 1;omega
         have hgm:=W0I ie.size hge
         obtain ⟨k1,k2⟩:=h.regrow (rows':=rows.take hi2++ys) (nb:=(W.heap.size,0)) (W':=W.drew.alloc (.cells (((List.range (hi2*ie.size)).map λq=>cs.getD (s0+q) Go.undef).toArray++((List.range (ys.length*ie.size)).map f).toArray++Builtin.zeroCells zv.cells (gc-(hi2+ys.length))) e)) hg g1 (by rw[hll];omega) (by simp)
          (λi hi _=>heap_alloc_old W.drew _ i hi) rfl rfl rfl (heap_alloc_new W.drew _) (.inr ⟨rfl,by simp,heap_alloc_old W.drew _ b hblt⟩)
          ⟨hrows,by rw[hus,hll];simp only;omega,λi j r y hir hj=>by
           rw[W1q]at hir
           split at hir
           . obtain ⟨hil,hjl,u,hu,hv⟩:=hold i j r y hir hj;have hm:=Z12 (sz:=ie.size) hil;refine ⟨u,?_,hv⟩;simp only[W1I];rw[W0W,if_pos (by simp;omega),W0W,if_pos (by simp;omega)];rw[<- hu];simp only[W2b,W09,W0L (show i*ie.size+j<hi2*ie.size by omega),W0m,W0a];rw[<- W1s,hu];rfl
           . rename_i hil;rw[htk]at hil hir;obtain ⟨z1,z2⟩:=newCells _ j r y hir hj;refine ⟨f ((i-hi2)*ie.size+j),?_,z2⟩;have e2:i*ie.size=hi2*ie.size+(i-hi2)*ie.size:=(by rw[<- W0Z];congr 1;omega);simp only[W1I];rw[W0W,if_pos (by simp;omega),W0W,if_neg (by simp;omega)];simp only[List.size_toArray,hlo];rw[show i*ie.size+j-hi2*ie.size=(i-hi2)*ie.size+j by omega,W2b,W09,W0L z1];rfl⟩
         refine ⟨_,_,_,.inl (exe (by rw[hsv,hxv];exact hrun)),k1,.osl k _ ie.size (rows.take hi2++ys).length _ _ _ (by simp only[St.env,St.get_set,if_true,W1m,AObj.dim]) (by rw[hll];exact W0f _) λ_=>⟨W.heap.size,0,_,e,by simp[St.env],rfl,rfl,hge,hcm,heap_alloc_new W.drew _,by rw[hus];omega⟩⟩
def Z1c (h:SK R st a W κ) {o:Oper} {c:Call} {t e:TypeId} {ts:List TypeId} {ie:TypeInfo} {zv:Value} {sz:Nat} {zero:List AV} {x:Operand} {y:RA} (ho:o.op = .call c) (hc:c={ callee:=.builtin .clear,args:=⟨[x]⟩,argTypes:=⟨t::ts⟩ })
  (hu:P.underlying t=some (.slice e)) (hi:P.info? e=some ie) (hsz:ie.size=sz) (hz:ie.zero=some zv) (hzero:allB2 cstB zv.cells.toList zero=true) (hk:okA x y=true)
  {z:AV} {st':St} {d:Nat} (hr:rop R.G st d (.clr sz zero y)=some (z,st')):Sim P R a W o z st':=by
 have h1:=h.ev hk;subst hc
 have exe:∀ {W':World},(Builtin.clear_ ⟨t::ts⟩ o.type #[a.eval x]).run P W = .ok (.tuple #[]) W'->(execOp a.eval o).run P W = .ok (.value (.tuple #[])) W':=λ{W'} hrun=>by
  simp only[execOp,ho,resolve,invoke,builtin,Sem.run_bind,Sem.run_pure,Result.andThen_ok,List.map_toArray,W0F,W1c,hrun]
 simp only[rop]at hr
 split at hr <;> try (simp at hr;done)
 rename_i k n lo hi' es
 split at hr <;> try (simp at hr;done)
 rename_i sz' rows hg
 split at hr <;> simp only[W00,W06,reduceCtorEq]at hr
 rename_i hcond;obtain ⟨rfl,hn,hlh,hhn,hzl,hone⟩:=hcond;obtain ⟨rfl,rfl⟩:=hr;rw[es]at h1;obtain ⟨b,s,cap,cs,t',ad,g1,hv,g2,g3,g4,g5,g6,g7,g8,g9,g10,g11⟩:=h.oss h1 hg hn;subst hn;have hzs:zv.cells.size=sz':=(by have:=(Zc hzero).1;simp at this;omega);have hcst:=ZB (E:=st.env R.M κ) (W:=W) hzero
 have hdim:(AObj.row sz' (rows.take lo++List.replicate (hi'-lo) zero++rows.drop hi')).dim=(AObj.row sz' rows).dim:=by
  simp only[AObj.dim,W0s,W15,W1C,List.length_drop];congr 2;omega
 have hmem:∀ r∈rows.take lo++List.replicate (hi'-lo) zero++rows.drop hi',r.length=sz':=λr hr=>by
  simp only[W0h,List.mem_replicate]at hr;rcases hr with (hr | ⟨-,rfl⟩)|hr
  . exact g9 r (W1p hr)
  . exact hzl
  . exact g9 r (W1L hr)
 have hlen:(rows.take lo++List.replicate (hi'-lo) zero++rows.drop hi').length=rows.length:=by simp;omega
 have hget:∀ (i:Nat) (r:List AV),(rows.take lo++List.replicate (hi'-lo) zero++rows.drop hi')[i]? = some r->(i<lo∨hi'<=i)/\rows[i]? = some r∨(lo<=i/\i<hi'/\r=zero):=λi r hir=>by
  rw[W1q]at hir
  split at hir
  . rename_i hl;simp only[W0s,W15,W1C]at hl;rw[W1q]at hir
    split at hir
    . rename_i hl2;simp only[W15]at hl2;rw[List.getElem?_take_of_lt (by omega)]at hir;exact .inl ⟨.inl (by omega),hir⟩
    . rename_i hl2;simp only[W15]at hl2 hir;rw[List.getElem?_replicate]at hir
      split at hir <;> simp only[W00,reduceCtorEq]at hir
      exact .inr ⟨by omega,by omega,hir.symm⟩
  . rename_i hl;simp only[W0s,W15,W1C]at hl;rw[W13]at hir;simp only[W0s,W15,W1C]at hir;rw[show hi'+(i-(min lo rows.length+(hi'-lo)))=i by omega]at hir;exact .inl ⟨.inr (by omega),hir⟩
 by_cases h0:hi'-lo=0
 . refine ⟨_,W,κ,.inl (exe ?_),h.change (cs':=cs) hg g1 g7 hdim rfl rfl g7 (λ_ _ _=>rfl) rfl rfl rfl ⟨hmem,by rw[hlen];exact g11,λi j r x hir hj=>?_⟩,.pv (.tup [] _ rfl (by simp))⟩
   . rw[hv,h0];simp[Builtin.clear_,run_underlying hu,Sem.run_bind]
   . rcases hget i r hir with ⟨-,h2⟩|h2
     . exact g10 i j r x h2 hj
     . omega
 . obtain rfl:=g2 (by omega);have hsize:(Builtin.zeroCells zv.cells (hi'-lo)).toList.length=(hi'-lo)*sz':=(by rw[W1S,size_zeroCells,hzs]);have hm1:=W0I sz' hhn;have hm2:hi'*sz'=lo*sz'+(hi'-lo)*sz':=by rw[<- W0Z];congr 1;omega
   have hzc:∀ (q:Nat) (u:Value),(Builtin.zeroCells zv.cells (hi'-lo)).toList[q]? = some u->q<(hi'-lo)*sz'/\∃ hq:q % sz'<zv.cells.size,u=zv.cells[q % sz']:=λq u hq=>by
    have hlt:q<(hi'-lo)*sz':=by rw[<- hsize];exact (W02.1 hq).1
    have hpos:0<sz':=by
     rcases W1U sz' with c|c
     . rw[c]at hlt;omega
     . exact c
    refine ⟨hlt,by rw[hzs];exact Nat.mod_lt _ hpos,?_⟩;simp only[Builtin.zeroCells,W1f,Array.getElem?_map,hzs,Array.getElem?_range,if_pos hlt,W0m,W00]at hq;rw[<- hq,getElem!_pos _ _ (by rw[hzs];exact Nat.mod_lt _ hpos)]
   obtain ⟨cs',c1,c2,c3,c4⟩:=ZD b (Builtin.zeroCells zv.cells (hi'-lo)).toList (s+lo*sz') W cs t' g7 (by rw[hsize];omega)
   have hrun:=run_storeCells_cells (P:=P) b (s+lo*sz') (Builtin.zeroCells zv.cells (hi'-lo)).toList 0 W (λj hj=>by rw[hsize]at hj;simp[World.cell?,g7];omega) (λj _=>by simp[World.frozen?,g7]) (λu hu=>by
    obtain ⟨q,hq⟩:=W1E hu;obtain ⟨-,hq2,rfl⟩:=hzc q u hq;have hz2:q % sz'<zero.length:=(by omega);exact (hcst.2 (q % sz') _ _ (W07 hz2) (by rw[W1f,W0n hq2])).oneCell (W03.1 hone _ (W0e hz2)))
   refine ⟨_,_,κ,.inl (exe (W':=W.setCells b (s+lo*sz') (Builtin.zeroCells zv.cells (hi'-lo)).toList) ?_),h.change (cs':=cs') hg g1 g7 hdim c2 (by rw[ZE]) c1 (λi hi hne=>World.heap_setCells_other W b _ _ hi hne) (World.os_setCells W b _ _) (ZF b _ _ W) (World.output_setCells W b _ _)
    ⟨hmem,by rw[hlen,c2];exact g11,λi j r x hir hj=>?_⟩,.pv (.tup [] _ rfl (by simp))⟩
   . rw[hv];obtain ⟨m,hm⟩ : ∃ m,hi'-lo=m+1:=⟨hi'-lo-1,by omega⟩;rw[hm]at hrun ⊢;simp only[W1Q]at hrun;simp[Builtin.clear_,run_underlying hu,Sem.run_bind,zeroValue,typeInfo,hi,hz,hrun]
   . have hjl:j<sz':=(by have:=(W02.1 hj).1;rw[hmem r (W0d hir)]at this;exact this);rcases hget i r hir with ⟨hside,h2⟩ | ⟨h2,h3,rfl⟩
     . obtain ⟨u,hu,hq⟩:=g10 i j r x h2 hj;refine ⟨u,(c3 _ ?_).trans hu,hq⟩;rw[hsize];rcases hside with c|c
       . have:=Z12 (sz:=sz') c;exact .inl (by omega)
       . have:=W0I sz' c;exact .inr (by omega)
     . have e1:i*sz'=lo*sz'+(i-lo)*sz':=(by rw[<- W0Z];congr 1;omega);have e2:=Z12 (sz:=sz') (show i-lo<hi'-lo by omega);have hlt:(i-lo)*sz'+j<(hi'-lo)*sz':=(by omega);have hmod:((i-lo)*sz'+j) % sz'=j:=(by rw[Nat.mul_comm,Nat.mul_add_mod,Nat.mod_eq_of_lt hjl]);refine ⟨zv.cells[j]'(by omega),?_,hcst.2 j x _ hj (by simp)⟩
       have:=c4 ((i-lo)*sz'+j) (zv.cells[j]'(by omega)) (by
        simp only[Builtin.zeroCells,W1f,Array.getElem?_map,hzs,Array.getElem?_range,if_pos hlt,W0m,hmod,W00];rw[getElem!_pos _ _ (by omega)])
       rw[<- this];congr 1;omega
end
def KK.desc:KK->TypeDesc
 |.i k=>.int k
 |.s=>.string
 |_=>.bool
def KK.plain:KK->Bool
 |.ag _=>false
 |_=>true
section
variable {P:Program} {R:Run} {st:St} {a:Act} {W W':World} {κ:Nat->Option (Nat×Nat)}
def Z1d {t:TypeId} {kk:KK} (h:kkB P t kk=true) (hp:kk.plain=true):P.underlying t=some kk.desc:=by
 unfold kkB at h
 split at h <;> simp only[W05,W0b]at h
 . subst h;assumption
 . assumption
 . assumption
 . cases hp
 . cases hp
def Z1e {t:TypeId} {ks:List CK} (h:kkB P t (.ag ks)=true):flatK P 8 t=some ks/\aggB P t=some true/\∀ u v:Value,∀ d,P.underlying t=some d->Instr.sameNow d u v=none:=by
 unfold kkB at h
 split at h <;> rename_i hu hk <;> first|(cases hk;done)|skip
 . cases hk
   exact ⟨W0X h,by simp[aggB,hu,TypeDesc.isRow],λu v d hd=>by rw[hu]at hd;cases hd;rfl⟩
 . cases hk
   exact ⟨W0X h,by simp[aggB,hu,TypeDesc.isRow],λu v d hd=>by rw[hu]at hd;cases hd;rfl⟩
 . cases h
def KK.key {kk:KK} {x:AV} {v:Value} {E:Env} (hp:kk.plain=true) (hk:kk.is x=true) (h:VR E W x v):MapKept.IsKey kk.desc v:=by
 cases kk <;> first|(cases hp;done)|skip
 all_goals cases x <;> simp only[KK.is,W05,W0b]at hk
 . subst hk;rw[h.int_inv];rfl
 . rw[h.str_inv];trivial
 . rw[h.bool_inv];trivial
def KK.eq_sim {kk:KK} {x y:AV} {u v:Value} {E:Env} {b:Bool} (hp:kk.plain=true) (h:kk.eq x y=some b) (hx:VR E W x u) (hy:VR E W y v):Instr.sameNow kk.desc u v=some b/\(b=true↔v=u):=by
 cases kk <;> first|(cases hp;done)|skip
 all_goals cases x <;> cases y <;> simp only[KK.eq,reduceCtorEq]at h
 . split at h <;> simp only[W00,reduceCtorEq]at h
   rename_i e;obtain ⟨rfl,rfl⟩:=e;subst h;rw[hx.int_inv,hy.int_inv];refine ⟨?_,by rw[decide_eq_true_iff,Value.int.injEq];exact ⟨λe=>⟨rfl,e.symm⟩,λe=>e.2.symm⟩⟩;simp only[KK.desc,Instr.sameNow,if_true];exact congrArg some (Bool.eq_iff_iff.2 (by simp))
 . simp only[W00]at h;subst h;rw[hx.str_inv,hy.str_inv];exact ⟨rfl,(MapKept.bytes_beq _ _).trans ⟨λe=>by rw[e],λe=>by cases e;rfl⟩⟩
 . simp only[W00]at h;subst h;rw[hx.bool_inv,hy.bool_inv];exact ⟨rfl,W0A.trans ⟨λe=>by rw[e],λe=>by cases e;rfl⟩⟩
def Z1f {E:Env}:∀ (ks:List CK) (xs ys:List AV) (us vs:List Value) (b:Bool),eqL ks xs ys=some b->CR E W xs us->CR E W ys vs->(b=true↔vs=us)
 | [],[],[],us,vs,b,h,hu,hv=>by
   simp only[eqL,W00]at h;have h1:=hu.1;have h2:=hv.1;simp only[W1N,W0l]at h1 h2;subst h1;subst h2;simp[<- h]
 | k :: ks,x::xs,y::ys,us,vs,b,h,hu,hv=>by
   match us,vs,hu.1,hv.1 with
   | u::us,v::vs,_,_ =>
     simp only[eqL]at h
     split at h <;> simp only[W00,reduceCtorEq]at h
     rename_i c1 c2 e1 e2;subst h;have hu0:=hu.2 0 x u rfl rfl;have hv0:=hv.2 0 y v rfl rfl;have ih:=Z1f ks xs ys us vs c2 e2 ⟨by simpa using hu.1,λi p q hp hq=>hu.2 (i+1) p q (by simpa using hp) (by simpa using hq)⟩ ⟨by simpa using hv.1,λi p q hp hq=>hv.2 (i+1) p q (by simpa using hp) (by simpa using hq)⟩
     have h0:c1=true↔v=u:=by
      cases k <;> cases x <;> cases y <;> simp only[eq1,reduceCtorEq]at e1
      . split at e1 <;> simp only[W00,reduceCtorEq]at e1
        rename_i hk;subst hk;subst e1;rw[hu0.int_inv,hv0.int_inv];rw[decide_eq_true_iff,Value.int.injEq];exact ⟨λe=>⟨rfl,e.symm⟩,λe=>e.2.symm⟩
      . simp only[W00]at e1;subst e1;rw[hu0.str_inv,hv0.str_inv];exact ⟨λe=>by rw[(MapKept.bytes_beq _ _).1 ((beq_toListBytes _ _).trans e)],λe=>by cases e;simp⟩
      . simp only[W00]at e1;subst e1;rw[hu0.bool_inv,hv0.bool_inv];exact W0A.trans ⟨λe=>by rw[e],λe=>by cases e;rfl⟩
     rw[W01,W24,h0,ih]
   |[],_,h,_=>simp at h
   |_::_,[],_,h=>simp at h
 |[],_::_,_,_,_,_,h,_,_=>by simp[eqL]at h
 |[],[],_::_,_,_,_,h,_,_=>by simp[eqL]at h
 |_::_,[],_,_,_,_,h,_,_=>by simp[eqL]at h
 |_::_,_::_,[],_,_,_,h,_,_=>by simp[eqL]at h
def Z1g:∀ {ks:List CK} {xs ys:List AV} {b:Bool},eqL ks xs ys=some b->xs.length=ks.length/\ys.length=ks.length
 |[],[],[],_,_=>⟨rfl,rfl⟩
 | k::ks,x::xs,y::ys,b,h=>by
   simp only[eqL]at h
   split at h <;> try (simp at h;done)
   rename_i e1 e2;obtain ⟨l1,l2⟩:=Z1g e2;exact ⟨by simp[l1],by simp[l2]⟩
 |[],_::_,_,_,h=>by simp[eqL]at h
 |[],[],_::_,_,h=>by simp[eqL]at h
 |_::_,[],_,_,h=>by simp[eqL]at h
 |_::_,_::_,[],_,h=>by simp[eqL]at h
def Z1h:∀ {ks:List CK} {xs:List AV},isL ks xs=true->xs.length=ks.length
 |[],[],_=>rfl
 | k::ks,x::xs,h=>by
   simp only[isL,W01]at h;simp[Z1h h.2]
 |[],_::_,h=>by simp[isL]at h
 |_::_,[],h=>by simp[isL]at h
def Z1i:∀ {ks ks':List CK} {xs ys:List AV},xs.length=ks.length->isL (ks++ks') (xs++ys)=true->isL ks xs=true/\isL ks' ys=true
 |[],_,[],_,_,h=>⟨rfl,h⟩
 | k::ks,ks',x::xs,ys,hl,h=>by
   simp only[W1d,isL,W01]at h;obtain ⟨h1,h2⟩:=Z1i (by simpa using hl) h.2;exact ⟨by simp[isL,h.1,h1],h2⟩
 |[],_,_::_,_,h,_=>by simp at h
 |_::_,_,[],_,h,_=>by simp at h
def Z1j {E:Env} (n:Nat):∀ {ks:List CK} {xs:List AV} {us:List Value},isL ks xs=true->CR E W xs us->((us.zip us).all λp=>Instr.sameBits n p.1 p.2)=true
 | [],[],us,_,hu=>by
   have h1:=hu.1;simp only[W1N,W0l]at h1;subst h1;rfl
 | k :: ks,x::xs,us,h,hu=>by
   match us,hu.1 with
   | u::us,_ =>
     simp only[isL,W01]at h;have hu0:=hu.2 0 x u rfl rfl;have ih:=Z1j n h.2 ⟨by simpa using hu.1,λi p q hp hq=>hu.2 (i+1) p q (by simpa using hp) (by simpa using hq)⟩
     have h0:Instr.sameBits n u u=true:=by
      cases k <;> cases x <;> first|(simp[is1]at h;done)|skip
      . rw[hu0.int_inv];cases n <;> simp[Instr.sameBits]
      . rw[hu0.str_inv];cases n <;> exact (MapKept.bytes_beq _ _).2 rfl
      . rw[hu0.bool_inv];cases n <;> simp[Instr.sameBits]
     simp only[List.zip_cons_cons,List.all_cons,h0,ih,Bool.and_self]
   |[],h1=>simp at h1
 |[],_::_,_,h,_=>by simp[isL]at h
 |_::_,[],_,h,_=>by simp[isL]at h
def Z1k {E:Env}:∀ (d:Nat) (t:TypeId) (ks:List CK),flatK P d t=some ks->∀ (D:Nat) (em:Bool),d<=D->∀ (agg:Bool),aggB P t=some agg->∀ (xs:List AV) (us:List Value),
  isL ks xs=true->CR E W xs us->(Instr.checkKey em D t (mkV agg us)).run P W = .ok () W:=by
 intro d
 induction d with
 |zero=>intro t ks h;simp[flatK]at h
 | succ d ih =>
   intro t ks h D em hD agg ha xs us hi hu;obtain ⟨D,rfl⟩ : ∃ D',D=D'+1:=⟨D-1,by omega⟩;simp only[flatK]at h;have hxl:=Z1h hi;have hul:=hu.1
   have one:∀ {k:CK},ks=[k]->∃ x u,xs=[x]/\us=[u]/\VR E W x u/\is1 k x=true:=by
    rintro k rfl
    match xs,hxl with
    | [x],_ =>
      match us,hu with
      |[u],hu=>exact ⟨x,u,rfl,rfl,hu.2 0 x u rfl rfl,by simpa [isL] using hi⟩
      |[],hu=>exact absurd hu.1 (by simp)
      |_::_::_,hu=>exact absurd hu.1 (by simp)
   split at h <;> try (simp at h;done)
   . rename_i k hk
     split at h <;> simp only[W00,reduceCtorEq]at h
     subst h;have hagg:agg=false:=(by simp only[aggB,hk,TypeDesc.isRow,W0m,W00]at ha;exact ha.symm);subst hagg;obtain ⟨x,u,rfl,rfl,h1,h2⟩:=one rfl
     cases x <;> first|(simp[is1]at h2;done)|skip
     simp only[mkV,W05,if_false,W22];rw[h1.int_inv];unfold Instr.checkKey;simp only[Sem.run_bind,run_underlying hk,Result.andThen,Sem.run_pure]
   . rename_i hk
     split at h <;> simp only[W00,reduceCtorEq]at h
     subst h;have hagg:agg=false:=(by simp only[aggB,hk,TypeDesc.isRow,W0m,W00]at ha;exact ha.symm);subst hagg;obtain ⟨x,u,rfl,rfl,h1,h2⟩:=one rfl
     cases x <;> first|(simp[is1]at h2;done)|skip
     simp only[mkV,W05,if_false,W22];rw[h1.str_inv];unfold Instr.checkKey;simp only[Sem.run_bind,run_underlying hk,Result.andThen,Sem.run_pure]
   . rename_i hk
     split at h <;> simp only[W00,reduceCtorEq]at h
     subst h;have hagg:agg=false:=(by simp only[aggB,hk,TypeDesc.isRow,W0m,W00]at ha;exact ha.symm);subst hagg;obtain ⟨x,u,rfl,rfl,h1,h2⟩:=one rfl
     cases x <;> first|(simp[is1]at h2;done)|skip
     simp only[mkV,W05,if_false,W22];rw[h1.bool_inv];unfold Instr.checkKey;simp only[Sem.run_bind,run_underlying hk,Result.andThen,Sem.run_pure]
   . rename_i fs hk
     split at h <;> try (simp at h;done)
     split at h <;> try (simp at h;done)
     rename_i ks' hf
     split at h <;> simp only[W00,reduceCtorEq]at h
     subst h;have hagg:agg=true:=(by simp only[aggB,hk,TypeDesc.isRow,W0m,W00]at ha;exact ha.symm);subst hagg;simp only[mkV,if_true];rw[Instr.checkKey];simp only[Sem.run_bind,run_underlying hk,Result.andThen_ok];rw[<- Array.forIn_toList]
     have key:∀ (g:Field->PUnit->Sem (ForInStep PUnit)),(∀ f v,f.name ≠ "_" -> (Go.part f.type us.toArray f.offset).run P W = .ok v W->(Instr.checkKey em D f.type v).run P W = .ok () W->(g f PUnit.unit).run P W = .ok (.yield PUnit.unit) W) ->
       ∀ (l:List Field) (off:Nat) (kl:List CK),fldK (flatK P d) off l=some kl->off+kl.length<=xs.length->isL kl ((xs.drop off).take kl.length)=true->(forIn l PUnit.unit g).run P W = .ok PUnit.unit W:=by
      intro g hg l
      induction l with
      |nil=>intro off kl _ _ _;simp
      | cons f l ihl =>
        intro off kl h1 h2 h3;simp only[fldK]at h1
        split at h1 <;> try (simp at h1;done)
        rename_i hn;obtain ⟨hn1,rfl⟩:=hn
        split at h1 <;> try (simp at h1;done)
        rename_i kf hkf;simp only[W04]at h1;obtain ⟨kr,hkr,rfl⟩:=h1;obtain ⟨gs,gagg⟩:=ZX hkf;simp only[W0s]at h2 h3
        have tk:∀ (q:List AV),(q.drop f.offset).take (kf.length+kr.length)=(q.drop f.offset).take kf.length++(q.drop (f.offset+kf.length)).take kr.length:=λq=>by
         rw[List.take_add,List.drop_drop]
        rw[tk]at h3;obtain ⟨e1,e2⟩:=Z1i (by simp;omega) h3
        have hfa:∃ ag,aggB P f.type=some ag/\(ag=false->kf.length=1):=by
         rcases gagg with g | ⟨g,g2⟩
         . exact ⟨true,g,by simp⟩
         . exact ⟨false,g,λ_=>g2⟩
        obtain ⟨ag,ha1,ha2⟩:=hfa;have r1:=ZW (P:=P) (W:=W) (us:=us) ha1 gs ha2 (off:=f.offset) (by omega);have r3:=ih f.type kf hkf D em (by omega) ag ha1 _ _ e1 (hu.part f.offset kf.length);simp only[List.forIn_cons,Sem.run_bind,hg f _ hn1 r1 r3,Result.andThen_ok];exact ihl (f.offset+kf.length) kr hkr (by omega) e2
     rw[key _ (λf v h1 h2 h3=>by simp[h1,Sem.run_bind,h2,h3]) fs.toList 0 ks' hf (by omega) (by rw[W1J,W0J (by omega)];exact hi)]
     try rfl
   . rename_i n e hk
     split at h <;> try (simp at h;done)
     rename_i ks' hf
     split at h <;> simp only[W00,reduceCtorEq]at h
     subst h;have hagg:agg=true:=(by simp only[aggB,hk,TypeDesc.isRow,W0m,W00]at ha;exact ha.symm);subst hagg;simp only[mkV,if_true];obtain ⟨gs,gagg⟩:=ZX hf
     have hfa:∃ ag,aggB P e=some ag/\(ag=false->ks'.length=1):=by
      rcases gagg with g | ⟨g,g2⟩
      . exact ⟨true,g,by simp⟩
      . exact ⟨false,g,λ_=>g2⟩
     obtain ⟨ag,ha1,ha2⟩:=hfa;have hxn:xs.length=n*ks'.length:=(by rw[hxl];simp);rw[Instr.checkKey];simp only[Sem.run_bind,run_underlying hk,Result.andThen_ok];simp only[Std.Legacy.Range.forIn_eq_forIn_range',Std.Legacy.Range.size,W1P,Nat.add_one_sub_one,Nat.div_one]
     have key:∀ (g:Nat->PUnit->Sem (ForInStep PUnit)),(∀ j v,(Go.part e us.toArray (j*ks'.length)).run P W = .ok v W->(Instr.checkKey em D e v).run P W = .ok () W->(g j PUnit.unit).run P W = .ok (.yield PUnit.unit) W) ->
       ∀ (m j:Nat),j+m=n->isL (List.replicate m ks').flatten (xs.drop (j*ks'.length))=true->(forIn (List.range' j m) PUnit.unit g).run P W = .ok PUnit.unit W:=by
      intro g hg m
      induction m with
      |zero=>intro j _ _;simp
      | succ m ihm =>
        intro j h1 h3;have e1:(j+1)*ks'.length<=n*ks'.length:=W0I _ (by omega);rw[Nat.succ_mul]at e1
        have tk:∀ (q:List AV),q.drop (j*ks'.length)=(q.drop (j*ks'.length)).take ks'.length++q.drop ((j+1)*ks'.length):=λq=>by
         rw[Nat.succ_mul,<- List.drop_drop,W11]
        rw[tk xs,List.replicate_succ,List.flatten_cons]at h3;obtain ⟨e2,e3⟩:=Z1i (by simp;omega) h3;have r1:=ZW (P:=P) (W:=W) (us:=us) ha1 gs ha2 (off:=j*ks'.length) (by omega);have r3:=ih e ks' hf D em (by omega) ag ha1 _ _ e2 (hu.part (j*ks'.length) ks'.length);simp only[List.range'_succ,List.forIn_cons,Sem.run_bind,hg j _ r1 r3,Result.andThen_ok];exact ihm (j+1) (by omega) e3
     rw[key _ (λj v h2 h3=>by simp[Sem.run_bind,Zo gs,h2,h3]) n 0 (by omega) (by simpa using hi)]
     try rfl
def Z1l {kt:TypeId} {kk:KK} {x:AV} {u:Value} {E:Env} (hkk:kkB P kt kk=true) (his:kk.is x=true) (hx:VR E W x u) (em:Bool):(Instr.checkKey em 10000 kt u).run P W = .ok () W:=by
 by_cases hp:kk.plain=true
 . exact MapKept.run_checkKey (Z1d hkk hp) (KK.key hp his hx) em 9999
 . cases kk <;> first|(exact absurd rfl hp)|skip
   rename_i ks
   cases x <;> simp only[KK.is,W05]at his
   obtain ⟨us,rfl,hu⟩:=hx.agg_inv;obtain ⟨h1,h2,-⟩:=Z1e hkk;have:=Z1k 8 kt ks h1 10000 em (by omega) true h2 _ _ his hu;simpa [mkV] using this
def Z1m {kk:KK} {x:AV} {u:Value} {E:Env} (his:kk.is x=true) (hx:VR E W x u):(Instr.keyThatStays u u).run P W = .ok u W:=by
 by_cases hp:kk.plain=true
 . exact MapKept.run_keyThatStays (KK.key hp his hx)
 . cases kk <;> first|(exact absurd rfl hp)|skip
   rename_i ks
   cases x <;> simp only[KK.is,W05]at his
   obtain ⟨us,rfl,hu⟩:=hx.agg_inv
   have h1:Instr.sameBits 10000 (.agg us) (.agg us)=true:=by
    show Instr.sameBits (9999+1) (.agg us) (.agg us)=true;simp only[Instr.sameBits,beq_self_eq_true,W1i];exact Z1j 9999 his hu
   simp[Instr.keyThatStays,h1]
def KK.find_sim {kk:KK} {x:AV} {u:Value} {E:Env} (hp:kk.plain=true) (hx:VR E W x u):∀ (kvs:List (AV×AV)) (l:List MapEntry) (n:Nat) (r:Option Nat),l.length=kvs.length ->
  (∀ (i:Nat) (y z:AV) (e:MapEntry),kvs[i]? = some (y,z)->l[i]? = some e->VR E W y e.key)->kk.find x kvs=some r ->
  match r with
  |none=>Instr.findNow kk.desc u l n=some none/\∀ e∈l,e.key≠u
  |some j=>∃ e p,l[j]? = some e/\kvs[j]? = some p/\e.key=u/\Instr.findNow kk.desc u l n=some (some (n+j,e.val))
 |[],[],n,r,_,_,h=>by simp only[KK.find,W00]at h;subst h;exact ⟨rfl,by simp⟩
 |[],_::_,_,_,h,_,_=>by simp at h
 |_::_,[],_,_,h,_,_=>by simp at h
 | (y, z)::kvs,e::l,n,r,hl,hr,h=>by
   simp only[KK.find]at h;have h0:=hr 0 y z e rfl rfl
   split at h
   . rename_i e1;simp only[W00]at h;subst h;obtain ⟨g1,g2⟩:=KK.eq_sim hp e1 hx h0;exact ⟨e,(y,z),rfl,rfl,g2.1 rfl,by simp[Instr.findNow,g1]⟩
   . rename_i e1;obtain ⟨g1,g2⟩:=KK.eq_sim hp e1 hx h0;have hne:e.key≠u:=λq=>by have:=g2.2 q;cases this
     simp only[W04]at h;obtain ⟨r',h1,rfl⟩:=h;have ih:=KK.find_sim hp hx kvs l (n+1) r' (by simpa using hl) (λi y z e h2 h3=>hr (i+1) y z e (by simpa using h2) (by simpa using h3)) h1
     cases r' with
     | none =>
       obtain ⟨g3,g4⟩:=ih;refine ⟨by simp[Instr.findNow,g1,g3],λe' he'=>?_⟩;rcases W0g.1 he' with rfl|he'
       . exact hne
       . exact g4 e' he'
     | some j =>
       obtain ⟨e',p,g3,g4,g5,g6⟩:=ih;exact ⟨e',p,by simpa using g3,by simpa using g4,g5,by simp[Instr.findNow,g1,g6];omega⟩
   . cases h
def Z1n {kt:TypeId} {ks:List CK} {x:AV} {u:Value} {E:Env} (hkk:kkB P kt (.ag ks)=true) (hx:VR E W x u):∀ (kvs:List (AV×AV)) (l:List MapEntry) (n:Nat) (r:Option Nat),l.length=kvs.length ->
  (∀ (i:Nat) (y z:AV) (e:MapEntry),kvs[i]? = some (y,z)->l[i]? = some e->VR E W y e.key)->(KK.ag ks).find x kvs=some r ->
  match r with
  |none=>(Instr.findAsking kt u l n).run P W = .ok none W/\∀ e∈l,e.key≠u
  |some j=>∃ e p,l[j]? = some e/\kvs[j]? = some p/\e.key=u/\(Instr.findAsking kt u l n).run P W = .ok (some (n+j,e.val)) W
 |[],[],n,r,_,_,h=>by simp only[KK.find,W00]at h;subst h;exact ⟨by simp[Instr.findAsking],by simp⟩
 |[],_::_,_,_,h,_,_=>by simp at h
 |_::_,[],_,_,h,_,_=>by simp at h
 | (y, z)::kvs,e::l,n,r,hl,hr,h=>by
   simp only[KK.find]at h;have h0:=hr 0 y z e rfl rfl
   have cmp:∀ b,(KK.ag ks).eq x y=some b->(Op.equal kt u e.key).run P W = .ok b W/\(b=true↔e.key=u):=by
    intro b hb
    cases x <;> cases y <;> simp only[KK.eq,reduceCtorEq]at hb
    obtain ⟨us,hu1,hu⟩:=hx.agg_inv;obtain ⟨vs,hv1,hv⟩:=h0.agg_inv;obtain ⟨g1,g2,-⟩:=Z1e hkk;obtain ⟨l1,l2⟩:=Z1g hb;have run:=ZY (P:=P) (W:=W) 8 kt ks g1 10000 (by omega) true g2 _ _ _ _ b l1 l2 hu hv hb;simp only[mkV,if_true]at run;rw[hu1,hv1];refine ⟨run,(Z1f ks _ _ _ _ b hb hu hv).trans ⟨λe=>congrArg Value.agg (Array.ext' e),λe=>by cases e;rfl⟩⟩
   split at h
   . rename_i e1;simp only[W00]at h;subst h;obtain ⟨g1,g2⟩:=cmp _ e1;exact ⟨e,(y,z),rfl,rfl,g2.1 rfl,by simp[Instr.findAsking,Sem.run_bind,g1]⟩
   . rename_i e1;obtain ⟨g1,g2⟩:=cmp _ e1;have hne:e.key≠u:=λq=>by have:=g2.2 q;cases this
     simp only[W04]at h;obtain ⟨r',h1,rfl⟩:=h;have ih:=Z1n hkk hx kvs l (n+1) r' (by simpa using hl) (λi y z e h2 h3=>hr (i+1) y z e (by simpa using h2) (by simpa using h3)) h1
     cases r' with
     | none =>
       obtain ⟨g3,g4⟩:=ih;refine ⟨by simp[Instr.findAsking,Sem.run_bind,g1,g3],λe' he'=>?_⟩;rcases W0g.1 he' with rfl|he'
       . exact hne
       . exact g4 e' he'
     | some j =>
       obtain ⟨e',p,g3,g4,g5,g6⟩:=ih;exact ⟨e',p,by simpa using g3,by simpa using g4,g5,by simp[Instr.findAsking,Sem.run_bind,g1,g6];omega⟩
   . cases h
def Z1o {kt:TypeId} {kk:KK} {x:AV} {u:Value} {E:Env} (hkk:kkB P kt kk=true) (hx:VR E W x u) (kvs:List (AV×AV)) (l:List MapEntry) (r:Option Nat) (hl:l.length=kvs.length)
  (hr:∀ (i:Nat) (y z:AV) (e:MapEntry),kvs[i]? = some (y,z)->l[i]? = some e->VR E W y e.key) (h:kk.find x kvs=some r) :
  match r with
  |none=>(Instr.findKey kt u l).run P W = .ok none W/\∀ e∈l,e.key≠u
  |some j=>∃ e p,l[j]? = some e/\kvs[j]? = some p/\e.key=u/\(Instr.findKey kt u l).run P W = .ok (some (j,e.val)) W:=by
 by_cases hp:kk.plain=true
 . have h0:=KK.find_sim hp hx kvs l 0 r hl hr h
   cases r with
   |none=>exact ⟨MapKept.run_findKey (Z1d hkk hp) h0.1,h0.2⟩
   | some j =>
     obtain ⟨e,p,g1,g2,g3,g4⟩:=h0;rw[W1I]at g4;exact ⟨e,p,g1,g2,g3,MapKept.run_findKey (Z1d hkk hp) g4⟩
 . cases kk <;> first|(exact absurd rfl hp)|skip
   rename_i ks;have h0:=Z1n hkk hx kvs l 0 r hl hr h;obtain ⟨-,h2,h3⟩:=Z1e hkk
   obtain ⟨d,hd⟩ : ∃ d,P.underlying kt=some d:=by
    unfold aggB at h2;obtain ⟨d,hd,-⟩:=W04.1 h2;exact ⟨d,hd⟩
   have run:(Instr.findKey kt u l).run P W=(Instr.findAsking kt u l 0).run P W:=by
    cases l with
    |nil=>simp[Instr.findKey,Instr.findAsking,run_underlying hd,Result.andThen,Instr.findNow]
    |cons e l=>simp[Instr.findKey,run_underlying hd,Result.andThen,Instr.findNow,h3 _ _ d hd]
   rw[run]
   cases r with
   |none=>exact h0
   | some j =>
     obtain ⟨e,p,g1,g2,g3,g4⟩:=h0;rw[W1I]at g4;exact ⟨e,p,g1,g2,g3,g4⟩
def SK.mp (h:SK R st a W κ) {k:Nat} {v:Value} {kvs:List (AV×AV)} (hv:VR (st.env R.M κ) W (.mp k) v) (hg:st.get k=some (.mp kvs)) :
  ∃ b es clock,v = .map (some b)/\κ k=some (b,0)/\W.heap[b]? = some (.map es clock)/\MapKept.Stamped es clock/\es.size=kvs.length/\∀ (i:Nat) (x y:AV),kvs[i]? = some (x,y)->∃ e,es[i]? = some e/\VR (st.env R.M κ) W x e.key/\VR (st.env R.M κ) W y e.val:=by
 obtain ⟨b,h1,-,rfl⟩:=hv.mp_inv;obtain ⟨b',s',h2,h3,h4,h5,es,t,h6,h7,h8,h9⟩:=h.obj k _ hg;rw[show (st.env R.M κ).loc k=κ k from rfl,h2]at h1;simp only[W00,W06]at h1;obtain ⟨rfl,rfl⟩:=h1;exact ⟨b',es,t,rfl,h2,h6,h7,h8,h9⟩
def Z1p {kvs:List (AV×AV)} {es:Array MapEntry} {E:Env} (hn:es.size=kvs.length) (h:∀ (i:Nat) (x y:AV),kvs[i]? = some (x,y)->∃ e,es[i]? = some e/\VR E W x e.key/\VR E W y e.val) :
  es.toList.length=kvs.length/\∀ (i:Nat) (y z:AV) (e:MapEntry),kvs[i]? = some (y,z)->es.toList[i]? = some e->VR E W y e.key/\VR E W z e.val :=
 ⟨by simpa using hn,λi y z e h1 h2=>by
  obtain ⟨e',h3,h4⟩:=h i y z h1;rw[W1f,h3]at h2
  cases h2;exact h4⟩
def Z1q (h:SK R st a W κ) {x:AV} {v:Value} {kvs:List (AV×AV)} (hv:VR (st.env R.M κ) W x v) (hm:mapOf st x=some kvs) :
  (v = .map none/\kvs=[])∨∃ b es clock,v = .map (some b)/\W.heap[b]? = some (.map es clock)/\es.toList.length=kvs.length/\∀ (i:Nat) (y z:AV) (e:MapEntry),kvs[i]? = some (y,z)->es.toList[i]? = some e->VR (st.env R.M κ) W y e.key/\VR (st.env R.M κ) W z e.val:=by
 unfold mapOf at hm
 split at hm <;> try (simp at hm;done)
 . simp only[W00]at hm
   cases hv with
   |pv hv=>cases hv;exact .inl ⟨rfl,hm.symm⟩
 . simp only[W00]at hm;subst hm
   cases hv with
   | pv hv =>
     cases hv with
     | vmap _ b es clock hb hM ho hs hn hk hv =>
       refine .inr ⟨b,es,clock,rfl,ho,by simpa using hn,λi y z e h1 h2=>?_⟩;rw[W1f]at h2;exact ⟨.pv (hk i y z e h1 h2),.pv (hv i y z e h1 h2)⟩
 . split at hm <;> simp only[W00,reduceCtorEq]at hm
   rename_i kvs' hg;subst hm;obtain ⟨b,es,t,rfl,-,h6,-,h8,h9⟩:=h.mp hv hg;exact .inr ⟨b,es,t,rfl,h6,Z1p h8 h9⟩
def Z1r (h:SK R st a W κ) {o:Oper} {c:Call} {t:TypeId} {ts:List TypeId} {x:Operand} {y:RA} (ho:o.op = .call c) (hc:c={ callee:=.builtin .len,args:=⟨[x]⟩,argTypes:=⟨t::ts⟩ })
  {kt e:TypeId} (hu:P.underlying t=some (.map kt e)) (hk:okA x y=true)
  {z:AV} {st':St} {d:Nat} (hr:rop R.G st d (.mlen y)=some (z,st')):Sim P R a W o z st':=by
 simp only[rop,W04,W06]at hr;obtain ⟨kvs,hn,rfl,rfl⟩:=hr;subst hc;refine .val (v:=.int .i64 ((kvs.length:Nat):Int)) h ?_ (.pv (.int _ _));rcases Z1q h (h.ev hk) hn with ⟨h1,rfl⟩ | ⟨b,es,clock,h1,h2,h3,-⟩
 . simp[execOp,ho,resolve,invoke,builtin,Builtin.len_,Sem.run_bind,run_underlying hu,h1,goInt]
 . simp only[W1S]at h3;simp[execOp,ho,resolve,invoke,builtin,Builtin.len_,Sem.run_bind,run_underlying hu,h1,goInt,MapKept.run_getObj_map h2,h3]
def Z1s {M:Nat->Prop} {v:Value} {x:AV} (h:cstV v x=true):PV M W x v:=by
 unfold cstV at h
 split at h
 . split at h <;> try (simp at h;done)
   obtain ⟨h1,h2⟩:=Zc h;refine .agg _ _ (by simpa using h1) λi x u hi hu=>Zb (h2 i u x (by simpa using hu) hi)
 . exact Zb h
def Z1t (h:SK R st a W κ) {o:Oper} {t:TypeId} {m k:Operand} {ok:Bool} {kk:KK} {zero:AV} {y j:RA} {kt e:TypeId} {ie:TypeInfo} {zv:Value} (ho:o.op = .lookup t m k ok)
  (hu:P.underlying t=some (.map kt e)) (hkk:kkB P kt kk=true) (hi:P.info? e=some ie) (hz:ie.zero=some zv) (hc:cstV zv zero=true) (hk:okA m y=true) (hk2:okA k j=true)
  {z:AV} {st':St} {d:Nat} (hr:rop R.G st d (.look kk zero ok y j)=some (z,st')):Sim P R a W o z st':=by
 have h1:=h.ev hk;have h2:=h.ev hk2;simp only[rop]at hr
 split at hr <;> try (simp at hr;done)
 rename_i kvs hm;have hzr:(zeroValue e).run P W = .ok zv W:=by simp[Sem.run_bind,zeroValue,typeInfo,hi,hz]
 have found:∀ r,kk.get (evA R.G st j) kvs=some r->∃ v,(Instr.lookup t (a.eval m) (a.eval k) ok).run P W = .ok v W/\VR (st.env R.M κ) W (if ok=true then .tup [r.getD zero,.bool r.isSome] else r.getD zero) v:=by
  intro r hg;unfold KK.get at hg
  split at hg <;> try (simp at hg;done)
  rename_i his;have hik:=Z1l hkk his h2
  have fin:∀ (x:AV) (u:Value) (b:Bool),VR (st.env R.M κ) W x u->VR (st.env R.M κ) W (if ok=true then .tup [x,.bool b] else x) (if ok=true then .tuple #[u,.bool b] else u):=λx u b hx=>by
   cases ok
   . exact hx
   . refine .tup _ _ rfl λi q w hq hw=>?_
     match i,hq,hw with
     |0,hq,hw=>cases hq;cases hw;exact hx
     |1,hq,hw=>cases hq;cases hw;exact .pv (.bool _)
  rcases Z1q h h1 hm with ⟨g1,rfl⟩ | ⟨b,es,clock,g1,g2,g3,g4⟩
  . simp only[KK.find,W00]at hg;subst hg;refine ⟨_,?_,fin zero zv false (.pv (Z1s hc))⟩;have hf:=(Z1o hkk h2 [] [] none rfl (by simp) rfl).1;simp[Instr.lookup,Sem.run_bind,run_underlying hu,g1,hik,hf,hzr]
    try (cases ok <;> rfl)
  . split at hg
    . rename_i q hq;obtain ⟨e1,p,q1,q2,q3,q4⟩:=Z1o hkk h2 kvs es.toList _ g3 (λi y z e h5 h6=>(g4 i y z e h5 h6).1) hq;rw[q2]at hg;simp only[W0m,W00]at hg;subst hg;refine ⟨_,?_,fin p.2 e1.val true (g4 q p.1 p.2 e1 q2 q1).2⟩;simp[Instr.lookup,Sem.run_bind,run_underlying hu,g1,MapKept.run_getObj_map g2,hik,q4]
      try (cases ok <;> rfl)
    . rename_i hq;simp only[W00]at hg;subst hg;obtain ⟨q4,-⟩:=Z1o hkk h2 kvs es.toList _ g3 (λi y z e h5 h6=>(g4 i y z e h5 h6).1) hq;refine ⟨_,?_,fin zero zv false (.pv (Z1s hc))⟩;simp[Instr.lookup,Sem.run_bind,run_underlying hu,g1,MapKept.run_getObj_map g2,hik,q4,hzr]
      try (cases ok <;> rfl)
    . cases hg
 split at hr <;> simp only[W00,W06,reduceCtorEq]at hr
 all_goals
  rename_i hg;obtain ⟨rfl,rfl⟩:=hr;obtain ⟨v,g1,g2⟩:=found _ hg;exact .val h (by simp only[execOp,ho,Sem.run_bind,g1,Result.andThen_ok,Sem.run_pure]) g2
def Z1u (h:SK R st a W κ) {o:Oper} {t:TypeId} {r:Option Operand} (ho:o.op = .makeMap t r)
  (hr0:okMk P t r=true)
  {z:AV} {st':St} {d:Nat} (hr:rop R.G st d .mkmap=some (z,st')):Sim P R a W o z st':=by
 simp only[rop]at hr
 split at hr <;> simp only[W00,W06,reduceCtorEq]at hr
 rename_i hd;obtain ⟨rfl,rfl⟩:=hr
 have hrun:(Instr.makeMap t (r.map a.eval)).run P W = .ok (.map (some W.heap.size)) (W.alloc (.map #[] 0)):=by
  unfold okMk at hr0
  split at hr0 <;> try (simp at hr0;done)
  . simp[Instr.makeMap,Sem.run_bind]
  . split at hr0 <;> try (simp at hr0;done)
    rename_i k n kt e hu;simp[Instr.makeMap,Sem.run_bind,Act.eval,run_underlying hu,asInt,asIntOf]
 refine ⟨.map (some W.heap.size),_,_,.inl (by simp only[execOp,ho,Sem.run_bind,hrun,Result.andThen_ok,Sem.run_pure]),h.newO hd (obj:=.mp []) (ob:=.map #[] 0) ⟨rfl,#[],0,rfl,MapKept.stamped_empty 0,rfl,by simp⟩,?_⟩;exact .mp d W.heap.size (by simp[St.env]) (by simp[St.env,St.get_set,AObj.dim])
def SK.setMap (h:SK R st a W κ) {k b:Nat} {kvs kvs':List (AV×AV)} {es es':Array MapEntry} {c c':Nat} (hg:st.get k=some (.mp kvs)) (hk:κ k=some (b,0)) (hb:W.heap[b]? = some (.map es c))
  (hs:MapKept.Stamped es' c') (hn:es'.size=kvs'.length) (hv:∀ (i:Nat) (x y:AV),kvs'[i]? = some (x,y)->∃ e,es'[i]? = some e/\VR (st.env R.M κ) W x e.key/\VR (st.env R.M κ) W y e.val) :
  SK R (st.set k (.mp kvs')) a { W with heap:=W.heap.setIfInBounds b (.map es' c') } κ:=by
 obtain ⟨g1,g2⟩:=MapKept.heap_set (o':=.map es' c') hb;exact h.changeO hg hk hb (λe=>by cases e) rfl (λcs t e=>by cases e) (by simp) g1 (λi _ hi=>g2 i hi) rfl rfl rfl ⟨rfl,es',c',rfl,hs,hn,hv⟩
def Z1v (h:SK R st a W κ) {o:Oper} {t:TypeId} {m k v:Operand} {kk:KK} {y j u:RA} {kt e:TypeId} (ho:o.op = .mapUpdate t m k v∨o.op = .insert t m k v)
  (hu:P.underlying t=some (.map kt e)) (hkk:kkB P kt kk=true) (hk:okA m y=true) (hk2:okA k j=true) (hk3:okA v u=true)
  {z:AV} {st':St} {d:Nat} (hr:rop R.G st d (.mupd kk y j u)=some (z,st')):Sim P R a W o z st':=by
 have h1:=h.ev hk;have h2:=h.ev hk2;have h3:=h.ev hk3;simp only[rop]at hr
 split at hr <;> try (simp at hr;done)
 rename_i n e1;rw[e1]at h1
 split at hr <;> try (simp at hr;done)
 rename_i kvs hg
 split at hr <;> simp only[W00,W06,reduceCtorEq]at hr
 rename_i kvs' hp;obtain ⟨rfl,rfl⟩:=hr;obtain ⟨b,es,c,g1,g2,g3,g4,g5,g6⟩:=h.mp h1 hg;obtain ⟨p1,p2⟩:=Z1p g5 g6;unfold KK.put at hp
 split at hp <;> try (simp at hp;done)
 rename_i his;have hik:=Z1l hkk his h2
 have fin:∀ {W':World},(Instr.mapUpdate t (a.eval m) (a.eval k) (a.eval v)).run P W = .ok () W'->(execOp a.eval o).run P W = .ok .skip W':=λ{W'} hrun=>by
  rcases ho with ho|ho <;> simp only[execOp,ho,Sem.run_bind,hrun,Result.andThen_ok,Sem.run_pure]
 split at hp
 . rename_i q hq;simp only[W00]at hp;subst hp;obtain ⟨e2,p,q1,q2,q3,q4⟩:=Z1o hkk h2 kvs es.toList _ p1 (λi y z e h5 h6=>(p2 i y z e h5 h6).1) hq;have hj:es[q]? = some e2:=by simpa using q1
   have hrun:(Instr.mapUpdate t (a.eval m) (a.eval k) (a.eval v)).run P W = .ok () { W with heap:=W.heap.setIfInBounds b (.map (es.modify q λe=>{ e with key:=a.eval k,val:=a.eval v }) c) }:=by
    simp[Instr.mapUpdate,Sem.run_bind,run_underlying hu,g1,MapKept.run_getObj_map g3,hik,q4,hj,q3,Z1m his h2,MapKept.run_setObj_map _ g3]
   refine ⟨Go.undef,_,κ,.inr ⟨fin hrun,rfl⟩,h.setMap hg g2 g3 (MapKept.stamped_modify g4 q _ (λ_ _=>rfl) (λe3 _ he3=>by rw[hj]at he3;cases he3;exact q3.symm)) (by simpa using g5) (λi x y hi=>?_),.pv .hole⟩;rw[W28]at hi;rw[Array.getElem?_modify]
   split at hi
   . rename_i e3;subst e3
     split at hi <;> simp only[W00,W06,reduceCtorEq]at hi
     obtain ⟨rfl,rfl⟩:=hi;exact ⟨_,by rw[if_pos rfl,hj];rfl,h2,h3⟩
   . rename_i e3;obtain ⟨e4,r1,r2⟩:=g6 i x y hi;exact ⟨e4,by rw[if_neg e3];exact r1,r2⟩
 . rename_i hq;simp only[W00]at hp;subst hp;obtain ⟨q4,q5⟩:=Z1o hkk h2 kvs es.toList _ p1 (λi y z e h5 h6=>(p2 i y z e h5 h6).1) hq
   have hrun:(Instr.mapUpdate t (a.eval m) (a.eval k) (a.eval v)).run P W = .ok () { W with heap:=W.heap.setIfInBounds b (.map (es.push { key:=a.eval k,val:=a.eval v,born:=c }) (c+1)) }:=by
    simp[Instr.mapUpdate,Sem.run_bind,run_underlying hu,g1,MapKept.run_getObj_map g3,hik,q4,MapKept.run_setObj_map _ g3]
   refine ⟨Go.undef,_,κ,.inr ⟨fin hrun,rfl⟩,h.setMap hg g2 g3 (MapKept.stamped_push g4 q5) (by simp[g5]) (λi x y hi=>?_),.pv .hole⟩;rw[Array.getElem?_push];rw[W1q]at hi
   split at hi
   . rename_i hlt;obtain ⟨e4,r1,r2⟩:=g6 i x y hi;exact ⟨e4,by rw[if_neg (by omega)];exact r1,r2⟩
   . rename_i hge;have h0:i-kvs.length=0:=(by have:=(W02.1 hi).1;simp at this;omega);rw[h0]at hi;simp only[List.getElem?_cons_zero,W00,W06]at hi;obtain ⟨rfl,rfl⟩:=hi;exact ⟨_,by rw[if_pos (by omega)],h2,h3⟩
 . cases hp
def Z1w (h:SK R st a W κ) {o:Oper} {c:Call} {t:TypeId} {ts:List TypeId} {m k:Operand} {kk:KK} {y j:RA} {kt e:TypeId} (ho:o.op = .call c) (hc:c={ callee:=.builtin .delete,args:=⟨[m,k]⟩,argTypes:=⟨t::ts⟩ })
  (hu:P.underlying t=some (.map kt e)) (hkk:kkB P kt kk=true) (hk:okA m y=true) (hk2:okA k j=true)
  {z:AV} {st':St} {d:Nat} (hr:rop R.G st d (.mdel kk y j)=some (z,st')):Sim P R a W o z st':=by
 have h1:=h.ev hk;have h2:=h.ev hk2;subst hc;simp only[rop]at hr
 split at hr <;> try (simp at hr;done)
 rename_i n e1;rw[e1]at h1
 split at hr <;> try (simp at hr;done)
 rename_i kvs hg
 split at hr <;> simp only[W00,W06,reduceCtorEq]at hr
 rename_i kvs' hp;obtain ⟨rfl,rfl⟩:=hr;obtain ⟨b,es,c,g1,g2,g3,g4,g5,g6⟩:=h.mp h1 hg;obtain ⟨p1,p2⟩:=Z1p g5 g6;unfold KK.del at hp
 split at hp <;> try (simp at hp;done)
 rename_i his;have hik:=Z1l hkk his h2
 have fin:∀ {W':World},(Builtin.delete_ ⟨t::ts⟩ o.type #[a.eval m,a.eval k]).run P W = .ok (.tuple #[]) W'->(execOp a.eval o).run P W = .ok (.value (.tuple #[])) W':=λ{W'} hrun=>by
  simp only[execOp,ho,resolve,invoke,builtin,Sem.run_bind,Sem.run_pure,Result.andThen_ok,List.map_toArray,W0F,W1c,hrun]
 have tu:∀ {E:Env} {W:World},VR E W (.tup []) (.tuple #[]):=.pv (.tup [] #[] rfl (by simp))
 split at hp
 . rename_i q hq;simp only[W00]at hp;subst hp;obtain ⟨e2,p,q1,q2,q3,q4⟩:=Z1o hkk h2 kvs es.toList _ p1 (λi y z e h5 h6=>(p2 i y z e h5 h6).1) hq;have hj:es[q]? = some e2:=(by simpa using q1);have hlt:q<es.size:=(W0c.1 hj).1
   have hrun:(Builtin.delete_ ⟨t::ts⟩ o.type #[a.eval m,a.eval k]).run P W = .ok (.tuple #[]) { W with heap:=W.heap.setIfInBounds b (.map (es.eraseIdxIfInBounds q) c) }:=by
    simp[Builtin.delete_,Sem.run_bind,run_underlying hu,g1,MapKept.run_getObj_map g3,hik,q4,MapKept.run_setObj_map _ g3]
   refine ⟨_,_,κ,.inl (fin hrun),h.setMap hg g2 g3 (MapKept.stamped_erase g4 q) ?_ (λi x y hi=>?_),tu⟩
   . unfold Array.eraseIdxIfInBounds;rw[dif_pos hlt,Array.size_eraseIdx,List.length_eraseIdx,if_pos (by omega),g5]
   . have he:(es.eraseIdxIfInBounds q)[i]? = if i<q then es[i]? else es[i+1]?:=by
      unfold Array.eraseIdxIfInBounds;rw[dif_pos hlt,Array.getElem?_eraseIdx]
     rw[List.getElem?_eraseIdx]at hi;rw[he]
     split at hi
     . rename_i h5;rw[if_pos h5];exact g6 i x y hi
     . rename_i h5;rw[if_neg h5];exact g6 (i+1) x y hi
 . rename_i hq;simp only[W00]at hp;subst hp;obtain ⟨q4,q5⟩:=Z1o hkk h2 kvs es.toList _ p1 (λi y z e h5 h6=>(p2 i y z e h5 h6).1) hq
   have hrun:(Builtin.delete_ ⟨t::ts⟩ o.type #[a.eval m,a.eval k]).run P W = .ok (.tuple #[]) { W with heap:=W.heap.setIfInBounds b (.map es c) }:=by
    simp[Builtin.delete_,Sem.run_bind,run_underlying hu,g1,MapKept.run_getObj_map g3,hik,q4,MapKept.run_setObj_map _ g3]
   exact ⟨_,_,κ,.inl (fin hrun),h.setMap hg g2 g3 g4 g5 g6,tu⟩
 . cases hp
end
structure ROper where
 d:Option Nat
 op:ROp
 guard:Option (Nat×Bool):=none
 aft:List Nat:=[]
 deriving Inhabited
inductive RCode where
 |skip
 |reg (id:Nat) (draw:Bool) (ops:List ROper)
 |seq (a b:RCode)
 |cond (c:RA) (a b:RCode)
 |block (id:Nat) (c:RCode)
 |loop (c:RCode)
 |exit (id:Nat)
 |ret
 |scope (c:RCode)
 |label (id:Nat)
 |rngf (g:RA) (ps:List Nat) (assign body:RCode)
 |raw (p:Nat->Code->Bool)
 deriving Inhabited
namespace Qq
def O:AV:=.int .i64 0
def I:AV:=.int .i64 1
def w (d:Nat) (o:ROp):ROper:={ d:=some d,op:=o }
def z (o:ROp):ROper:={ d:=none,op:=o }
def m (d x:Nat):ROper:={ d:=some d,op:=.mov (.t x) }
def n (d:Nat) (v:AV):ROper:={ d:=some d,op:=.mov (.c v) }
def l (d x:Nat):ROper:={ d:=some d,op:=.load false 1 (.t x) }
def L (d k x:Nat):ROper:={ d:=some d,op:=.load true k (.t x) }
def f (d k x:Nat):ROper:={ d:=some d,op:=.faddr k (.t x) }
def b (d x:Nat):ROper:={ d:=some d,op:=.box (.t x) }
def e (d x:Nat):ROper:={ d:=some d,op:=.len (.t x) }
def x (d i y:Nat):ROper:={ d:=some d,op:=.ext i (.t y) }
def i (d s x y:Nat):ROper:={ d:=some d,op:=.iaddr s (.t x) (.t y) }
def s (k x y:Nat):ROper:={ d:=none,op:=.store k (.t x) (.t y) }
def o (d:Nat) (p:BinOp) (x y:Nat):ROper:={ d:=some d,op:=.bin p (.t x) (.t y) }
def k (d:Nat) (p:BinOp) (x:Nat) (v:AV):ROper:={ d:=some d,op:=.bin p (.t x) (.c v) }
def u (d x y:Nat):ROper:={ d:=some d,op:=.pick (.t x) (.c (.bool true)) (.t y) }
def v (d x y:Nat):ROper:={ d:=some d,op:=.pick (.t x) (.t y) (.c (.bool false)) }
def t (d x:Nat):ROper:={ d:=some d,op:=.un .not (.t x) }
def T:List Nat->List RA
 |[]=>[]
 |a::r=>.t a::T r
def c (d f:Nat) (a:List Nat):ROper:={ d:=some d,op:=.call f (T a) }
def a (l:List Nat):ROper->ROper
 | ⟨d,o,g,_⟩=>⟨d,o,g,l⟩
def g (j:Nat) (q:Bool):ROper->ROper
 | ⟨d,o,_,l⟩=>⟨d,o,some (j,q),l⟩
def r (j:Nat) (l:List ROper):RCode:=.reg j false l
def R (j:Nat) (l:List ROper):RCode:=.reg j true l
def S:List RCode->RCode
 |[]=>.skip
 |[a]=>a
 |a::b::y=>.seq a (S (b::y))
def K (j q:Nat) (l:List ROper):RCode:=.cond (.t j) (.seq (.reg q false l) .ret) .skip
def F (n p k d x y:Nat) (A B:RCode):RCode:=.block n (.loop (.seq (.reg k false [o d .lss x y]) (.seq (.cond (.t d) .skip (.exit n)) (.seq (.block p A) B))))
attribute [simp] O I w z m n l L f b e x i s o k u v t T c a g r R S K F
end Qq
def entB (P:Program) (f:FuncId):Bool:=match P.funcs[f]? with
 |some fn=>fn.body.isSome && !(fn.name == "runtime.NumGoroutine")
 |none=>false
def Z1x (o:Op) (r:ROp):Bool:=match o,r with
 |.call { callee:=.value (.func g),args:=⟨xs⟩,.. },.call f ys=>f == g&&allB2 okA xs ys
 |.call { callee:=.value (.func g),args:=⟨xs⟩,.. },.calln f ys=>f == g&&allB2 okA xs ys
 |.call { callee:=.value x,args:=⟨xs⟩,.. },.callv y ys=>okA x y&&allB2 okA xs ys
 |_,_=>false
def Z1y:ROp->Bool
 |.call .. | .callv .. | .calln ..=>true
 |_=>false
def Z1z (P:Program) (N:Nat) (ops:Array Oper) (o:Oper) (r:ROper):Bool :=
 decide (o.dst=r.d)&&(match r.d with|some d=>decide (d<N)|none=>true)&&(if Z1y r.op=true then Z1x o.op r.op else okOp P o.op r.op) &&
  (match o.guard,r.guard with
  |none,none=>true
  |some (j,b),some (t,b')=>decide ((ops[j]?).bind (·.dst)=some t)&&decide (t<N)&&b == b'
  |_,_=>false)
def Z1A (P:Program) (N:Nat):Code->RCode->Bool
 |.skip,.skip=>true
 |.region id ops draw,.reg id' draw' rs=>id == id'&&draw == draw'&&allB2 (Z1z P N ops) ops.toList rs&&(!draw||allB2 (λ(o:Oper) (r:ROper)=>decide ((o.after.toList.filter (Region.binds .any ·)).map (·.on)=r.aft)) ops.toList rs)
 |.seq a b,.seq a' b'=>Z1A P N a a'&&Z1A P N b b'
 |.cond c a b,.cond c' a' b'=>okA c c'&&Z1A P N a a'&&Z1A P N b b'
 |.block id c,.block id' c'=>id == id'&&Z1A P N c c'
 |.loop c,.loop c'=>Z1A P N c c'
 |.exit id,.exit id'=>id == id'
 |.ret,.ret=>true
 |.scope c,.scope c'=>Z1A P N c c'
 |.label id,.label id'=>id == id'
 |c,.raw p=>p N c
 |.rangeFunc g ps c b,.rngf g' ps' c' b'=>okA g g'&&ps.toList == ps'&&ps'.all (λp=>decide (p<N))&&Z1A P N c c'&&Z1A P N b b'
 |_,_=>false
def PC (P:Program) (G:Jg) (f:FuncId) (args:List AV) (r:AV):Prop :=
 entB P f=true/\∀ (M:Nat->Prop) (W:World) (vs:Array Value),(∀ b,M b->b<W.heap.size)->GR G M W->vs.size=args.length ->
  (∀ (i:Nat) (x:AV) (u:Value),args[i]? = some x->vs[i]? = some u->PV M W x u)->Calls P f vs W λe W'=>∃ v,e = .returned v/\PV M W' r v/\Ext W W'
def AV.flat:AV->Bool
 |.hole | .int .. | .bool _ | .abool | .str _ | .nilp | .nils | .nilm | .nilf | .nes=>true
 |.agg xs | .tup xs=>xs.attach.all (λ⟨x,_⟩=>x.flat)
 |_=>false
def PV.flat {M M':Nat->Prop} {W:World} {x:AV} {v:Value} (h:PV M W x v):x.flat=true->PV M' W x v:=by
 induction h with
 |hole=>exact λ_=>.hole
 |int k n=>exact λ_=>.int k n
 |bool b=>exact λ_=>.bool b
 |abool b=>exact λ_=>.abool b
 |str s=>exact λ_=>.str s
 |nilp=>exact λ_=>.nilp
 |nils=>exact λ_=>.nils
 |nilm=>exact λ_=>.nilm
 |nilf=>exact λ_=>.nilf
 |nes a c h=>exact λ_=>.nes a c h
 |tok S a l c h=>intro h;simp[AV.flat]at h
 | agg xs us h1 hx ih =>
   intro h;simp only[AV.flat,W03,W0V,W1x,W1l]at h;exact .agg xs us h1 (λi x u hi hu=>ih i x u hi hu (h x (W0d hi)))
 | tup xs us h1 hx ih =>
   intro h;simp only[AV.flat,W03,W0V,W1x,W1l]at h;exact .tup xs us h1 (λi x u hi hu=>ih i x u hi hu (h x (W0d hi)))
 |_=>intro h;simp[AV.flat]at h
def Yj {α β:Type} (f:α->Option β):List α->Option (List β)
 |[]=>some []
 | x::xs=>match f x,Yj f xs with
   |some y,some ys=>some (y::ys)
   |_,_=>none
def Yh (ok:Nat->Bool) (st:St):Nat->AV->Option AV
 | n+1,.func fn xs ys=>match Yj (Yh ok st n) xs,Yj (Yh ok st n) ys with
   |some a,some b=>some (.func fn a b)
   |_,_=>none
 |n+1,.agg xs=>(Yj (Yh ok st n) xs).map .agg
 |n+1,.tup xs=>(Yj (Yh ok st n) xs).map .tup
 | n+1,.osl k m=>match st.get k with
   |some (.row _ rows)=>if ok k=true/\rows.length=m then if rows.all (λr=>r.all AV.pure)=true then some (.vsl rows) else (Yj (Yj (Yh ok st n)) rows).map .vsl else none
   |_=>none
 | n+1,.oss k m lo hi=>match st.get k with
   |some (.row _ rows)=>if ok k=true/\rows.length=m then if ((rows.take hi).drop lo).all (λr=>r.all AV.pure)=true then some (.vsl ((rows.take hi).drop lo)) else (Yj (Yj (Yh ok st n)) ((rows.take hi).drop lo)).map .vsl else none
   |_=>none
 | n+1,.ptr k off=>match st.get k with
   |some (.box cells)=>if ok k=true then (Yj (Yh ok st n) cells).map λcs=>.vptr cs off else none
   |_=>none
 | n + 1,.mp k=>match st.get k with
   | some (.mp kvs)=>if ok k=true then if kvs.all (λp=>p.1.pure&&p.2.pure)=true then some (.vmap kvs) else match Yj (Yh ok st n) (kvs.map (·.1)),Yj (Yh ok st n) (kvs.map (·.2)) with
     |some ks,some vs=>some (.vmap (ks.zip vs))
     |_,_=>none
     else none
   |_=>none
 |_,x=>if x.pure=true then some x else none
def okAll:Nat->Bool:=λ_=>true
def snap (st:St):AV->Option AV:=Yh okAll st 6
def CallR (P:Program) (G:Jg) (st:St) (f:FuncId) (args:List AV) (v:AV):Prop :=
 (args.all AV.pure=true/\PC P G f args v)∨(v.flat=true/\∃ ys,Yj (snap st) args=some ys/\PC P G f ys v)
def St.putd (st:St) (d:Option Nat) (x:AV):St:=match d with
 |some n=>st.put n x
 |none=>st
def wants (st:St):Option (Nat×Bool)->Option Bool
 |none=>some true
 | some (t,b)=>match st.tmp t with
   |some (.bool c)=>some (c == b)
   |some .hole=>some false
   |_=>none
def Z1B (P:Program) (G:Jg) (st:St) (f:FuncId) (args:List AV) (v:AV) (st1:St):Prop :=
 ∀ (R:Run) (a:Act) (W:World) (κ:Nat->Option (Nat×Nat)) (vs:Array Value),R.G=G->SK R st a W κ->CR (st.env R.M κ) W args vs.toList ->
   entB P f=true/\Calls P f vs W λe W'=>∃ u κ1,e = .returned u/\SK R st1 a W' κ1/\VR (st1.env R.M κ1) W' v u
def PPC (P:Program) (G:Jg) (f:FuncId) (args:List AV) (ch:List PanicEntry):Prop :=
 entB P f=true/\∀ (M:Nat->Prop) (W:World) (vs:Array Value),(∀ b,M b->b<W.heap.size)->GR G M W->vs.size=args.length ->
  (∀ (i:Nat) (x:AV) (u:Value),args[i]? = some x->vs[i]? = some u->PV M W x u)->Calls P f vs W λe W'=>e = .panicked ch/\Ext W W'
def Z1C (P:Program) (G:Jg) (st:St) (f:FuncId) (args:List AV) (ch:List PanicEntry):Prop :=
 ∃ ys,Yj (snap st) args=some ys/\PPC P G f ys ch
def CallW (P:Program) (G:Jg) (st:St) (f:FuncId) (args:List AV) (next:AV->St->Prop) (pan:List PanicEntry->Prop):Prop :=
 (∃ v,CallR P G st f args v/\next v st)∨(∃ v st1,Z1B P G st f args v st1/\next v st1)∨∃ ch,Z1C P G st f args ch/\pan ch
def PN (P:Program) (G:Jg) (f:FuncId) (args:List AV) (sz:Nat) (rows:List (List AV)):Prop :=
 entB P f=true/\∀ (M:Nat->Prop) (W:World) (vs:Array Value),(∀ b,M b->b<W.heap.size)->GR G M W->vs.size=args.length ->
  (∀ (i:Nat) (x:AV) (u:Value),args[i]? = some x->vs[i]? = some u->PV M W x u)->Calls P f vs W λe W'=>∃ b s cs t c,e = .returned (.slice (some ⟨b,s,none⟩) rows.length c)/\Ext W W'/\W.heap.size<=b/\b<W'.heap.size /\
   rows.length<=c/\c<=maxLen/\W'.heap[b]? = some (.cells cs t (0,0))/\s+c*sz<=cs.size/\∀ E:Env,ObjR E W' b s (.row sz rows)
def NewR (P:Program) (G:Jg) (st:St) (d:Nat) (f:FuncId) (args:List AV) (sz:Nat) (rows:List (List AV)):Prop:=st.get d=none/\args.all AV.pure=true/\PN P G f args sz rows
def RW (P:Program) (G:Jg):List ROper->St->(Exit->St->Prop)->Prop
 |[],st,K=>K .normal st
 | r :: rs,st,K=>match wants st r.guard with
   |none=>False
   | some w=>(w=false->RW P G rs (st.putd r.d .hole) K)/\(w=true->match r.op with
     |.call f args=>CallW P G st f (args.map (evA G st)) (λv st1=>RW P G rs (st1.putd r.d v) K) (λch=>K (.panic ch) st)
     |.calln f args=>(∃ v,CallR P G st f (args.map (evA G st)) v/\RW P G rs (st.putd r.d v) K)∨∃ sz rows,NewR P G st (r.d.getD 0) f (args.map (evA G st)) sz rows/\RW P G rs ((st.set (r.d.getD 0) (.row sz rows)).putd r.d (.osl (r.d.getD 0) rows.length)) K
     | .callv f args=>match evA G st f with
       |.func (.func g) first caps=>CallW P G st g (first++args.map (evA G st)++caps) (λv st1=>RW P G rs (st1.putd r.d v) K) (λch=>K (.panic ch) st)
       |_=>False
     | op=>match rop G st (r.d.getD 0) op with
       |some (x,st')=>RW P G rs (st'.putd r.d x) K
       |none=>False)
def FW (rd:Option Nat):Fence:={ Fence.wide with round:=rd }
def Z1D {rd:Option Nat} {n:Nat} {f:FuncId} {args:Array Value} {W:World} {Q:Ending->World->Prop} {P:Program}:CallsIn (FW rd) n P f args W Q↔Calls P f args W Q:=callsIn_wide (n:=n)
def wpFW {n:Nat} {P:Program} {c:Code} {Q:Exit->Act->World->Prop} {a:Act} {w:World}:c.wpIn (FW none) n P Q a w↔c.wp P Q a w:=wpIn_wide
section
variable {F:Fence} {n:Nat} {P:Program} {b:Frame} {a:Act} {k:List Item} {cs:List Frame} {w:World} {Q:Exit->Act->World->Prop}
def Z1E {c:Code}:step P (lone (b.atR a (.code (.scope c)::k)) cs w) = .next (lone (b.atR a (.code c :: .inScope c::k)) cs w) :=
 step_lone_go (by simp[stepG,stepG.exec,Frame.atR])
def Z1F {c:Code}:step P (lone (b.atR a (.inScope c::k)) cs w) = .next (lone (b.atR a k) cs w) :=
 step_lone_go (by simp[stepG,stepG.exec,Frame.atR])
def Z1G {c:Code} (h:c.wpIn F n P (Exit.noGoto Q) a w):(Code.scope c).wpIn F n P Q a w:=by
 intro b k cs hro hb hr;have h0:(lone (b.atR a (.code (.scope c)::k)) cs w).fenced P F:=fenced_calm hb hr rfl;obtain ⟨e,a₁,w₁,hq,harr⟩:=h b (.inScope c::k) cs hro hb hr
 cases e with
 |normal=>exact ⟨.normal,a₁,w₁,hq,.head h0 Z1E (StepsIn.trans harr (.one (fenced_calm hb hr rfl) Z1F))⟩
 | exit id =>
   have hx:exitTo id (.inScope c::k)=exitTo id k:=by simp[exitTo]
   exact ⟨.exit id,a₁,w₁,hq,λk' hk=>.head h0 Z1E (harr.1 k' (by rw[hx];exact hk)),
    λhr' hk=>let ⟨k₁,h1,h2⟩:=harr.2 hr' (by rw[hx];exact hk);⟨k₁,h1,.head h0 Z1E h2⟩⟩
 |goto l=>exact hq.elim
 |ret=>exact ⟨_,a₁,w₁,hq,.of_steps (.one h0 Z1E) harr⟩
 |panic ch=>exact ⟨_,a₁,w₁,hq,.of_steps (.one h0 Z1E) harr⟩
 |outgrown=>exact ⟨_,a₁,w₁,hq,.of_steps (.one h0 Z1E) harr⟩
end
def AW (P:Program) (R:Run) (c:Code) (st:St) (Φ:Exit->St->Prop):Prop :=
 ∀ (n:Nat) a W,SR R st a W->c.wpIn (FW R.rd) n P (λe a' W'=>∃ st',Φ e st'/\SR R st' a' W') a W
def AR (P:Program) (R:Run) (rc:RCode) (st:St) (Φ:Exit->St->Prop):Prop:=∀ c,Z1A P R.N c rc=true->AW P R c st Φ
def Ym (st st':St):Prop:=∀ R a W,SR R st a W->SR R st' a W
section
variable {P:Program} {R:Run} {st:St} {Φ:Exit->St->Prop}
def SK.putd {a:Act} {W:World} {κ:Nat->Option (Nat×Nat)} (h:SK R st a W κ) {d:Option Nat} (hd:∀ n,d=some n->n<R.N) {x:AV} {v:Value} (hv:VR (st.env R.M κ) W x v):SK R (st.putd d x) (a.put d v) W κ:=by
 cases d with
 |none=>exact h
 |some n=>exact h.put (hd n rfl) hv
def Z1H (h:Φ .normal st):AR P R .skip st Φ:=by
 intro c hc m a W hs
 cases c <;> simp[Z1A]at hc
 exact wpIn_skip ⟨st,h,hs⟩
def Z1I (h:Φ .ret st):AR P R .ret st Φ:=by
 intro c hc m a W hs
 cases c <;> simp[Z1A]at hc
 exact wpIn_ret ⟨st,h,hs⟩
def Z1J {id:Nat} (h:Φ .normal st):AR P R (.label id) st Φ:=by
 intro c hc m a W hs
 cases c <;> simp[Z1A]at hc
 exact wpIn_label ⟨st,h,hs⟩
def Scp (Φ:Exit->St->Prop):Exit->St->Prop
 |.goto _,_=>False
 |e,st=>Φ e st
def Z1K {a:RCode} (h:AR P R a st (Scp Φ)):AR P R (.scope a) st Φ:=by
 intro c hc m x W hs
 cases c <;> simp only[Z1A,W05]at hc
 rename_i c1;refine Z1G (wpIn_mono (h c1 hc m x W hs) ?_);rintro e a' W' ⟨st',h1,h2⟩
 cases e
 case goto=>exact h1.elim
 all_goals exact ⟨st',h1,h2⟩
def Z1L {id:Nat} (h:Φ (.exit id) st):AR P R (.exit id) st Φ:=by
 intro c hc m a W hs
 cases c <;> simp[Z1A]at hc
 subst hc;exact wpIn_exit ⟨st,h,hs⟩
def Thn (P:Program) (R:Run) (b:RCode) (Φ:Exit->St->Prop):Exit->St->Prop
 |.normal,st=>AR P R b st Φ
 |e,st=>Φ e st
def Z1M {a b:RCode} (h:AR P R a st (Thn P R b Φ)):AR P R (.seq a b) st Φ:=by
 intro c hc m x W hs
 cases c <;> simp only[Z1A,W05,W01]at hc
 rename_i c1 c2;refine wpIn_seq (wpIn_mono (h c1 hc.1 m x W hs) ?_);rintro e a' W' ⟨st',h1,h2⟩
 cases e
 case normal=>exact h1 c2 hc.2 m a' W' h2
 all_goals exact ⟨st',h1,h2⟩
def Z1N {c:RA} {a b:RCode} (t:Bool) (hc:evA R.G st c = .bool t) (h1:t=true->AR P R a st Φ) (h2:t=false->AR P R b st Φ):AR P R (.cond c a b) st Φ:=by
 intro k hk m x W hs
 cases k <;> simp only[Z1A,W05,W01]at hk
 rename_i c0 k1 k2;obtain ⟨κ,hκ⟩:=id hs;have he:=hκ.ev hk.1.1;rw[hc]at he;refine wpIn_cond_split he.bool_inv (λht=>h1 ht k1 hk.1.2 m x W hs) (λht=>h2 ht k2 hk.2 m x W hs)
def Z1O {c:RA} {a b:RCode} (hc:evA R.G st c = .abool) (h1:AR P R a st Φ) (h2:AR P R b st Φ):AR P R (.cond c a b) st Φ:=by
 intro k hk m x W hs
 cases k <;> simp only[Z1A,W05,W01]at hk
 rename_i c0 k1 k2;obtain ⟨κ,hκ⟩:=id hs;have he:=hκ.ev hk.1.1;rw[hc]at he
 obtain ⟨t,he⟩ : ∃ t,x.eval c0 = .bool t:=by
  cases he with
  |pv he=>generalize hv:x.eval c0=v at he;cases he;exact ⟨_,rfl⟩
 exact wpIn_cond_split he (λ_=>h1 k1 hk.1.2 m x W hs) (λ_=>h2 k2 hk.2 m x W hs)
def Blk' (id:Nat) (Φ:Exit->St->Prop):Exit->St->Prop
 |.exit id',st=>if id'=id then Φ .normal st else Φ (.exit id') st
 |e,st=>Φ e st
def Z1P {id:Nat} {a:RCode} (h:AR P R a st (Blk' id Φ)):AR P R (.block id a) st Φ:=by
 intro c hc m x W hs
 cases c <;> simp only[Z1A,W05,W01,W0A]at hc
 rename_i id' c1;obtain ⟨rfl,hc⟩:=hc;refine wpIn_block (wpIn_mono (h c1 hc m x W hs) ?_);rintro e a' W' ⟨st',h1,h2⟩
 cases e
 case exit j =>
  simp only[Blk',Exit.inBlock]at *
  split at h1
  . rename_i e;rw[if_pos e];exact ⟨st',h1,h2⟩
  . rename_i e;rw[if_neg e];exact ⟨st',h1,h2⟩
 all_goals exact ⟨st',h1,h2⟩
def Rnd {α:Type} (S:α->St) (I:α->Prop) (μ:α->Nat) (x:α) (Φ:Exit->St->Prop):Exit->St->Prop
 |.normal,st=>∃ y,Ym st (S y)/\I y/\μ y<μ x
 |e,st=>Φ e st
def Z1Q {α:Type} {c:RCode} (S:α->St) (I:α->Prop) (μ:α->Nat) (x0:α) (h0:Ym st (S x0)) (hi:I x0) (hr:∀ x,I x->AR P R c (S x) (Rnd S I μ x Φ)):AR P R (.loop c) st Φ:=by
 intro k hk m a W hs
 cases k <;> simp only[Z1A,W05]at hk
 rename_i c0;refine wpIn_loop_ghost (λn a w=>∃ x,I x/\μ x=n/\SR R (S x) a w) (μ x0) ⟨x0,hi,rfl,h0 R a W hs⟩ ?_;rintro n a W ⟨x,hx,rfl,hs⟩;refine wpIn_mono (hr x hx c0 hk m a W hs) ?_;rintro e a' W' ⟨st',h1,h2⟩
 cases e
 case normal =>
  obtain ⟨y,h3,h4,h5⟩:=h1;exact ⟨μ y,h5,y,h4,rfl,h3 R a' W' h2⟩
 all_goals exact ⟨st',h1,h2⟩
def Ym.refl (st:St):Ym st st:=λ_ _ _ h=>h
def Ym.tmps {t':List (Nat×AV)} (h:∀ n x,lk t' n=some x->lk st.t n=some x):Ym st { st with t:=t' }:=λ_ _ _ ⟨κ,hk⟩=>⟨κ,hk.sub h⟩
def Z1R {α β:Type} {f:α->Option β} {xs:List α} {ys:List β} (h:Yj f xs=some ys):ys.length=xs.length/\∀ (i:Nat) (y:β),ys[i]? = some y->∃ x,xs[i]? = some x/\f x=some y:=by
 induction xs generalizing ys with
 |nil=>simp only[Yj,W00]at h;subst h;exact ⟨rfl,by simp⟩
 | cons x xs ih =>
   simp only[Yj]at h
   split at h <;> simp only[W00,reduceCtorEq]at h
   rename_i y' ys' e1 e2;subst h;obtain ⟨h1,h2⟩:=ih e2;refine ⟨by simp[h1],λi y hy=>?_⟩
   cases i with
   |zero=>simp at hy;subst hy;exact ⟨x,rfl,e1⟩
   |succ i=>simpa using h2 i y (by simpa using hy)
def Z1S {ok:Nat->Bool} {M':Nat->Prop} {a:Act} {W:World} {κ:Nat->Option (Nat×Nat)} (h:SK R st a W κ) (hM:∀ b,M' b->(st.env R.M κ).M b) (hN:∀ k b s,κ k=some (b,s)->ok k=true->¬M' b) :
  ∀ (n:Nat) {x y:AV} {v:Value},VR (st.env R.M κ) W x v->Yh ok st n x=some y->PV M' W y v:=by
 have low:∀ {x:AV} {v:Value},VR (st.env R.M κ) W x v->x.pure=true->PV M' W x v:=λhx hp=>(hx.toPV hp).mono (λb _ hb=>⟨λe=>hb (hM b e),rfl⟩) (W0f _)
 have leaf:∀ {x y:AV} {v:Value},VR (st.env R.M κ) W x v->(if x.pure=true then some x else none)=some y->PV M' W y v:=λhx hs=>by
  split at hs <;> simp only[W00,reduceCtorEq]at hs
  rename_i hp;subst hs;exact low hx hp
 intro n
 induction n with
 |zero=>intro x y v hx hs;cases x <;> exact leaf hx (by simpa only [Yh] using hs)
 | succ n ih =>
   intro x y v hx hs
   cases x
   case func fn xs ys =>
    simp only[Yh]at hs
    split at hs <;> simp only[W00,reduceCtorEq]at hs
    rename_i a1 b1 e1 e2;subst hs;obtain ⟨us,vs,rfl,h1,h2⟩:=hx.func_inv;obtain ⟨g1,g2⟩:=Z1R e1;obtain ⟨g3,g4⟩:=Z1R e2;refine .func _ a1 b1 us vs (by have:=h1.1;simp at this;omega) (by have:=h2.1;simp at this;omega) (λi x u hi hu=>?_) (λi x u hi hu=>?_)
    . obtain ⟨x',h3,h4⟩:=g2 i x hi;exact ih (h1.2 i x' u h3 (by simpa using hu)) h4
    . obtain ⟨x',h3,h4⟩:=g4 i x hi;exact ih (h2.2 i x' u h3 (by simpa using hu)) h4
   case agg xs =>
    simp only[Yh,W04]at hs;obtain ⟨a1,e1,rfl⟩:=hs;obtain ⟨us,rfl,h1⟩:=hx.agg_inv;obtain ⟨g1,g2⟩:=Z1R e1;refine .agg a1 us (by have:=h1.1;simp at this;omega) (λi x u hi hu=>?_);obtain ⟨x',h3,h4⟩:=g2 i x hi;exact ih (h1.2 i x' u h3 (by simpa using hu)) h4
   case tup xs =>
    simp only[Yh,W04]at hs;obtain ⟨a1,e1,rfl⟩:=hs;obtain ⟨us,rfl,h1⟩:=hx.tup_inv;obtain ⟨g1,g2⟩:=Z1R e1;refine .tup a1 us (by have:=h1.1;simp at this;omega) (λi x u hi hu=>?_);obtain ⟨x',h3,h4⟩:=g2 i x hi;exact ih (h1.2 i x' u h3 (by simpa using hu)) h4
   case osl k m =>
    simp only[Yh]at hs
    split at hs <;> try (simp at hs;done)
    rename_i sz rows hg
    split at hs <;> try (simp at hs;done)
    rename_i hc;obtain ⟨hok,hn⟩:=hc;obtain ⟨b,s,c,cs,t,h1,rfl,h2,h3,h4,h5,h6,h7⟩:=h.osl hx hg hn
    have hmul:∀ i j,i<rows.length->j<sz->s+i*sz+j<cs.size:=λi j hi hj=>by
     have:=W0I sz (show i+1<=c by omega);rw[W0Z]at this;omega
    have hnM:¬M' b:=hN k b s h1 hok
    have build:∀ rows':List (List AV),rows'.length=rows.length->(∀ (i:Nat) (r':List AV),rows'[i]? = some r'->∃ r,rows[i]? = some r/\r'.length=r.length/\∀ (j:Nat) (x':AV) (x:AV) (u:Value),r'[j]? = some x'->r[j]? = some x->VR (st.env R.M κ) W x u->PV M' W x' u)->PV M' W (.vsl rows') (.slice (some ⟨b,s,none⟩) m c):=by
     intro rows' hl hr';subst hn;rw[<- hl];refine .vsl rows' _ c sz b s (λi j=>cs.getD (s+i*sz+j) Go.undef) (by omega) h3 (λ_=>⟨rfl,h.loc_lt h1,hnM⟩) (λe=>by cases e) (λr' hr=>?_) (λi j hi hj=>?_) (λi j r x hi hj=>?_)
     . obtain ⟨i,hi⟩:=W1E hr;obtain ⟨r,g1,g2,-⟩:=hr' i r' hi;rw[g2];exact h6 r (W0d g1)
     . have:=hmul i j (by omega) hj;simp[World.cell?,h4,Array.getD,this]
     . obtain ⟨r0,g1,g2,g3⟩:=hr' i r hi;have hj2:j<r0.length:=(by rw[<- g2];exact (W02.1 hj).1);obtain ⟨u,hu,hr⟩:=h7 i j r0 r0[j] g1 (W07 hj2);simp only[W0a,hu,W0P];exact g3 j x r0[j] u hj (W07 hj2) hr
    split at hs
    . rename_i hp;simp only[W00]at hs;subst hs;refine build rows rfl λi r hi=>⟨r,hi,rfl,λj x' x u hx1 hx2 hv=>?_⟩
      rw[hx1]at hx2;simp only[W00]at hx2;subst hx2;exact low hv (W03.1 (W03.1 hp r (W0d hi)) x' (W0d hx1))
    . simp only[W04]at hs;obtain ⟨rows',e1,rfl⟩:=hs;obtain ⟨g1,g2⟩:=Z1R e1;refine build rows' g1 λi r' hi=>?_
      obtain ⟨r,g3,g4⟩:=g2 i r' hi;obtain ⟨g5,g6⟩:=Z1R g4;refine ⟨r,g3,g5,λj x' x u hx1 hx2 hv=>?_⟩;obtain ⟨x2,g7,g8⟩:=g6 j x' hx1;rw[hx2]at g7;simp only[W00]at g7;subst g7;exact ih hv g8
   case oss k m lo hi =>
    simp only[Yh]at hs
    split at hs <;> try (simp at hs;done)
    rename_i sz rows hg
    split at hs <;> try (simp at hs;done)
    rename_i hc;obtain ⟨hok,hn⟩:=hc;obtain ⟨b,s,c,cs,t,ad,h1,rfl,h2,h3,h4,h5,h6,h7,h8,h9,h10,h11⟩:=h.oss hx hg hn
    have hmul:∀ i j,i<hi-lo->j<sz->s+lo*sz+i*sz+j<cs.size:=λi j hi2 hj=>by
     have:=W0I sz (show lo+i+1<=m by omega);rw[W0Z,W0Z]at this;omega
    have hnM:¬M' b:=hN k b s h1 hok;have hlen:((rows.take hi).drop lo).length=hi-lo:=by simp;omega
    have hget:∀ (i:Nat) (r:List AV),((rows.take hi).drop lo)[i]? = some r->rows[lo+i]? = some r:=λi r hi2=>by
     rw[W13,W1k]at hi2
     split at hi2 <;> first|exact hi2|cases hi2
    have build:∀ rows':List (List AV),rows'.length=hi-lo->(∀ (i:Nat) (r':List AV),rows'[i]? = some r'->∃ r,rows[lo+i]? = some r/\r'.length=r.length/\∀ (j:Nat) (x':AV) (x:AV) (u:Value),r'[j]? = some x'->r[j]? = some x->VR (st.env R.M κ) W x u->PV M' W x' u)->PV M' W (.vsl rows') (.slice (some ad) (hi-lo) c):=by
     intro rows' hl hr';rw[<- hl];refine .vsl rows' _ c sz b (s+lo*sz) (λi j=>cs.getD (s+(lo+i)*sz+j) Go.undef) (by omega) h6 (λhne=>?_) (λe=>by cases e) (λr' hr=>?_) (λi j hi2 hj=>?_) (λi j r x hi2 hj=>?_)
     . have:0<rows'.length:=List.length_pos_iff.2 hne;exact ⟨by rw[h2 (by omega)],h.loc_lt h1,hnM⟩
     . obtain ⟨i,hi2⟩:=W1E hr;obtain ⟨r,g1,g2,-⟩:=hr' i r' hi2;rw[g2];exact h9 r (W0d g1)
     . have:=hmul i j (by omega) hj;rw[show s+lo*sz+i*sz+j=s+(lo+i)*sz+j by rw[W0Z];omega]at this ⊢;simp[World.cell?,h7,Array.getD,this]
     . obtain ⟨r0,g1,g2,g3⟩:=hr' i r hi2;have hj2:j<r0.length:=(by rw[<- g2];exact (W02.1 hj).1);obtain ⟨u,hu,hr⟩:=h10 (lo+i) j r0 r0[j] g1 (W07 hj2);simp only[W0a,hu,W0P];exact g3 j x r0[j] u hj (W07 hj2) hr
    split at hs
    . rename_i hp;simp only[W00]at hs;subst hs;refine build _ hlen λi r hi2=>⟨r,hget i r hi2,rfl,λj x' x u hx1 hx2 hv=>?_⟩
      rw[hx1]at hx2;simp only[W00]at hx2;subst hx2;exact low hv (W03.1 (W03.1 hp r (W0d hi2)) x' (W0d hx1))
    . simp only[W04]at hs;obtain ⟨rows',e1,rfl⟩:=hs;obtain ⟨g1,g2⟩:=Z1R e1;refine build rows' (by rw[g1,hlen]) λi r' hi2=>?_
      obtain ⟨r,g3,g4⟩:=g2 i r' hi2;obtain ⟨g5,g6⟩:=Z1R g4;refine ⟨r,hget i r g3,g5,λj x' x u hx1 hx2 hv=>?_⟩;obtain ⟨x2,g7,g8⟩:=g6 j x' hx1;rw[hx2]at g7;simp only[W00]at g7;subst g7;exact ih hv g8
   case ptr k off =>
    simp only[Yh]at hs
    split at hs <;> try (simp at hs;done)
    rename_i cells hg
    split at hs <;> simp only[W04,reduceCtorEq]at hs
    rename_i hok;obtain ⟨cs',e1,rfl⟩:=hs;obtain ⟨b,s,h1,-,rfl⟩:=hx.ptr_inv;obtain ⟨b',s',h2,h3,h4,h5,cs,t,h6,h7,h8⟩:=h.obj k _ hg;rw[show (st.env R.M κ).loc k=κ k from rfl,h2]at h1;simp only[W00,W06]at h1;obtain ⟨rfl,rfl⟩:=h1;subst h5;obtain ⟨g1,g2⟩:=Z1R e1;refine .vptr cs' off b' 0 (λj=>cs.getD j Go.undef) h3 (hN k b' 0 h2 hok) (λj hj=>by simp[World.cell?,h6,Array.getD,h7,show j<cells.length by omega]) (λj x hj=>?_);obtain ⟨x0,g3,g4⟩:=g2 j x hj;obtain ⟨u,hu,hr⟩:=h8 j x0 g3;simp only[W0a,hu,W0P];exact ih hr g4
   case mp k =>
    simp only[Yh]at hs
    split at hs <;> try (simp at hs;done)
    rename_i kvs hg
    split at hs <;> try (simp at hs;done)
    rename_i hok;obtain ⟨b,h1,-,rfl⟩:=hx.mp_inv;obtain ⟨b',s',h2,h3,h4,h5,es,t,h6,h7,h8,h9⟩:=h.obj k _ hg;rw[show (st.env R.M κ).loc k=κ k from rfl,h2]at h1;simp only[W00,W06]at h1;obtain ⟨rfl,rfl⟩:=h1
    have build:∀ kvs':List (AV×AV),kvs'.length=kvs.length->(∀ (i:Nat) (x' y':AV),kvs'[i]? = some (x',y')->∃ x y,kvs[i]? = some (x,y)/\(∀ u,VR (st.env R.M κ) W x u->PV M' W x' u)/\∀ u,VR (st.env R.M κ) W y u->PV M' W y' u)->PV M' W (.vmap kvs') (.map (some b')):=by
     intro kvs' hl hr';refine .vmap kvs' b' es t h3 (hN k b' 0 h2 hok) h6 h7 (by omega) (λi x y e hi he=>?_) (λi x y e hi he=>?_)
     . obtain ⟨x0,y0,g1,g2,-⟩:=hr' i x y hi;obtain ⟨e0,g4,g5,-⟩:=h9 i x0 y0 g1;rw[he]at g4;cases g4;exact g2 _ g5
     . obtain ⟨x0,y0,g1,-,g3⟩:=hr' i x y hi;obtain ⟨e0,g4,-,g6⟩:=h9 i x0 y0 g1;rw[he]at g4;cases g4;exact g3 _ g6
    split at hs
    . rename_i hp;simp only[W00]at hs;subst hs;refine build kvs rfl λi x y hi=>⟨x,y,hi,?_⟩
      have:=W03.1 hp (x,y) (W0d hi);simp only[W01]at this;exact ⟨λu hu=>low hu this.1,λu hu=>low hu this.2⟩
    . split at hs <;> simp only[W00,reduceCtorEq]at hs
      rename_i ks vs e1 e2;subst hs;obtain ⟨g1,g2⟩:=Z1R e1;obtain ⟨g3,g4⟩:=Z1R e2;simp only[W0N]at g1 g3;refine build _ (by simp;omega) λi x y hi=>?_
      rw[List.getElem?_zip_eq_some]at hi;obtain ⟨x0,g5,g6⟩:=g2 i x hi.1;obtain ⟨y0,g7,g8⟩:=g4 i y hi.2;rw[W09,W04]at g5 g7;obtain ⟨p,q1,rfl⟩:=g5;obtain ⟨p',q2,rfl⟩:=g7;rw[q1]at q2;cases q2;exact ⟨p.1,p.2,q1,λu hu=>ih hu g6,λu hu=>ih hu g8⟩
   all_goals exact leaf hx (by simpa only [Yh] using hs)
def Z1T {a:Act} {W:World} {κ:Nat->Option (Nat×Nat)} (h:SK R st a W κ) {x y:AV} {v:Value} (hx:VR (st.env R.M κ) W x v) (hs:snap st x=some y):PV R.M W y v :=
 Z1S h (λb hb=>.inl hb) (λk b s hk _ hM=>by
  obtain ⟨o,ho⟩:=h.dom k _ hk;obtain ⟨b',s',h1,h2,h3,-⟩:=h.obj k o ho;rw[hk]at h1;simp only[W00,W06]at h1;obtain ⟨rfl,rfl⟩:=h1;rcases h3 with h3|h3
  . have:=h.low b hM;omega
  . exact h.apart b hM h3) 6 hx hs
def Z1U {a:Act} {W:World} {κ:Nat->Option (Nat×Nat)} (h:SK R st a W κ) {f:FuncId} {args:List AV} {vs:Array Value} {v:AV} (hc:CallR P R.G st f args v) (ha:CR (st.env R.M κ) W args vs.toList) :
  entB P f=true/\Calls P f vs W λe W'=>∃ u,e = .returned u/\Ext W W'/\SK R st a W' κ/\VR (st.env R.M κ) W' v u:=by
 have hsz:vs.size=args.length:=(by simpa using ha.1);rcases hc with ⟨hp,he,hc⟩ | ⟨hf,ys,hy,he,hc⟩
 . refine ⟨he,(hc (st.env R.M κ).M W vs (λb hb=>h.owned_lt hb) h.gr hsz (λi x u hx hu=>(ha.2 i x u hx (by simpa using hu)).toPV (W03.1 hp x (W0d hx)))).mono ?_⟩;rintro e W' ⟨u,rfl,h1,h2⟩;exact ⟨u,rfl,h2,h.grow h2,.pv h1⟩
 . obtain ⟨g1,g2⟩:=Z1R hy;refine ⟨he,(hc R.M W vs (λb hb=>h.owned_lt (.inl hb)) (h.gr.mono (λb _ hM=>⟨λe=>hM (.inl e),rfl⟩) (W0f _)) (by omega) (λi y u hy hu=>?_)).mono ?_⟩
   . obtain ⟨x,h3,h4⟩:=g2 i y hy;exact Z1T h (ha.2 i x u h3 (by simpa using hu)) h4
   . rintro e W' ⟨u,rfl,h1,h2⟩;exact ⟨u,rfl,h2,h.grow h2,.pv (h1.flat hf)⟩
def Z1V {a:Act} {W:World} {κ:Nat->Option (Nat×Nat)} (h:SK R st a W κ) {f:FuncId} {args:List AV} {vs:Array Value} {ch:List PanicEntry} (hc:Z1C P R.G st f args ch) (ha:CR (st.env R.M κ) W args vs.toList) :
  entB P f=true/\Calls P f vs W λe W'=>e = .panicked ch/\SK R st a W' κ:=by
 obtain ⟨ys,hy,he,hc⟩:=hc;have hsz:vs.size=args.length:=(by simpa using ha.1);obtain ⟨g1,g2⟩:=Z1R hy;refine ⟨he,(hc R.M W vs (λb hb=>h.owned_lt (.inl hb)) (h.gr.mono (λb _ hM=>⟨λe=>hM (.inl e),rfl⟩) (W0f _)) (by omega) (λi y u hy hu=>?_)).mono ?_⟩
 . obtain ⟨x,h3,h4⟩:=g2 i y hy;exact Z1T h (ha.2 i x u h3 (by simpa using hu)) h4
 . rintro e W' ⟨rfl,h2⟩;exact ⟨rfl,h.grow h2⟩
def Z1W {f:FuncId} (h:entB P f=true) (args:Array Value) (W:World):(callFunc f args).run P W = .ok (.enter f args) W:=by
 unfold entB at h
 split at h <;> try (simp at h;done)
 rename_i fn hf;simp only[W01,W1y,beq_eq_false_iff_ne,ne_eq]at h;have h1:¬fn.body=none:=(by intro e;simp[e]at h);simp[callFunc,Sem.run_bind,hf,h.2,h1]
end
end Go.Proofs.YthlcppdbldkldaaDoor
