/-
  The abstract machine: a range over a function that yields two things in each round.
-/
import Derived.Test.YtcdlimgkliklhaaGreatDoorMNjToPb
import Derived.Shelf.Sort.Plain
import Derived.Test.YtcdlimgkliklhaaGreatDoorMAmXToAmXb
set_option linter.all false
set_option maxHeartbeats 8000000
namespace Go.Proofs.YtcdlimgkliklhaaGreatDoor
open Tryz (prog)
open IntKind (i64)
open Go.RowKit
variable {G:Jg}
def Zh7 (P:Program) (G:Jg) (gf:Nat) (caps:List AV) (els:List (AV×AV)):Prop :=
 entB P gf=true/\∀ (n l:Nat) (lb:Array Value) (J:Nat->(Nat->Prop)->World->Prop) (K:World->Prop) (M:Nat->Prop) (W:World),2<=n->(∀ k M A B,J k M A->Ext A B->J k M B)->(∀ A B,K A->Ext A B->K B) ->
  (∀ k M A,J k M A->∀ b,M b->b<A.heap.size)->(∀ k M A,J k M A->GR G M A)->CP M W caps lb ->
  (∀ (k:Nat) (x:AV×AV) (u v:Value) (M:Nat->Prop) (A:World),J k M A->els[k]? = some x->PV M A x.1 u->PV M A x.2 v ->
   YieldAt Fence.wide (n-1) P l #[u,v] A λe A'=>(e = .returned (.bool true)/\∃ M',J (k+1) M' A'/\Since M A M' A')∨(e = .returned (.bool false)/\K A')) ->
  J 0 M W->CallsIn Fence.wide n P gf (#[.func (.yield l) #[] #[]]++lb) W λe W'=>(∃ v,e = .returned v)/\((∃ M,J els.length M W')∨K W')
def Zh8 {n:Nat} {P:Program} {g:Operand} {p q:Nat} {assign body:Code} {Q:Exit->Act->World->Prop} {a:Act} {w:World}
  {gf:Nat} {lb:Array Value} {caps:List AV} {els:List (AV×AV)} (hg:a.eval g = .func (.func gf) #[] lb) {G:Jg} (hit:Zh7 P G gf caps els) (hn:3<=n)
  (I:Nat->(Nat->Prop)->World->Prop) (K:World->Prop) (M0:Nat->Prop) (hIe:∀ k M A B,I k M A->Ext A B->I k M B) (hKe:∀ A B,K A->Ext A B->K B)
  (hIo:∀ (k l:Nat) (M:Nat->Prop) (W:World) (r r':Loop),w.heap.size<=l->I k M W->W.heap[l]? = some (.loop r)->I k M (W.putObj l (.loop r')))
  (hKo:∀ (l:Nat) (W:World) (r r':Loop),w.heap.size<=l->K W->W.heap[l]? = some (.loop r)->K (W.putObj l (.loop r')))
  (hIM:∀ k M A,I k M A->(∀ b,M b->b<A.heap.size)/\∀ (b:Nat) (o:Obj),w.heap.size<=b->A.heap[b]? = some o->Odd o->¬M b)
  (hIG:∀ k M A,I k M A->GR G M A) (hcaps:CP M0 w caps lb) (h0:I 0 M0 w)
  (hround:∀ (l k m:Nat) (x:AV×AV) (u v:Value) (M:Nat->Prop) (W:World) (lr:Loop),w.heap.size<=l->I k M W->W.heap[l]? = some (.loop lr)->els[k]? = some x->PV M W x.1 u->PV M W x.2 v ->
   assign.wpIn (FW (some l)) m P (Exit.then (λa1 W1=>(∀ (b:Nat) (o:Obj),W.heap[b]? = some o->Odd o->W1.heap[b]? = some o) /\
     body.wpIn (FW (some l)) m P (λe _ W'=>((∀ (b:Nat) (o:Obj),W.heap[b]? = some o->Odd o->b≠l->W'.heap[b]? = some o)/\W'.heap[l]? = some (.loop { lr with state:=.busy })) /\
      ((e = .normal/\∃ M',I (k+1) M' W'/\W.heap.size<=W'.heap.size/\∀ b,b<W.heap.size->¬M b->¬M' b/\(b≠l->W'.heap[b]? = W.heap[b]?))∨(e = .ret/\K W'))) a1 (W1.putObj l (.loop { lr with state:=.busy }))) (λ_ _ _=>False))
    { tmps:=(a.tmps.setIfInBounds p u).setIfInBounds q v,defers:=[] } W)
  (hdone:∀ (D:Nat) (M:Nat->Prop) (W:World),w.heap.size<=D->I els.length M W->W.heap[D]? = some (.deferred (some []))->Q .normal { a with defers:=coll D::a.defers } W)
  (hstop:∀ (D:Nat) (W:World),w.heap.size<=D->K W->W.heap[D]? = some (.deferred (some []))->Q .ret { a with defers:=coll D::a.defers } W) :
  (Code.rangeFunc g #[p,q] assign body).wpIn (FW none) n P Q a w:=by
 refine wpIn_rangeFunc ?_;intro fn hfn;obtain ⟨rec,hrec⟩ : ∃ rec:LoopState->Option Code->Loop,rec=λst pe=>{ state:=st,pending:=pe,fn,tmps:=a.tmps,params:=#[p,q],assign,body,defers:=w.heap.size }:=⟨_,rfl⟩
 obtain ⟨W1,hW1⟩ : ∃ W1,(w.alloc (.deferred (some []))).alloc (.loop (rec .ready none))=W1:=⟨_,rfl⟩;have hE1:Ext w W1:=by rw[<- hW1];exact (Ext.refl w).al.al
 have hL1:W1.heap[w.heap.size+1]? = some (.loop (rec .ready none)):=by
  rw[<- hW1];have:=World.alloc_heap_new (w.alloc (.deferred (some []))) (.loop (rec .ready none));rwa [World.size_alloc]at this
 have hK1:W1.heap[w.heap.size]? = some (.deferred (some [])):=by
  rw[<- hW1];exact (Below.heap_alloc _ _ _ (by simp)).trans (World.alloc_heap_new w _)
 have hI1:I 0 M0 W1:=hIe _ _ _ _ h0 hE1;have hC1:CP M0 W1 caps lb:=⟨hcaps.1,λi x u hx hu=>(hcaps.2 i x u hx hu).mono (λb hb hM=>⟨hM,hE1.block b hb⟩) hE1.size⟩
 refine ⟨w.heap.size+1,[{ target:=.collected w.heap.size,args:=#[] }],W1,{ target:=.fn (.func gf) lb,args:=#[.func (.yield (w.heap.size+1)) #[] #[]] },W1,gf,
  #[.func (.yield (w.heap.size+1)) #[] #[]]++lb,W1,?_,?_,λ_ _=>trivial,?_,Z24,?_⟩
 . rw[<- hW1,hrec];exact run_enterLoop_outer _ _ _ _ _
 . simp only[resolve,hg];simp[go_sem]
 . simp[invoke,go_sem,Z1W hit.1]
 . have stay : ∀ {A B:World} {b:Nat} {o:Obj},Ext A B->A.heap[b]? = some o->B.heap[b]? = some o:=λh hb=>(h.block _ (W0c.1 hb).1).trans hb
   refine (hit.2 (n-1) (w.heap.size+1) lb
    (λk M W=>I k M W/\W.heap[w.heap.size+1]? = some (.loop (rec .ready none))/\W.heap[w.heap.size]? = some (.deferred (some [])))
    (λW=>K W/\W.heap[w.heap.size+1]? = some (.loop (rec .done (some .ret)))/\W.heap[w.heap.size]? = some (.deferred (some [])))
    M0 W1 (by omega) (λk M A B h e=>⟨hIe k M A B h.1 e,stay e h.2.1,stay e h.2.2⟩) (λA B h e=>⟨hKe A B h.1 e,stay e h.2.1,stay e h.2.2⟩) (λk M A h=>(hIM k M A h.1).1) (λk M A h=>hIG k M A h.1) hC1 ?_ ⟨hI1,hL1,hK1⟩).mono ?_
   . rintro k x u v M W ⟨hi,hl,hk⟩ hr hus hvs;have hls:w.heap.size+1<W.heap.size:=(W0c.1 hl).1;have hy:=run_yield (P:=P) (args:=#[u,v]) hl (by rw[hrec];rfl);rw[hrec]at hy
     have hfold:(#[p,q].zip #[u,v]).foldl (λt (x:Nat×Value)=>match x with|(p,v)=>t.setIfInBounds p v) a.tmps=(a.tmps.setIfInBounds p u).setIfInBounds q v:=by
      rw[<- Array.foldl_toList,Array.toList_zip];rfl
     have hy:(Instr.yield (w.heap.size+1) #[u,v]).run P W = .ok (.round (w.heap.size+1) fn ((a.tmps.setIfInBounds p u).setIfInBounds q v) assign body) W:=(by rw[<- hfold];exact hy);refine ⟨fn,_,assign,body,hy,roundIn_of_wpIn hfn (wpIn_mono (hround (w.heap.size+1) k _ x u v M W _ (by omega) hi hl hr hus hvs) ?_)⟩;rintro e a1 W2 hp
     cases e with
     | normal =>
       obtain ⟨hodd0,hp⟩:=hp;have hl2:=hodd0 _ _ hl trivial;have hk2:=hodd0 _ _ hk trivial;have hls2:w.heap.size+1<W2.heap.size:=(W0c.1 hl2).1;refine ⟨_,run_beginRound hl2 (by rw[hrec]),wpIn_mono hp ?_⟩;rintro e a3 W3 ⟨⟨hodd,hl3⟩,hp3⟩;have hd3:=hodd _ _ hk trivial (by omega);have hls3:=(W0c.1 hl3).1
       have fin:∀ jump:Option Code,(W3.putObj (w.heap.size+1) (.loop (rec (if jump.isNone then .ready else .done) jump))).heap[w.heap.size+1]? = some (.loop (rec (if jump.isNone then .ready else .done) jump)) /\
         (W3.putObj (w.heap.size+1) (.loop (rec (if jump.isNone then .ready else .done) jump))).heap[w.heap.size]? = some (.deferred (some [])):=λjump =>
        ⟨World.putObj_heap_same hls3,(World.putObj_heap_other (by omega)).trans hd3⟩
       rcases hp3 with ⟨rfl,M',hi3,hsz3,hs3⟩ | ⟨rfl,hk3⟩
       . have hr3:=run_endRound (P:=P) none hl3;have f1:=fin none;rw[hrec]at hr3 f1;refine ⟨_,_,hr3,.inl ⟨rfl,M',⟨hIo _ _ _ _ _ _ (by omega) hi3 hl3,?_,f1.2⟩,by simpa using hsz3,λb hb hM=>⟨(hs3 b hb hM).1,?_⟩⟩⟩
         . rw[hrec];exact f1.1
         . by_cases e:b=w.heap.size+1
           . subst e;rw[hl,hrec];exact f1.1
           . rw[World.putObj_heap_other e];exact (hs3 b hb hM).2 e
       . have hr3:=run_endRound (P:=P) (some .ret) hl3;have f1:=fin (some .ret);rw[hrec]at hr3 f1;refine ⟨_,_,hr3,.inr ⟨rfl,hKo _ _ _ _ (by omega) hk3 hl3,?_,f1.2⟩⟩;rw[hrec];exact f1.1
     |_=>exact hp.elim
   . rintro e W2 ⟨⟨v,rfl⟩,⟨M,hi,hl,hk⟩ | ⟨hi,hl,hk⟩⟩
     . exact ⟨none,_,by have:=run_endLoop (P:=P) hl (by rw[hrec];simp);rw[hrec]at this;exact this,hdone _ M _ (W0f _) (hIo _ _ _ _ _ _ (by omega) hi hl) ((World.putObj_heap_other (by omega)).trans hk)⟩
     . exact ⟨some .ret,_,by have:=run_endLoop (P:=P) hl (by rw[hrec];simp);rw[hrec]at this;exact this,wpIn_ret (hstop _ _ (W0f _) (hKo _ _ _ _ (by omega) hi hl) ((World.putObj_heap_other (by omega)).trans hk))⟩
section
variable {P:Program} {R:Run} {st:St} {a:Act} {W:World} {κ:Nat->Option (Nat×Nat)}
def Zh9 {g:RA} {p q gf:Nat} {assign body:RCode} {Φ:Exit->St->Prop} {caps:List AV} {els:List (AV×AV)} (hrd:R.Top) (hpq:p≠q) (hit:Zh7 P R.G gf caps els) (hg:evA R.G st g = .func (.func gf) [] caps) (hp:caps.all AV.pure=true)
  (ok:Nat->Bool) (hok:∀ k,ok k=true->k<1000) (ρ:Nat->Nat) (t0:List (Nat×AV)) (objs outs:Nat->List (Nat×AObj)) (Iv:Nat->Prop) (hI0:Iv 0) (hK:∀ k,∀ q∈objs k,1000<=q.1) (hinj:∀ k,((objs k).map λq=>ρ q.1).Nodup) (hinj2:∀ k,((outs k).map λq=>ρ q.1).Nodup)
  (hsub:∀ k,∀ q∈objs k,isK (outs k) q.1=true) (hnew:∀ k,∀ q∈outs k,isK (objs k) q.1=true∨(Yl ρ (objs k) st).get (ρ q.1)=none) (hnext:∀ k,Yl ρ (outs k) st=Yl ρ (objs (k+1)) st)
  (h0:Yl ρ (objs 0) st=st) (hin:∀ k,∀ q∈objs k,Yc (objs k) q.2=true)
  (ht0:∀ z∈t0,lk st.t z.1=some (z.2.ren ρ)/\z.1≠p/\z.1≠q/\∀ j,∀ k∈z.2.keys,isK (objs j) k=true)
  (hround:∀ (k:Nat) (x:AV×AV),els[k]? = some x->Iv k->∀ R':Run,R'.G=R.G->R'.N=R.N->AR P R' assign ⟨(p,x.1)::(q,x.2)::t0,objs k⟩ λe s1=>e = .normal/\∀ R'':Run,R''.G=R.G->R''.N=R.N ->
   AR P R'' body s1 (λe s2=>e = .normal/\(Yi ok s2).o=outs k/\Iv (k+1)))
  (hdone:Iv els.length->Φ .normal (Yl ρ (objs els.length) st)):AR P R (.rngf g [p,q] assign body) st Φ:=by
 intro c hc m a W hs
 cases c <;> simp only[Z1A,W05,W01,W0A]at hc
 rename_i g' ps' ca cb;obtain ⟨⟨⟨⟨hcg,hps⟩,hpn⟩,hca⟩,hcb⟩:=hc;have hpn2:p<R.N/\q<R.N:=(by simpa using hpn);have hpn:=hpn2.1;have hqn:=hpn2.2;obtain rfl:ps' = #[p,q]:=(by rw[<- W16];exact hps);rw[hrd.1];refine wpFW.2 ((wpFW (n:=3)).1 ?_);obtain ⟨κ0,hs⟩:=hs;obtain ⟨S,hS⟩ : ∃ S:Nat->St,S=λk=>Yl ρ (objs k) st:=⟨_,rfl⟩
 have hSt:∀ k,(S k).t=st.t:=λk=>by rw[hS];exact Z52 ρ _ _
 have nod:∀ k,((objs k).map λp=>ρ p.1).Nodup:=hinj
 have memK:∀ {o:List (Nat×AObj)} {q:Nat},isK o q=true->∃ x,(q,x)∈o:=λ{o q} h=>by
  obtain ⟨x,h1⟩:=W0t.1 h;exact ⟨x,Z4J h1⟩
 have injK:∀ {o:List (Nat×AObj)},(o.map λp=>ρ p.1).Nodup->∀ q q',isK o q=true->isK o q'=true->ρ q=ρ q'->q=q':=λ{o} hn q q' h1 h2 e=>by
  have m1:=Z55.1 h1;have m2:=Z55.1 h2;have:(o.map (·.1)).map ρ=o.map (λp=>ρ p.1):=(by simp[W10,W0y]);rw[<- this]at hn;exact Z56 hn m1 m2 e
 have hevg:∀ k,evA R.G (S k) g = .func (.func gf) [] caps:=λk=>by
  rw[<- hg]
  cases g <;> simp only[evA,St.tmp,hSt]
 have hv0:=hs.ev hcg;rw[hg]at hv0;obtain ⟨us0,lb,hav,hus0,hlb0⟩:=hv0.func_inv
 obtain rfl:us0 = #[]:=by
  have:=hus0.1;rw[<- W16];exact W0l.1 (by simpa using this)
 have hcaps:∀ k W κ,SK R (S k) a W κ->CP ((S k).env R.M κ).M W caps lb:=λk W κ h=>by
  have h1:=h.ev hcg;rw[hevg,hav]at h1;obtain ⟨us1,lb1,h2,-,h3⟩:=h1.func_inv;simp only[Value.func.injEq]at h2;obtain ⟨-,-,rfl⟩:=h2;exact ⟨by simpa using h3.1,λi x u hx hu=>(h3.2 i x u hx (by simpa using hu)).toPV (W03.1 hp x (W0d hx))⟩
 obtain ⟨cs0,e0,nd0,hc0,-⟩:=hs.defers
 have marks:∀ (D:Nat) (st1:St) (W1:World) (κ1:Nat->Option (Nat×Nat)),W.heap.size<=D->SK R st1 a W1 κ1->W1.heap[D]? = some (.deferred (some []))->SK R st1 { a with defers:=coll D::a.defers } W1 κ1:=λD st1 W1 κ1 hD h hd=>by
  obtain ⟨cs1,e1,nd1,hc1,-⟩:=h.defers;obtain rfl:cs1=cs0:=Z58 (List.append_cancel_right (e1.symm.trans e0));refine h.odd ⟨rfl,λb=>.inl rfl⟩ rfl rfl rfl (λb _=>rfl) rfl ⟨D::cs1,by simp[e1],W1z.2 ⟨λhm=>?_,nd1⟩,λc hm=>?_,λe=>by rw[hrd.2]at e;cases e⟩
  . have:=(W0c.1 (hc0 D hm).2).1;omega
  . rcases W0g.1 hm with rfl|hm
    . exact ⟨W0O hs.kp.size hD,hd⟩
    . exact hc1 c hm
 have put:∀ (l:Nat) (st1:St) (W1:World) (κ1:Nat->Option (Nat×Nat)) (r r':Loop),W.heap.size<=l->SK R st1 a W1 κ1->W1.heap[l]? = some (.loop r)->SK R st1 a (W1.putObj l (.loop r')) κ1:=λl st1 W1 κ1 r r' hl h hr=>by
  obtain ⟨cs1,e1,nd1,hc1,hz1⟩:=h.defers;have:=hs.kp.size;refine h.odd (.put hr trivial) rfl rfl rfl (λb hb=>World.putObj_heap_other (by omega)) rfl ⟨cs1,e1,nd1,λc hm=>⟨(hc1 c hm).1,?_⟩,hz1⟩;rw[World.putObj_heap_other (by rintro rfl;have:=(hc1 _ hm).2;rw[hr]at this;cases this)];exact (hc1 c hm).2
 have hs0:SK R (S 0) a W κ0:=by rw[hS];show SK R (Yl ρ (objs 0) st) a W κ0;rw[h0];exact hs
 refine Zh8 (I:=λk M W'=>∃ κ,(M=((S k).env R.M κ).M/\Iv k)/\SK R (S k) a W' κ) (K:=λW'=>∃ s κ,Φ .ret s/\SK R s a W' κ) (M0:=((S 0).env R.M κ0).M) (caps:=caps) (els:=els) hav hit (by omega) (λk M A B h e=>h.imp λκ h=>⟨h.1,h.2.grow e⟩) (λA B ⟨s,κ,h1,h2⟩ e=>⟨s,κ,h1,h2.grow e⟩)
  (λk l M W' r r' hl ⟨κ,hM,h⟩ hr=>⟨κ,hM,put l _ _ _ r r' hl h hr⟩) (λl W' r r' hl ⟨s,κ,h1,h⟩ hr=>⟨s,κ,h1,put l _ _ _ r r' hl h hr⟩) (λk M A ⟨κ,⟨hM,_⟩,h⟩=>?_) (λk M A ⟨κ,⟨hM,_⟩,h⟩=>hM ▸ h.gr) (hcaps 0 W κ0 hs0) ⟨κ0,⟨rfl,hI0⟩,hs0⟩ ?_ ?_ ?_
 . subst hM;refine ⟨λb hb=>h.owned_lt hb,λb o hb ho hodd hM=>?_⟩;rcases hM with hM | ⟨q,s,hq⟩
   . have:=h.low b hM;have:=hs.kp.size;omega
   . exact h.notOdd hq ho hodd
 . intro l k m x u v M W1 lr hl hI hlr hx hxu hxv;obtain ⟨κ,⟨rfl,hIk⟩,h⟩:=hI
   have enterAt:∀ W',SK R (S k) a W' κ->SK (rC (objs k) ρ R (S k) κ W') (obSt (objs k)) noAct W' (kC (objs k) ρ κ)/\∀ (x:AV) (v:Value),inK (objs k) x->VR ((S k).env R.M κ) W' (x.ren ρ) v->VR ((obSt (objs k)).env (mC (objs k) ρ R (S k) κ) (kC (objs k) ρ κ)) W' x v:=λW' h =>
    Z4Z h (λq hq=>by obtain ⟨x,hx⟩:=memK hq;exact hK k _ hx) (injK (hinj k)) (λq o hq=>by rw[hS];exact Z54 ρ _ _ q o (nod k) hq)
     (λq o hq=>by
      have h2:=hin k (q,o) (Z4J hq);have kept:∀ x,Ya (objs k) x=true->inK (objs k) x:=λx hx k' hk'=>W03.1 hx k' hk'
      cases o with
      |box cells=>exact λx hx=>kept x (W03.1 h2 x hx)
      |row sz rows=>exact λr hr x hx=>kept x (W03.1 (W03.1 h2 r hr) x hx)
      | mp kvs =>
        intro p hp;have:=W03.1 h2 p hp;simp only[W01]at this;exact ⟨kept _ this.1,kept _ this.2⟩)
   obtain ⟨h1,conv⟩:=enterAt W1 h
   have hXo:∀ W',SK R (S k) a W' κ->∀ b,(rC (objs k) ρ R (S k) κ W').X b->∀ o,W'.heap[b]? = some o->¬Odd o:=λW' h b ⟨q,s,hq⟩ o ho hodd=>by
    simp only[kC]at hq
    split at hq
    . exact h.notOdd hq ho hodd
    . cases hq
   have hMM:∀ b,((obSt (objs k)).env (mC (objs k) ρ R (S k) κ) (kC (objs k) ρ κ)).M b->((S k).env R.M κ).M b:=λb hb=>by
    rcases hb with hb | ⟨q,s,hq⟩
    . exact hb.1
    . simp only[kC]at hq
      split at hq
      . exact .inr ⟨ρ q,s,hq⟩
      . cases hq
   let R1:Run:={ rC (objs k) ρ R (S k) κ W1 with N:=R.N,rd:=some l }
   have hN:R.N=a.tmps.size:=h.size.symm
   have start:SK R1 ⟨(p,x.1)::(q,x.2)::t0,objs k⟩ { tmps:=(a.tmps.setIfInBounds p u).setIfInBounds q v,defers:=[] } W1 (kC (objs k) ρ κ):=by
    refine ⟨.nil _ _ _ _,by show ((a.tmps.setIfInBounds p u).setIfInBounds q v).size=R.N;simp[hN],λn y hy=>?_,h1.obj,h1.dom,h1.inj,h1.low,h1.apart,h1.kp,h1.gr,h1.mono,h1.ent⟩;have hy:lk ((p,x.1)::(q,x.2)::t0) n=some y:=hy;show VR ((obSt (objs k)).env (mC (objs k) ρ R (S k) κ) (kC (objs k) ρ κ)) W1 y (((a.tmps.setIfInBounds p u).setIfInBounds q v).getD n Go.undef);have hlt:p<a.tmps.size:=(by rw[<- hN];exact hpn);have hlq:q<a.tmps.size:=(by rw[<- hN];exact hqn);simp only[lk]at hy
    split at hy
    . rename_i e;subst e;obtain rfl:x.1=y:=(by simpa using hy);have e:((a.tmps.setIfInBounds p u).setIfInBounds q v).getD p Go.undef=u:=(by simp[W0a,W0p,Ne.symm hpq,hlt]);rw[e];exact .pv (hxu.mono (λb _ hb=>⟨λhb'=>hb (hMM b hb'),rfl⟩) (W0f _))
    . rename_i e0
      split at hy
      . rename_i e;subst e;obtain rfl:x.2=y:=(by simpa [hpq] using hy);have e:((a.tmps.setIfInBounds p u).setIfInBounds q v).getD q Go.undef=v:=(by simp[W0a,W0p,hlq]);rw[e];exact .pv (hxv.mono (λb _ hb=>⟨λhb'=>hb (hMM b hb'),rfl⟩) (W0f _))
      . rename_i e
        have e2:((a.tmps.setIfInBounds p u).setIfInBounds q v).getD n Go.undef=a.tmps.getD n Go.undef:=by
         simp only[W0a,W0p,if_neg e,if_neg e0]
        rw[e2];obtain ⟨g1,g2,g3,g5⟩:=ht0 (n,y) (Z4J hy);have g4:=h.tm n (y.ren ρ) (by show lk (S k).t n=_;rw[hSt];exact g1);exact conv y _ (λq hq=>g5 k q hq) g4
   refine wpIn_mono (hround k x hx hIk R1 rfl rfl ca hca m _ W1 ⟨_,start⟩) ?_;rintro e a1 W2 ⟨s1,⟨rfl,hbody⟩,κ1,h2⟩;refine ⟨λb o hb ho=>h2.keepOdd (hXo W1 h) hb ho,?_⟩;have hl2:W2.heap[l]? = some (.loop lr):=h2.keepOdd (hXo W1 h) hlr trivial;have h3:=SK.both rfl h2 (o':=.loop { lr with state:=.busy }) hl2 hlr;have hb:=put l _ W1 κ lr { lr with state:=.busy } hl h hlr;refine wpIn_mono (hbody { R1 with W0:=W1.putObj l (.loop { lr with state:=.busy }) } rfl rfl cb hcb m _ _ ⟨_,h3⟩) ?_;rintro e a2 W3 ⟨s2,hrnd,hs2⟩
   have hodd:∀ κ2,SK { R1 with W0:=W1.putObj l (.loop { lr with state:=.busy }) } s2 a2 W3 κ2->(∀ (b:Nat) (o:Obj),W1.heap[b]? = some o->Odd o->b≠l->W3.heap[b]? = some o)/\W3.heap[l]? = some (.loop { lr with state:=.busy }):=λκ2 h4 =>
    ⟨λb o hb1 ho hne=>h4.keepOdd (hXo _ hb) ((World.putObj_heap_other hne).trans hb1) ho,
     h4.keepOdd (hXo _ hb) (o:=.loop { lr with state:=.busy }) (World.putObj_heap_same (W0c.1 hlr).1) trivial⟩
   have leave:(Yi ok s2).o=outs k->∃ κ3,SK R (Yl ρ (outs k) st) a W3 κ3/\Mono ((S k).env R.M κ) (W1.putObj l (.loop { lr with state:=.busy })) ((Yl ρ (outs k) st).env R.M κ3) W3:=λhe=>by
    obtain ⟨κ2,h4⟩:=Ym.frz ok s2 (λk hk=>by
     cases e:ok k
     . rfl
     . have:=hok k e;omega) _ a2 W3 hs2
    have g:=h4.sub (t':=[]) (λn x hx=>by simp[lk]at hx);have e:({ Yi ok s2 with t:=[] }:St)=obSt (outs k):=(by rw[<- he];rfl);rw[e]at g
    have g2:SK (rC (objs k) ρ R (S k) κ (W1.putObj l (.loop { lr with state:=.busy }))) (obSt (outs k)) noAct W3 κ2 :=
     ⟨.nil _ _ _ _,rfl,λn x hx=>by simp[obSt,St.tmp,lk]at hx,g.obj,g.dom,g.inj,g.low,g.apart,g.kp,g.gr,g.mono,g.ent⟩
    obtain ⟨κ3,h5,h6,-⟩:=Z5j hb (objs':=outs k) (st1:=Yl ρ (outs k) st) (injK (hinj2 k)) (λq o hq=>by rw[hS];exact Z54 ρ _ _ q o (nod k) hq)
     (λq hq=>by obtain ⟨x,hx⟩:=memK hq;exact hsub k _ hx)
     (λq h1 h2=>by
      obtain ⟨x,hx⟩:=memK h1;rcases hnew k _ hx with h3|h3
      . rw[h2]at h3;cases h3
      . rw[hS];exact h3) g2 ((Z52 ρ _ _).trans (hSt k).symm) (λq o hq=>Z54 ρ _ _ q o (hinj2 k) hq)
     (λj hj=>by
      have o1:(Yl ρ (outs k) st).get j=st.get j:=Z53 ρ j _ _ λq hq=>hj q.1 (Z55.2 (W0i.2 ⟨q,hq,rfl⟩))
      have o2:(Yl ρ (objs k) st).get j=st.get j:=Z53 ρ j _ _ λq hq=>hj q.1 (hsub k q hq)
      rw[hS];exact o1.trans o2.symm)
    exact ⟨κ3,h5,h6⟩
   obtain ⟨κ2,h4⟩:=id hs2;refine ⟨hodd κ2 h4,?_⟩;obtain ⟨rfl,hro,hri⟩:=hrnd;obtain ⟨κ3,h5,h6⟩:=leave hro;rw[hnext k]at h5 h6;refine .inl ⟨rfl,_,⟨κ3,⟨rfl,hri⟩,by rw[hS];exact h5⟩,by have:=h6.size;simpa using this,λb hb1 hM=>?_⟩;obtain ⟨g1,g2⟩:=h6.imm b (by simpa using hb1) hM;exact ⟨by rw[hS];exact g1,λhne=>g2.trans (World.putObj_heap_other hne)⟩
 . rintro D M W1 hD ⟨κ,⟨-,hIk⟩,h⟩ hd;refine ⟨_,?_,κ,marks D _ _ _ hD h hd⟩;rw[hS];exact hdone hIk
 . rintro D W1 hD ⟨s,κ,h1,h⟩ hd;exact ⟨s,h1,κ,marks D _ _ _ hD h hd⟩
end
structure ItH (G:Jg) (J:Nat->(Nat->Prop)->World->Prop) (K:World->Prop):Prop where
 je:∀ k M A B,J k M A->Ext A B->J k M B
 ke:∀ A B,K A->Ext A B->K B
 jm:∀ k M A,J k M A->∀ b,M b->b<A.heap.size
 jg:∀ k M A,J k M A->GR G M A
def ItS (G:Jg) (N:Nat) (J:Nat->(Nat->Prop)->World->Prop) (k:Nat) (st:St) (a:Act) (A:World):Prop:=∃ M A0,J k M A0/\SR (ZdB G M A0 N none) st a A
def ItQ (G:Jg) (N:Nat) (J:Nat->(Nat->Prop)->World->Prop) (K:World->Prop) (Φ:Exit->Nat->St->Prop) (e:Exit) (a:Act) (A:World):Prop :=
 (∃ k st,Φ e k st/\ItS G N J k st a A)∨(e = .ret/\K A/\a.defers=[])
def ItW (P:Program) (G:Jg) (N n:Nat) (J:Nat->(Nat->Prop)->World->Prop) (K:World->Prop) (rc:RCode) (k:Nat) (st:St) (Φ:Exit->Nat->St->Prop):Prop :=
 ∀ c,Z1A P N c rc=true->∀ a A,ItS G N J k st a A->c.wpIn (FW none) n P (ItQ G N J K Φ) a A
def YOK (P:Program) (n l:Nat) (J:Nat->(Nat->Prop)->World->Prop) (K:World->Prop) (els:List (List AV)):Prop :=
 ∀ (k:Nat) (xs:List AV) (us:Array Value) (M:Nat->Prop) (A:World),J k M A->els[k]? = some xs->CP M A xs us ->
   YieldAt Fence.wide n P l us A λe A'=>(e = .returned (.bool true)/\∃ M',J (k+1) M' A'/\Since M A M' A')∨(e = .returned (.bool false)/\K A')
def PV.flatW {M M':Nat->Prop} {W W':World} {x:AV} {v:Value} (h:PV M W x v):x.flat=true->PV M' W' x v:=by
 induction h with
 |hole=>exact λ_=>.hole
 |int k n=>exact λ_=>.int k n
 |bool b=>exact λ_=>.bool b
 |abool b=>exact λ_=>.abool b
 |str s=>exact λ_=>.str s
 |nilp=>exact λ_=>.nilp
 |nils=>exact λ_=>.nils
 |nilm=>exact λ_=>.nilm
 |nilf=>exact λ_=>.nilf
 | agg xs us h1 hx ih =>
   intro h;simp only[AV.flat,W03,W0V,W1B,W1n]at h;exact .agg xs us h1 (λi x u hi hu=>ih i x u hi hu (h x (W0d hi)))
 | tup xs us h1 hx ih =>
   intro h;simp only[AV.flat,W03,W0V,W1B,W1n]at h;exact .tup xs us h1 (λi x u hi hu=>ih i x u hi hu (h x (W0d hi)))
 |_=>intro h;simp[AV.flat]at h
def Zha {P:Program} {R:Run} {st:St} {a:Act} {W:World} {κ:Nat->Option (Nat×Nat)} {rd:Option Nat} {m:Nat} {ops:Array Oper} {r:ROper} {j l:Nat} {o:Oper} {f:RA} {ys:List RA} {K:Act->World->Prop} {Q:Exit->Act->World->Prop}
  (hr:r.op = .callv f ys) (hf:evA R.G st f = .func (.yield l) [] []) (hw:wants st r.guard=some true) (ho:ops[j]? = some o) (hk:Z1z P R.N ops o r=true) (hκ:SK R st a W κ)
  (hc:∀ us:Array Value,us.size=ys.length->(∀ (i:Nat) (y:RA) (u:Value),ys[i]? = some y->us[i]? = some u->VR (st.env R.M κ) W (evA R.G st y) u)->YieldAt (FW rd) (m-1) P l us W fun
   |.returned v,W'=>K (a.put o.dst v) W'
   |.panicked ch,W'=>Q (.panic ch) a W'
   |.outgrown,_=>LetsOut Q):wpOpIn (FW rd) m P ops Q j K a W:=by
 simp only[Z1z,W01,W0b]at hk;obtain ⟨⟨⟨hd,hdn⟩,hop⟩,hg⟩:=hk;unfold wpOpIn;simp only[ho];rw[if_pos (Z20 hκ hg hw)];rw[hr]at hop;simp only[Z1y,if_true,Z1x]at hop
 split at hop <;> try (simp at hop;done)
 . simp_all
 . simp_all
 . rename_i r0 x xs ats y' ys e1 e2;simp only[W01]at hop;simp only[ROp.callv.injEq]at e2;obtain ⟨rfl,rfl⟩:=e2;have hx:=hκ.ev hop.1;rw[hf]at hx;obtain ⟨us,vs,hv1,hv2,hv3⟩:=hx.func_inv
   obtain rfl:us = #[]:=by
    have:=hv2.1;rw[<- W16];exact W0l.1 (by simpa using this)
   obtain rfl:vs = #[]:=by
    have:=hv3.1;rw[<- W16];exact W0l.1 (by simpa using this)
   obtain ⟨hl,ha⟩:=Zc hop.2
   obtain ⟨fn,tmps,assign,body,h1,h2⟩:=hc ((⟨xs⟩ : Array Operand).map a.eval) (by simpa using hl) (λi y u hy hu=>by
    have hi:i<xs.length:=by
     have:=(W0c.1 hu).1;simpa using this
    have hu2:u=a.eval xs[i]:=by
     have:=(W0c.1 hu).2;simpa using this.symm
    rw[hu2];exact hκ.ev (ha i _ y (W07 hi) hy))
   refine ⟨λ_ _=>trivial,?_⟩;rw[Oper.semAt_eq _ _ _ (λc e=>by rw[e1]at e;cases e)]
   have:(execOp a.eval o).run P W = .ok (.round l fn tmps assign body) W:=by
    rw[<- h1];simp[execOp,e1,resolve,hv1,Deferred.ofValue,invoke,Sem.run_bind]
   rw[this];exact ⟨Z24,h2⟩
section
variable {P:Program} {G:Jg} {N n l:Nat} {J:Nat->(Nat->Prop)->World->Prop} {K:World->Prop} {k:Nat} {st:St} {Φ Ψ:Exit->Nat->St->Prop} {rc:RCode}
def Zhb (h:ItW P G N n J K rc k st Φ) (hm:∀ e k t,Φ e k t->Ψ e k t):ItW P G N n J K rc k st Ψ:=λc hc a A hs =>
 wpIn_mono (h c hc a A hs) λ_ _ _ q=>q.imp (λ⟨k,t,h1,h2⟩=>⟨k,t,hm _ _ _ h1,h2⟩) id
def Zhc (h:∀ M A,AR P (ZdB G M A N none) rc st λe s=>∃ s',Φ e k s'/\Ym s s'):ItW P G N n J K rc k st Φ:=by
 rintro c hc a A ⟨M,A0,hJ,hs⟩;refine wpIn_mono (h M A0 c hc n a A hs) ?_;rintro e a' A' ⟨s,⟨s',hΦ,hw⟩,hs'⟩;exact .inl ⟨k,s',hΦ,M,A0,hJ,hw _ _ _ hs'⟩
def Zhd {a b:RCode} (h:ItW P G N n J K a k st λe k' t'=>match e with | .normal=>ItW P G N n J K b k' t' Φ|e=>Φ e k' t'):ItW P G N n J K (.seq a b) k st Φ:=by
 intro c hc x A hs;obtain ⟨c1,c2,rfl,h1,h2⟩:=Z8E hc;refine wpIn_seq (wpIn_mono (h c1 h1 x A hs) ?_);rintro e a' A' (⟨k',t',hΦ,hs'⟩ | ⟨rfl,hK,hd⟩)
 . cases e with
   |normal=>exact hΦ c2 h2 a' A' hs'
   |_=>exact .inl ⟨k',t',hΦ,hs'⟩
 . exact .inr ⟨rfl,hK,hd⟩
def Zhe {a b:RCode} (h:ItW P G N n J K a k st λe k' t'=>e = .normal/\ItW P G N n J K b k' t' Φ):ItW P G N n J K (.seq a b) k st Φ :=
 Zhd (Zhb h λe k t ⟨he,h⟩=>by subst he;exact h)
def Zhf {a b:RCode} (st':St) (h:∀ M A,AR P (ZdB G M A N none) a st λe s=>e = .normal/\Ym s st') (hb:ItW P G N n J K b k st' Φ):ItW P G N n J K (.seq a b) k st Φ :=
 Zhe (Zhc λM A=>Z2I (h M A) λe s ⟨he,hw⟩=>⟨st',⟨he,hb⟩,hw⟩)
def Zhg {a:RCode} (e0:Exit) (st':St) (h:∀ M A,AR P (ZdB G M A N none) a st λe s=>e=e0/\Ym s st') (hb:Φ e0 k st'):ItW P G N n J K a k st Φ :=
 Zhc λM A=>Z2I (h M A) λe s ⟨he,hw⟩=>⟨st',he ▸ hb,hw⟩
def ItBk (id:Nat) (Φ:Exit->Nat->St->Prop):Exit->Nat->St->Prop
 |.exit id',k,t=>if id'=id then Φ .normal k t else Φ (.exit id') k t
 |e,k,t=>Φ e k t
def Zhh {id:Nat} {a:RCode} (h:ItW P G N n J K a k st (ItBk id Φ)):ItW P G N n J K (.block id a) k st Φ:=by
 intro c hc x A hs;obtain ⟨c1,rfl,h1⟩:=Z8F hc;refine wpIn_block (wpIn_mono (h c1 h1 x A hs) ?_);rintro e a' A' (⟨k',t',hΦ,hs'⟩ | ⟨rfl,hK,hd⟩)
 . cases e
   case exit j =>
    simp only[ItBk,Exit.inBlock]at *
    split at hΦ
    . rename_i e;rw[if_pos e];exact .inl ⟨k',t',hΦ,hs'⟩
    . rename_i e;rw[if_neg e];exact .inl ⟨k',t',hΦ,hs'⟩
   all_goals exact .inl ⟨k',t',hΦ,hs'⟩
 . exact .inr ⟨rfl,hK,hd⟩
def Zhi {α:Type} {b:RCode} (kf:α->Nat) (tf:α->St) (I:α->Prop) (μ:α->Nat) (x0:α) (h0:kf x0=k) (ht:tf x0=st) (hi:I x0)
  (hr:∀ x,I x->ItW P G N n J K b (kf x) (tf x) λe k' t'=>match e with | .normal=>∃ y,kf y=k'/\tf y=t'/\I y/\μ y<μ x|e=>Φ e k' t'):ItW P G N n J K (.loop b) k st Φ:=by
 intro c hc x A hs;obtain ⟨c1,rfl,h1⟩:=Z8G hc;subst h0;subst ht;refine wpIn_loop_ghost (λm a A=>∃ x,I x/\m=μ x/\ItS G N J (kf x) (tf x) a A) (μ x0) ⟨x0,hi,rfl,hs⟩ ?_;rintro m a A ⟨x,hx,rfl,hs⟩;refine wpIn_mono (hr x hx c1 h1 a A hs) ?_;rintro e a' A' (⟨k',t',hΦ,hs'⟩ | ⟨rfl,hK,hd⟩)
 . cases e with
   | normal =>
     obtain ⟨y,rfl,rfl,hy,hm⟩:=hΦ;exact ⟨μ y,hm,y,hy,rfl,hs'⟩
   |_=>exact .inl ⟨k',t',hΦ,hs'⟩
 . exact .inr ⟨rfl,hK,hd⟩
def Zhj (H:ItH G J K) {els:List (List AV)} (hY:YOK P (n-1) l J K els) {id d:Nat} {gd:Option (Nat×Bool)} {pre post:List ROper} {f:RA} {ys:List RA} {rest:RCode} {xs:List AV} {t1 tf tF:List (Nat×AV)} {st2:St}
  (hdN:d<N) (hx:els[k]? = some xs) (hpx:∀ x∈xs,x.pure=true) (hp1:∀ q∈t1,q.2.pure=true)
  (hpre:RW P G pre st λe s=>e = .normal/\Ym s ⟨t1,[]⟩) (hw:wants ⟨t1,[]⟩ gd=some true) (hf:evA G ⟨t1,[]⟩ f = .func (.yield l) [] []) (hy:ys.map (evA G ⟨t1,[]⟩)=xs)
  (hpost:RW P G post ⟨(d,.bool true)::t1,[]⟩ λe s=>e = .normal/\Ym s st2) (hrest:ItW P G N n J K rest (k+1) st2 Φ)
  (htf:∀ q∈tf,lk t1 q.1=some q.2/\q.2.flat=true) (hpostF:RW P (λ_=>none) post ⟨(d,.bool false)::tf,[]⟩ λe s=>e = .normal/\Ym s ⟨tF,[]⟩)
  (hrestF:∀ A,AR P (ZdB (λ_=>none) (λ_=>False) A N none) rest ⟨tF,[]⟩ λe s=>e = .ret/\Ym s ⟨[],[]⟩) :
  ItW P G N n J K (.seq (.reg id false (pre++{ d:=some d,op:=.callv f ys,guard:=gd }::post)) rest) k st Φ:=by
 rintro c hc a A ⟨M,A0,hJ,hs0⟩;obtain ⟨c1,c2,rfl,hc1,hc2⟩:=Z8E hc;obtain ⟨ops,rfl,hops⟩:=Z8H hc1;obtain ⟨hol,hoo⟩:=Zc hops
 have hol:ops.size=pre.length+(1+post.length):=by
  have:ops.toList.length=ops.size:=rfl;rw[<- this,hol];simp;omega
 refine wpIn_seq (wpIn_region ?_)
 have okAt:∀ (i:Nat) (r:ROper),(pre++{ d:=some d,op:=.callv f ys,guard:=gd }::post)[i]? = some r->∃ o,ops[i]? = some o/\Z1z P N ops o r=true:=λi r hi=>by
  have hlt:i<ops.size:=by
   have:=(W02.1 hi).1;rw[hol];simp at this;omega
  exact ⟨ops[i],by simp[hlt],hoo i _ r (by simp[hlt]) hi⟩
 have hrg:List.range ops.size=List.range pre.length++(pre.length::(List.range post.length).map (λi=>pre.length+1+i)):=by
  rw[hol,List.range_add,List.range_add];simp[W1y,W0y,W1v]
 rw[hrg];refine Z8I (R:=ZdB G M A0 N none) _ _ pre st (λs=>Ym s ⟨t1,[]⟩) a A ?_ (by simp) ?_ hpre hs0
 . intro i r hi;have hlt:=(W02.1 hi).1;obtain ⟨o,h1,h2⟩:=okAt i r (by rw[W0E hlt];exact hi);exact ⟨i,o,by simp[hlt],h1,h2⟩
 intro s4 b4 B4 w4 hs4;obtain ⟨κ4,hk4⟩:=w4 _ _ _ hs4;obtain ⟨d4,n4,t4,e4⟩:=endG hs4 w4 hp1;obtain ⟨o2,ho2,hk2⟩:=okAt pre.length { d:=some d,op:=.callv f ys,guard:=gd } (by rw[W0o (W0f _)];simp);rw[wpOpsIn_cons];refine Zha (R:=ZdB G M A0 N none) (l:=l) (f:=f) (ys:=ys) rfl hf hw ho2 hk2 hk4 λus hus hval=>?_
 have hcp:CP M B4 xs us:=by
  refine ⟨by rw[hus,<- hy,W0N],λi x u hi hu=>?_⟩
  have hlt:i<ys.length:=by
   have:=(W02.1 hi).1;rw[<- hy,W0N]at this;exact this
  have h1:=hval i ys[i] u (W07 hlt) hu
  have hxe:evA G ⟨t1,[]⟩ ys[i]=x:=by
   rw[<- hy,W09,W07 hlt]at hi;simpa using hi
  rw[show evA (ZdB G M A0 N none).G ⟨t1,[]⟩ ys[i]=x from hxe]at h1;exact (h1.toPV (hpx x (W0d hi))).mono (λb _ hb=>⟨λh=>hb (.inl h),rfl⟩) (W0f _)
 have hdst:o2.dst=some d:=by
  simp only[Z1z,W01,W0b]at hk2;exact hk2.1.1.1
 have suffix:∀ (b:Bool) (T:List (Nat×AV)) (st2:St) (G':Jg) (M':Nat->Prop) (A':World),GR G' M' A'->(∀ x,M' x->x<A'.heap.size)->TT' M' A' T b4 ->
   RW P G' post ⟨(d,.bool b)::T,[]⟩ (λe s=>e = .normal/\Ym s st2)->∀ (Qx:Exit->Act->World->Prop),
    (∀ a5 A5,SR (ZdB G' M' A' N none) st2 a5 A5->Qx .normal a5 A5)->wpOpsIn (FW none) n P ops Qx ((List.range post.length).map (λi=>pre.length+1+i)) (b4.put (some d) (.bool b)) A':=by
  intro b T st2 G' M' A' hGR hM' hT hrw Qx hQx
  have hsr:SR (ZdB G' M' A' N none) ⟨(d,.bool b)::T,[]⟩ (b4.put (some d) (.bool b)) A':=by
   refine ZdC hGR hM' d4 (by simpa [Act.put] using n4) λk x hx=>?_
   show PV M' A' x ((b4.tmps.setIfInBounds d (.bool b)).getD k Go.undef);simp only[lk]at hx
   split at hx
   . rename_i e;subst e
     cases hx
     have:(b4.tmps.setIfInBounds d (.bool b)).getD d Go.undef = .bool b:=(by simp[Array.getD,n4,hdN]);rw[this];exact .bool b
   . rename_i e
     have h3:(b4.tmps.setIfInBounds d (.bool b)).getD k Go.undef=b4.tmps.getD k Go.undef:=by
      simp only[W0a,W0p,if_neg e]
     rw[h3];exact hT k x hx
  refine Z27 (R:=ZdB G' M' A' N none) _ post ⟨(d,.bool b)::T,[]⟩ (λe s=>e = .normal/\Ym s st2) Qx _ A' ?_ (by simp) ?_ hrw hsr
  . intro i r hi;have hlt:=(W02.1 hi).1
    obtain ⟨o,h1,h2⟩:=okAt (pre.length+1+i) r (by
     rw[W0o (by omega),show pre.length+1+i-pre.length=i+1 by omega];simpa using hi)
    exact ⟨pre.length+1+i,o,by simp[hlt],h1,h2⟩
  . rintro e s5 a5 A5 ⟨rfl,w5⟩ hs5;exact hQx a5 A5 (w5 _ _ _ hs5)
 obtain ⟨fn,tm,asg,bo,y1,y2⟩:=hY k xs us M B4 (H.je _ _ _ _ hJ e4) hx hcp;refine ⟨fn,tm,asg,bo,y1,y2.mono ?_⟩;rintro e A' (⟨rfl,M',hJ',hSi⟩ | ⟨rfl,hK'⟩)
 . show wpOpsIn (FW none) n P ops _ _ (b4.put o2.dst (.bool true)) A';rw[hdst];have hT':TT' M' A' t1 b4:=λk x hx=>(t4 k x hx).mono hSi.2 hSi.1
   exact suffix true t1 st2 G M' A' (H.jg _ _ _ hJ') (H.jm _ _ _ hJ') hT' hpost _ λa5 A5 h5=>hrest c2 hc2 a5 A5 ⟨M',A',hJ',h5⟩
 . show wpOpsIn (FW none) n P ops _ _ (b4.put o2.dst (.bool false)) A';rw[hdst]
   refine suffix false tf ⟨tF,[]⟩ (λ_=>none) (λ_=>False) A' (λg cs hg=>by cases hg) (λ_ h=>h.elim) (λk x hx=>by
    obtain ⟨g1,g2⟩:=htf (k,x) (Z4J hx);exact (t4 k x g1).flatW g2) hpostF _ λa5 A5 h5=>?_
   refine wpIn_mono (hrestF A' c2 hc2 n a5 A5 h5) ?_;rintro e b6 B6 ⟨s6,⟨rfl,w6⟩,hs6⟩;obtain ⟨d6,-,-,e6⟩:=endG hs6 w6 (by simp);exact .inr ⟨rfl,H.ke _ _ hK' e6,d6⟩
def Zhk (H:ItH G J K) {els:List (List AV)} (hY:YOK P (n-1) l J K els) {id d:Nat} {gd:Option (Nat×Bool)} {rs:List ROper} (i:Nat) {f:RA} {ys:List RA} (hri:rs[i]? = some { d:=some d,op:=.callv f ys,guard:=gd }) {rest:RCode} {xs:List AV} (t1:List (Nat×AV)) (st2:St) (tf tF:List (Nat×AV))
  (hdN:d<N) (hx:els[k]? = some xs) (hpx:∀ x∈xs,x.pure=true) (hp1:∀ q∈t1,q.2.pure=true)
  (hpre:RW P G (rs.take i) st λe s=>e = .normal/\Ym s ⟨t1,[]⟩) (hw:wants ⟨t1,[]⟩ gd=some true) (hf:evA G ⟨t1,[]⟩ f = .func (.yield l) [] []) (hy:ys.map (evA G ⟨t1,[]⟩)=xs)
  (hpost:RW P G (rs.drop (i+1)) ⟨(d,.bool true)::t1,[]⟩ λe s=>e = .normal/\Ym s st2) (hrest:ItW P G N n J K rest (k+1) st2 Φ)
  (htf:∀ q∈tf,lk t1 q.1=some q.2/\q.2.flat=true) (hpostF:RW P (λ_=>none) (rs.drop (i+1)) ⟨(d,.bool false)::tf,[]⟩ λe s=>e = .normal/\Ym s ⟨tF,[]⟩)
  (hrestF:∀ A,AR P (ZdB (λ_=>none) (λ_=>False) A N none) rest ⟨tF,[]⟩ λe s=>e = .ret/\Ym s ⟨[],[]⟩):ItW P G N n J K (.seq (.reg id false rs) rest) k st Φ:=by
 have e:rs=rs.take i++{ d:=some d,op:=.callv f ys,guard:=gd }::rs.drop (i+1):=by
  obtain ⟨hi,h⟩:=W02.1 hri;rw[<- h,<- W0x hi,W11]
 rw[e];exact Zhj H hY hdN hx hpx hp1 hpre hw hf hy hpost hrest htf hpostF hrestF
end
def Zhl {P:Program} {gf:Nat} {fn:Func} (hf:P.funcs[gf]? = some fn) (hE:entB P gf=true) {rc:RCode} (hb:(match fn.body with|some c=>Z1A P fn.ntmps c rc|none=>false)=true) (hr:fn.results = #[])
  {G:Jg} {caps:List AV} {els:List (List AV)} (hn:caps.length+1<=fn.ntmps)
  (h:∀ (n l:Nat) (J:Nat->(Nat->Prop)->World->Prop) (K:World->Prop),2<=n->ItH G J K->YOK P (n-1) l J K els ->
   ItW P G fn.ntmps n J K rc 0 ⟨iniT 0 (.func (.yield l) [] []::caps),[]⟩ λe k s=>(e = .ret∨e = .normal)/\k=els.length/\Ym s ⟨[],[]⟩) :
  entB P gf=true/\∀ (n l:Nat) (lb:Array Value) (J:Nat->(Nat->Prop)->World->Prop) (K:World->Prop) (M:Nat->Prop) (W:World),2<=n->ItH G J K->CP M W caps lb->YOK P (n-1) l J K els ->
   J 0 M W->CallsIn Fence.wide n P gf (#[.func (.yield l) #[] #[]]++lb) W λe W'=>(∃ v,e = .returned v)/\((∃ M,J els.length M W')∨K W'):=by
 refine ⟨hE,λn l lb J K M W hn2 H hC hY hJ0=>?_⟩
 obtain ⟨c,hc⟩ : ∃ c,fn.body=some c:=by
  cases e:fn.body with
  |none=>rw[e]at hb;cases hb
  |some c=>exact ⟨c,rfl⟩
 rw[hc]at hb;have hb:Z1A P fn.ntmps c rc=true:=hb;refine callsIn_of_wp (F:=Fence.wide) hf hc trivial ?_ rfl
 have hres:∀ (tm:Array Value) (W':World),(results fn tm).run P W' = .ok (.tuple #[]) W':=λtm W'=>by
  simp[results,hr,Sem.run_bind]
 have hwide:Fence.wide=FW none:=rfl;rw[hwide];have hsz:lb.size=caps.length:=hC.1
 have hs0:ItS G fn.ntmps J 0 ⟨iniT 0 (.func (.yield l) [] []::caps),[]⟩ { tmps:=(#[.func (.yield l) #[] #[]]++lb:Array Value)++Array.replicate (fn.ntmps-(#[.func (.yield l) #[] #[]]++lb:Array Value).size) Go.undef,defers:=[] } W:=by
  refine ⟨M,W,hJ0,ZdC (H.jg _ _ _ hJ0) (H.jm _ _ _ hJ0) rfl (by simp;omega) λk x hx=>?_⟩
  have hini:∀ (xs:List AV) (m k:Nat) (x:AV),lk (iniT m xs) k=some x->m<=k/\xs[k-m]? = some x:=by
   intro xs
   induction xs with
   |nil=>intro m k x h;simp[iniT,lk]at h
   | cons y ys ih =>
     intro m k x h;simp only[iniT,lk]at h
     split at h
     . rename_i e;subst e;cases h;exact ⟨W0f _,by simp⟩
     . obtain ⟨h1,h2⟩:=ih (m+1) k x h;refine ⟨by omega,?_⟩;rw[show k-m=(k-(m+1))+1 by omega];simpa using h2
  obtain ⟨-,h2⟩:=hini _ 0 k x hx;rw[W1W]at h2
  cases k with
  | zero =>
    have h3:AV.func (.yield l) [] []=x:=(by simpa using h2);subst h3
    have g0:((#[.func (.yield l) #[] #[]]++lb:Array Value)++Array.replicate (fn.ntmps-(#[.func (.yield l) #[] #[]]++lb:Array Value).size) Go.undef).getD 0 Go.undef = .func (.yield l) #[] #[]:=by
     rw[W0a,W27 (by simp;omega),W27 (by simp)];rfl
    rw[g0];exact .func _ [] [] #[] #[] rfl rfl (by simp) (by simp)
  | succ k =>
    have h3:caps[k]? = some x:=(by simpa using h2);have hk:k<lb.size:=by rw[hsz];exact (W02.1 h3).1
    have g1:((#[.func (.yield l) #[] #[]]++lb:Array Value)++Array.replicate (fn.ntmps-(#[.func (.yield l) #[] #[]]++lb:Array Value).size) Go.undef).getD (k+1) Go.undef=lb[k]:=by
     rw[W0a,W27 (by simp;omega),Array.getElem?_append_right (by simp)];simp[hk]
    rw[g1];exact hC.2 k x lb[k] h3 (by simp[hk])
 refine wpIn_mono (h n l J K hn2 H hY c hb _ W hs0) ?_;rintro e a A (⟨k,t,⟨he,rfl,hw⟩,M',A',hJ',hs⟩ | ⟨rfl,hK,hd⟩)
 . obtain ⟨hd,-,-,e'⟩:=endG hs hw (by simp);rcases he with rfl|rfl
   . exact ⟨hd,_,hres _ _,⟨_,rfl⟩,.inl ⟨M',H.je _ _ _ _ hJ' e'⟩⟩
   . exact ⟨hd,_,hres _ _,⟨_,rfl⟩,.inl ⟨M',H.je _ _ _ _ hJ' e'⟩⟩
 . exact ⟨hd,_,hres _ _,⟨_,rfl⟩,.inr hK⟩
def Zhm {M:Nat->Prop} {W:World} {x:AV} {us:Array Value} (h:CP M W [x] us):∃ u,us = #[u]/\PV M W x u:=by
 obtain ⟨h1,h2⟩:=h
 match us,h1,h2 with
 | ⟨[u]⟩,_,h2=>exact ⟨u,rfl,h2 0 x u rfl rfl⟩
def Zhn {M:Nat->Prop} {W:World} {x y:AV} {us:Array Value} (h:CP M W [x,y] us):∃ u v,us = #[u,v]/\PV M W x u/\PV M W y v:=by
 obtain ⟨h1,h2⟩:=h
 match us,h1,h2 with
 | ⟨[u,v]⟩,_,h2=>exact ⟨u,v,rfl,h2 0 x u rfl rfl,h2 1 y v rfl rfl⟩
def Zho {P:Program} {gf:Nat} {fn:Func} (hf:P.funcs[gf]? = some fn) (hE:entB P gf=true) {rc:RCode} (hb:(match fn.body with|some c=>Z1A P fn.ntmps c rc|none=>false)=true) (hr:fn.results = #[])
  {G:Jg} {caps els:List AV} (hn:caps.length+1<=fn.ntmps)
  (h:∀ (n l:Nat) (J:Nat->(Nat->Prop)->World->Prop) (K:World->Prop),2<=n->ItH G J K->YOK P (n-1) l J K (els.map λx=>[x]) ->
   ItW P G fn.ntmps n J K rc 0 ⟨iniT 0 (.func (.yield l) [] []::caps),[]⟩ λe k s=>(e = .ret∨e = .normal)/\k=els.length/\Ym s ⟨[],[]⟩):IterG P G gf caps els:=by
 obtain ⟨h1,h2⟩:=Zhl (els:=els.map λx=>[x]) hf hE hb hr hn (by simpa using h);refine ⟨h1,λn l lb J K M W hn2 je ke jm jg hC hY hJ0=>?_⟩
 have:=h2 n l lb J K M W hn2 ⟨je,ke,jm,jg⟩ hC (λk xs us M A hJ hx hc=>by
  rw[W09]at hx;obtain ⟨x,hx1,rfl⟩:=W04.1 hx;obtain ⟨u,rfl,hu⟩:=Zhm hc;exact hY k x u M A hJ hx1 hu) hJ0
 simpa using this
def Zhp {P:Program} {gf:Nat} {fn:Func} (hf:P.funcs[gf]? = some fn) (hE:entB P gf=true) {rc:RCode} (hb:(match fn.body with|some c=>Z1A P fn.ntmps c rc|none=>false)=true) (hr:fn.results = #[])
  {G:Jg} {caps:List AV} {els:List (AV×AV)} (hn:caps.length+1<=fn.ntmps)
  (h:∀ (n l:Nat) (J:Nat->(Nat->Prop)->World->Prop) (K:World->Prop),2<=n->ItH G J K->YOK P (n-1) l J K (els.map λx=>[x.1,x.2]) ->
   ItW P G fn.ntmps n J K rc 0 ⟨iniT 0 (.func (.yield l) [] []::caps),[]⟩ λe k s=>(e = .ret∨e = .normal)/\k=els.length/\Ym s ⟨[],[]⟩):Zh7 P G gf caps els:=by
 obtain ⟨h1,h2⟩:=Zhl (els:=els.map λx=>[x.1,x.2]) hf hE hb hr hn (by simpa using h);refine ⟨h1,λn l lb J K M W hn2 je ke jm jg hC hY hJ0=>?_⟩
 have:=h2 n l lb J K M W hn2 ⟨je,ke,jm,jg⟩ hC (λk xs us M A hJ hx hc=>by
  rw[W09]at hx;obtain ⟨x,hx1,rfl⟩:=W04.1 hx;obtain ⟨u,v,rfl,hu,hv⟩:=Zhn hc;exact hY k x u v M A hJ hx1 hu hv) hJ0
 simpa using this
def oiT (O:AV) (ps:Jp) (day:Int) (l i:Nat):List (Nat×AV):=[(13,.int .i64 i),(12,.int .i64 ps.length),(11,.vsl (ps.map ptA)),(2,.vptr [.int .i64 day] 0),(1,.vptr [O] 0),(0,.func (.yield l) [] [])]
def outIt (r:Jr) (l:Jl) (hs:Jh) (ps:Jp) (day:Int) (hp:ps.length<=41) :
  Zh7 prog G 128 [.vptr [ofA r l hs ps] 0,.vptr [.int .i64 day] 0] (outE ps day):=by
 have pO:=ZgF r l hs ps;have eO:ofA r l hs ps = .vptr [.vsl (r.map isa),.vsl (l.map na),.vsl (hs.map hoa),.vsl (ps.map ptA),.vsl ((nums r).map ia)] 0:=rfl;refine Zhp Tryz.func128 (by kernel_rfl) (rc:=Zg5) (by kernel_rfl) rfl (W0C rfl) λn l' J K hn H hY=>?_
 obtain ⟨O,hO⟩:=Qex (ofA r l hs ps);rw[<- hO]at pO eO ⊢;clear hO
 have pT:∀ i,∀ q∈oiT O ps day l' i,q.2.pure=true:=λi q hq=>by
  simp only[oiT,W0g,W0Q,or_false]at hq;rcases hq with rfl|rfl|rfl|rfl|rfl|rfl <;> simp[AV.pure,ptA,pO]
 unfold Zg5;refine Zhf ⟨oiT O ps day l' 0,[]⟩ (λM A=>?_) (Zhh (Zhi (λi=>(outI ps day i).length) (λi=>⟨oiT O ps day l' i,[]⟩) (λi=>i<=ps.length) (λi=>ps.length-i) 0 rfl rfl (W1f _) λi hi=>?_))
 . refine Qga ?_;simp -implicitDefEqProofs[iniT,eO,oiT]
   (refine Wkc ?_;simp only[Wkl,and_true];(try simp[lk,Yc,Ya,AV.keys]))
 by_cases hlt:i<ps.length
 case neg =>
  obtain rfl:i=ps.length:=(by omega);refine Zhf ⟨(14,.bool false)::oiT O ps day l' ps.length,[]⟩ (λM A=>?_) (Zhd (Zhg (.exit 0) ⟨[],[]⟩ (λM A=>?_) ?_))
  . refine Qga ?_;simp -implicitDefEqProofs[oiT];exact (by (first|exact Wka|exact Wkb))
  . refine Qga ?_;simp -implicitDefEqProofs[oiT];exact (by (first|exact Wka|exact Wkb))
  . simp only[ItBk,if_true];refine ⟨by simp,by simp[outE],λ_ _ _ h=>h⟩
 have wi:i64.wrap ((i:Int)+1)=((i+1:Nat):Int):=Yf;have hx:=ZgB hlt;have hsu:=ZgH (ps:=ps) (day:=day) (n:=i);have hgt:=ZgI (ps:=ps) (day:=day) (n:=ps.length) (i:=i) hlt;obtain ⟨x,hxe⟩:=Qex (ps[i]);rw[<- hxe]at hx;rw[hx]at hsu hgt;have hlx:ps[i]=x:=hxe.symm;have hpt:ptA x=[.int .i64 x.no,.int .i64 x.dy,.int .i64 x.ho,.int .i64 x.dw,.int .i64 x.lt,.int .i64 x.bk,.int .u8 x.lo]:=rfl;refine Zhf ⟨(14,.bool true)::oiT O ps day l' i,[]⟩ (λM A=>?_) (Zhf ⟨oiT O ps day l' i,[]⟩ (λM A=>?_) (Zhe (Zhh ?_)))
 . refine Qga ?_;simp -implicitDefEqProofs[oiT,hlt];exact (by (first|exact Wka|exact Wkb))
 . refine Qga ?_;simp -implicitDefEqProofs[oiT];exact (by (first|exact Wka|exact Wkb))
 obtain ⟨bk,hbk⟩:=Qex ((!decide (x.bk = -1)&&decide (x.bk<=day)));refine Zhf ⟨(5,.ptr 5 0)::(4,.int .i64 i)::oiT O ps day l' i,[(5,.box (ptA x))]⟩ (λM A=>?_) (Zhf ⟨(6,.bool bk)::(5,.ptr 5 0)::(4,.int .i64 i)::oiT O ps day l' i,[(5,.box (ptA x))]⟩ (λM A=>?_) ?_)
 . refine Qga ?_;simp -implicitDefEqProofs[oiT,hlt,hlx,hpt]
   (refine Wkc ?_;simp only[Wkl,and_true];(try simp[lk,Yc,Ya,AV.keys]))
 . refine Qga ?_;by_cases c1:x.bk = -1
   . have e:bk=false:=(by rw[hbk];simp[c1]);simp -implicitDefEqProofs[oiT,hpt,c1,e]
     (refine Wkc ?_;simp only[Wkl,and_true];(try simp[lk,Yc,Ya,AV.keys]))
   . by_cases c2:x.bk<=day
     . have e:bk=true:=(by rw[hbk];simp[c1,c2]);simp -implicitDefEqProofs[oiT,hpt,c1,c2,e]
       (refine Wkc ?_;simp only[Wkl,and_true];(try simp[lk,Yc,Ya,AV.keys]))
     . have e:bk=false:=(by rw[hbk];simp[c2]);simp -implicitDefEqProofs[oiT,hpt,c1,c2,e]
       (refine Wkc ?_;simp only[Wkl,and_true];(try simp[lk,Yc,Ya,AV.keys]))
 have hout:outB x day=(decide (x.dy<=day) && !bk && !decide (x.lo=2)):=by
  rw[hbk,outB];by_cases c1:x.bk = -1
  . simp only[c1,W1i,Bool.true_or,W17,W1K,W1E]
  . by_cases c2:x.bk<=day
    . have c3:¬day<x.bk:=(by omega);simp only[c1,c2,c3,W1i,W1x,W1E,W17,W1k,Bool.or_self]
    . have c3:day<x.bk:=(by omega);simp only[c1,c2,c3,W1i,W1x,W1E,W1k,Bool.or_true]
 clear hbk;by_cases ho:outB x day=true
 . rw [if_pos ho]at hsu;have hg:=hgt ho;rw[hout]at ho;simp only[W01,W1C,W0b,W1b]at ho;obtain ⟨⟨o1,rfl⟩,o3⟩:=ho
   refine Zhk H hY 17 (d:=44) (f:=.t 41) (ys:=[.t 42,.t 43]) (gd:=some (40,true)) rfl (xs:=[.int .i64 i,.agg (ptA x)])
    ((43,.agg (ptA x))::(42,.int .i64 i)::(41,.func (.yield l') [] [])::(40,.bool true)::oiT O ps day l' i) ⟨(46,.bool false)::oiT O ps day l' i,[]⟩ [(40,.bool true)] [(46,.bool true)] (W0C rfl) ?_ (by simp[AV.pure,ptA]) ?_ ?_ (by simp[wants,St.tmp,lk]) (by simp[evA,St.tmp,lk]) (by simp[evA,St.tmp,lk]) ?_ ?_ ?_ ?_ ?_
   . rw[outE,W10,W09,hg];simp[hx]
   . intro q hq;simp only[W0g]at hq;rcases hq with rfl|rfl|rfl|rfl|hq
     . simp[AV.pure,ptA]
     . simp[AV.pure]
     . simp[AV.pure]
     . simp[AV.pure]
     . exact pT i q hq
   . simp -implicitDefEqProofs[oiT,hpt,o1,o3]
     (refine Wkc ?_;simp only[Wkl,and_true];(try simp[lk,Yc,Ya,AV.keys]))
   . simp -implicitDefEqProofs[oiT];exact (by (first|exact Wka|exact Wkb))
   . refine Zhg .normal ⟨oiT O ps day l' i,[]⟩ (λM A=>?_) ⟨rfl,Zhg .normal ⟨oiT O ps day l' (i+1),[]⟩ (λM A=>?_) ⟨i+1,by rw[hsu];simp,rfl,by omega,by omega⟩⟩
     . refine Qga ?_;simp -implicitDefEqProofs[oiT];exact (by (first|exact Wka|exact Wkb))
     . refine Qga ?_;simp -implicitDefEqProofs[oiT,wi];exact (by (first|exact Wka|exact Wkb))
   . intro q hq;simp at hq;subst hq;exact ⟨by simp[lk],by simp[AV.flat]⟩
   . simp -implicitDefEqProofs;exact (by (first|exact Wka|exact Wkb))
   . intro A;refine Qga ?_;simp -implicitDefEqProofs;exact (by (first|exact Wka|exact Wkb))
 . rw [if_neg ho]at hsu;rw[hout]at ho;refine Zhf ⟨(46,.bool false)::oiT O ps day l' i,[]⟩ (λM A=>?_) (Zhg .normal ⟨oiT O ps day l' i,[]⟩ (λM A=>?_) ⟨rfl,Zhg .normal ⟨oiT O ps day l' (i+1),[]⟩ (λM A=>?_) ⟨i+1,by rw[hsu],rfl,by omega,by omega⟩⟩)
   . refine Qga ?_;by_cases o1:x.dy<=day
     . cases bk
       . by_cases o3:x.lo=2
         . simp -implicitDefEqProofs[oiT,hpt,o1,o3]
           (refine Wkc ?_;simp only[Wkl,and_true];(try simp[lk,Yc,Ya,AV.keys]))
         . exact absurd (by simp[o1,o3]) ho
       . simp -implicitDefEqProofs[oiT,hpt,o1]
         (refine Wkc ?_;simp only[Wkl,and_true];(try simp[lk,Yc,Ya,AV.keys]))
     . simp -implicitDefEqProofs[oiT,hpt,o1]
       (refine Wkc ?_;simp only[Wkl,and_true];(try simp[lk,Yc,Ya,AV.keys]))
   . refine Qga ?_;simp -implicitDefEqProofs[oiT];exact (by (first|exact Wka|exact Wkb))
   . refine Qga ?_;simp -implicitDefEqProofs[oiT,wi];exact (by (first|exact Wka|exact Wkb))
def K5p:List AV:=[.func (.func 252) [] [],.func (.func 253) [] [],.func (.func 254) [] [],.func (.func 257) [] [],.func (.func 258) [] []]
def GP (G:Jg):Prop:=G 1=some K5p
def ckP (r:Jr) (hs:Jh) (x:Prt):Nat->Bool
 |0=>inR x.no 1 9999&&inR x.dy 0 14610
 |1=>decide (0<=hoI hs x.ho)
 |2=>(findN x.dw x.lt r).isSome
 |3=>decide (x.lo<=2)
 |_=>decide (x.bk = -1)||(inR x.bk x.dy 14610&&decide (x.lo=0))
def hoF_I (hs:Jh) (id:Int):decide (0<=hoI hs id)=(hoF hs id).isSome:=by
 unfold hoI hoF;rw[Z8b,W2g,W14,List.find?_isSome]
def Zhq {r:Jr} {hs:Jh} {x:Prt}:prB r hs x=true↔∀ j,j<5->ckP r hs x j=true:=by
 simp only[prB,W01];rw[<- hoF_I]
 constructor
 . rintro ⟨⟨⟨⟨⟨h1,h2⟩,h3⟩,h4⟩,h5⟩,h6⟩ j hj
   match j,hj with
   |0,_=>simp only[ckP,h1,h2,Bool.and_self]
   |1,_=>exact h3
   |2,_=>exact h5
   |3,_=>exact h4
   |4,_=>exact h6
 . intro h;have h1:=h 0 (by omega);simp only[ckP,W01]at h1;exact ⟨⟨⟨⟨h1,h 1 (by omega)⟩,h 3 (by omega)⟩,h 2 (by omega)⟩,h 4 (by omega)⟩
def Zhr {r:Jr} {hs:Jh} {ps:Jp} {i:Nat} (hi:i<hs.length) (h:hoB (nums r) hs i=false):ptsB r hs ps=false:=by
 cases q:ptsB r hs ps
 . rfl
 . simp only[ptsB,W01]at q;have:=Z7R.1 q.1.2 i hi;rw[h]at this;cases this
def Zhs {r:Jr} {hs:Jh} {ps:Jp} {i:Nat} (hi:i<ps.length) (h:shB r hs ps i=false):ptsB r hs ps=false:=by
 cases q:ptsB r hs ps
 . rfl
 . simp only[ptsB,W01]at q;have:=Z7R.1 q.2 i hi;rw[h]at this;cases this
def hoC (hs:Jh) (i:Nat):Bool:=inR (hAt hs i).id 1 9999&&(i == 0||decide ((hAt hs (i-1)).id<(hAt hs i).id))&&inR (hAt hs i).fr 1 (hAt hs i).to&&decide ((hAt hs i).to<=999)&&decide ((hAt hs i).ds.length<=8)
def wkC (D ds:List Int) (k:Nat):Bool:=D.contains (ds.getD k 0)&&(k == 0||decide (ds.getD (k-1) 0<ds.getD k 0))
def Zht (D:List Int) (hs:Jh) (i:Nat):hoB D hs i=(hoC hs i&&(List.range (hAt hs i).ds.length).all (wkC D (hAt hs i).ds)):=rfl
def rgT (r:Jr) (l:Jl) (hs:Jh) (ps:Jp) (i:Nat):List (Nat×AV):=[(34,.int .i64 i),(33,.int .i64 hs.length),(32,.vsl (hs.map hoa)),(0,ofA r l hs ps)]
def rgD (r:Jr) (l:Jl) (hs:Jh) (ps:Jp) (h:Hld) (i k:Nat):St:=⟨(88,.int .i64 k)::(87,.int .i64 h.ds.length)::(86,.vsl (h.ds.map ia))::(4,.ptr 4 0)::(3,.int .i64 i)::rgT r l hs ps i,[(4,.box (hoa h))]⟩
def rgP (r:Jr) (l:Jl) (hs:Jh) (ps:Jp) (i:Nat):List (Nat×AV):=[(122,.int .i64 i),(121,.int .i64 ps.length),(120,.vsl (ps.map ptA)),(7,.bool true),(0,ofA r l hs ps)]
def rgK (r:Jr) (l:Jl) (hs:Jh) (ps:Jp) (x:Prt) (i j:Nat):St:=⟨(145,.int .i64 j)::(144,.agg K5p)::(9,.ptr 9 0)::(8,.int .i64 i)::rgP r l hs ps i,[(9,.box (ptA x))]⟩
def kPall {r:Jr} {l:Jl} {hs:Jh} {ps:Jp} (x:Prt) (hr:Sml r) (hh:Sml hs) (j:Nat) (hj:j<5) :
  ∃ f,(K5p.drop j).take 1=[.func (.func f) [] []]/\PC prog G f [ofA r l hs ps,.agg (ptA x)] (.bool (ckP r hs x j)):=by
 match j,hj with
 |0,_=>exact ⟨_,rfl,Zh1 _ x⟩
 |1,_=>exact ⟨_,rfl,Zh2 r l hs ps x hh⟩
 |2,_=>exact ⟨_,rfl,Zh4 r l hs ps x hr⟩
 |3,_=>exact ⟨_,rfl,Zh5 _ x⟩
 |4,_=>exact ⟨_,rfl,Zh6 _ x⟩
def Zhu (hP:GP G) (r:Jr) (l:Jl) (hs:Jh) (ps:Jp) (hr:Sml r) (hd:Sml (nums r)) (hw:WfP hs ps):PC prog G 132 [ofA r l hs ps] (.bool (ptsB r hs ps)):=by
 have hh:Sml hs:=(by have:=hw.hl;unfold Sml;omega);have hl:=hw.hl;have hp:=hw.pl;have hk2:=λx j hj=>kPall (G:=G) (r:=r) (l:=l) (hs:=hs) (ps:=ps) x hr hh j hj
 have pO:=ZgF r l hs ps;have kO:=ZgG r l hs ps;have eO:ofA r l hs ps = .vptr [.vsl (r.map isa),.vsl (l.map na),.vsl (hs.map hoa),.vsl (ps.map ptA),.vsl ((nums r).map ia)] 0:=rfl;have hC:=λn=>Zdb (G:=G) false (nums r) n hd
 have eC:liA false (nums r) = .vsl ((nums r).map ia):=(by simp[liA]);rw[eC]at hC;unfold GP at hP;refine ZfM rfl λR hG hrd=>?_
 subst hG;refine Qga ?_;by_cases h6:6<hs.length
 . have h6':(6:Int)<hs.length:=by omega
   have e:ptsB r hs ps=false:=by
    have:¬hs.length<=6:=(by omega);simp[ptsB,this]
   simp -implicitDefEqProofs[ZfK,ZfL,eO,h6',e]
 have h6':¬(6:Int)<hs.length:=(by omega);by_cases h30:30<ps.length
 . have h30':(30:Int)<ps.length:=by omega
   have e:ptsB r hs ps=false:=by
    have:¬ps.length<=30:=(by omega);simp[ptsB,this]
   simp -implicitDefEqProofs[ZfK,ZfL,eO,h6',h30',e]
 have h30':¬(30:Int)<ps.length:=(by omega);simp -implicitDefEqProofs[ZfK,ZfL,eO,h6',h30'];refine Z7K (λi=>⟨rgT r l hs ps i,[]⟩) (λi=>∀ j,j<i->hoB (nums r) hs j=true) hs.length ?_ (by simp) ?_ ?_
 . simp only[rgT,eO]
   (refine Wkc ?_;simp only[Wkl,and_true];(try simp[lk,Yc,Ya,AV.keys]))
 . intro i hi he;have hno:hoB (nums r) hs i=false->ptsB r hs ps=false:=Zhr hi;have hx:=ZgA hi;have hds:=hw.dl _ (W0e hi);have heq:=Zht (nums r) hs i;have wi:i64.wrap ((i:Int)+1)=(i:Int)+1:=Yf;obtain ⟨h,hhe⟩:=Qex (hs[i]);rw[<- hhe]at hx hds;have hlx:hs[i]=h:=hhe.symm;have hho:hoa h=[.int .i64 h.id,.int .i64 h.fr,.int .i64 h.to,.vsl (h.ds.map ia)]:=rfl;have c1:=ZgU (G:=R.G) 1 9999 h.id;have c2:=ZgV (G:=R.G) 1 999 h.fr h.to;have hC0:hoC hs i=(inR h.id 1 9999&&(i == 0||decide ((hAt hs (i-1)).id<h.id))&&inR h.fr 1 h.to&&decide (h.to<=999)&&decide (h.ds.length<=8)):=by unfold hoC;rw[hx]
   have hfin:inR h.id 1 9999=true->(i == 0||decide ((hAt hs (i-1)).id<h.id))=true->hoC hs i=(inR h.fr 1 999&&inR h.to 1 999 && !decide (h.to<h.fr) && !decide (8<h.ds.length)):=λq1 q2=>by
    rw[hC0,q1,q2,W2g];simp only[W1k,W01,ZdG,W0b,W1C,W1b];omega
   have hno2:hoC hs i=false->ptsB r hs ps=false:=λq=>hno (by rw[heq,q];rfl)
   have hst:∀ k:Nat,k<=h.ds.length->(∀ j,j<k->wkC (nums r) h.ds j=true)->k=h.ds.length->hoC hs i=true->∀ j,j<i+1->hoB (nums r) hs j=true:=λk _ hk1 hk2 hc j hj=>by
    rcases W0q j i with h1|h1
    . exact he j h1
    . obtain rfl:j=i:=(by omega);rw[heq,hc,hx,W1k];exact Z7R.2 (by rw[<- hk2];exact hk1)
   refine Qga ?_
   cases q1:inR h.id 1 9999
   . have e:=hno2 (by rw[hC0,q1];rfl);rw[q1]at c1
     cases i
     case' zero=>simp -implicitDefEqProofs[rgT,hi,hlx,hho]
     case' succ k =>
      have k1:(k:Int)+1<hs.length:=(by omega);have k2:((k:Int)+1).toNat=k+1:=(by omega);have k3:(0:Int)<=(k:Int)+1:=(by omega);simp -implicitDefEqProofs[rgT,k1,k2,k3,hi,hlx,hho]
     all_goals
      refine Qco (c1) ?_;simp -implicitDefEqProofs;refine ⟨rfl,?_⟩;refine Qgr ?_;simp -implicitDefEqProofs[e]
      done
   rw[q1]at c1;obtain ⟨I,hIe⟩:=Qex i
   cases i
   case' zero =>
    have q2:=hfin q1 rfl;simp -implicitDefEqProofs[rgT,hi,hlx,hho];refine Qco (c1) ?_;simp -implicitDefEqProofs
   case' succ k =>
    have hk:k<hs.length:=(by omega);have w0:i64.wrap ((k:Int)+1-1)=(k:Int):=(by rw[Yf (by omega) (by omega)];omega);have w2:i64.wrap (k:Int)=(k:Int):=Yf;have g0:(0:Int)<(k:Int)+1:=(by omega);have k1:(k:Int)+1<hs.length:=(by omega);have k2:((k:Int)+1).toNat=k+1:=(by omega);have k3:(0:Int)<=(k:Int)+1:=(by omega);have hhk:hoa hs[k]=[.int .i64 hs[k].id,.int .i64 hs[k].fr,.int .i64 hs[k].to,.vsl (hs[k].ds.map ia)]:=rfl;simp -implicitDefEqProofs[rgT,k1,k2,k3,hi,hlx,hho];refine Qco (c1) ?_;by_cases hp:hs[k].id<h.id
    case' neg =>
     have e:=hno2 (by rw[hC0,W19,ZgA hk,W0S hp];simp);have hp2:h.id<=hs[k].id:=(by omega);simp -implicitDefEqProofs[hk,w0,w2,g0,hhk,hp2,eO,hho];refine ⟨rfl,?_⟩;refine Qgr ?_;simp -implicitDefEqProofs[e]
     done
    have hp2:¬h.id<=hs[k].id:=(by omega);have q2:=hfin q1 (by rw[W19,ZgA hk,W0M hp];simp);simp -implicitDefEqProofs[hk,w0,w2,g0,hhk,hp2,eO,hho]
   all_goals
    refine Qco (c2) ?_
    cases q3:(inR h.fr 1 999&&inR h.to 1 999)
    case false =>
     have e:=hno2 (by rw[q2,q3];rfl);simp -implicitDefEqProofs;refine ⟨rfl,?_⟩;refine Qgr ?_;simp -implicitDefEqProofs[e]
    by_cases q4:h.to<h.fr
    case pos =>
     have e:=hno2 (by rw[q2,q3,W0M q4];rfl);simp -implicitDefEqProofs[hho,q4];refine ⟨rfl,?_⟩;refine Qgr ?_;simp -implicitDefEqProofs[e]
    by_cases q5:8<h.ds.length
    case pos =>
     have q5':(8:Int)<h.ds.length:=(by omega);have e:=hno2 (by rw[q2,W0M q5];simp);simp -implicitDefEqProofs[hho,q4,q5'];refine ⟨rfl,?_⟩;refine Qgr ?_;simp -implicitDefEqProofs[e]
    have q5':¬(8:Int)<h.ds.length:=(by omega);rw[q3,W0S q4,W0S q5]at q2;simp -implicitDefEqProofs[hho,q4,q5'];refine ⟨rfl,?_⟩;refine Z7K (rgD r l hs ps h I) (λk=>∀ j,j<k->wkC (nums r) h.ds j=true) h.ds.length ?_ (by simp) ?_ ?_
    . simp only[rgD,rgT,eO,hIe]
      ((try simp only[hho]);refine Ym.sub (by simp[lk,Ya,AV.keys,hho]) ?_;simp only[hho,Wkl,and_true];(try simp[lk,Yc,Ya,AV.keys,hho]))
    . intro k hk hK
      have hwf:wkC (nums r) h.ds k=false->ptsB r hs ps=false:=λq=>hno (by
       rw[heq,q2,hx,W1k]
       cases q6:(List.range h.ds.length).all (wkC (nums r) h.ds)
       . rfl
       . have:=Z7R.1 q6 k hk;rw[q]at this;cases this)
      have wk:i64.wrap ((k:Int)+1)=(k:Int)+1:=Yf;have hcd:=hC h.ds[k];have gd:h.ds.getD k 0=h.ds[k]:=(by simp[W0j,hk]);refine Qga ?_;by_cases m1:h.ds[k]∈nums r
      case neg =>
       have e:=hwf (by rw[wkC,gd];simp[m1]);rw[W0S m1]at hcd;simp -implicitDefEqProofs[rgD,rgT,hk,ia,eO];refine Qco (hcd) ?_;simp -implicitDefEqProofs;refine Qgr ?_;simp -implicitDefEqProofs;refine Qgr ?_;simp -implicitDefEqProofs[e]
      rw[W0M m1]at hcd
      cases k with
      | zero =>
        have e:wkC (nums r) h.ds 0=true:=(by rw[wkC,gd];simp[m1]);have w1:i64.wrap 1=1:=rfl;simp -implicitDefEqProofs[rgD,rgT,hk,ia,eO];refine Qco (hcd) ?_;simp -implicitDefEqProofs[w1];refine ⟨?_,e⟩;simp only[rgD,rgT,eO]
        ((try simp only[hho]);refine Ym.sub (by simp[lk,Ya,AV.keys,hho]) ?_;simp only[hho,Wkl,and_true];(try simp[lk,Yc,Ya,AV.keys,hho]))
      | succ p =>
        have hp:p<h.ds.length:=(by omega);have g2:h.ds.getD p 0=h.ds[p]:=(by simp[W0j,hp]);have w0:i64.wrap ((p:Int)+1-1)=(p:Int):=(by rw[Yf (by omega) (by omega)];omega);have w2:i64.wrap (p:Int)=(p:Int):=Yf;have g0:(0:Int)<(p:Int)+1:=(by omega);have k1:(p:Int)+1<h.ds.length:=(by omega);have k2:((p:Int)+1).toNat=p+1:=(by omega);have k3:(0:Int)<=(p:Int)+1:=(by omega);have wk2:i64.wrap ((p:Int)+1+1)=(p:Int)+1+1:=Yf;by_cases m2:h.ds[p]<h.ds[p+1]
        . have e:wkC (nums r) h.ds (p+1)=true:=(by rw[wkC,gd,W19,g2];simp[m1,m2]);have m3:¬h.ds[p+1]<=h.ds[p]:=(by omega);simp -implicitDefEqProofs[rgD,rgT,k1,k2,k3,hk,ia,eO];refine Qco (hcd) ?_;simp -implicitDefEqProofs[hp,w0,w2,g0,hho,ia,m3,wk2];refine ⟨?_,λj hj=>?_⟩
          . simp only[rgD,rgT,eO]
            ((try simp only[hho]);refine Ym.sub (by simp[lk,Ya,AV.keys,hho]) ?_;simp only[hho,Wkl,and_true];(try simp[lk,Yc,Ya,AV.keys,hho]))
          . rcases W0q j (p+1) with h4|h4
            . exact hK j h4
            . obtain rfl:j=p+1:=(by omega);exact e
        . have e:=hwf (by rw[wkC,gd,W19,g2];simp[m2]);have m3:h.ds[p+1]<=h.ds[p]:=(by omega);simp -implicitDefEqProofs[rgD,rgT,k1,k2,k3,hk,ia,eO];refine Qco (hcd) ?_;simp -implicitDefEqProofs[hp,w0,w2,g0,hho,ia,m3];refine Qgr ?_;simp -implicitDefEqProofs;refine Qgr ?_;simp -implicitDefEqProofs[e]
    . intro hK;have hst2:=hst h.ds.length (W0f _) hK rfl q2;refine Qga ?_;have wI:i64.wrap ((I:Int)+1)=(I:Int)+1:=Yf;simp -implicitDefEqProofs[rgD,rgT];refine Qgr ?_;simp -implicitDefEqProofs[wI];refine ⟨?_,by first|exact hst2|exact hst2 0 (by omega)⟩;simp only[rgT,eO]
      ((try simp only[hIe]);refine Ym.sub (by simp[lk,Ya,AV.keys,hIe]) ?_;simp only[hIe,Wkl,and_true];(try simp[lk,Yc,Ya,AV.keys,hIe]))
 . intro he;refine Qga ?_;simp -implicitDefEqProofs[rgT,eO];refine Qgr ?_;simp -implicitDefEqProofs;refine Z7K (λi=>⟨rgP r l hs ps i,[]⟩) (λi=>∀ j,j<i->shB r hs ps j=true) ps.length ?_ (by simp) ?_ ?_
   . simp only[rgP,eO]
     (refine Wkc ?_;simp only[Wkl,and_true];(try simp[lk,Yc,Ya,AV.keys]))
   . intro i hi hE;have hno:shB r hs ps i=false->ptsB r hs ps=false:=Zhs hi;have hx:=ZgB hi;have wi:i64.wrap ((i:Int)+1)=(i:Int)+1:=Yf;obtain ⟨x,hxe⟩:=Qex (ps[i]);rw[<- hxe]at hx;have hlx:ps[i]=x:=hxe.symm;have hpt:ptA x=[.int .i64 x.no,.int .i64 x.dy,.int .i64 x.ho,.int .i64 x.dw,.int .i64 x.lt,.int .i64 x.bk,.int .u8 x.lo]:=rfl;have hsh:shB r hs ps i=((i == 0||decide ((pAt ps (i-1)).no<x.no))&&prB r hs x):=(by unfold shB;rw[hx]);have t5:K5p.take 5=K5p:=rfl;have l5:K5p.length=5:=rfl;obtain ⟨I,hIe⟩:=Qex i;refine Qga ?_
     cases i
     case' zero =>
      have q2:shB r hs ps 0=prB r hs x:=(by rw[hsh];rfl);simp -implicitDefEqProofs[rgP,hi,hlx,hpt]
     case' succ k =>
      have hk:k<ps.length:=(by omega);have w0:i64.wrap ((k:Int)+1-1)=(k:Int):=(by rw[Yf (by omega) (by omega)];omega);have w2:i64.wrap (k:Int)=(k:Int):=Yf;have g0:(0:Int)<(k:Int)+1:=(by omega);have k1:(k:Int)+1<ps.length:=(by omega);have k2:((k:Int)+1).toNat=k+1:=(by omega);have k3:(0:Int)<=(k:Int)+1:=(by omega);have hpk:ptA ps[k]=[.int .i64 ps[k].no,.int .i64 ps[k].dy,.int .i64 ps[k].ho,.int .i64 ps[k].dw,.int .i64 ps[k].lt,.int .i64 ps[k].bk,.int .u8 ps[k].lo]:=rfl;by_cases hp:ps[k].no<x.no
      case' neg =>
       have e:=hno (by rw[hsh,W19,ZgB hk,W0S hp];simp);have hp2:x.no<=ps[k].no:=(by omega);simp -implicitDefEqProofs[rgP,k1,k2,k3,hi,hlx,hpt,hk,w0,w2,g0,hpk,hp2,eO];refine ⟨rfl,?_⟩;refine Qgr ?_;simp -implicitDefEqProofs[e]
       done
      have hp2:¬x.no<=ps[k].no:=(by omega);have q2:shB r hs ps (k+1)=prB r hs x:=(by rw[hsh,W19,ZgB hk,W0M hp];simp);simp -implicitDefEqProofs[rgP,k1,k2,k3,hi,hlx,hpt,hk,w0,w2,g0,hpk,hp2,eO]
     all_goals
      refine ⟨rfl,?_⟩;simp -implicitDefEqProofs[hP,t5,l5];refine Z7K (rgK r l hs ps x I) (λj=>∀ k,k<j->ckP r hs x k=true) 5 ?_ (by simp) ?_ ?_
      . simp only[rgK,rgP,eO,hIe]
        ((try simp only[hpt,K5p]);refine Ym.sub (by simp[lk,Ya,AV.keys,hpt,K5p]) ?_;simp only[hpt,K5p,Wkl,and_true];(try simp[lk,Yc,Ya,AV.keys,hpt,K5p]))
      . intro j hj hJ;refine Qga ?_;obtain ⟨f,hf1,hf2⟩:=hk2 x j hj;have wj:i64.wrap ((j:Int)+1)=(j:Int)+1:=Yf;have j1:(j:Int)<5:=(by omega);have j2:j+1<=5:=(by omega);have j3:j<=4:=(by omega);simp -implicitDefEqProofs[rgK,rgP,j1,j2,j3,l5,hf1,hj,hpt];rw[hpt]at hf2;refine Yd.of hf2 (by simp[pO,AV.pure]) ?_
        cases hb:ckP r hs x j
        . have e:=hno (by
           rw[q2]
           cases q:prB r hs x
           . rfl
           . have:=Zhq.1 q j hj;rw[hb]at this;cases this)
          simp -implicitDefEqProofs;refine Qgr ?_;simp -implicitDefEqProofs;refine Qgr ?_;simp -implicitDefEqProofs[e]
        . simp -implicitDefEqProofs[wj];refine ⟨?_,λk hk=>?_⟩
          . simp only[rgK,rgP,eO]
            ((try simp only[hpt,K5p]);refine Ym.sub (by simp[lk,Ya,AV.keys,hpt,K5p]) ?_;simp only[hpt,K5p,Wkl,and_true];(try simp[lk,Yc,Ya,AV.keys,hpt,K5p]))
          . rcases W0q k j with h1|h1
            . exact hJ k h1
            . obtain rfl:k=j:=(by omega);exact hb
      . intro hJ;rw[Zhq.2 hJ]at q2
        have hE2:∀ j,j<I+1->shB r hs ps j=true:=λj hj=>by
         rcases W0q j I with h1|h1
         . exact hE j (by omega)
         . obtain rfl:j=I:=(by omega);rw[hIe];exact q2
        have wI:i64.wrap ((I:Int)+1)=(I:Int)+1:=Yf;refine Qga ?_;simp -implicitDefEqProofs[rgK,rgP];refine Qgr ?_;simp -implicitDefEqProofs[wI];refine ⟨?_,by first|exact q2|exact λj hj=>hE2 j (by omega)⟩;simp only[rgP,eO]
        ((try simp only[hIe]);refine Ym.sub (by simp[lk,Ya,AV.keys,hIe]) ?_;simp only[hIe,Wkl,and_true];(try simp[lk,Yc,Ya,AV.keys,hIe]))
   . intro hE
     have e:ptsB r hs ps=true:=by
      simp only[ptsB,W01,W0b];exact ⟨⟨⟨by omega,by omega⟩,Z7R.2 he⟩,Z7R.2 hE⟩
     refine Qga ?_;simp -implicitDefEqProofs[rgP];refine Qgr ?_;simp -implicitDefEqProofs[e]
def opP (r:Jr) (l:Jl) (hs:Jh) (ps:Jp):AV:=.tup [if ck7 r l hs ps=0 then ofA r l hs ps else .nilp,.int .i64 (ck7 r l hs ps)]
def Zhv {r:Jr} {l:Jl} {hs:Jh} {ps:Jp}:ck7 r l hs ps=0↔chN r l=0/\ptsB r hs ps=true:=by
 unfold ck7;by_cases h:chN r l=0
 . rw[if_pos h];by_cases h2:ptsB r hs ps=true
   . simp[h,h2]
   . simp[h,h2]
 . simp[h]
def Zhw {r:Jr} {l:Jl} (h:chN r l=0):openV r=0:=by
 unfold chN at h
 split at h
 . assumption
 . rename_i e;exact absurd h e
def as7 (r:Jr) (l:Jl) (hs:Jh) (ps:Jp) (day m:Int):Int:=if ck7 r l hs ps=0 then if inR day 0 14610=true/\inR m 1 999=true then 0 else 2 else ck7 r l hs ps
def ab7 (r:Jr) (l:Jl) (hs:Jh) (ps:Jp) (day m id:Int) (ds:List Int):Int:=if as7 r l hs ps day m=0 then if 0<=hoI hs id/\(ds.all λd=>decide (d∈nums r))=true then 0 else 6 else as7 r l hs ps day m
def Zhx (hG:GC G) (hN:GN G) (hP:GP G) (r:Jr) (l:Jl) (hs:Jh) (ps:Jp) (hl:WfN l) (hr:Wf r) (hd:Sml (nums r)) (hw:WfP hs ps):PC prog G 76 [prA r l hs ps] (opP r l hs ps):=by
 have hc:=Zdh hG hN r l hl hr;have hD:=Z9F hG r hr;rw[rega]at hD;have hR:=Zhu hP r l hs ps hr.1.1 hd hw;have pO:=ZgF r l hs ps;have kO:=ZgG r l hs ps;have eO:ofA r l hs ps = .vptr [.vsl (r.map isa),.vsl (l.map na),.vsl (hs.map hoa),.vsl (ps.map ptA),.vsl ((nums r).map ia)] 0:=rfl;have sO:∀ ok st,Yh ok st 6 (ofA r l hs ps)=some (ofA r l hs ps):=λok st=>by rw[eO];rw[eO]at pO;simp[Yh,pO]
 unfold opP prA;by_cases h0:chN r l=0
 case neg =>
  have e:ck7 r l hs ps=chN r l:=(by rw[ck7,if_neg h0]);rw[e,if_neg h0]
  (refine ZfP rfl λR hG hrd=>Qga ?_;subst hG)
  simp -implicitDefEqProofs[ZfN,ZfO];refine Qco (hc) ?_;simp -implicitDefEqProofs[h0]
 have ho:=Zhw h0;rw[if_pos ho,ho]at hD;rw[h0]at hc;refine ZfP rfl λR hG hrd=>?_
 subst hG;refine Qga ?_;simp -implicitDefEqProofs[ZfN,ZfO];refine Qco (hc) ?_;simp -implicitDefEqProofs;refine Qco (hD) ?_;simp -implicitDefEqProofs;rw[eO]at hR
 (first|refine Yd.flat (hR) (by simp[AV.flat]) (by simp) ?_|refine Ye.flat (hR) (by simp[AV.flat]) (by simp) ?_)
 cases q:ptsB r hs ps
 . have e:ck7 r l hs ps=70:=(by rw[ck7,if_pos h0,q];rfl);simp -implicitDefEqProofs[e]
 . have e:ck7 r l hs ps=0:=(by rw[ck7,if_pos h0,q];rfl);simp -implicitDefEqProofs[e,eO]
def Zhy (hG:GC G) (hN:GN G) (hP:GP G) (r:Jr) (l:Jl) (hs:Jh) (ps:Jp) (hl:WfN l) (hr:Wf r) (hd:Sml (nums r)) (hw:WfP hs ps):PC prog G 23 [prA r l hs ps] (.int .i64 (ck7 r l hs ps)):=by
 have ho:=Zhx hG hN hP r l hs ps hl hr hd hw;unfold opP prA at ho;unfold prA
 (refine ZfS rfl λR hG hrd=>Qga ?_;subst hG)
 simp -implicitDefEqProofs[ZfQ,ZfR];refine Qco (ho) ?_;simp -implicitDefEqProofs
def asP (r:Jr) (l:Jl) (hs:Jh) (ps:Jp) (day m:Int):AV:=.tup [if as7 r l hs ps day m=0 then ofA r l hs ps else .nilp,.int .i64 (as7 r l hs ps day m)]
def Zhz (hG:GC G) (hN:GN G) (hP:GP G) (r:Jr) (l:Jl) (hs:Jh) (ps:Jp) (day m:Int) (hl:WfN l) (hr:Wf r) (hd:Sml (nums r)) (hw:WfP hs ps) :
  PC prog G 89 [prA r l hs ps,.int .i64 day,.int .i64 m] (asP r l hs ps day m):=by
 have ho:=Zhx hG hN hP r l hs ps hl hr hd hw;have c1:=ZgU (G:=G) 0 14610 day;have c2:=ZgU (G:=G) 1 999 m;have pO:=ZgF r l hs ps;have kO:=ZgG r l hs ps;have eO:ofA r l hs ps = .vptr [.vsl (r.map isa),.vsl (l.map na),.vsl (hs.map hoa),.vsl (ps.map ptA),.vsl ((nums r).map ia)] 0:=rfl;have sO:∀ ok st,Yh ok st 6 (ofA r l hs ps)=some (ofA r l hs ps):=λok st=>by rw[eO];rw[eO]at pO;simp[Yh,pO]
 unfold opP at ho;unfold asP as7;by_cases h0:ck7 r l hs ps=0
 case neg =>
  rw[if_neg h0]at ho;unfold prA at *
  (refine ZfV rfl λR hG hrd=>Qga ?_;subst hG)
  simp -implicitDefEqProofs[ZfT,ZfU];refine Qco (ho) ?_;simp -implicitDefEqProofs[h0]
 rw[if_pos h0,h0]at ho;unfold prA at *;generalize ofA r l hs ps=O at *
 (refine ZfV rfl λR hG hrd=>Qga ?_;subst hG)
 simp -implicitDefEqProofs[ZfT,ZfU];refine Qco (ho) ?_;simp -implicitDefEqProofs;refine Qco (c1) ?_
 cases q1:inR day 0 14610
 . simp -implicitDefEqProofs[h0]
 simp -implicitDefEqProofs;refine Qco (c2) ?_
 cases q2:inR m 1 999
 . simp -implicitDefEqProofs[h0]
 . simp -implicitDefEqProofs[h0,pO,sO]
def abP (r:Jr) (l:Jl) (hs:Jh) (ps:Jp) (day m id:Int) (ds:List Int):AV:=.tup [if ab7 r l hs ps day m id ds=0 then ofA r l hs ps else .nilp,.int .i64 (ab7 r l hs ps day m id ds)]
def ZhA (r:Jr) (l:Jl) (hs:Jh) (ps:Jp) (d:Int) (hd:Sml (nums r)):PC prog G 127 [.int .i64 d,.vptr [ofA r l hs ps] 0] (.bool (!decide (d∈nums r))):=by
 have hC:=Zdb (G:=G) false (nums r) d hd;have eC:liA false (nums r) = .vsl ((nums r).map ia):=(by simp[liA]);rw[eC]at hC;unfold ofA
 (refine Zg1 rfl λR hG hrd=>Qga ?_;subst hG)
 simp -implicitDefEqProofs[ZfZ,Zg0];refine Qco (hC) ?_;simp -implicitDefEqProofs
def ZhB (hG:GC G) (hN:GN G) (hP:GP G) (r:Jr) (l:Jl) (hs:Jh) (ps:Jp) (day m id:Int) (ds:List Int) (hl:WfN l) (hr:Wf r) (hd:Sml (nums r)) (hw:WfP hs ps) (hds:Sml ds) :
  PC prog G 69 [prA r l hs ps,.int .i64 day,.int .i64 m,.int .i64 id,.vsl (ds.map ia)] (abP r l hs ps day m id ds):=by
 have ho:=Zhz hG hN hP r l hs ps day m hl hr hd hw;have pO:=ZgF r l hs ps;have hh:Sml hs:=(by have:=hw.hl;unfold Sml;omega);have c1:=Zh0 (G:=G) r l hs ps id hh;have c2:=Z8d (G:=G) 127 [.vptr [ofA r l hs ps] 0] (λd=>!decide (d∈nums r)) ds (by simp[AV.pure,pO]) hds (λd _=>ZhA r l hs ps d hd);have kO:=ZgG r l hs ps;have eO:ofA r l hs ps = .vptr [.vsl (r.map isa),.vsl (l.map na),.vsl (hs.map hoa),.vsl (ps.map ptA),.vsl ((nums r).map ia)] 0:=rfl;have sO:∀ ok st n,Yh ok st (n+1) (ofA r l hs ps)=some (ofA r l hs ps):=λok st n=>by rw[eO];rw[eO]at pO;simp[Yh,pO]
 have eN:(ds.any λd=>!decide (d∈nums r)) = !(ds.all λd=>decide (d∈nums r)):=(by simp[W2k]);rw[eN]at c2;unfold asP at ho;unfold abP ab7;by_cases h0:as7 r l hs ps day m=0
 case neg =>
  rw[if_neg h0]at ho;unfold prA at *
  (refine ZfY rfl λR hG hrd=>Qga ?_;subst hG)
  simp -implicitDefEqProofs[ZfW,ZfX];refine Qco (ho) ?_;simp -implicitDefEqProofs[h0]
 rw[if_pos h0,h0]at ho;unfold prA at *;generalize (ds.all λd=>decide (d∈nums r))=b at *;obtain ⟨cs,hcs⟩ : ∃ cs,ofA r l hs ps = .vptr cs 0:=⟨_,rfl⟩;clear eO;rw[hcs]at ho pO c1 c2 kO sO ⊢;generalize hoI hs id=hid at *
 (refine ZfY rfl λR hG hrd=>Qga ?_;subst hG)
 simp -implicitDefEqProofs[ZfW,ZfX];refine Qco (ho) ?_;simp -implicitDefEqProofs;refine Yd.of c1 (by simp[pO,AV.pure]) ?_;by_cases q1:hid<0
 . have q1':¬0<=hid:=(by omega);simp -implicitDefEqProofs[q1,q1',h0]
 have q1':0<=hid:=(by omega);simp -implicitDefEqProofs[q1];refine Yd.flat c2 (by simp[AV.flat]) (by simp[snap,Yj,sO,Yh,okAll,St.get,lk]) ?_
 cases b
 . simp -implicitDefEqProofs[q1',h0]
 . simp -implicitDefEqProofs[q1',h0,pO,sO]
def ZhC (ok:Nat->Bool) (st:St) (l:List Int):frzO ok st (.row 1 (l.map ia)) = .row 1 (l.map ia):=by
 simp only[frzO,W10]
 congr 2
 funext p;simp[ia,frzA,frz,AV.keys]
def smI (x y:Int):Bool:=decide (x=y)
def kI (l:List Int):Nat->List Int
 |0=>[]
 |p+1=>if p≠0/\smI (l.getD p default) (l.getD (p-1) default)=true then kI l p else kI l p++[l.getD p default]
def ZhD (l:List Int):∀ p,(kI l p).length<=p
 |0=>W0f _
 | p+1=>by
   have:=ZhD l p;rw[kI];split <;> simp <;> omega
def noI (l:List Int) (p:Nat):Prop:=∀ j,0<j->j<p->smI (l.getD j default) (l.getD (j-1) default)=false
def ZhE {l:List Int}:∀ {p:Nat},noI l p->p<=l.length->kI l p=l.take p
 |0,_,_=>rfl
 | p + 1,h,hp=>by
   rw[kI,ZhE (p:=p) (λj h1 h2=>h j h1 (by omega)) (by omega),W08 (by omega)];have e:l.getD p default=l[p]:=by simp[W0j,show p<l.length by omega]
   split
   . rename_i h2;rw[h p (by omega) (by omega)]at h2;exact absurd h2.2 (by simp)
   . rw[e]
def cpI (l:List Int) (p:Nat):List Int:=kI l p++l.drop (kI l p).length
def ZhF {l:List Int} {p:Nat} (h:p<=l.length):(cpI l p).length=l.length:=by
 have:=ZhD l p;simp[cpI];omega
def ZhG {l:List Int} {p j:Nat} (hp:p<l.length) (h1:(kI l p).length<=j) (h2:j<=p):(cpI l p)[j]? = some (l.getD j default):=by
 rw[cpI,W0o h1,W13];have:(kI l p).length+(j-(kI l p).length)=j:=(by omega);rw[this];simp[W0j,show j<l.length by omega]
def ZhH {l:List Int} {p:Nat} (hp:p<l.length) (h:¬(p≠0/\smI (l.getD p default) (l.getD (p-1) default)=true)):(cpI l p).set (kI l p).length (l.getD p default)=cpI l (p+1):=by
 have hl:=ZhD l p;have e:kI l (p+1)=kI l p++[l.getD p default]:=(by rw[kI,if_neg h]);rw[cpI,cpI,e,W24 _ _ (by omega),W2p,W0x (by omega:(kI l p).length<l.length)];simp only[List.set_cons_zero,W0s,List.length_singleton,W0U,List.singleton_append]
def ZhI {l:List Int} {p:Nat} (h:p≠0/\smI (l.getD p default) (l.getD (p-1) default)=true):cpI l (p+1)=cpI l p/\kI l (p+1)=kI l p:=by
 have e:kI l (p+1)=kI l p:=(by rw[kI,if_pos h]);exact ⟨by rw[cpI,cpI,e],e⟩
def cpcI (l:List Int):List Int:=kI l l.length
def zrO:List AV:=[.int .i64 0]
def cpoI (l:List Int):List (List AV):=(cpcI l).map ia++List.replicate (l.length-(cpcI l).length) zrO
def cpvI (k:Nat) (l:List Int):AV:=if (cpcI l).length=l.length then .osl k l.length else .oss k l.length 0 (cpcI l).length
def kI_lt {l:List Int} {k:Nat} (hk0:k≠0) (hd:smI (l.getD k default) (l.getD (k-1) default)=true):∀ p,k<p->(kI l p).length<p:=by
 intro p hp
 induction p with
 |zero=>omega
 | succ p ih =>
   by_cases h:p=k
   . subst h;have:=ZhD l p;rw[kI,if_pos ⟨hk0,hd⟩];omega
   . have:=ih (by omega);rw[kI];split <;> simp <;> omega
def ZhJ {l:List Int} {p:Nat} (h:p<l.length):l.getD p default=l[p]:=by simp[W0j,h]
def ZhK {l:List Int} (h:noI l l.length):cpcI l=l:=by rw[cpcI,ZhE h (W0f _),W0v]
def ZhL (ok:Nat->Bool) (st:St) (l:List Int):frzO ok st (.row 1 (cpoI l)) = .row 1 (cpoI l):=by
 have h:=ZhC ok st (cpcI l);simp only[frzO,AObj.row.injEq,true_and]at h ⊢;rw[cpoI,W0r,h];simp[zrO,frzA,frz,AV.keys]
def ZhM (x:Int):∀ (t:List Int) (p:Int),cmpG p (t++[x])=if (p::t).getLast (by simp)=x then cmpG p t else cmpG p t++[x]
 | [],p=>by
   by_cases e:x=p
   . subst e;simp[cmpG]
   . simp[cmpG,e,Ne.symm e]
 | y :: t,p=>by
   have ih:=ZhM x t y;rw[W1e,cmpG,cmpG,List.getLast_cons (by simp)];by_cases e:y=p
   . rw[if_pos e,if_pos e,<- e,ih]
   . rw[if_neg e,if_neg e,ih]
     split <;> simp
def ZhN (l:List Int):∀ p,p<=l.length->kI l p=cmpI (l.take p)
 |0,_=>by simp[kI,cmpI]
 | p + 1,h=>by
   have hp:p<l.length:=h;have ih:=ZhN l p (by omega);rw[kI,ih,ZhJ hp,W08 hp]
   cases p with
   | zero =>
     simp[cmpI,cmpG]
   | succ q =>
     have hq:q<l.length:=(by omega);have e1:(q+1-1)=q:=(by omega);rw[e1,ZhJ hq];have e2:l.take (q+1)=l.take q++[l[q]]:=W08 hq
     obtain ⟨a,t,hat⟩ : ∃ a t,l.take (q+1)=a::t:=by
      cases hh:l.take (q+1) with
      |nil=>exact absurd (congrArg List.length hh) (by simp only[W15,W1U];omega)
      |cons a t=>exact ⟨a,t,rfl⟩
     have hl:(a::t).getLast (by simp)=l[q]:=by
      have:(l.take (q+1)).getLast (by rw[hat];simp)=l[q]:=by
       simp only[List.getLast_eq_getElem,W1V,W15]
       congr 1;omega
      simpa [hat] using this
     rw[hat,W1e,cmpI,cmpI,ZhM,hl];by_cases c:l[q]=l[q+1]
     . rw[if_pos c,if_pos ⟨by omega,by simp[smI,c]⟩]
     . rw[if_neg c,if_neg (λh=>c (by have:=h.2;simp[smI]at this;exact this.symm))];simp
def ZhO (l:List Int):cpcI l=cmpI l:=by rw[cpcI,ZhN l _ (W0f _),W0v]
def ZhP (l:List Int) (h3:l.length<=1000) :
  PB prog G 116 [(1000,.row 1 (l.map ia))] [.osl 1000 l.length] (cpvI 1000 l) [(1000,.row 1 (cpoI l))]:=by
 (refine Zgq (W0C rfl) λR hG hrd=>Qga ?_;subst hG)
 simp -implicitDefEqProofs[Zgo,Zgp];by_cases hs:(l.length:Int)<2
 . have e:cpcI l=l:=ZhK λj h1 h2=>by omega
   simp -implicitDefEqProofs[hs];refine ⟨[.osl 1000 l.length],?_,?_,?_⟩
   . simp[Z29,evRes,Yi,newK,frzA,frz,AV.keys,lk,St.tmp,Zgp]
   . simp[cpvI,e,tupV]
   . simp[Yi,newK,ZhC,cpoI,e]
 simp -implicitDefEqProofs[hs];refine Z7K (λi=>⟨[(3,.int .i64 ((i:Int)+1)),(0,.osl 1000 l.length)],[(1000,.row 1 (l.map ia))]⟩) (λi=>noI l (i+1)) (l.length-1) ?_ (λj h1 h2=>by omega) ?_ ?_
 . refine Ym.sub (by simp[lk,Ya,AV.keys]) ?_;simp only[W0g,W0Q,or_false,W1M,forall_eq,Zco,and_true];simp[lk]
 . intro i hi hn;refine Qga ?_;have k1:(i:Int)+1<l.length:=(by omega);have k2:((i:Int)+1).toNat=i+1:=(by omega);have k3:(0:Int)<=(i:Int)+1:=(by omega);have k4:i+1<l.length:=(by omega);have k5:i<l.length:=(by omega);have w1:i64.wrap (i:Int)=i:=Yf;have w2:i64.wrap ((i:Int)+1+1)=(i:Int)+1+1:=Yf;have ex:∀ x,ia x=[.int .i64 x]:=λx=>rfl
   have hsm:smI (l.getD (i+1) default) (l.getD i default)=decide (l[i+1]=l[i]):=(by rw[ZhJ k4,ZhJ k5];rfl);by_cases hd:l[i+1]=l[i]
   . simp -implicitDefEqProofs [k1,k2,k3,k4,k5,w1,ex,hd];refine ⟨rfl,?_⟩;rw[W0M hd]at hsm;have hs2:i+1≠0/\smI (l.getD (i+1) default) (l.getD (i+1-1) default)=true:=⟨by omega,hsm⟩;have hk:=ZhE hn (by omega);have hk1:(kI l (i+1)).length=i+1:=(by rw[hk];simp;omega);obtain ⟨c1,c2⟩:=ZhI hs2;have c3:cpI l (i+1)=l:=(by rw[cpI,hk1,hk,W11]);have hkl:=λp=>kI_lt (l:=l) (k:=i+1) (by omega) hsm p
     have k6:i+1<=l.length:=(by omega);simp -implicitDefEqProofs[k2,k3,k6];refine Z7K (λj=>⟨[(5,.int .i64 ((j:Int)+1)),(4,.oss 1000 l.length (i+1) l.length),(3,.int .i64 (kI l (i+1+1+j)).length),(0,.osl 1000 l.length)],[(1000,.row 1 ((cpI l (i+1+1+j)).map ia))]⟩) (λ_=>True) (l.length-(i+1+1)) ?_ trivial ?_ ?_
     . have z1:cpI l (i+1+1+0)=l:=(by rw[W1X,c1,c3]);have z2:(kI l (i+1+1+0)).length=i+1:=(by rw[W1X,c2,hk1]);rw[z1,z2];refine Ym.sub (by simp[lk,Ya,AV.keys]) ?_;simp only[W0g,W0Q,or_false,W1M,forall_eq,Zco,and_true];simp[lk]
     . intro j hj _;refine Qga ?_;have hq:i+1+1+j<l.length:=(by omega);have hq2:i+1+j<l.length:=(by omega);have hml:=hkl (i+1+1+j) (by omega);have hcl:=ZhF (l:=l) (p:=i+1+1+j) (by omega);have a1:=ZhG (j:=i+1+1+j) hq (by omega) (by omega);have a2:=ZhG (j:=i+1+j) hq (by omega) (by omega);rw[ZhJ hq]at a1;rw[ZhJ hq2]at a2;have hkeep:=ZhH hq;have hskip:=ZhI (l:=l) (p:=i+1+1+j);have e3:i+1+1+j-1=i+1+j:=(by omega);have hkk:kI l (i+1+1+j+1)=kI l (i+1+1+j+1):=rfl
       conv at hkk=>rhs;rw[kI]
       have hsm2:smI (l.getD (i+1+1+j) default) (l.getD (i+1+j) default)=decide (l[i+1+1+j]=l[i+1+j]):=(by rw[ZhJ hq,ZhJ hq2];rfl);rw[e3,hsm2,ZhJ hq]at hkeep hkk;rw[e3,hsm2]at hskip;have e4:i+1+1+(j+1)=i+1+1+j+1:=(by omega);have m1:(j:Int)+1<((l.length-(i+1):Nat):Int):=(by omega);have m2:((j:Int)+1).toNat=j+1:=(by omega);have m3:(0:Int)<=(j:Int)+1:=(by omega);have m4:j+1<l.length-(i+1):=(by omega);have m5:j<l.length-(i+1):=(by omega);have m6:i+1+(j+1)=i+1+1+j:=(by omega);have u1:i64.wrap (j:Int)=j:=Yf;have u2:i64.wrap ((j:Int)+1+1)=(j:Int)+1+1:=Yf;have u3:i64.wrap (((kI l (i+1+1+j)).length:Int)+1)=(kI l (i+1+1+j)).length+1:=Yf;have m7:(kI l (i+1+1+j)).length<l.length:=(by omega);have hpl:=ZhD l (i+1+1+j);generalize cpI l (i+1+1+j)=Q at *;obtain ⟨q1,g1⟩:=W02.1 a1;obtain ⟨q2,g2⟩:=W02.1 a2;generalize l[i+1+1+j]=x at *;generalize l[i+1+j]=y at *;have ex1:=ex x;have ey1:=ex y;by_cases hd2:x=y
       . obtain ⟨f1,f2⟩:=hskip ⟨by omega,W0M hd2⟩;simp -implicitDefEqProofs[m1,m2,m3,m4,m5,m6,u1,u2,hq,hq2,g1,g2,hcl,ex1,ey1,hd2];refine ⟨rfl,?_⟩;rw[e4,f1,f2];refine Ym.sub (by simp[lk,Ya,AV.keys]) ?_;simp only[W0g,W0Q,or_false,W1M,forall_eq,Zco,and_true];simp[lk]
       . have hn2:¬(i+1+1+j≠0/\decide (x=y)=true):=by
          rintro ⟨-,h⟩;exact hd2 (W0X h)
         have f1:=hkeep hn2;rw[if_neg hn2]at hkk;have il:∀ z:Int,(ia z).length=1:=λz=>rfl
         have id5:∀ z:Int,(ia z).drop 1=[]:=λz=>rfl
         have m8:(((kI l (i+1+1+j)).length:Int)+1)=((kI l (i+1+1+j+1)).length:Nat):=(by rw[hkk];simp);simp -implicitDefEqProofs[hd2,m1,m2,m3,m4,m5,m6,u1,u2,u3,hq,hq2,g1,g2,hcl,ex1,ey1,m7,il,id5];refine ⟨rfl,?_⟩;rw[<- ex1,<- W2q,f1,m8,e4];refine Ym.sub (by simp[lk,Ya,AV.keys]) ?_;simp only[W0g,W0Q,or_false,W1M,forall_eq,Zco,and_true];simp[lk]
     . intro _;refine Qga ?_;have n1:¬(((l.length-(i+1+1):Nat):Int)+1<((l.length-(i+1):Nat):Int)):=(by omega);have e5:i+1+1+(l.length-(i+1+1))=l.length:=(by omega);rw[e5];have hml:=hkl l.length (by omega);have hcl:=ZhF (l:=l) (p:=l.length) (W0f _);have n2:(kI l l.length).length<=l.length:=(by omega);simp -implicitDefEqProofs[n1,hcl];refine Qgr ?_;simp -implicitDefEqProofs[hcl,n2];refine Qgr ?_
       have t1:List.take (kI l l.length).length ((cpI l l.length).map ia)=(cpcI l).map ia:=by
        rw[<- List.map_take,cpI,List.take_left'];rfl;rfl
       have t2:List.drop l.length ((cpI l l.length).map ia)=[]:=W1j (by simp[hcl]);rw[t1,t2,W1G];have hne:¬(cpcI l).length=l.length:=(by rw[cpcI];omega);refine ⟨[.oss 1000 l.length 0 (kI l l.length).length],?_,?_,?_⟩
       . simp[Z29,evRes,Yi,newK,frzA,frz,AV.keys,lk,St.tmp]
       . rw[cpvI,if_neg hne];rfl
       . have hz:List.map ia (cpcI l)++List.replicate (l.length-(kI l l.length).length) [AV.int .i64 0]=cpoI l:=rfl;rw[hz];simp[Yi,newK,ZhL]
   . rw [W0S hd]at hsm;simp -implicitDefEqProofs[k1,k2,k3,k4,k5,w1,ex,hd,w2];refine ⟨rfl,?_,λj h1 h2=>?_⟩
     . (refine Wkc ?_;simp only[Zco,Wkl,and_true];(try simp[lk,Yc,Ya,AV.keys]))
     . rcases W0q j (i+1) with h|h
       . exact hn j h1 h
       . have:j=i+1:=(by omega);subst this;exact hsm
 . intro hn;refine Qga ?_;have k1:¬((l.length-1:Nat):Int)+1<l.length:=by omega
   have hn2:noI l l.length:=by
    have:l.length-1+1=l.length:=by omega
    rwa [this]at hn
   have e:cpcI l=l:=ZhK hn2;simp -implicitDefEqProofs[k1];refine Qgr ?_;simp -implicitDefEqProofs;refine ⟨[.osl 1000 l.length],?_,?_,?_⟩
   . simp[Z29,evRes,Yi,newK,frzA,frz,AV.keys,lk,St.tmp,Zgp]
   . simp[cpvI,e,tupV]
   . simp[Yi,newK,ZhC,cpoI,e]
end Go.Proofs.YtcdlimgkliklhaaGreatDoor

namespace Go.Proofs
open Go.Shelf
def Tryz.lays189_ren:Go.Shelf.Ren:=⟨fun|189=>115|125=>165|257=>164|128=>192|129=>193|294=>183|295=>184|296=>185|297=>186|298=>187|299=>188|216=>189|300=>190|301=>191|328=>203|329=>204|330=>205|331=>206|332=>207|215=>157|343=>213|n=>n,fun|28=>34|3=>3|46=>225|0=>0|51=>93|53=>156|4=>4|183=>255|182=>254|131=>159|5=>5|9=>9|218=>272|222=>276|228=>284|229=>285|n=>n,fun|n=>n⟩
def Tryz.lays189:Go.Proofs.Lays.n189 prog Tryz.lays189_ren:={
 mixed:=by kernel_rfl
 f125:=Tryz.func165.trans (congrArg some (by kernel_rfl))
 f128:=Tryz.func192.trans (congrArg some (by kernel_rfl))
 f129:=Tryz.func193.trans (congrArg some (by kernel_rfl))
 f189:=Tryz.func115.trans (congrArg some (by kernel_rfl))
 f215:=Tryz.func157.trans (congrArg some (by kernel_rfl))
 f216:=Tryz.func189.trans (congrArg some (by kernel_rfl))
 f257:=Tryz.func164.trans (congrArg some (by kernel_rfl))
 f294:=Tryz.func183.trans (congrArg some (by kernel_rfl))
 f295:=Tryz.func184.trans (congrArg some (by kernel_rfl))
 f296:=Tryz.func185.trans (congrArg some (by kernel_rfl))
 f297:=Tryz.func186.trans (congrArg some (by kernel_rfl))
 f298:=Tryz.func187.trans (congrArg some (by kernel_rfl))
 f299:=Tryz.func188.trans (congrArg some (by kernel_rfl))
 f300:=Tryz.func190.trans (congrArg some (by kernel_rfl))
 f301:=Tryz.func191.trans (congrArg some (by kernel_rfl))
 f328:=Tryz.func203.trans (congrArg some (by kernel_rfl))
 f329:=Tryz.func204.trans (congrArg some (by kernel_rfl))
 f330:=Tryz.func205.trans (congrArg some (by kernel_rfl))
 f331:=Tryz.func206.trans (congrArg some (by kernel_rfl))
 f332:=Tryz.func207.trans (congrArg some (by kernel_rfl))
 f343:=Tryz.func213.trans (congrArg some (by kernel_rfl))
 t0:=Tryz.underlying0
 a0:=Tryz.isAgg0
 z0:=Tryz.sizeOf0
 v0:=Tryz.zeroValue0
 t3:=Tryz.underlying3
 a3:=Tryz.isAgg3
 z3:=Tryz.sizeOf3
 v3:=Tryz.zeroValue3
 t4:=Tryz.underlying4
 a4:=Tryz.isAgg4
 z4:=Tryz.sizeOf4
 v4:=Tryz.zeroValue4
 t5:=Tryz.underlying5
 a5:=Tryz.isAgg5
 z5:=Tryz.sizeOf5
 v5:=Tryz.zeroValue5
 t9:=Tryz.underlying9
 a9:=Tryz.isAgg9
 z9:=Tryz.sizeOf9
 v9:=Tryz.zeroValue9
 t28:=Tryz.underlying34
 a28:=Tryz.isAgg34
 z28:=Tryz.sizeOf34
 v28:=Tryz.zeroValue34
 t46:=Tryz.underlying225
 a46:=Tryz.isAgg225
 z46:=Tryz.sizeOf225
 v46:=Tryz.zeroValue225
 t51:=Tryz.underlying93
 a51:=Tryz.isAgg93
 z51:=Tryz.sizeOf93
 v51:=Tryz.zeroValue93
 t53:=Tryz.underlying156
 a53:=Tryz.isAgg156
 z53:=Tryz.sizeOf156
 v53:=Tryz.zeroValue156
 t131:=Tryz.underlying159
 a131:=Tryz.isAgg159
 z131:=Tryz.sizeOf159
 v131:=Tryz.zeroValue159
 t182:=Tryz.underlying254
 a182:=Tryz.isAgg254
 z182:=Tryz.sizeOf254
 v182:=Tryz.zeroValue254
 t183:=Tryz.underlying255
 a183:=Tryz.isAgg255
 z183:=Tryz.sizeOf255
 v183:=Tryz.zeroValue255
 t218:=Tryz.underlying272
 a218:=Tryz.isAgg272
 z218:=Tryz.sizeOf272
 v218:=Tryz.zeroValue272
 t222:=Tryz.underlying276
 a222:=Tryz.isAgg276
 z222:=Tryz.sizeOf276
 v222:=Tryz.zeroValue276
 t228:=Tryz.underlying284
 a228:=Tryz.isAgg284
 z228:=Tryz.sizeOf284
 v228:=Tryz.zeroValue284
 t229:=Tryz.underlying285
 a229:=Tryz.isAgg285
 z229:=Tryz.sizeOf285
 v229:=Tryz.zeroValue285 }
open Go.Sort Go.RowKit in
def Tryz.slices_Sort_int (blk off cap:Nat) (zs:List Int) (w:World) (hH:Holds (Value.int .i64) w blk off zs.toArray) (hblk:blk<w.heap.size) (hsz:zs.length<4611686018427387904) :
 Calls prog 115 #[.slice (some ⟨blk,off,none⟩) zs.length cap] w λe w' =>
  e = .returned (.tuple #[])/\∃ n os,w'=grow (putRow (Value.int .i64) (Sort.ahead w n) blk off (zs.mergeSort λx y=>decide (x<=y)).toArray) os:=Any.slices_Sort_int Tryz.lays189 blk off cap zs w hH hblk hsz
end Go.Proofs

namespace Go.Proofs.YtcdlimgkliklhaaGreatDoor
open Tryz (prog)
open IntKind (i64)
open Go.RowKit
variable {G:Jg}
def ZhQ (W:World) (os:Array Obj):Ext W (Go.Sort.grow W os):=by
 refine ⟨rfl,rfl,rfl,?_,λk hk=>?_⟩
 . simp[Go.Sort.grow]
 . simp only[Go.Sort.grow];exact W27 hk
def ZhR (l:List Int) (hm:l.length<4611686018427387904) :
  PB prog G 115 [(1000,.row 1 (l.map ia))] [.osl 1000 l.length] (.tup []) [(1000,.row 1 ((sortI l).map ia))]:=by
 refine ⟨by kernel_rfl,λR W κ vs hG hN hW hX hE hk hsz hvs=>?_⟩;have hg:(obSt [(1000,.row 1 (l.map ia))]).get 1000=some (.row 1 (l.map ia)):=rfl;obtain ⟨vs⟩:=vs
 match vs,hsz with
 |[v],_ =>
 have hv:=hvs 0 _ v rfl rfl;obtain ⟨b,s,c,cs,t,hκ,rfl,hnc,hc,hb,hs,hr,hx⟩:=hk.osl hv hg (by simp)
 have hcell:∀ i,i<l.length->cs[s+i]? = some (.int .i64 l[i]!):=by
  intro i hi;obtain ⟨u,hu,hu2⟩:=hx i 0 (ia l[i]) (.int .i64 l[i]) (by simp[hi]) rfl
  have hu3:u = .int .i64 l[i]:=by
   cases hu2 with|pv h=>cases h;rfl
  subst hu3;rw[getElem!_pos l i hi];simpa using hu
 have hH:Go.Sort.Holds (Value.int .i64) W b s l.toArray:=by
  intro j hj;have hj':j<l.length:=(by simpa using hj);refine ⟨?_,by simp[World.frozen?,hb]⟩;rw[World.cell?,hb];simpa using hcell j hj'
 have hlt:=hk.loc_lt hκ;refine (Go.Proofs.Tryz.slices_Sort_int b s c l W hH hlt hm).mono ?_;rintro e W' ⟨rfl,n,os,rfl⟩;have hsl:(sortI l).length=l.length:=Zac l;refine ⟨_,κ,rfl,?_,.tup [] #[] rfl (by simp)⟩;refine SK.grow ?_ (ZhQ _ _)
 have:=hk.change (o':=.row 1 ((sortI l).map ia)) (W':=Go.Sort.putRow (Value.int .i64) (Go.Sort.ahead W n) b s (l.mergeSort λx y=>decide (x<=y)).toArray)
  (cs':=Go.Sort.putCells (Value.int .i64) s (l.mergeSort λx y=>decide (x<=y)).toArray cs) hg hκ hb (by simp[AObj.dim,hsl]) (by simp[Go.Sort.putCells])
  (by simp[Go.Sort.putRow,Go.Sort.mapBlock,Go.Sort.ahead])
  (by simp[Go.Sort.putRow,Go.Sort.mapBlock,Go.Sort.ahead,Array.getElem?_modify,hb,Go.Sort.onCells])
  (by intro i hi hne;simp[Go.Sort.putRow,Go.Sort.mapBlock,Go.Sort.ahead,Array.getElem?_modify,Ne.symm hne]) rfl rfl rfl ?_
 . exact this
 . refine ⟨by simp[ia],by simp[Go.Sort.putCells];omega,?_⟩;intro i j r x hi hj
   have hi2:i<l.length:=by
    have:=(W02.1 hi).1;simpa [hsl] using this
   have hi3:i<(sortI l).length:=(by omega);rw[W09,W07 hi3,W0m,W00]at hi;subst hi
   match j,hj with
   |0,hj =>
   have ex:AV.int .i64 (sortI l)[i]=x:=(by simpa [ia] using hj);subst ex;refine ⟨.int .i64 (sortI l)[i],?_,.pv (.int _ _)⟩;have hz:s+i*1+0<cs.size:=(by omega);have e1:s+i*1+0-s=i:=(by omega);have e2:(l.mergeSort λx y=>decide (x<=y))=sortI l:=rfl;simp only[Go.Sort.putCells,e2];rw[Array.getElem?_mapIdx,W0n hz,W0m,if_pos (by simp;omega),e1];simp[hi3]
def sqP (id d:Int) (x:Prt):Bool:=decide (x.ho=id)&&decide (x.dw=d) && !decide (x.lo=1)
def pqP (id d:Int) (x:Prt):Bool:=decide (x.ho=id)&&decide (x.dw=d)&&decide (x.lo=1)
def suK (id d:Int) (L:Jp) (k:Nat):Int:=(pkL (sqP id d) (·.lt) L k).foldl max 0
def peK (id d:Int) (L:Jp) (k:Nat):List Int:=pkL (pqP id d) (·.lt) L k
def ZhS {id d:Int} {L:Jp} {k:Nat} (h:k<L.length):suK id d L (k+1)=if sqP id d L[k]=true then max (suK id d L k) L[k].lt else suK id d L k:=by
 unfold suK;rw[ZgO h]
 split
 . rw[W1q];rfl
 . rfl
def ZhT {ps:Jp} {day id d:Int} (hlo:∀ x∈ps,0<=x.lo/\x.lo<=2):suK id d (outP ps day) (outP ps day).length=sureM ps day id d:=by
 unfold suK sureM outP;rw[ZgR,List.filter_filter]
 congr 2
 refine List.filter_congr λx hx=>?_
 have:=hlo x hx;rw[W2g];simp only[sqP,herB,outB,W01,W0b,W1C,W1b,W0T]
 constructor
 . rintro ⟨⟨⟨h1,h2⟩,h3⟩,h4,h5⟩;exact ⟨⟨⟨h1,h4,h5⟩,h2⟩,by omega⟩
 . rintro ⟨⟨⟨h1,h4,h5⟩,h2⟩,h3⟩;exact ⟨⟨⟨h1,h2⟩,by omega⟩,h4,h5⟩
def ZhU {ps:Jp} {day id d:Int} (hlo:∀ x∈ps,0<=x.lo/\x.lo<=2):peK id d (outP ps day) (outP ps day).length=perhL ps day id d:=by
 unfold peK perhL outP;rw[ZgR,List.filter_filter]
 congr 1
 refine List.filter_congr λx hx=>?_
 have:=hlo x hx;rw[W2g];simp only[pqP,herB,outB,W01,W0b,W1C,W1b,W0T]
 constructor
 . rintro ⟨⟨⟨h1,h2⟩,h3⟩,h4,h5⟩;exact ⟨⟨⟨h1,h4,h5⟩,h2⟩,by omega⟩
 . rintro ⟨⟨⟨h1,h4,h5⟩,h2⟩,h3⟩;exact ⟨⟨⟨h1,h2⟩,by omega⟩,h4,h5⟩
def r1K (k:Nat):Nat:=if 1000<=k then k-1000 else k
def nlV (k:Nat) (S:List Int):AV:=if S=[] then .nils else .osl k S.length
def nlO (k:Nat) (S:List Int):List (Nat×AObj):=if S=[] then [] else [(k,.row 1 (S.map ia))]
def nlN (k:Nat) (S:List Int):Nat:=if S=[] then k-1000 else k
def woB (id d su:Int) (S:List Int):List (Nat×AObj):=[(1006,.box [.int .i64 id]),(1007,.box [.int .i64 d]),(1009,.box [.int .i64 su]),(1010,.box [nlV 1038 S])]++nlO 1038 S
def woU (id d su:Int) (S T:List Int):List (Nat×AObj):=[(1006,.box [.int .i64 id]),(1007,.box [.int .i64 d]),(1009,.box [.int .i64 su]),(1010,.box [nlV (nlN 1038 S) T])]++nlO (nlN 1038 S) T
def ZhV {α β:Type} {p:α->Bool} {f:α->β} {L:List α} {k:Nat} (h:pkL p f L (k+1)=[]):pkL p f L k=[]:=by
 by_cases c:k<L.length
 . rw[ZgO c]at h
   split at h
   . exact absurd h (by simp)
   . exact h
 . unfold pkL at *;rw[W0J (by omega)]at *;exact h
def ZhW (o:List (Nat×AObj)) (k:Nat) (S:List Int):∀ q∈nlO k S,Yc o q.2=true:=by
 intro q hq;unfold nlO at hq
 split at hq
 . cases hq
 . simp at hq;subst hq;exact Zco o S
def ZhX (ρ:Nat->Nat) (l:List Int):(AObj.row 1 (l.map ia)).ren ρ = .row 1 (l.map ia):=by
 simp only[AObj.ren,W10]
 congr 2
 funext p;simp[ia,AV.ren]
def ZhY (r:Jr) (l:Jl) (hs:Jh) (ps:Jp) (day:Int):PC prog G 70 [ofA r l hs ps,.int .i64 day] (.func (.func 128) [] [.vptr [ofA r l hs ps] 0,.vptr [.int .i64 day] 0]):=by
 have pO:=ZgF r l hs ps;obtain ⟨cs,eS⟩ : ∃ cs,ofA r l hs ps = .vptr cs 0:=⟨_,rfl⟩;rw[eS]at pO ⊢
 (refine Zg4 rfl λR hG hrd=>Qga ?_;subst hG)
 simp -implicitDefEqProofs[Zg2,Zg3,pO]
def ZhZ (r:Jr) (l:Jl) (hs:Jh) (ps:Jp) (day id d:Int) (hp:ps.length<=41) (hb:∀ x∈ps,0<=x.lt/\x.lt<=8) :
  PC prog G 74 [ofA r l hs ps,.int .i64 day,.int .i64 id,.int .i64 d] (.vsl (((setI (peK id d (outP ps day) (outP ps day).length++[suK id d (outP ps day) (outP ps day).length])).drop ((setI (peK id d (outP ps day) (outP ps day).length++[suK id d (outP ps day) (outP ps day).length])).idxOf (suK id d (outP ps day) (outP ps day).length))).map ia)):=by
 have hO:=ZhY (G:=G) r l hs ps day;have hit:=outIt (G:=G) r l hs ps day hp;have pO:=ZgF r l hs ps;have eN:=ZgM ps day;have hat:=λk x h=>ZgN (ps:=ps) (day:=day) (k:=k) (x:=x) h
 have hL:(outP ps day).length<=41:=W0O (W0D ..) hp;have hLb:∀ x∈outP ps day,0<=x.lt/\x.lt<=8:=λx hx=>hb x (W0G.1 hx).1
 generalize outP ps day=L at *;generalize outE ps day=E at *;generalize ofA r l hs ps=O at *;refine Zgb rfl λR hG hrd=>?_
 subst hG;refine Qga ?_;simp -implicitDefEqProofs[Zg9,Zga];refine Yd.of hO (by simp[pO,AV.pure]) ?_;simp -implicitDefEqProofs
 refine Zh9 hrd (by decide) hit (by simp[evA,St.tmp,lk]) (by simp[AV.pure,pO]) (λk=>k == 12) (by intro k hk;simp at hk;omega) r1K [(6,.ptr 1006 0),(7,.ptr 1007 0),(9,.ptr 1009 0),(10,.ptr 1010 0)]
  (λk=>woB id d (suK id d L k) (peK id d L k)) (λk=>woU id d (suK id d L (k+1)) (peK id d L k) (peK id d L (k+1))) (λk=>k<=L.length) (W1f _) ?_ ?_ ?_ ?_ ?_ ?_ ?_ ?_ ?_ ?_ ?_
 . intro k q hq;simp only[woB,nlO]at hq
   split at hq <;> simp at hq
   . rcases hq with rfl|rfl|rfl|rfl <;> simp
   . rcases hq with rfl|rfl|rfl|rfl|rfl <;> simp
 . intro k;simp only[woB,nlO]
   split <;> simp[r1K]
 . intro k;simp only[woU,nlO,nlN]
   split <;> split <;> simp[r1K]
 . intro k q hq;have hne:=ZhV (p:=pqP id d) (f:=(·.lt)) (L:=L) (k:=k);simp only[woB,woU,nlO,nlN]at *;by_cases c:peK id d L k=[]
   . simp only[c,if_true]at *
     split <;> simp at hq ⊢ <;> rcases hq with rfl|rfl|rfl|rfl <;> simp[isK,lk]
   . have c2:¬peK id d L (k+1)=[]:=λh=>c (hne h)
     simp only[c,c2,if_false]at *;simp at hq ⊢;rcases hq with rfl|rfl|rfl|rfl|rfl <;> simp[isK,lk]
 . intro k q hq;simp only[woB,woU,nlO,nlN]at *;by_cases c:peK id d L k=[]
   . simp only[c,if_true]at *
     split at hq <;> simp at hq
     . rcases hq with rfl|rfl|rfl|rfl <;> exact .inl (by simp[isK,lk])
     . rcases hq with rfl|rfl|rfl|rfl|rfl
       . exact .inl (by simp[isK,lk])
       . exact .inl (by simp[isK,lk])
       . exact .inl (by simp[isK,lk])
       . exact .inl (by simp[isK,lk])
       . exact .inr (by simp[Yl,r1K,St.get,St.set,putO,lk])
   . simp only[c,if_false]at *
     split at hq <;> simp at hq
     . rcases hq with rfl|rfl|rfl|rfl <;> exact .inl (by simp[isK,lk])
     . rcases hq with rfl|rfl|rfl|rfl|rfl <;> exact .inl (by simp[isK,lk])
 . intro k;have hne:=ZhV (p:=pqP id d) (f:=(·.lt)) (L:=L) (k:=k);simp only[woB,woU,nlO,nlV,nlN];by_cases c:peK id d L k=[] <;> by_cases c2:peK id d L (k+1)=[]
   . simp[c,c2,Yl,r1K,AV.ren,AObj.ren]
   . simp[c,c2,Yl,r1K,AV.ren,ZdA,ZhX]
   . exact absurd (hne c2) c
   . simp[c,c2,Yl,r1K,AV.ren,ZdA,ZhX]
 . have e0:peK id d L 0=[]:=ZgQ _ _ _;have e1:suK id d L 0=0:=(by unfold suK;rw[ZgQ];rfl);simp[woB,nlO,nlV,e0,e1,Yl,r1K,St.set,putO,AObj.ren,AV.ren]
 . intro k q hq;simp only[woB,W0h]at hq;rcases hq with hq|hq
   . simp only[woB,nlO];simp at hq;rcases hq with rfl|rfl|rfl|rfl
     . simp[Yc,Ya,AV.keys]
     . simp[Yc,Ya,AV.keys]
     . simp[Yc,Ya,AV.keys]
     . unfold nlV
       split <;> simp[Yc,Ya,AV.keys,lk]
   . exact ZhW _ _ _ q hq
 . intro q hq;simp at hq;rcases hq with rfl|rfl|rfl|rfl
   all_goals
    refine ⟨by simp[lk,AV.ren,r1K],by simp,by simp,λj k hk=>?_⟩;simp[AV.keys]at hk;subst hk;simp only[woB];simp[isK,lk]
 . intro k x hx hk R' hG hN;obtain ⟨i,hkl,rfl⟩:=hat k x hx;have sc:=ZhS (id:=id) (d:=d) hkl;have pc:=ZgO (p:=pqP id d) (f:=(·.lt)) hkl;have hle:=ZgP (pqP id d) (·.lt) L k;have hLx:=hLb _ (W0e hkl);obtain ⟨y,hy⟩:=Qex (L[k]);rw[<- hy]at sc pc hLx ⊢;have hpt:ptA y=[.int .i64 y.no,.int .i64 y.dy,.int .i64 y.ho,.int .i64 y.dw,.int .i64 y.lt,.int .i64 y.bk,.int .u8 y.lo]:=rfl;have e1:pkL (pqP id d) (·.lt) L k=peK id d L k:=rfl;have e2:pkL (pqP id d) (·.lt) L (k+1)=peK id d L (k+1):=rfl;rw[e1,e2]at pc;rw[e1]at hle;generalize suK id d L k=su at *;generalize suK id d L (k+1)=su' at *;generalize peK id d L k=S at *;generalize peK id d L (k+1)=T at *;have bb:(S.length+1)*8<=70368744177664:=by omega
   have no:sqP id d y=false->pqP id d y=false->su'=su/\T=S:=λh1 h2=>by
    rw[h1]at sc;rw[h2]at pc;exact ⟨sc,pc⟩
   have f0:Zd9=Zd9:=rfl;by_cases cS:S=[]
   case' pos =>
    have hV:nlV 1038 S = .nils:=(by simp[nlV,cS]);have hQ:nlO 1038 S=[]:=(by simp[nlO,cS]);have hM:nlN 1038 S=38:=by simp[nlN,cS]
   case' neg =>
    have hV:nlV 1038 S = .osl 1038 S.length:=(by simp[nlV,cS]);have hQ:nlO 1038 S=[(1038,.row 1 (S.map ia))]:=(by simp[nlO,cS]);have hM:nlN 1038 S=1038:=by simp[nlN,cS]
   all_goals
    refine Qga ?_;simp only[woB,hV,hQ,W1e,W18];simp -implicitDefEqProofs[hpt];intro R'' hG'' hN'';refine Qga ?_;by_cases q1:y.ho=id
    case neg =>
     obtain ⟨rfl,rfl⟩:=no (by simp[sqP,q1]) (by simp[pqP,q1]);simp -implicitDefEqProofs[hpt,q1];refine ⟨?_,by omega⟩;simp only[woU,hV,hQ,hM];simp[hV,hQ,Yi,Zd9,ZhC,frzA,frz,AV.keys,nlV,nlO,cS]
    by_cases q2:y.dw=d
    case neg =>
     obtain ⟨rfl,rfl⟩:=no (by simp[sqP,q2]) (by simp[pqP,q2]);simp -implicitDefEqProofs[hpt,q1,q2];refine ⟨?_,by omega⟩;simp only[woU,hV,hQ,hM];simp[hV,hQ,Yi,Zd9,ZhC,frzA,frz,AV.keys,nlV,nlO,cS]
    by_cases q3:y.lo=1
    . have b1:sqP id d y=false:=(by simp[sqP,q3]);have b2:pqP id d y=true:=(by simp[pqP,q1,q2,q3]);rw[b1]at sc;rw[b2,if_pos rfl]at pc;have sc:su'=su:=sc;subst sc;have hne:¬T=[]:=(by rw[pc];simp);have hTl:T.length=S.length+1:=(by rw[pc];simp);have em:T.map ia=S.map ia++[[.int .i64 y.lt]]:=(by rw[pc,W0r];rfl);simp -implicitDefEqProofs[hpt,q1,q2,q3,bb];refine ⟨?_,by omega⟩;simp only[woU,hM,nlV,nlO,hne,if_false,hTl,em];simp[cS,Yi,Zd9,frzO,frzA,frz,AV.keys,ia,W0y]
    . have b1:sqP id d y=true:=(by simp[sqP,q1,q2,q3]);have b2:pqP id d y=false:=(by simp[pqP,q3]);rw[b2]at pc;rw[b1,if_pos rfl]at sc;have pc:T=S:=pc;subst pc;simp -implicitDefEqProofs[hpt,q1,q2,q3];refine ⟨?_,by omega⟩;rw[sc];simp only[woU,hV,hQ,hM];simp[hV,hQ,Yi,Zd9,ZhC,frzA,frz,AV.keys,nlV,nlO,cS]
 . intro _;rw[eN];have hle:=ZgP (pqP id d) (·.lt) L L.length;have e1:pkL (pqP id d) (·.lt) L L.length=peK id d L L.length:=rfl;rw[e1]at hle;generalize suK id d L L.length=su at *;generalize peK id d L L.length=S at *;have bb:(S.length+1)*8<=70368744177664:=(by omega);obtain ⟨U,hU⟩:=Qex (S++[su]);have hUl:U.length=S.length+1:=(by rw[hU];simp);have hsp:=ZhR (G:=R.G) U (by omega);have sl:(sortI U).length=U.length:=Zac U;have hcp:=ZhP (G:=R.G) (sortI U) (by omega);rw[sl]at hcp;have hC:cpcI (sortI U)=setI U:=ZhO _;have hCm:su∈setI U:=Zaq.2 (by rw[hU];simp)
   have hCl:(setI U).length<=U.length:=by
    have:=ZhD (sortI U) (sortI U).length;rw[<- hC];unfold cpcI;omega
   have hix:=ZcH (G:=R.G) (setI U) su (by unfold Sml;omega);have hid:idx (setI U) su=(((setI U).idxOf su:Nat):Int):=(by unfold idx;rw[if_pos hCm]);rw[hid]at hix;have hlt:(setI U).idxOf su<(setI U).length:=List.idxOf_lt_length_of_mem hCm
   have hOl:(cpoI (sortI U)).length=U.length:=by
    unfold cpoI;rw[W0s,W0N,W1H,hC,sl];omega
   have hOt:(cpoI (sortI U)).take (setI U).length=(setI U).map ia:=by
    unfold cpoI;rw[hC];exact List.take_left' (by simp)
   have hOf:(setI U).length=U.length->cpoI (sortI U)=(setI U).map ia:=λh=>by
    rw[<- hOt,h,<- hOl,W0v]
   have hcv:∀ k,cpvI k (sortI U)=if (setI U).length=U.length then .osl k U.length else .oss k U.length 0 (setI U).length:=λk=>by unfold cpvI;rw[hC,sl]
   rw[hcv]at hcp;have em:U.map ia=S.map ia++[[.int .i64 su]]:=by rw[hU,W0r];rfl
   have kO:∀ o,Yc o (.row 1 (cpoI (sortI U)))=true:=λo=>by
    unfold cpoI;rw[show List.replicate ((sortI U).length-(cpcI (sortI U)).length) zrO=(List.replicate ((sortI U).length-(cpcI (sortI U)).length) (0:Int)).map ia by rw[List.map_replicate];rfl,<- W0r];exact Zco _ _
   have rO:∀ ρ,AObj.ren ρ (.row 1 (cpoI (sortI U))) = .row 1 (cpoI (sortI U)):=λρ=>by
    unfold cpoI;rw[show List.replicate ((sortI U).length-(cpcI (sortI U)).length) zrO=(List.replicate ((sortI U).length-(cpcI (sortI U)).length) (0:Int)).map ia by rw[List.map_replicate];rfl,<- W0r];exact Zcn _ _
   have pu:((setI U).map ia).all (λr=>r.all AV.pure)=true:=(by simp[ia,AV.pure]);rw[<- hU]
   have fin:∀ st',Ym st' ⟨[(13,.vsl ((setI U).map ia)),(9,.ptr 9 0)],[(9,.box [.int .i64 su])]⟩->GO prog R 0 (.run ((RCode.reg 12 false [{ d:=some 52,op:=ROp.mov (RA.t 13) },{ d:=some 53,op:=ROp.mov (RA.t 13) },{ d:=some 54,op:=ROp.load false 1 (RA.t 9) },{ d:=some 55,op:=ROp.call 129 [RA.t 53,RA.t 54] },{ d:=some 56,op:=ROp.slc 1 (RA.t 52) (some (RA.t 55)) none },{ d:=some 8,op:=ROp.mov (RA.t 56) }]).seq RCode.ret)) [] (Fin [RRes.t 8] (AV.vsl (List.drop (List.idxOf su (setI U)) (List.map ia (setI U))))) st':=λst' hw=>by
    refine GO0 (Z2Q hw (Qga ?_));have hle:(setI U).idxOf su<=(setI U).length:=(by omega);have hln:∀ x:Int,(ia x).length=1:=λ_=>rfl
    simp -implicitDefEqProofs;refine Qco (hix) ?_;have ht:List.take (setI U).length (List.map ia (setI U))=List.map ia (setI U):=W0J (by simp)
    have hd:∀ x∈List.drop (List.idxOf su (setI U)) (List.map ia (setI U)),∀ y∈x,y.pure=true:=λx hx y hy=>by
     obtain ⟨z,-,rfl⟩:=W0i.1 (W1S hx);simp[ia]at hy;subst hy;simp[AV.pure]
    simp -implicitDefEqProofs[hle,hln,ht];refine Qgr ?_;generalize List.drop (List.idxOf su (setI U)) (List.map ia (setI U))=D at *;simp -implicitDefEqProofs
   by_cases cS:S=[]
   . have hU1:U=[su]:=(by rw[hU,cS];rfl);have hl1:U.length=1:=(by rw[hU1];rfl);have emU:U.map ia=[[.int .i64 su]]:=(by rw[hU1];rfl);simp -implicitDefEqProofs[woB,nlV,nlO,cS,Yl,r1K,AV.ren,AObj.ren];refine Z2R mixed 11 ?_;simp -implicitDefEqProofs;rw[<- emU];rw[hl1]at hsp hcp;refine Yd.sem (Z1B.byref hsp (λ_=>47) (by simp) (by simp) (by simp[St.get,lk,Zcn]) (by simp[Zco]) (by simp[Ya,AV.keys,lk]) rfl (by simp[AV.ren]) rfl rfl) ?_;simp -implicitDefEqProofs[Yl,Zcn];refine Yd.sem (Z1B.byref hcp (λ_=>47) (by simp) (by simp) (by simp[St.get,lk,Zcn]) (by simp[Zco]) (by simp[Ya,AV.keys,lk]) rfl (by simp[AV.ren]) rfl rfl) ?_;simp -implicitDefEqProofs[Yl,rO];refine fin _ (Ym.trans (Ym.frz (λk=>k == 47) _) ?_);rw[hl1]at hOl hOf;by_cases hq:(setI U).length=1
     . have hOf:=hOf hq;rw[hOf]at *
       ((try simp only[Yi,frzA,frzO,frz,Yh,Yj,St.get,hq,hOl,pu,AV.ren]);refine Ym.sub (by simp[lk,Ya,AV.keys,Yi,frzA,frzO,frz,Yh,Yj,St.get,hq,hOl,pu,AV.ren]) ?_;simp only[Yi,frzA,frzO,frz,Yh,Yj,St.get,hq,hOl,pu,AV.ren,Wkl,and_true];(try simp[lk,Yc,Ya,AV.keys,Yi,frzA,frzO,frz,Yh,Yj,St.get,hq,hOl,pu,AV.ren]))
     . ((try simp only[Yi,frzA,frzO,frz,Yh,Yj,St.get,hq,hOl,hOt,pu,AV.ren]);refine Ym.sub (by simp[lk,Ya,AV.keys,Yi,frzA,frzO,frz,Yh,Yj,St.get,hq,hOl,hOt,pu,AV.ren]) ?_;simp only[Yi,frzA,frzO,frz,Yh,Yj,St.get,hq,hOl,hOt,pu,AV.ren,Wkl,and_true];(try simp[lk,Yc,Ya,AV.keys,Yi,frzA,frzO,frz,Yh,Yj,St.get,hq,hOl,hOt,pu,AV.ren]))
   . simp -implicitDefEqProofs[woB,nlV,nlO,cS,Yl,r1K,AV.ren,ZdA,ZhX];refine Z2R mixed 11 ?_;simp -implicitDefEqProofs[bb];have ei:(S.map ia)++[[AV.int .i64 su]]=U.map ia:=em.symm;rw[ei,<- hUl];refine Yd.sem (Z1B.byref hsp (λ_=>38) (by simp) (by simp) (by simp[St.get,lk,Zcn]) (by simp[Zco]) (by simp[Ya,AV.keys,lk]) rfl (by simp[AV.ren]) rfl rfl) ?_;simp -implicitDefEqProofs[Yl,Zcn];refine Yd.sem (Z1B.byref hcp (λ_=>38) (by simp) (by simp) (by simp[St.get,lk,Zcn]) (by simp[Zco]) (by simp[Ya,AV.keys,lk]) rfl (by simp[AV.ren]) rfl rfl) ?_;simp -implicitDefEqProofs[Yl,rO];refine fin _ (Ym.trans (Ym.frz (λk=>k == 38) _) ?_);by_cases hq:(setI U).length=U.length
     . have hOf:=hOf hq;rw[hOf]at *
       ((try simp only[Yi,frzA,frzO,frz,Yh,Yj,St.get,hq,hOl,pu,AV.ren]);refine Ym.sub (by simp[lk,Ya,AV.keys,Yi,frzA,frzO,frz,Yh,Yj,St.get,hq,hOl,pu,AV.ren]) ?_;simp only[Yi,frzA,frzO,frz,Yh,Yj,St.get,hq,hOl,pu,AV.ren,Wkl,and_true];(try simp[lk,Yc,Ya,AV.keys,Yi,frzA,frzO,frz,Yh,Yj,St.get,hq,hOl,pu,AV.ren]))
     . ((try simp only[Yi,frzA,frzO,frz,Yh,Yj,St.get,hq,hOl,hOt,pu,AV.ren]);refine Ym.sub (by simp[lk,Ya,AV.keys,Yi,frzA,frzO,frz,Yh,Yj,St.get,hq,hOl,hOt,pu,AV.ren]) ?_;simp only[Yi,frzA,frzO,frz,Yh,Yj,St.get,hq,hOl,hOt,pu,AV.ren,Wkl,and_true];(try simp[lk,Yc,Ya,AV.keys,Yi,frzA,frzO,frz,Yh,Yj,St.get,hq,hOl,hOt,pu,AV.ren]))
def Zi0 (r:Jr) (l:Jl) (hs:Jh) (ps:Jp) (day id d:Int) (hp:ps.length<=41) (hb:∀ x∈ps,0<=x.lt/\x.lt<=8) (hlo:∀ x∈ps,0<=x.lo/\x.lo<=2) :
  PC prog G 74 [ofA r l hs ps,.int .i64 day,.int .i64 id,.int .i64 d] (.vsl ((wkL ps day id d).map ia)):=by
 have h:=ZhZ (G:=G) r l hs ps day id d hp hb
 rw[ZhT hlo,ZhU hlo,Zau λx hx=>by
  obtain ⟨y,hy,-,rfl⟩:=ZdP.1 hx;exact hb y hy]at h
 exact h
def smS (U:List Int) (v i:Nat):St:=⟨[(10,.int .i64 i),(9,.int .i64 U.length),(8,.vsl (U.map ia)),(5,nlV 23 (sbN U v i)),(1,.int .i64 v)],nlO 23 (sbN U v i)⟩
def drA (r:Jr) (l:Jl) (d m:Int):AV:=.tup [if asN r l [] m=0/\d∈nums r then fileA r l else .nilp,.int .i64 (if asN r l [] m=0 then if d∈nums r then 0 else 6 else asN r l [] m)]
def truE (U:List Int):List (AV×AV):=(List.range (2 ^ U.length)).map λ(v:Nat)=>(.int .i64 (v:Int),Yg ((sbT U v).map ia))
def Zi1 {U:List Int} {v:Nat} (h:v<2 ^ U.length):(truE U)[v]? = some (.int .i64 v,Yg ((sbT U v).map ia)):=by
 unfold truE;rw[W09,W0L h];rfl
def Zi2 (U:List Int):(truE U).length=2 ^ U.length:=by simp[truE]
def Zi3 (U:List Int) (v:Nat) (hv:v<64) (hU:U.length<=5):PC prog G 161 [.vsl (U.map ia),.int .i64 v] (Yg ((sbT U v).map ia)):=by
 refine Zf6 rfl λR hG hrd=>?_
 subst hG;refine Qga ?_;simp -implicitDefEqProofs[Zf4,Zf5];refine Z7K (smS U v) (λ_=>True) U.length ?_ trivial ?_ ?_
 . have e0:sbN U v 0=[]:=rfl;simp only[smS,nlV,nlO,e0,if_true]
   (refine Wkc ?_;simp only[Wkl,and_true];(try simp[lk,Yc,Ya,AV.keys]))
 . intro i hi _;have sc:sbN U v (i+1)=if v / 2 ^ i % 2=1 then sbN U v i++[U.getD i 0] else sbN U v i:=rfl
   have hle:=ZdD U v i;have bU:=bitU (v:=v) (i:=i) hv (by omega);have hg:U.getD i 0=U[i]:=(by rw[W0j,W07 hi];rfl);rw[hg]at sc;have wi:i64.wrap ((i:Int)+1)=(i:Int)+1:=Yf;obtain ⟨S,hS⟩:=Qex (sbN U v i);rw[<- hS]at sc hle;obtain ⟨T,hT⟩:=Qex (sbN U v (i+1));rw[<- hT]at sc;have bb:(S.length+1)*8<=70368744177664:=(by omega);by_cases cS:S=[]
   case' pos =>
    have hV:nlV 23 S = .nils:=(by simp[nlV,cS]);have hQ:nlO 23 S=[]:=by simp[nlO,cS]
   case' neg =>
    have hV:nlV 23 S = .osl 23 S.length:=(by simp[nlV,cS]);have hQ:nlO 23 S=[(23,.row 1 (S.map ia))]:=by simp[nlO,cS]
   all_goals
    refine Qga ?_;by_cases q:v / 2 ^ i % 2=1
    . rw[if_pos q]at sc bU;have hne:¬T=[]:=(by rw[sc];simp);have hV2:nlV 23 T = .osl 23 (S.length+1):=(by rw[nlV,if_neg hne,sc];simp);have hQ2:nlO 23 T=[(23,.row 1 (S.map ia++[ia U[i]]))]:=(by rw[nlO,if_neg hne,sc];simp);simp -implicitDefEqProofs[smS,<- hS,hV,hQ,hi,ia,bU,wi,bb];simp only[smS,<- hT,hV2,hQ2]
      ((try simp only[ia,cS]);refine Ym.sub (by simp[lk,Ya,AV.keys,ia,cS]) ?_;simp only[ia,cS,Wkl,Zco,and_true];(try simp[lk,Yc,Ya,AV.keys,ia,cS]))
    . rw[if_neg q]at sc bU;have sc:T=S:=sc;subst sc;simp -implicitDefEqProofs[smS,<- hS,hV,hQ,hi,ia,bU,wi];simp only[smS,<- hT,hV,hQ]
      ((try simp only[ia]);refine Ym.sub (by simp[lk,Ya,AV.keys,ia]) ?_;simp only[ia,Wkl,Zco,and_true];(try simp[lk,Yc,Ya,AV.keys,ia]))
 . intro _;obtain ⟨S,hS⟩:=Qex (sbN U v U.length);have eT:sbT U v=S:=hS.symm;refine Qga ?_;by_cases cS:S=[]
   . have hV:nlV 23 S = .nils:=(by simp[nlV,cS]);have hQ:nlO 23 S=[]:=(by simp[nlO,cS]);simp -implicitDefEqProofs[smS,<- hS,hV,hQ];refine Qgr ?_;simp -implicitDefEqProofs[eT,cS,Yg]
   . have hV:nlV 23 S = .osl 23 S.length:=(by simp[nlV,cS]);have hQ:nlO 23 S=[(23,.row 1 (S.map ia))]:=(by simp[nlO,cS]);simp -implicitDefEqProofs[smS,<- hS,hV,hQ];refine Qgr ?_;simp -implicitDefEqProofs[eT,cS,Yg,ia]
def Zi4 (hG:GC G) (hN:GN G) (r:Jr) (l:Jl) (d m:Int) (hw:WfN l) (hr:Wf r) (hd:Sml (nums r)):PC prog G 111 [.agg [.vsl (r.map isa),.vsl (l.map na)],.nils,.int .i64 m,.int .i64 d] (drA r l d m):=by
 have ha:=PC.sub (Zdi hG hN r l [] m hw hr (by simp[Sml])) (xs:=[.agg [.vsl (r.map isa),.vsl (l.map na)],.nils,.int .i64 m]) ⟨.rfl',.nils,.rfl',trivial⟩;have hc:=ZcI (G:=G) (nums r) d hd;have pF:=Zde r l;have kF:(fileA r l).keys=[]:=AV.pure_keys _ pF;have hF:fileA r l = .vptr [.vsl (r.map isa),.vsl (l.map na),.vsl ((nums r).map ia),opA l] 0:=rfl;unfold drA;unfold askA at ha;by_cases h0:asN r l [] m=0
 . rw[h0]at ha ⊢;rw[hF]at ha pF ⊢
   (refine ZeZ rfl λR hG hrd=>Qga ?_;subst hG)
   simp -implicitDefEqProofs[ZeX,ZeY];refine Qco (ha) ?_;simp -implicitDefEqProofs[pF];refine Qco (hc) ?_;by_cases h1:d∈nums r
   . simp -implicitDefEqProofs[h1,pF]
   . simp -implicitDefEqProofs[h1,pF]
 . rw[if_neg h0]at ha
   (refine ZeZ rfl λR hG hrd=>Qga ?_;subst hG)
   simp -implicitDefEqProofs[ZeX,ZeY];refine Qco (ha) ?_;simp -implicitDefEqProofs[h0]
def Zi5 (r:Jr) (l:Jl):PC prog G 112 [fileA r l] (.func (.func 160) [] [.vptr [fileA r l] 0]):=by
 have pO:=Zde r l;obtain ⟨cs,eS⟩ : ∃ cs,fileA r l = .vptr cs 0:=⟨_,rfl⟩;rw[eS]at pO ⊢
 (refine Zf2 rfl λR hG hrd=>Qga ?_;subst hG)
 simp -implicitDefEqProofs[Zf0,Zf1,pO]
def toT (F:AV) (K:Nat) (l i:Nat):List (Nat×AV):=[(10,.int .i64 i),(9,.int .i64 K),(1,.vptr [F] 0),(0,.func (.yield l) [] [])]
def Zi6 (S:List Int):(Yg (S.map ia)).pure=true:=by unfold Yg;split <;> simp_all [AV.pure,ia]
def Zi7 (r:Jr) (l:Jl) (hU:(opQ l).length<=5) :
  Zh7 prog G 160 [.vptr [fileA r l] 0] (truE (opQ l)):=by
 have pO:=Zde r l;have hpw:=pow5 hU;have sh:=shU (n:=(opQ l).length) (by omega)
 have oA:opA l=Yg ((opQ l).map ia):=by
  unfold opA Yg opQ;by_cases c:opU l=[]
  . simp[c,sortI]
  . have h2:sortI (opU l)≠[]:=λh=>c (by have:=congrArg List.length h;rw[Zac]at this;exact W0l.1 this)
    rw[if_neg c,if_neg (by simpa using h2)]
 have hA:=λ(v:Nat) (hv:v<64)=>PC.sub (Zi3 (G:=G) (opQ l) v hv hU) (xs:=[opA l,.int .i64 v]) ⟨by rw[oA];exact .orNil _,.rfl',trivial⟩
 have eO:fileA r l = .vptr [.vsl (r.map isa),.vsl (l.map na),.vsl ((nums r).map ia),opA l] 0:=rfl;have pA:(opA l).pure=true:=by rw[oA];exact Zi6 _
 have lenO:opA l = .nils/\(opQ l).length=0∨opA l = .vsl ((opQ l).map ia):=by
  rw[oA];unfold Yg
  split
  . rename_i h;left;exact ⟨rfl,by simpa using h⟩
  . right;rfl
 have hat:=λv (h:v<2 ^ (opQ l).length)=>Zi1 (U:=opQ l) h
 have hln:=Zi2 (opQ l);refine Zhp Tryz.func160 (by kernel_rfl) (rc:=Zf3) (by kernel_rfl) rfl (W0C rfl) λn l' J K hn H hY=>?_
 generalize truE (opQ l)=E at *;obtain ⟨k,hk⟩:=Qex (2 ^ (opQ l).length);rw[<- hk]at hpw sh hat hln
 have pT:∀ i,∀ q∈toT (fileA r l) k l' i,q.2.pure=true:=λi q hq=>by
  simp only[toT,W0g,W0Q,or_false]at hq;rcases hq with rfl|rfl|rfl|rfl <;> simp[AV.pure,pO]
 unfold Zf3;refine Zhf ⟨toT (fileA r l) k l' 0,[]⟩ (λM A=>?_) (Zhh (Zhi (λi=>i) (λi=>⟨toT (fileA r l) k l' i,[]⟩) (λi=>i<=k) (λi=>k-i) 0 rfl rfl (W1f _) λi hi=>?_))
 . refine Qga ?_;rcases lenO with ⟨h1,h2⟩|h1
   . rw[h2]at sh;have k1:k=1:=(by rw[hk,h2]);have sh0:i64.wrap 1=(k:Int):=(by rw[k1];rfl);simp -implicitDefEqProofs[iniT,eO,toT,h1,sh0]
     (refine Wkc ?_;simp only[Wkl,and_true];(try simp[lk,Yc,Ya,AV.keys]))
   . simp -implicitDefEqProofs[iniT,eO,toT,h1,sh]
     (refine Wkc ?_;simp only[Wkl,and_true];(try simp[lk,Yc,Ya,AV.keys]))
 by_cases hlt:i<k
 case neg =>
  obtain rfl:i=k:=(by omega);refine Zhf ⟨(11,.bool false)::toT (fileA r l) i l' i,[]⟩ (λM A=>?_) (Zhd (Zhg (.exit 0) ⟨[],[]⟩ (λM A=>?_) ?_))
  . refine Qga ?_;simp -implicitDefEqProofs[toT];exact (by (first|exact Wka|exact Wkb))
  . refine Qga ?_;simp -implicitDefEqProofs[toT];exact (by (first|exact Wka|exact Wkb))
  . simp only[ItBk,if_true];refine ⟨by simp,by simp[hln],λ_ _ _ h=>h⟩
 have wi:i64.wrap ((i:Int)+1)=((i+1:Nat):Int):=Yf;have hA:=hA i (by omega);have hat:=hat i hlt;have pV:=Zi6 (sbT (opQ l) i);obtain ⟨V,hV⟩:=Qex (Yg ((sbT (opQ l) i).map ia));rw[<- hV]at hA hat pV;refine Zhf ⟨(11,.bool true)::toT (fileA r l) k l' i,[]⟩ (λM A=>?_) (Zhf ⟨toT (fileA r l) k l' i,[]⟩ (λM A=>?_) (Zhe (Zhh ?_)))
 . refine Qga ?_;simp -implicitDefEqProofs[toT,hlt];exact (by (first|exact Wka|exact Wkb))
 . refine Qga ?_;simp -implicitDefEqProofs[toT];exact (by (first|exact Wka|exact Wkb))
 refine Zhf ⟨(3,.int .i64 i)::toT (fileA r l) k l' i,[]⟩ (λM A=>?_) ?_
 . refine Qga ?_;simp -implicitDefEqProofs[toT];exact (by (first|exact Wka|exact Wkb))
 refine Zhk H hY 8 (d:=21) (f:=.t 13) (ys:=[.t 14,.t 20]) (gd:=none) rfl (xs:=[.int .i64 i,V])
  ((20,V)::(14,.int .i64 i)::(13,.func (.yield l') [] [])::toT (fileA r l) k l' i) ⟨(22,.bool false)::toT (fileA r l) k l' i,[]⟩ [] [(22,.bool true)] (W0C rfl) ?_ ?_ ?_ ?_ rfl rfl ?_ ?_ ?_ ?_ ?_ ?_
 . rw[W09,hat];rfl
 . intro x hx;simp only[W0g,W0Q,or_false]at hx;rcases hx with rfl|rfl
   . simp[AV.pure]
   . exact pV
 . intro q hq;simp only[W0g]at hq;rcases hq with rfl|rfl|rfl|hq
   . exact pV
   . simp[AV.pure]
   . simp[AV.pure]
   . exact pT i q hq
 . simp -implicitDefEqProofs[toT,eO]
   first|refine Yd.of hA (by simp[pA]) ?_|refine Ye.of hA (by simp[pA]) ?_
   simp -implicitDefEqProofs[pV]
   ((try simp only[AV.pure_keys _ pV]);refine Ym.sub (by simp[lk,Ya,AV.keys,AV.pure_keys _ pV]) ?_;simp only[AV.pure_keys _ pV,Wkl,and_true];(try simp[lk,Yc,Ya,AV.keys,AV.pure_keys _ pV]))
 . rfl
 . simp -implicitDefEqProofs[toT];exact (by (first|exact Wka|exact Wkb))
 . refine Zhg .normal ⟨toT (fileA r l) k l' i,[]⟩ (λM A=>?_) ⟨rfl,Zhg .normal ⟨toT (fileA r l) k l' (i+1),[]⟩ (λM A=>?_) ⟨i+1,rfl,rfl,by omega,by omega⟩⟩
   . refine Qga ?_;simp -implicitDefEqProofs[toT];exact (by (first|exact Wka|exact Wkb))
   . refine Qga ?_;simp -implicitDefEqProofs[toT,wi];exact (by (first|exact Wka|exact Wkb))
 . intro q hq
   cases hq
 . simp -implicitDefEqProofs;exact (by (first|exact Wka|exact Wkb))
 . intro A;refine Qga ?_;simp -implicitDefEqProofs;exact (by (first|exact Wka|exact Wkb))
def Z1B.sub {P:Program} {G:Jg} {st st1:St} {f:FuncId} {xs ys:List AV} {v:AV} (h:Z1B P G st f ys v st1) (hp:xs.all AV.pure=true) (hs:NsubL xs ys):Z1B P G st f xs v st1 :=
 λR a W κ vs hG hk ha=>h R a W κ vs hG hk ⟨ha.1.trans hs.len,λi y u hi hu=>by
  obtain ⟨x,h2,h3⟩:=hs.at i y hi;exact .pv (h3 _ _ _ ((ha.2 i x u h2 hu).toPV (W03.1 hp x (W0d h2))))⟩
def NewS.sub {P:Program} {G:Jg} {st:St} {ρ:Nat->Nat} {os:List (Nat×AObj)} {f:FuncId} {xs ys:List AV} {v:AV} (h:NewS P G st ρ os f ys v) (hp:xs.all AV.pure=true) (hs:NsubL xs ys):NewS P G st ρ os f xs v:=by
 obtain ⟨pre,h1,h2⟩:=h;exact ⟨pre,h1,λst' h'=>(h2 st' h').sub hp hs⟩
structure SetP (P:Program) (G:Jg) (so co:FuncId) (U:List Int):Prop where
 hsp:PB P G so [(1000,.row 1 (U.map ia))] [.osl 1000 U.length] (.tup []) [(1000,.row 1 ((sortI U).map ia))]
 hcp:PB P G co [(1000,.row 1 ((sortI U).map ia))] [.osl 1000 U.length] (if (setI U).length=U.length then .osl 1000 U.length else .oss 1000 U.length 0 (setI U).length) [(1000,.row 1 (cpoI (sortI U)))]
 hOl:(cpoI (sortI U)).length=U.length
 hOt:(cpoI (sortI U)).take (setI U).length=(setI U).map ia
 hOf:(setI U).length=U.length->cpoI (sortI U)=(setI U).map ia
 kO:∀ o,Yc o (.row 1 (cpoI (sortI U)))=true
 rO:∀ ρ,AObj.ren ρ (.row 1 (cpoI (sortI U))) = .row 1 (cpoI (sortI U))
 hCl:(setI U).length<=U.length
def poK (l:Jl) (d m:Int) (k:Nat):List Int:=(List.range k).map (ltV l d m)
def Zij {l:Jl} {d m:Int} {k:Nat}:poK l d m (k+1)=poK l d m k++[ltV l d m k]:=by simp[poK,W1y]
def Zik {l:Jl} {d m:Int} {k:Nat}:(poK l d m k).length=k:=by simp[poK]
def poB (F:AV) (d m:Int) (S:List Int):List (Nat×AObj):=[(1004,.box [.int .i64 d]),(1005,.box [.int .i64 m]),(1008,.box [F]),(1010,.box [nlV 1037 S])]++nlO 1037 S
def poU (F:AV) (d m:Int) (S T:List Int):List (Nat×AObj):=[(1004,.box [.int .i64 d]),(1005,.box [.int .i64 m]),(1008,.box [F]),(1010,.box [nlV (nlN 1037 S) T])]++nlO (nlN 1037 S) T
def poF (k:Nat):Bool:=decide (k<1000)&&(k == 12||k == 204||k == 205||k == 206||k == 207||k == 209||k == 210||k == 211)
def poA (r:Jr) (l:Jl) (d m:Int):AV:=.tup [if asN r l [] m=0/\d∈nums r then .vsl ((posL l d m).map ia) else .nils,.int .i64 (if asN r l [] m=0 then if d∈nums r then 0 else 6 else asN r l [] m)]
def Zil (U:List Int) (h:U.length<=1000):SetP prog G 115 116 U:=by
 have hsp:=ZhR (G:=G) U (by omega);have sl:(sortI U).length=U.length:=Zac U;have hcp:=ZhP (G:=G) (sortI U) (by omega);rw[sl]at hcp;have hC:cpcI (sortI U)=setI U:=ZhO _
 have hCl:(setI U).length<=U.length:=by
  have:=ZhD (sortI U) (sortI U).length;rw[<- hC];unfold cpcI;omega
 have hOl:(cpoI (sortI U)).length=U.length:=by
  unfold cpoI;rw[W0s,W0N,W1H,hC,sl];omega
 have hOt:(cpoI (sortI U)).take (setI U).length=(setI U).map ia:=by
  unfold cpoI;rw[hC];exact List.take_left' (by simp)
 have hOf:(setI U).length=U.length->cpoI (sortI U)=(setI U).map ia:=λh=>by
  rw[<- hOt,h,<- hOl,W0v]
 have hcv:∀ k,cpvI k (sortI U)=if (setI U).length=U.length then .osl k U.length else .oss k U.length 0 (setI U).length:=λk=>by unfold cpvI;rw[hC,sl]
 rw[hcv]at hcp;have hz:∀ n,List.replicate n zrO=(List.replicate n (0:Int)).map ia:=λn=>by rw[List.map_replicate];rfl
 exact ⟨hsp,hcp,hOl,hOt,hOf,λo=>by unfold cpoI;rw[hz,<- W0r];exact Zco _ _,λρ=>by unfold cpoI;rw[hz,<- W0r];exact Zcn _ _,hCl⟩
def Zim (hG:GC G) (hN:GN G) (r:Jr) (l:Jl) (d m:Int) (hw:WfN l) (hr:Wf r) (hd:Sml (nums r)):PC prog G 61 [.agg [.vsl (r.map isa),.vsl (l.map na)],.int .i64 d,.int .i64 m] (poA r l d m):=by
 have c1:=Zi4 hG hN r l d m hw hr hd;unfold drA at c1;unfold poA;by_cases h0:asN r l [] m=0/\d∈nums r
 case neg =>
  rw[if_neg h0]at c1 ⊢;obtain ⟨e,he⟩:=Qex ((if asN r l [] m=0 then if d∈nums r then (0:Int) else 6 else asN r l [] m))
  have e0:¬e=0:=by
   rw[he];by_cases h1:asN r l [] m=0
   . rw[if_pos h1,if_neg λh=>h0 ⟨h1,h⟩];decide
   . rw[if_neg h1];exact h1
  rw[<- he]at c1 ⊢
  (refine Zf9 rfl λR hG hrd=>Qga ?_;subst hG)
  simp -implicitDefEqProofs[Zf7,Zf8];refine Qco (c1) ?_;simp -implicitDefEqProofs[e0]
 rw[if_pos h0,if_pos h0.1,if_pos h0.2]at c1;rw[if_pos h0,if_pos h0.1,if_pos h0.2];have hop:=Zhw (Zdl h0.1).1;have hB:=Zdk (Zdl h0.1).1;have hU:=ZdE hB;have h12:=Zdm hB;have hp2:=pow5 hU;have hpos:0<2 ^ (opQ l).length:=Nat.pos_of_ne_zero (by simp);have hps:=Zgr (l:=l) (d:=d) (m:=m) λv _=>Zgy hop hB h0.2 m v
 have e3:(List.range (2 ^ (opQ l).length)).map (ltV l d m)=poK l d m (2 ^ (opQ l).length):=rfl;rw[e3]at hps;have hlv:∀ v,ltV l d m v=(byV (sbT (opQ l) v) m l d l.length).lt:=λv=>rfl
 have tf:=Zi5 (G:=G) r l;have hit:=Zi7 (G:=G) r l hU;have hat:=λv (h:v<2 ^ (opQ l).length)=>Zi1 (U:=opQ l) h
 have hln:=Zi2 (opQ l);have sbl:=λv=>ZdD (opQ l) v (opQ l).length
 have hSP:=Zil (G:=G) (poK l d m (2 ^ (opQ l).length)) (by rw[Zik];omega);have hff:=λv=>Zdj (G:=G) r l false true (sbT (opQ l) v) [] m
 have hby:=λv=>by_pb (G:=G) r l (sbT (opQ l) v) m d [] h12 (by have:=sbl v;unfold Sml sbT;omega) (λ_ _ h=>by cases h)
 have l1:∀ s,liA false s = .vsl (s.map ia):=λs=>by simp[liA]
 have l2:liA true [] = .nils:=(by simp[liA]);simp only[l1,l2]at hff;generalize truE (opQ l)=E at *;obtain ⟨N,hN'⟩:=Qex (2 ^ (opQ l).length);rw[<- hN']at hp2 hpos hps hat hln hSP;have pF:=Zde r l;have kF:(fileA r l).keys=[]:=AV.pure_keys _ pF;have rF:=λρ=>AV.ren_pure (ρ:=ρ) (fileA r l) pF
 have fF:∀ ok st,frz ok st 6 (fileA r l)=some (fileA r l):=λok st=>by unfold fileA;simp[frz,AV.keys]
 obtain ⟨cs,hF⟩ : ∃ cs,fileA r l = .vptr cs 0:=⟨_,rfl⟩;simp only[hF]at c1 tf hit hff hby pF kF rF fF;clear hF;refine Zf9 rfl λR hG' hrd=>?_
 subst hG';refine Qga ?_;simp -implicitDefEqProofs[Zf7,Zf8];refine Qco (c1) ?_;simp -implicitDefEqProofs;refine Yd.of tf (by simp[pF]) ?_;simp -implicitDefEqProofs
 refine Zh9 hrd (by decide) hit (by simp[evA,St.tmp,lk]) (by simp[AV.pure,pF]) poF (by intro k hk;simp[poF]at hk;omega) r1K [(4,.ptr 1004 0),(5,.ptr 1005 0),(8,.ptr 1008 0),(10,.ptr 1010 0)]
  (λk=>poB (.vptr cs 0) d m (poK l d m k)) (λk=>poU (.vptr cs 0) d m (poK l d m k) (poK l d m (k+1))) (λk=>k<=N) (W1f _) ?_ ?_ ?_ ?_ ?_ ?_ ?_ ?_ ?_ ?_ ?_
 . intro k q hq;simp only[poB,nlO]at hq
   split at hq <;> simp at hq
   . rcases hq with rfl|rfl|rfl|rfl <;> simp
   . rcases hq with rfl|rfl|rfl|rfl|rfl <;> simp
 . intro k;simp only[poB,nlO]
   split <;> simp[r1K]
 . intro k;simp only[poU,nlO,nlN]
   split <;> split <;> simp[r1K]
 . intro k q hq;have hne:poK l d m (k+1)≠[]:=(by rw[Zij];simp);simp only[poB,poU,nlO,nlN]at *;by_cases c:poK l d m k=[]
   . simp only[c,if_true]at *
     split <;> simp at hq ⊢ <;> rcases hq with rfl|rfl|rfl|rfl <;> simp[isK,lk]
   . simp only[c,hne,if_false]at *;simp at hq ⊢;rcases hq with rfl|rfl|rfl|rfl|rfl <;> simp[isK,lk]
 . intro k q hq;simp only[poB,poU,nlO,nlN]at *;by_cases c:poK l d m k=[]
   . simp only[c,if_true]at *
     split at hq <;> simp at hq
     . rcases hq with rfl|rfl|rfl|rfl <;> exact .inl (by simp[isK,lk])
     . rcases hq with rfl|rfl|rfl|rfl|rfl
       . exact .inl (by simp[isK,lk])
       . exact .inl (by simp[isK,lk])
       . exact .inl (by simp[isK,lk])
       . exact .inl (by simp[isK,lk])
       . exact .inr (by simp[Yl,r1K,St.get,St.set,putO,lk])
   . simp only[c,if_false]at *
     split at hq <;> simp at hq
     . rcases hq with rfl|rfl|rfl|rfl <;> exact .inl (by simp[isK,lk])
     . rcases hq with rfl|rfl|rfl|rfl|rfl <;> exact .inl (by simp[isK,lk])
 . intro k;have hne:poK l d m (k+1)≠[]:=(by rw[Zij];simp);simp only[poB,poU,nlO,nlV,nlN];by_cases c:poK l d m k=[]
   . simp[c,hne,Yl,r1K,AV.ren,ZdA,ZhX]
   . simp[c,hne,Yl,r1K,AV.ren,ZdA,ZhX]
 . have e0:poK l d m 0=[]:=rfl;simp[poB,nlO,nlV,e0,Yl,r1K,St.set,putO,AObj.ren,AV.ren,rF]
 . intro k q hq;simp only[poB,W0h]at hq;rcases hq with hq|hq
   . simp only[poB,nlO];simp at hq;rcases hq with rfl|rfl|rfl|rfl
     . simp[Yc,Ya,AV.keys]
     . simp[Yc,Ya,AV.keys]
     . simp[Yc,Ya,kF]
     . unfold nlV
       split <;> simp[Yc,Ya,AV.keys,lk]
   . exact ZhW _ _ _ q hq
 . intro q hq;simp at hq;rcases hq with rfl|rfl|rfl|rfl
   all_goals
    refine ⟨by simp[lk,AV.ren,r1K],by simp,by simp,λj k hk=>?_⟩;simp[AV.keys]at hk;subst hk;simp only[poB];simp[isK,lk]
 . intro k x hx hk R' hG hN;have hkl:k<N:=(by rw[<- hln];exact (W02.1 hx).1);rw[hat k hkl]at hx;obtain rfl:=W1L hx;have hff:=hff k;have hby:=hby k;have sc:=Zij (l:=l) (d:=d) (m:=m) (k:=k);have hle:=Zik (l:=l) (d:=d) (m:=m) (k:=k);rw[hlv]at sc;have pV:=Zi6 (sbT (opQ l) k);have kV:=AV.pure_keys _ pV;have nV:Nsub (Yg ((sbT (opQ l) k).map ia)) (.vsl ((sbT (opQ l) k).map ia)):=.orNil _;obtain ⟨V,hV'⟩:=Qex (Yg ((sbT (opQ l) k).map ia));rw[<- hV']at pV kV nV ⊢;obtain ⟨x,hx'⟩:=Qex (byV (sbT (opQ l) k) m l d l.length);have hnx:na x=[.int .i64 x.nu,.int .i64 x.dy,.int .u8 x.sg,.int .i64 x.dr,.int .i64 x.lt,.int .i64 x.fr,.int .i64 x.tu,.int .i64 x.ca,.bool x.up,.int .u8 x.wy]:=rfl;rw[<- hx',hnx]at hby;rw[<- hx']at sc;obtain ⟨B,hB'⟩:=Qex (AV.vsl ((sbT (opQ l) k).map ia));rw[<- hB']at hff hby nV;have pB:B.pure=true:=(by rw[hB'];simp[AV.pure,ia]);have rB:=λρ=>AV.ren_pure (ρ:=ρ) B pB
   have kB:B.keys=[]:=AV.pure_keys _ pB;generalize byK (sbT (opQ l) k) m l d l.length []=K at *;clear hB';generalize poK l d m k=S at *;generalize poK l d m (k+1)=T at *;have bb:(S.length+1)*8<=70368744177664:=(by omega);have hne:¬T=[]:=(by rw[sc];simp);have hTl:T.length=S.length+1:=(by rw[sc];simp);have em:T.map ia=S.map ia++[[.int .i64 x.lt]]:=(by rw[sc,W0r];rfl);by_cases cS:S=[]
   case' pos =>
    have hV:nlV 1037 S = .nils:=(by simp[nlV,cS]);have hQ:nlO 1037 S=[]:=(by simp[nlO,cS]);have hM:nlN 1037 S=37:=by simp[nlN,cS]
   case' neg =>
    have hV:nlV 1037 S = .osl 1037 S.length:=(by simp[nlV,cS]);have hQ:nlO 1037 S=[(1037,.row 1 (S.map ia))]:=(by simp[nlO,cS]);have hM:nlN 1037 S=1037:=by simp[nlN,cS]
   all_goals
    refine Qga ?_;simp only[poB,hV,hQ,W1e,W18];simp -implicitDefEqProofs;intro R'' hG'' hN'';refine Z1P (Zig mixed ?_);rw[hG'']
    iterate 5 (rw[RE_op (by simp[wants]) (by simp[Z1y])];simp -implicitDefEqProofs[execE])
    rw[Zii (by simp[wants])];simp -implicitDefEqProofs;refine CallE.new (NewS.sub (ys:=[.vptr cs 0,B,.nils,.int .i64 m]) (NewS.of hff (λk=>k+200) (by simp[ffO]) (by simp[ffO,St.get,lk]) (by simp[AV.pure,pF,pB]) rfl) (by simp[AV.pure,pF,pV]) ⟨.rfl',nV,.rfl',.rfl',trivial⟩) ?_;simp -implicitDefEqProofs[Yl,ffO,ffC,AV.ren,AObj.ren,rF,rB,kV,kF,kB]
    iterate 1 (rw[RE_op (by simp[wants]) (by simp[Z1y])];simp -implicitDefEqProofs[execE])
    rw[Zii (by simp[wants])];simp -implicitDefEqProofs;refine CallE.new (NewS.ref hby (λk=>k-800) (by simp[fcO]) (by simp[fcO]) (by simp[fcO,St.get,lk,AV.ren,AObj.ren,mpA,rF,rB,fcC]) (by simp only[fcO,W0g,W0Q,or_false,W1M,forall_eq,Zd2,and_true];simp[lk,Yc,Ya,AV.keys,kF,kB,fcC]) (by simp[Ya,AV.keys,kF,lk,fcC,fcO]) rfl (by simp[AV.ren,rF,fcC]) rfl) ?_;simp -implicitDefEqProofs[Yl,fcO,fcC,AV.ren,AObj.ren,Zd3,rF,rB,kV,kF,kB]
    iterate 4 (rw[RE_op (by simp[wants]) (by simp[Z1y])];simp -implicitDefEqProofs[execE,bb])
    refine ⟨rfl,?_⟩;refine ⟨rfl,?_,by omega⟩;simp only[poU,hM,nlV,nlO,hne,if_false,hTl,em];simp[cS,Yi,poF,Zd9,frzO,frzA,frz,AV.keys,ia,fF,W0y]
 . intro _;rw[hln];have hUl:=Zik (l:=l) (d:=d) (m:=m) (k:=N);generalize poK l d m N=U at *;obtain ⟨hsp,hcp,hOl,hOt,hOf,kO,rO,hCl⟩:=hSP;have cU:¬U=[]:=λh=>by rw[h]at hUl;simp at hUl;omega
   rw[<- hps];have pu:((setI U).map ia).all (λr=>r.all AV.pure)=true:=(by simp[ia,AV.pure]);simp -implicitDefEqProofs[poB,nlV,nlO,cU,Yl,r1K,AV.ren,ZdA,ZhX,rF];refine Qgr ?_;simp -implicitDefEqProofs;refine Yd.sem (Z1B.byref hsp (λ_=>37) (by simp) (by simp) (by simp[St.get,lk,Zcn]) (by simp[Zco]) (by simp[Ya,AV.keys,lk]) rfl (by simp[AV.ren]) rfl rfl) ?_;simp -implicitDefEqProofs[Yl,Zcn];refine Yd.sem (Z1B.byref hcp (λ_=>37) (by simp) (by simp) (by simp[St.get,lk,Zcn]) (by simp[Zco]) (by simp[Ya,AV.keys,lk]) rfl (by simp[AV.ren]) rfl rfl) ?_;by_cases hq:(setI U).length=U.length
   . have hOf:=hOf hq;rw[hOf]at *;simp -implicitDefEqProofs[Yl,Zcn,hq,AV.ren,ia]
   . skip
     simp -implicitDefEqProofs[Yl,rO,hq,AV.ren,hOl,hOt,hCl,ia]
section
open Qq Tryz
end
def Zin {r:Jr} (h:openV r=0):r≠[]:=by
 rintro rfl;exact absurd h (by decide)
def Zio {r:Jr} {l:Jl} {hs:Jh} {ps:Jp} {day m:Int} (h:as7 r l hs ps day m=0):ck7 r l hs ps=0/\inR day 0 14610=true/\inR m 1 999=true:=by
 unfold as7 at h;by_cases c:ck7 r l hs ps=0
 . rw[if_pos c]at h;by_cases c2:inR day 0 14610=true/\inR m 1 999=true
   . exact ⟨c,c2⟩
   . rw[if_neg c2]at h;cases h
 . rw[if_neg c]at h;exact absurd h c
def Zip {r:Jr} {l:Jl} {hs:Jh} {ps:Jp} {day m id:Int} {ds:List Int} (h:ab7 r l hs ps day m id ds=0):as7 r l hs ps day m=0/\0<=hoI hs id/\∀ d∈ds,d∈nums r:=by
 unfold ab7 at h;by_cases c:as7 r l hs ps day m=0
 . rw[if_pos c]at h
   split at h
   . rename_i c2;exact ⟨c,c2.1,λd hd=>by simpa using W03.1 c2.2 d hd⟩
   . cases h
 . rw[if_neg c]at h;exact absurd h c
def helP (id day lo:Int) (x:Prt):Bool:=decide (x.ho=id)&&outB x day&&decide (x.lo=lo)
def helK (id day lo:Int) (ps:Jp) (i:Nat):List Int:=pkL (helP id day lo) (·.no) ps i
def heE (r:Jr) (l:Jl) (hs:Jh) (ps:Jp) (day id:Int):List Int×List Int×Int :=
 if ab7 r l hs ps day 1 id []=0 then (helK id day 0 ps ps.length,helK id day 1 ps ps.length,0) else ([],[],ab7 r l hs ps day 1 id [])
def heA (r:Jr) (l:Jl) (hs:Jh) (ps:Jp) (day id:Int):AV:=.tup [Yg ((heE r l hs ps day id).1.map ia),Yg ((heE r l hs ps day id).2.1.map ia),.int .i64 (heE r l hs ps day id).2.2]
def shP (id:Int) (x:Prt):Bool:=decide (x.ho=id) && !decide (x.lo=1)
def phP (id:Int) (x:Prt):Bool:=decide (x.ho=id)&&decide (x.lo=1)
def shK (id:Int) (L:Jp) (k:Nat):List Int:=pkL (shP id) (·.no) L k
def phK (id:Int) (L:Jp) (k:Nat):List Int:=pkL (phP id) (·.no) L k
def Ziq {ps:Jp} {day id:Int} (hlo:∀ x∈ps,0<=x.lo/\x.lo<=2):shK id (outP ps day) (outP ps day).length=helK id day 0 ps ps.length:=by
 unfold shK helK outP;rw[ZgR,ZgR,List.filter_filter]
 congr 1
 refine List.filter_congr λx hx=>?_
 have:=hlo x hx;rw[W2g];simp only[shP,helP,outB,W01,W0b,W1C,W1b,W0T]
 constructor
 . rintro ⟨⟨h1,h3⟩,h4,h5⟩;exact ⟨⟨h1,h4,h5⟩,by omega⟩
 . rintro ⟨⟨h1,h4,h5⟩,h3⟩;exact ⟨⟨h1,by omega⟩,h4,h5⟩
def Zir {ps:Jp} {day id:Int}:phK id (outP ps day) (outP ps day).length=helK id day 1 ps ps.length:=by
 unfold phK helK outP;rw[ZgR,ZgR,List.filter_filter]
 congr 1
 refine List.filter_congr λx hx=>?_
 simp only[phP,helP,Bool.and_assoc,Bool.and_comm,Bool.and_left_comm]
def Zis {α β:Type} {p:α->Bool} {f:α->β} {L:List α} {j:Nat} (h:pkL p f L j=[]):∀ {i},i<=j->pkL p f L i=[]:=by
 intro i hi
 induction j with
 | zero => obtain rfl:i=0:=by omega
           exact h
 | succ j ih =>
   rcases W0q i (j+1) with c|c
   . exact ih (ZhV h) (by omega)
   . obtain rfl:i=j+1:=(by omega);exact h
def Zit {α β γ:Type} (p:α->Bool) (f:α->β) (q:α->Bool) (g:α->γ) (L:List α):∃ w:Bool,(∀ k,pkL p f L k=[]->pkL q g L k≠[]->w=true)/\∀ k,pkL q g L k=[]->pkL p f L k≠[]->w=false:=by
 by_cases h:∃ k,pkL p f L k=[]/\pkL q g L k≠[]
 . refine ⟨true,λ_ _ _=>rfl,λk h1 h2=>?_⟩;obtain ⟨j,h3,h4⟩:=h;rcases Nat.le_total j k with c|c
   . exact absurd (Zis h1 c) h4
   . exact absurd (Zis h3 c) h2
 . exact ⟨false,λk h1 h2=>absurd ⟨k,h1,h2⟩ h,λ_ _ _=>rfl⟩
def hpB (id:Int) (w:Bool) (S P:List Int):List (Nat×AObj):=[(1005,.box [.int .i64 id]),(1006,.box [nlV 1031 S]),(1007,.box [nlV 1045 P])]++(if w=true then nlO 1045 P++nlO 1031 S else nlO 1031 S++nlO 1045 P)
def hpU (id:Int) (w:Bool) (S T P Q:List Int):List (Nat×AObj):=[(1005,.box [.int .i64 id]),(1006,.box [nlV (nlN 1031 S) T]),(1007,.box [nlV (nlN 1045 P) Q])] ++
 (if w=true then (if P=[] then [] else nlO 1045 Q)++(if S=[] then [] else nlO 1031 T) else (if S=[] then [] else nlO 1031 T)++(if P=[] then [] else nlO 1045 Q))++(if S=[] then nlO 31 T else [])++(if P=[] then nlO 45 Q else [])
def Ziu (hG:GC G) (hN:GN G) (hP:GP G) (r:Jr) (l:Jl) (hs:Jh) (ps:Jp) (day id d:Int) (hl:WfN l) (hr:Wf r) (hd:Sml (nums r)) (hw:WfP hs ps) (hb:ck7 r l hs ps=0->(∀ x∈ps,0<=x.lt/\x.lt<=8)/\∀ x∈ps,0<=x.lo/\x.lo<=2) :
  PC prog G 21 [prA r l hs ps,.int .i64 day,.int .i64 id,.int .i64 d] (if ab7 r l hs ps day 1 id [d]=0 then .tup [.vsl ((wkL ps day id d).map ia),.int .i64 0] else .tup [.nils,.int .i64 (ab7 r l hs ps day 1 id [d])]):=by
 have ha:=ZhB hG hN hP r l hs ps day 1 id [d] hl hr hd hw (by simp[Sml]);have pO:=ZgF r l hs ps;have kO:=ZgG r l hs ps;have e1:[d].map ia=[[.int .i64 d]]:=rfl;rw[e1]at ha;unfold abP at ha;by_cases h0:ab7 r l hs ps day 1 id [d]=0
 . obtain ⟨g1,g2⟩:=hb (Zio (Zip h0).1).1;have hW:=Zi0 (G:=G) r l hs ps day id d hw.pl g1 g2;rw[if_pos h0,h0]at ha;rw[if_pos h0];unfold prA at *;generalize ofA r l hs ps=O at *
   (refine Zge rfl λR hG hrd=>Qga ?_;subst hG)
   simp -implicitDefEqProofs[Zgc,Zgd];refine Qco (ha) ?_;simp -implicitDefEqProofs;refine Yd.of hW (by simp[pO,AV.pure]) ?_;simp -implicitDefEqProofs[ia]
 . rw[if_neg h0]at ha ⊢;unfold prA at *
   (refine Zge rfl λR hG hrd=>Qga ?_;subst hG)
   simp -implicitDefEqProofs[Zgc,Zgd];refine Qco (ha) ?_;simp -implicitDefEqProofs[h0]
def Ziv (hG:GC G) (hN:GN G) (hP:GP G) (r:Jr) (l:Jl) (hs:Jh) (ps:Jp) (day id:Int) (hl:WfN l) (hr:Wf r) (hd:Sml (nums r)) (hw:WfP hs ps) (hlo:ck7 r l hs ps=0->∀ x∈ps,0<=x.lo/\x.lo<=2) :
  PC prog G 19 [prA r l hs ps,.int .i64 day,.int .i64 id] (heA r l hs ps day id):=by
 have ha0:=ZhB hG hN hP r l hs ps day 1 id [] hl hr hd hw (by simp[Sml]);have ha:=PC.sub ha0 (xs:=[prA r l hs ps,.int .i64 day,.int .i64 1,.int .i64 id,.nils]) ⟨.rfl',.rfl',.rfl',.rfl',.nils,trivial⟩;have pO:=ZgF r l hs ps;unfold abP at ha;unfold heA heE;by_cases h0:ab7 r l hs ps day 1 id []=0
 case neg =>
  rw[if_neg h0]at ha ⊢;unfold prA at *
  (refine Zg8 rfl λR hG hrd=>Qga ?_;subst hG)
  simp -implicitDefEqProofs[Zg6,Zg7];refine Qco (ha) ?_;simp -implicitDefEqProofs[h0,Yg]
 have g2:=hlo (Zio (Zip h0).1).1;rw[if_pos h0,h0]at ha;rw[if_pos h0,<- Ziq g2,<- Zir];have hO:=ZhY (G:=G) r l hs ps day;have hit:=outIt (G:=G) r l hs ps day hw.pl;have eN:=ZgM ps day;have hat:=λk x h=>ZgN (ps:=ps) (day:=day) (k:=k) (x:=x) h
 have hL:(outP ps day).length<=41:=W0O (W0D ..) hw.pl;unfold prA at *;generalize outP ps day=L at *;generalize outE ps day=E at *;obtain ⟨B,hB⟩ : ∃ B:List AV,B=[.vsl (r.map isa),.vsl (l.map na),.vsl (hs.map hoa),.vsl (ps.map ptA)]:=⟨_,rfl⟩;generalize ofA r l hs ps=O at *;refine Zg8 rfl λR hG hrd=>?_
 subst hG;refine Qga ?_;simp -implicitDefEqProofs[Zg6,Zg7];refine Qco (ha) ?_;simp -implicitDefEqProofs;refine Yd.of hO (by simp[pO,AV.pure]) ?_;simp -implicitDefEqProofs;obtain ⟨w,hwA,hwB⟩:=Zit (shP id) (·.no) (phP id) (·.no) L
 refine Zh9 hrd (by decide) hit (by simp[evA,St.tmp,lk]) (by simp[AV.pure,pO]) (λk=>k == 11) (by intro k hk;simp at hk;omega) r1K [(5,.ptr 1005 0),(6,.ptr 1006 0),(7,.ptr 1007 0)]
  (λk=>hpB id w (shK id L k) (phK id L k)) (λk=>hpU id w (shK id L k) (shK id L (k+1)) (phK id L k) (phK id L (k+1))) (λk=>k<=L.length) (W1f _) ?_ ?_ ?_ ?_ ?_ ?_ ?_ ?_ ?_ ?_ ?_
 . intro k q hq
   cases w <;> by_cases c1:shK id L k=[] <;> by_cases c2:phK id L k=[] <;> simp[hpB,nlO,c1,c2]at hq
   all_goals
    first
     |(rcases hq with rfl|rfl|rfl <;> simp;done)
     |(rcases hq with rfl|rfl|rfl|rfl <;> simp;done)
     |(rcases hq with rfl|rfl|rfl|rfl|rfl <;> simp;done)
 . intro k
   cases w <;> by_cases c1:shK id L k=[] <;> by_cases c2:phK id L k=[] <;> simp[hpB,nlO,c1,c2,r1K]
 . intro k;simp only[hpU,nlO]
   cases w <;> by_cases c1:shK id L k=[] <;> by_cases c2:phK id L k=[] <;> by_cases c3:shK id L (k+1)=[] <;> by_cases c4:phK id L (k+1)=[] <;> simp[c1,c2,c3,c4,r1K]
 . intro k q hq;have n1:=ZhV (p:=shP id) (f:=(·.no)) (L:=L) (k:=k);have n2:=ZhV (p:=phP id) (f:=(·.no)) (L:=L) (k:=k);simp only[hpB,hpU,nlO]at *
   cases w <;> by_cases c1:shK id L k=[] <;> by_cases c2:phK id L k=[] <;> by_cases c3:shK id L (k+1)=[] <;> by_cases c4:phK id L (k+1)=[]
   all_goals
    first
     |exact absurd (n1 c3) c1
     |exact absurd (n2 c4) c2
     | (simp[c1,c2]at hq
        rcases hq with rfl|rfl|rfl <;> simp[isK,lk,c1,c2,c3,c4];done)
     | (simp[c1,c2]at hq
        rcases hq with rfl|rfl|rfl|rfl <;> simp[isK,lk,c1,c2,c3,c4];done)
     | (simp[c1,c2]at hq
        rcases hq with rfl|rfl|rfl|rfl|rfl <;> simp[isK,lk,c1,c2,c3,c4];done)
 . intro k q hq;simp only[hpB,hpU,nlO]at *
   cases w <;> by_cases c1:shK id L k=[] <;> by_cases c2:phK id L k=[] <;> by_cases c3:shK id L (k+1)=[] <;> by_cases c4:phK id L (k+1)=[]
   all_goals
    simp[c1,c2,c3,c4]at hq
    first
     |(rcases hq with rfl|rfl|rfl <;> first|(left;simp[isK,lk,c1,c2];done)|(right;simp[Yl,r1K,St.get,St.set,putO,lk,c1,c2];done))
     |(rcases hq with rfl|rfl|rfl|rfl <;> first|(left;simp[isK,lk,c1,c2];done)|(right;simp[Yl,r1K,St.get,St.set,putO,lk,c1,c2];done))
     |(rcases hq with rfl|rfl|rfl|rfl|rfl <;> first|(left;simp[isK,lk,c1,c2];done)|(right;simp[Yl,r1K,St.get,St.set,putO,lk,c1,c2];done))
 . intro k;have n1:=ZhV (p:=shP id) (f:=(·.no)) (L:=L) (k:=k);have n2:=ZhV (p:=phP id) (f:=(·.no)) (L:=L) (k:=k);have m1:shK id L k=[]->¬phK id L k=[]->w=true:=hwA k;have m2:phK id L k=[]->¬shK id L k=[]->w=false:=hwB k
   have m3:shK id L k=[]->phK id L k=[]->shK id L (k+1)=[]∨phK id L (k+1)=[]:=λh1 h2=>by
    by_cases c:k<L.length
    . have a1:=ZgO (p:=shP id) (f:=(·.no)) c;have a2:=ZgO (p:=phP id) (f:=(·.no)) c;by_cases b:shP id L[k]=true
      . right
        have b2:phP id L[k]=false:=by
         simp only[shP,phP,W01,W1C,W1b,Bool.and_eq_false_iff]at b ⊢;exact .inr b.2
        rw[b2]at a2;exact a2.trans h2
      . left
        rw[if_neg b]at a1;exact a1.trans h1
    . left
      unfold shK pkL at *;rw[W0J (by omega)]at *;exact h1
   simp only[hpB,hpU,nlO,nlV,nlN];by_cases c1:shK id L k=[] <;> by_cases c2:phK id L k=[] <;> by_cases c3:shK id L (k+1)=[] <;> by_cases c4:phK id L (k+1)=[]
   all_goals
    first
     |exact absurd (n1 c3) c1
     |exact absurd (n2 c4) c2
     |(have:=m3 c1 c2;simp[c3,c4]at this;done)
     |(simp[m1 c1 c2,c1,c2,c3,c4,Yl,r1K,AV.ren,ZdA,ZhX];done)
     |(simp[m2 c2 c1,c1,c2,c3,c4,Yl,r1K,AV.ren,ZdA,ZhX];done)
     |(cases w <;> simp[c1,c2,c3,c4,Yl,r1K,AV.ren,ZdA,ZhX];done)
 . have e0:shK id L 0=[]:=ZgQ _ _ _;have e1:phK id L 0=[]:=ZgQ _ _ _;simp[hpB,nlO,nlV,e0,e1,Yl,r1K,St.set,putO,AObj.ren,AV.ren]
 . intro k q hq;have hk1:∀ o:List (Nat×AObj),Yc o (.row 1 ((shK id L k).map ia))=true:=λo=>Zco o _
   have hk2:∀ o:List (Nat×AObj),Yc o (.row 1 ((phK id L k).map ia))=true:=λo=>Zco o _
   cases w <;> by_cases c1:shK id L k=[] <;> by_cases c2:phK id L k=[] <;> simp only[hpB,nlO,nlV,c1,c2,if_true,if_false,W05,W1e,W18,W1G,W0g,W0Q,or_false]at hq ⊢
   all_goals
    first
     |(rcases hq with rfl|rfl|rfl <;> first|exact hk1 _|exact hk2 _|(simp[Yc,Ya,AV.keys,lk];done))
     |(rcases hq with rfl|rfl|rfl|rfl <;> first|exact hk1 _|exact hk2 _|(simp[Yc,Ya,AV.keys,lk];done))
     |(rcases hq with rfl|rfl|rfl|rfl|rfl <;> first|exact hk1 _|exact hk2 _|(simp[Yc,Ya,AV.keys,lk];done))
 . intro q hq;simp at hq;rcases hq with rfl|rfl|rfl
   all_goals
    refine ⟨by simp[lk,AV.ren,r1K],by simp,by simp,λj k hk=>?_⟩;simp[AV.keys]at hk;subst hk;simp only[hpB];simp[isK,lk]
 . intro k x hx hk R' hG hN;obtain ⟨i,hkl,rfl⟩:=hat k x hx;have sc:=ZgO (p:=shP id) (f:=(·.no)) hkl;have pc:=ZgO (p:=phP id) (f:=(·.no)) hkl;have hle:=ZgP (shP id) (·.no) L k;have hle2:=ZgP (phP id) (·.no) L k;obtain ⟨y,hy⟩:=Qex (L[k]);rw[<- hy]at sc pc ⊢;have hpt:ptA y=[.int .i64 y.no,.int .i64 y.dy,.int .i64 y.ho,.int .i64 y.dw,.int .i64 y.lt,.int .i64 y.bk,.int .u8 y.lo]:=rfl;have e1:∀ k,pkL (shP id) (·.no) L k=shK id L k:=λ_=>rfl
   have e2:∀ k,pkL (phP id) (·.no) L k=phK id L k:=λ_=>rfl
   rw[e1,e1]at sc;rw[e2,e2]at pc;rw[e1]at hle;rw[e2]at hle2;clear hwA hwB;generalize shK id L k=S at *;generalize shK id L (k+1)=T at *;generalize phK id L k=P at *;generalize phK id L (k+1)=Q at *;have bb:(S.length+1)*8<=70368744177664:=(by omega);have bb2:(P.length+1)*8<=70368744177664:=by omega
   cases w <;> by_cases cS:S=[] <;> by_cases cP:P=[]
   all_goals
    refine Qga ?_;simp only[hpB,nlV,nlO,cS,cP,if_true,if_false,W05,W1e,W18,W1G];simp -implicitDefEqProofs[hpt];intro R'' hG'' hN'';refine Qga ?_;by_cases q1:y.ho=id
    case neg =>
     have b1:shP id y=false:=(by simp[shP,q1]);have b2:phP id y=false:=(by simp[phP,q1]);rw[b1]at sc;rw[b2]at pc;have sc:T=S:=sc;have pc:Q=P:=pc;subst sc pc;simp -implicitDefEqProofs[hpt,q1];refine ⟨?_,by omega⟩;simp[hpU,Yi,Zd9,ZhC,frzA,frz,AV.keys,nlV,nlO,nlN,cS,cP]
    by_cases q3:y.lo=1
    . have b1:shP id y=false:=(by simp[shP,q3]);have b2:phP id y=true:=(by simp[phP,q1,q3]);rw[b1]at sc;rw[b2,if_pos rfl]at pc;have sc:T=S:=sc;subst sc;have hne:¬Q=[]:=(by rw[pc];simp);have hTl:Q.length=P.length+1:=(by rw[pc];simp);have em:Q.map ia=P.map ia++[[.int .i64 y.no]]:=(by rw[pc,W0r];rfl);simp -implicitDefEqProofs[hpt,q1,q3,bb2];refine ⟨?_,by omega⟩;simp only[hpU,nlV,nlO,nlN,hne,if_false,hTl,em,cS,cP];simp[cS,cP,Yi,Zd9,frzO,frzA,frz,AV.keys,ia,W0y]
    . have b1:shP id y=true:=(by simp[shP,q1,q3]);have b2:phP id y=false:=(by simp[phP,q3]);rw[b2]at pc;rw[b1,if_pos rfl]at sc;have pc:Q=P:=pc;subst pc;have hne:¬T=[]:=(by rw[sc];simp);have hTl:T.length=S.length+1:=(by rw[sc];simp);have em:T.map ia=S.map ia++[[.int .i64 y.no]]:=(by rw[sc,W0r];rfl);simp -implicitDefEqProofs[hpt,q1,q3,bb];refine ⟨?_,by omega⟩;simp only[hpU,nlV,nlO,nlN,hne,if_false,hTl,em,cS,cP];simp[cS,cP,Yi,Zd9,frzO,frzA,frz,AV.keys,ia,W0y]
 . intro _;rw[eN];generalize shK id L L.length=S at *;generalize phK id L L.length=P at *
   cases w <;> by_cases cS:S=[] <;> by_cases cP:P=[]
   all_goals
    simp only[hpB,nlV,nlO,cS,cP,if_true,if_false,W05,W1e,W18,W1G];simp -implicitDefEqProofs[Yl,r1K,AV.ren,ZdA,ZhX];refine Qgr ?_;simp -implicitDefEqProofs[Yg,cS,cP,ia];rfl
end Go.Proofs.YtcdlimgkliklhaaGreatDoor
