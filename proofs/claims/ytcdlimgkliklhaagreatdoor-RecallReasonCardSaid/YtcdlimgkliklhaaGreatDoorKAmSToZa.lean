/-
  The abstract machine: a range over a function whose iterator reads what the program's own variables hold.
-/
import Derived.Test.YtcdlimgkliklhaaGreatDoorKEkToTf
import Derived.Shelf.Sort.Plain
set_option linter.all false
set_option maxHeartbeats 8000000
namespace Go.Proofs.YtcdlimgkliklhaaGreatDoor
open Tryz (prog)
open IntKind (i64)
open Go.RowKit
variable {G:Jg}
def IterG (P:Program) (G:Jg) (gf:Nat) (caps els:List AV):Prop :=
 entB P gf=true/\∀ (n l:Nat) (lb:Array Value) (J:Nat->(Nat->Prop)->World->Prop) (K:World->Prop) (M:Nat->Prop) (W:World),2<=n->(∀ k M A B,J k M A->Ext A B->J k M B)->(∀ A B,K A->Ext A B->K B) ->
  (∀ k M A,J k M A->∀ b,M b->b<A.heap.size)->(∀ k M A,J k M A->GR G M A)->CP M W caps lb ->
  (∀ (k:Nat) (x:AV) (u:Value) (M:Nat->Prop) (A:World),J k M A->els[k]? = some x->PV M A x u ->
   YieldAt Fence.wide (n-1) P l #[u] A λe A'=>(e = .returned (.bool true)/\∃ M',J (k+1) M' A'/\Since M A M' A')∨(e = .returned (.bool false)/\K A')) ->
  J 0 M W->CallsIn Fence.wide n P gf (#[.func (.yield l) #[] #[]]++lb) W λe W'=>(∃ v,e = .returned v)/\((∃ M,J els.length M W')∨K W')
def Zfw {n:Nat} {P:Program} {g:Operand} {p:Nat} {assign body:Code} {Q:Exit->Act->World->Prop} {a:Act} {w:World}
  {gf:Nat} {lb:Array Value} {caps els:List AV} (hg:a.eval g = .func (.func gf) #[] lb) {G:Jg} (hit:IterG P G gf caps els) (hn:3<=n)
  (I:Nat->(Nat->Prop)->World->Prop) (K:World->Prop) (M0:Nat->Prop) (hIe:∀ k M A B,I k M A->Ext A B->I k M B) (hKe:∀ A B,K A->Ext A B->K B)
  (hIo:∀ (k l:Nat) (M:Nat->Prop) (W:World) (r r':Loop),w.heap.size<=l->I k M W->W.heap[l]? = some (.loop r)->I k M (W.putObj l (.loop r')))
  (hKo:∀ (l:Nat) (W:World) (r r':Loop),w.heap.size<=l->K W->W.heap[l]? = some (.loop r)->K (W.putObj l (.loop r')))
  (hIM:∀ k M A,I k M A->(∀ b,M b->b<A.heap.size)/\∀ (b:Nat) (o:Obj),w.heap.size<=b->A.heap[b]? = some o->Odd o->¬M b)
  (hIG:∀ k M A,I k M A->GR G M A) (hcaps:CP M0 w caps lb) (h0:I 0 M0 w)
  (hround:∀ (l k m:Nat) (x:AV) (u:Value) (M:Nat->Prop) (W:World) (lr:Loop),w.heap.size<=l->I k M W->W.heap[l]? = some (.loop lr)->els[k]? = some x->PV M W x u ->
   assign.wpIn (FW (some l)) m P (Exit.then (λa1 W1=>(∀ (b:Nat) (o:Obj),W.heap[b]? = some o->Odd o->W1.heap[b]? = some o) /\
     body.wpIn (FW (some l)) m P (λe _ W'=>((∀ (b:Nat) (o:Obj),W.heap[b]? = some o->Odd o->b≠l->W'.heap[b]? = some o)/\W'.heap[l]? = some (.loop { lr with state:=.busy })) /\
      ((e = .normal/\∃ M',I (k+1) M' W'/\W.heap.size<=W'.heap.size/\∀ b,b<W.heap.size->¬M b->¬M' b/\(b≠l->W'.heap[b]? = W.heap[b]?))∨(e = .ret/\K W'))) a1 (W1.putObj l (.loop { lr with state:=.busy }))) (λ_ _ _=>False))
    { tmps:=a.tmps.setIfInBounds p u,defers:=[] } W)
  (hdone:∀ (D:Nat) (M:Nat->Prop) (W:World),w.heap.size<=D->I els.length M W->W.heap[D]? = some (.deferred (some []))->Q .normal { a with defers:=coll D::a.defers } W)
  (hstop:∀ (D:Nat) (W:World),w.heap.size<=D->K W->W.heap[D]? = some (.deferred (some []))->Q .ret { a with defers:=coll D::a.defers } W) :
  (Code.rangeFunc g #[p] assign body).wpIn (FW none) n P Q a w:=by
 refine wpIn_rangeFunc ?_;intro fn hfn;obtain ⟨rec,hrec⟩ : ∃ rec:LoopState->Option Code->Loop,rec=λst pe=>{ state:=st,pending:=pe,fn,tmps:=a.tmps,params:=#[p],assign,body,defers:=w.heap.size }:=⟨_,rfl⟩
 obtain ⟨W1,hW1⟩ : ∃ W1,(w.alloc (.deferred (some []))).alloc (.loop (rec .ready none))=W1:=⟨_,rfl⟩;have hE1:Ext w W1:=by rw[<- hW1];exact (Ext.refl w).al.al
 have hL1:W1.heap[w.heap.size+1]? = some (.loop (rec .ready none)):=by
  rw[<- hW1];have:=World.alloc_heap_new (w.alloc (.deferred (some []))) (.loop (rec .ready none));rwa [World.size_alloc]at this
 have hK1:W1.heap[w.heap.size]? = some (.deferred (some [])):=by
  rw[<- hW1];exact (Below.heap_alloc _ _ _ (by simp)).trans (World.alloc_heap_new w _)
 have hI1:I 0 M0 W1:=hIe _ _ _ _ h0 hE1;have hC1:CP M0 W1 caps lb:=⟨hcaps.1,λi x u hx hu=>(hcaps.2 i x u hx hu).mono (λb hb hM=>⟨hM,hE1.block b hb⟩) hE1.size⟩
 refine ⟨w.heap.size+1,[{ target:=.collected w.heap.size,args:=#[] }],W1,{ target:=.fn (.func gf) lb,args:=#[.func (.yield (w.heap.size+1)) #[] #[]] },W1,gf,
  #[.func (.yield (w.heap.size+1)) #[] #[]]++lb,W1,?_,?_,λ_ _=>trivial,?_,Z24,?_⟩
 . rw[<- hW1,hrec];exact run_enterLoop_outer _ _ _ _ _
 . simp only[resolve,hg];simp[go_sem]
 . simp[invoke,go_sem,Z1W hit.1]
 . have stay : ∀ {A B:World} {b:Nat} {o:Obj},Ext A B->A.heap[b]? = some o->B.heap[b]? = some o:=λh hb=>(h.block _ (W0c.1 hb).1).trans hb
   refine (hit.2 (n-1) (w.heap.size+1) lb
    (λk M W=>I k M W/\W.heap[w.heap.size+1]? = some (.loop (rec .ready none))/\W.heap[w.heap.size]? = some (.deferred (some [])))
    (λW=>K W/\W.heap[w.heap.size+1]? = some (.loop (rec .done (some .ret)))/\W.heap[w.heap.size]? = some (.deferred (some [])))
    M0 W1 (by omega) (λk M A B h e=>⟨hIe k M A B h.1 e,stay e h.2.1,stay e h.2.2⟩) (λA B h e=>⟨hKe A B h.1 e,stay e h.2.1,stay e h.2.2⟩) (λk M A h=>(hIM k M A h.1).1) (λk M A h=>hIG k M A h.1) hC1 ?_ ⟨hI1,hL1,hK1⟩).mono ?_
   . rintro k x u M W ⟨hi,hl,hk⟩ hr hus;have hls:w.heap.size+1<W.heap.size:=(W0c.1 hl).1;have hy:=run_yield (P:=P) (args:=#[u]) hl (by rw[hrec];rfl);rw[hrec]at hy
     have hfold:(#[p].zip #[u]).foldl (λt (x:Nat×Value)=>match x with|(p,v)=>t.setIfInBounds p v) a.tmps=a.tmps.setIfInBounds p u:=by
      rw[<- Array.foldl_toList,Array.toList_zip];rfl
     have hy:(Instr.yield (w.heap.size+1) #[u]).run P W = .ok (.round (w.heap.size+1) fn (a.tmps.setIfInBounds p u) assign body) W:=(by rw[<- hfold];exact hy);refine ⟨fn,_,assign,body,hy,roundIn_of_wpIn hfn (wpIn_mono (hround (w.heap.size+1) k _ x u M W _ (by omega) hi hl hr hus) ?_)⟩;rintro e a1 W2 hp
     cases e with
     | normal =>
       obtain ⟨hodd0,hp⟩:=hp;have hl2:=hodd0 _ _ hl trivial;have hk2:=hodd0 _ _ hk trivial;have hls2:w.heap.size+1<W2.heap.size:=(W0c.1 hl2).1;refine ⟨_,run_beginRound hl2 (by rw[hrec]),wpIn_mono hp ?_⟩;rintro e a3 W3 ⟨⟨hodd,hl3⟩,hp3⟩;have hd3:=hodd _ _ hk trivial (by omega);have hls3:=(W0c.1 hl3).1
       have fin:∀ jump:Option Code,(W3.putObj (w.heap.size+1) (.loop (rec (if jump.isNone then .ready else .done) jump))).heap[w.heap.size+1]? = some (.loop (rec (if jump.isNone then .ready else .done) jump)) /\
         (W3.putObj (w.heap.size+1) (.loop (rec (if jump.isNone then .ready else .done) jump))).heap[w.heap.size]? = some (.deferred (some [])):=λjump =>
        ⟨World.putObj_heap_same hls3,(World.putObj_heap_other (by omega)).trans hd3⟩
       rcases hp3 with ⟨rfl,M',hi3,hsz3,hs3⟩ | ⟨rfl,hk3⟩
       . have hr3:=run_endRound (P:=P) none hl3;have f1:=fin none;rw[hrec]at hr3 f1;refine ⟨_,_,hr3,.inl ⟨rfl,M',⟨hIo _ _ _ _ _ _ (by omega) hi3 hl3,?_,f1.2⟩,by simpa using hsz3,λb hb hM=>⟨(hs3 b hb hM).1,?_⟩⟩⟩
         . rw[hrec];exact f1.1
         . by_cases e:b=w.heap.size+1
           . subst e;rw[hl,hrec];exact f1.1
           . rw[World.putObj_heap_other e];exact (hs3 b hb hM).2 e
       . have hr3:=run_endRound (P:=P) (some .ret) hl3;have f1:=fin (some .ret);rw[hrec]at hr3 f1;refine ⟨_,_,hr3,.inr ⟨rfl,hKo _ _ _ _ (by omega) hk3 hl3,?_,f1.2⟩⟩;rw[hrec];exact f1.1
     |_=>exact hp.elim
   . rintro e W2 ⟨⟨v,rfl⟩,⟨M,hi,hl,hk⟩ | ⟨hi,hl,hk⟩⟩
     . exact ⟨none,_,by have:=run_endLoop (P:=P) hl (by rw[hrec];simp);rw[hrec]at this;exact this,hdone _ M _ (W0f _) (hIo _ _ _ _ _ _ (by omega) hi hl) ((World.putObj_heap_other (by omega)).trans hk)⟩
     . exact ⟨some .ret,_,by have:=run_endLoop (P:=P) hl (by rw[hrec];simp);rw[hrec]at this;exact this,wpIn_ret (hstop _ _ (W0f _) (hKo _ _ _ _ (by omega) hi hl) ((World.putObj_heap_other (by omega)).trans hk))⟩
section
variable {P:Program} {R:Run} {st:St} {a:Act} {W:World} {κ:Nat->Option (Nat×Nat)}
def Zfx {g:RA} {p gf:Nat} {assign body:RCode} {Φ:Exit->St->Prop} {caps els:List AV} (hrd:R.Top) (hit:IterG P R.G gf caps els) (hg:evA R.G st g = .func (.func gf) [] caps) (hp:caps.all AV.pure=true)
  (ρ:Nat->Nat) (t0:List (Nat×AV)) (objs:Nat->List (Nat×AObj)) (keys:List Nat) (Iv:Nat->Prop) (hI0:Iv 0) (hkeys:∀ k,(objs k).map (·.1)=keys) (hK:∀ k∈keys,1000<=k) (hinj:(keys.map ρ).Nodup)
  (h0:Yl ρ (objs 0) st=st) (hin:∀ k,∀ q∈objs k,Yc (objs k) q.2=true)
  (ht0:∀ q∈t0,lk st.t q.1=some (q.2.ren ρ)/\q.1≠p/\∀ k∈q.2.keys,k∈keys)
  (hround:∀ (k:Nat) (x:AV),els[k]? = some x->Iv k->∀ R':Run,R'.G=R.G->R'.N=R.N->AR P R' assign ⟨(p,x)::t0,objs k⟩ λe s1=>e = .normal/\∀ R'':Run,R''.G=R.G->R''.N=R.N ->
   AR P R'' body s1 (RndB (λo=>o=objs (k+1)/\Iv (k+1)) λo=>o.map (·.1)=keys/\Φ .ret (Yl ρ o st)))
  (hdone:Iv els.length->Φ .normal (Yl ρ (objs els.length) st)):AR P R (.rngf g [p] assign body) st Φ:=by
 intro c hc m a W hs
 cases c <;> simp only[Z1A,W05,W01,W0A]at hc
 rename_i g' ps' ca cb;obtain ⟨⟨⟨⟨hcg,hps⟩,hpn⟩,hca⟩,hcb⟩:=hc;have hpn:p<R.N:=(by simpa using hpn);obtain rfl:ps' = #[p]:=(by rw[<- W16];exact hps);rw[hrd.1];refine wpFW.2 ((wpFW (n:=3)).1 ?_);obtain ⟨κ0,hs⟩:=hs;obtain ⟨S,hS⟩ : ∃ S:Nat->St,S=λk=>Yl ρ (objs k) st:=⟨_,rfl⟩
 have hSt:∀ k,(S k).t=st.t:=λk=>by rw[hS];exact Z52 ρ _ _
 have nod:∀ {o:List (Nat×AObj)},o.map (·.1)=keys->(o.map λp=>ρ p.1).Nodup:=λ{o} ho=>by
  have:o.map (λp=>ρ p.1)=(o.map (·.1)).map ρ:=(by simp[W10,W0y]);rw[this,ho];exact hinj
 have isk:∀ {o:List (Nat×AObj)},o.map (·.1)=keys->∀ k,isK o k=true↔k∈keys:=λ{o} ho k=>by rw[isK,Z55,ho]
 have hevg:∀ k,evA R.G (S k) g = .func (.func gf) [] caps:=λk=>by
  rw[<- hg]
  cases g <;> simp only[evA,St.tmp,hSt]
 have hv0:=hs.ev hcg;rw[hg]at hv0;obtain ⟨us0,lb,hav,hus0,hlb0⟩:=hv0.func_inv
 obtain rfl:us0 = #[]:=by
  have:=hus0.1;rw[<- W16];exact W0l.1 (by simpa using this)
 have hcaps:∀ k W κ,SK R (S k) a W κ->CP ((S k).env R.M κ).M W caps lb:=λk W κ h=>by
  have h1:=h.ev hcg;rw[hevg,hav]at h1;obtain ⟨us1,lb1,h2,-,h3⟩:=h1.func_inv;simp only[Value.func.injEq]at h2;obtain ⟨-,-,rfl⟩:=h2;exact ⟨by simpa using h3.1,λi x u hx hu=>(h3.2 i x u hx (by simpa using hu)).toPV (W03.1 hp x (W0d hx))⟩
 obtain ⟨cs0,e0,nd0,hc0,-⟩:=hs.defers
 have marks:∀ (D:Nat) (st1:St) (W1:World) (κ1:Nat->Option (Nat×Nat)),W.heap.size<=D->SK R st1 a W1 κ1->W1.heap[D]? = some (.deferred (some []))->SK R st1 { a with defers:=coll D::a.defers } W1 κ1:=λD st1 W1 κ1 hD h hd=>by
  obtain ⟨cs1,e1,nd1,hc1,-⟩:=h.defers;obtain rfl:cs1=cs0:=Z58 (List.append_cancel_right (e1.symm.trans e0));refine h.odd ⟨rfl,λb=>.inl rfl⟩ rfl rfl rfl (λb _=>rfl) rfl ⟨D::cs1,by simp[e1],W1z.2 ⟨λhm=>?_,nd1⟩,λc hm=>?_,λe=>by rw[hrd.2]at e;cases e⟩
  . have:=(W0c.1 (hc0 D hm).2).1;omega
  . rcases W0g.1 hm with rfl|hm
    . exact ⟨W0O hs.kp.size hD,hd⟩
    . exact hc1 c hm
 have put:∀ (l:Nat) (st1:St) (W1:World) (κ1:Nat->Option (Nat×Nat)) (r r':Loop),W.heap.size<=l->SK R st1 a W1 κ1->W1.heap[l]? = some (.loop r)->SK R st1 a (W1.putObj l (.loop r')) κ1:=λl st1 W1 κ1 r r' hl h hr=>by
  obtain ⟨cs1,e1,nd1,hc1,hz1⟩:=h.defers;have:=hs.kp.size;refine h.odd (.put hr trivial) rfl rfl rfl (λb hb=>World.putObj_heap_other (by omega)) rfl ⟨cs1,e1,nd1,λc hm=>⟨(hc1 c hm).1,?_⟩,hz1⟩;rw[World.putObj_heap_other (by rintro rfl;have:=(hc1 _ hm).2;rw[hr]at this;cases this)];exact (hc1 c hm).2
 have hs0:SK R (S 0) a W κ0:=by rw[hS];show SK R (Yl ρ (objs 0) st) a W κ0;rw[h0];exact hs
 refine Zfw (I:=λk M W'=>∃ κ,(M=((S k).env R.M κ).M/\Iv k)/\SK R (S k) a W' κ) (K:=λW'=>∃ s κ,Φ .ret s/\SK R s a W' κ) (M0:=((S 0).env R.M κ0).M) (caps:=caps) (els:=els) hav hit (by omega) (λk M A B h e=>h.imp λκ h=>⟨h.1,h.2.grow e⟩) (λA B ⟨s,κ,h1,h2⟩ e=>⟨s,κ,h1,h2.grow e⟩)
  (λk l M W' r r' hl ⟨κ,hM,h⟩ hr=>⟨κ,hM,put l _ _ _ r r' hl h hr⟩) (λl W' r r' hl ⟨s,κ,h1,h⟩ hr=>⟨s,κ,h1,put l _ _ _ r r' hl h hr⟩) (λk M A ⟨κ,⟨hM,_⟩,h⟩=>?_) (λk M A ⟨κ,⟨hM,_⟩,h⟩=>hM ▸ h.gr) (hcaps 0 W κ0 hs0) ⟨κ0,⟨rfl,hI0⟩,hs0⟩ ?_ ?_ ?_
 . subst hM;refine ⟨λb hb=>h.owned_lt hb,λb o hb ho hodd hM=>?_⟩;rcases hM with hM | ⟨q,s,hq⟩
   . have:=h.low b hM;have:=hs.kp.size;omega
   . exact h.notOdd hq ho hodd
 . intro l k m x u M W1 lr hl hI hlr hx hxu;obtain ⟨κ,⟨rfl,hIk⟩,h⟩:=hI;have hkk:∀ q,isK (objs k) q=true->q∈keys:=λq hq=>(isk (hkeys k) q).1 hq
   have enterAt:∀ W',SK R (S k) a W' κ->SK (rC (objs k) ρ R (S k) κ W') (obSt (objs k)) noAct W' (kC (objs k) ρ κ)/\∀ (x:AV) (v:Value),inK (objs k) x->VR ((S k).env R.M κ) W' (x.ren ρ) v->VR ((obSt (objs k)).env (mC (objs k) ρ R (S k) κ) (kC (objs k) ρ κ)) W' x v:=λW' h =>
    Z4Z h (λq hq=>hK q (hkk q hq)) (λq q' h1 h2 e=>Z56 hinj (hkk q h1) (hkk q' h2) e) (λq o hq=>by rw[hS];exact Z54 ρ _ _ q o (nod (hkeys k)) hq)
     (λq o hq=>by
      have h2:=hin k (q,o) (Z4J hq);have kept:∀ x,Ya (objs k) x=true->inK (objs k) x:=λx hx k' hk'=>W03.1 hx k' hk'
      cases o with
      |box cells=>exact λx hx=>kept x (W03.1 h2 x hx)
      |row sz rows=>exact λr hr x hx=>kept x (W03.1 (W03.1 h2 r hr) x hx)
      | mp kvs =>
        intro p hp;have:=W03.1 h2 p hp;simp only[W01]at this;exact ⟨kept _ this.1,kept _ this.2⟩)
   obtain ⟨h1,conv⟩:=enterAt W1 h
   have hXo:∀ W',SK R (S k) a W' κ->∀ b,(rC (objs k) ρ R (S k) κ W').X b->∀ o,W'.heap[b]? = some o->¬Odd o:=λW' h b ⟨q,s,hq⟩ o ho hodd=>by
    simp only[kC]at hq
    split at hq
    . exact h.notOdd hq ho hodd
    . cases hq
   have hMM:∀ b,((obSt (objs k)).env (mC (objs k) ρ R (S k) κ) (kC (objs k) ρ κ)).M b->((S k).env R.M κ).M b:=λb hb=>by
    rcases hb with hb | ⟨q,s,hq⟩
    . exact hb.1
    . simp only[kC]at hq
      split at hq
      . exact .inr ⟨ρ q,s,hq⟩
      . cases hq
   let R1:Run:={ rC (objs k) ρ R (S k) κ W1 with N:=R.N,rd:=some l }
   have hN:R.N=a.tmps.size:=h.size.symm
   have start:SK R1 ⟨(p,x)::t0,objs k⟩ { tmps:=a.tmps.setIfInBounds p u,defers:=[] } W1 (kC (objs k) ρ κ):=by
    refine ⟨.nil _ _ _ _,by show (a.tmps.setIfInBounds p u).size=R.N;simp[hN],λn y hy=>?_,h1.obj,h1.dom,h1.inj,h1.low,h1.apart,h1.kp,h1.gr,h1.mono,h1.ent⟩;have hy:lk ((p,x)::t0) n=some y:=hy;show VR ((obSt (objs k)).env (mC (objs k) ρ R (S k) κ) (kC (objs k) ρ κ)) W1 y ((a.tmps.setIfInBounds p u).getD n Go.undef);simp only[lk]at hy
    split at hy
    . rename_i e;subst e;obtain rfl:x=y:=(by simpa using hy);have hlt:p<a.tmps.size:=(by rw[<- hN];exact hpn);have e:(a.tmps.setIfInBounds p u).getD p Go.undef=u:=(by simp[Array.getD,hlt]);rw[e];exact .pv (hxu.mono (λb _ hb=>⟨λhb'=>hb (hMM b hb'),rfl⟩) (W0f _))
    . rename_i e
      have e2:(a.tmps.setIfInBounds p u).getD n Go.undef=a.tmps.getD n Go.undef:=by
       simp only[W0a,W0p,if_neg e]
      rw[e2];obtain ⟨g1,g2,g3⟩:=ht0 (n,y) (Z4J hy);have g4:=h.tm n (y.ren ρ) (by show lk (S k).t n=_;rw[hSt];exact g1);exact conv y _ (λq hq=>(isk (hkeys k) q).2 (g3 q hq)) g4
   refine wpIn_mono (hround k x hx hIk R1 rfl rfl ca hca m _ W1 ⟨_,start⟩) ?_;rintro e a1 W2 ⟨s1,⟨rfl,hbody⟩,κ1,h2⟩;refine ⟨λb o hb ho=>h2.keepOdd (hXo W1 h) hb ho,?_⟩;have hl2:W2.heap[l]? = some (.loop lr):=h2.keepOdd (hXo W1 h) hlr trivial;have h3:=SK.both rfl h2 (o':=.loop { lr with state:=.busy }) hl2 hlr;have hb:=put l _ W1 κ lr { lr with state:=.busy } hl h hlr;refine wpIn_mono (hbody { R1 with W0:=W1.putObj l (.loop { lr with state:=.busy }) } rfl rfl cb hcb m _ _ ⟨_,h3⟩) ?_;rintro e a2 W3 ⟨s2,hrnd,hs2⟩
   have hodd:∀ κ2,SK { R1 with W0:=W1.putObj l (.loop { lr with state:=.busy }) } s2 a2 W3 κ2->(∀ (b:Nat) (o:Obj),W1.heap[b]? = some o->Odd o->b≠l->W3.heap[b]? = some o)/\W3.heap[l]? = some (.loop { lr with state:=.busy }):=λκ2 h4 =>
    ⟨λb o hb1 ho hne=>h4.keepOdd (hXo _ hb) ((World.putObj_heap_other hne).trans hb1) ho,
     h4.keepOdd (hXo _ hb) (o:=.loop { lr with state:=.busy }) (World.putObj_heap_same (W0c.1 hlr).1) trivial⟩
   have leave:∀ o':List (Nat×AObj),o'.map (·.1)=keys->(Yi newK s2).o=o'->∃ κ3,SK R (Yl ρ o' st) a W3 κ3/\Mono ((S k).env R.M κ) (W1.putObj l (.loop { lr with state:=.busy })) ((Yl ρ o' st).env R.M κ3) W3:=λo' hk' he=>by
    obtain ⟨κ2,h4⟩:=Ym.frz newK s2 (λk hk=>by simp[newK];omega) _ a2 W3 hs2;have g:=h4.sub (t':=[]) (λn x hx=>by simp[lk]at hx);have e:({ Yi newK s2 with t:=[] }:St)=obSt o':=(by subst he;rfl);rw[e]at g
    have g2:SK (rC (objs k) ρ R (S k) κ (W1.putObj l (.loop { lr with state:=.busy }))) (obSt o') noAct W3 κ2 :=
     ⟨.nil _ _ _ _,rfl,λn x hx=>by simp[obSt,St.tmp,lk]at hx,g.obj,g.dom,g.inj,g.low,g.apart,g.kp,g.gr,g.mono,g.ent⟩
    obtain ⟨κ3,h5,h6,-⟩:=Z50 hb (st1:=Yl ρ o' st) (λq q' h1 h2 e=>Z56 hinj (hkk q h1) (hkk q' h2) e) (λq o hq=>by rw[hS];exact Z54 ρ _ _ q o (nod (hkeys k)) hq)
     (λq=>by
      have h1:=isk hk' q;have h2:=isk (hkeys k) q
      cases e1:isK o' q <;> cases e2:isK (objs k) q <;> simp_all) g2 ((Z52 ρ _ _).trans (hSt k).symm) (λq o hq=>Z54 ρ _ _ q o (nod hk') hq)
     (λj hj=>by
      have out:∀ {o:List (Nat×AObj)},o.map (·.1)=keys->(Yl ρ o st).get j=st.get j:=λ{o} ho=>Z53 ρ j _ _ λq hq=>hj q.1 ((isk (hkeys k) q.1).2 (by rw[<- ho];exact W0i.2 ⟨q,hq,rfl⟩))
      rw[hS];exact (out hk').trans (out (hkeys k)).symm)
    exact ⟨κ3,h5,h6⟩
   obtain ⟨κ2,h4⟩:=id hs2;refine ⟨hodd κ2 h4,?_⟩
   cases e with
   | normal =>
     obtain ⟨κ3,h5,h6⟩:=leave (objs (k+1)) (hkeys _) hrnd.1;refine .inl ⟨rfl,_,⟨κ3,⟨rfl,hrnd.2⟩,by rw[hS];exact h5⟩,by have:=h6.size;simpa using this,λb hb1 hM=>?_⟩;obtain ⟨g1,g2⟩:=h6.imm b (by simpa using hb1) hM;exact ⟨by rw[hS];exact g1,λhne=>g2.trans (World.putObj_heap_other hne)⟩
   | ret =>
     obtain ⟨hk',hΦ⟩:=hrnd;obtain ⟨κ3,h5,-⟩:=leave _ hk' rfl;exact .inr ⟨rfl,_,κ3,hΦ,h5⟩
   |_=>exact hrnd.elim
 . rintro D M W1 hD ⟨κ,⟨-,hIk⟩,h⟩ hd;refine ⟨_,?_,κ,marks D _ _ _ hD h hd⟩;rw[hS];exact hdone hIk
 . rintro D W1 hD ⟨s,κ,h1,h⟩ hd;exact ⟨s,h1,κ,marks D _ _ _ hD h hd⟩
end
def Zfy (ρ:Nat->Nat) (xs:List AV):(AObj.box xs).ren ρ = .box (xs.map (AV.ren ρ)):=rfl
def Zfz (G:Jg) (M:Nat->Prop) (W:World) (N:Nat) (rd:Option Nat):Run :=
 { G:=G,M:=M,X:=λ_=>False,W0:=W,N:=N,E0:={ M:=M,loc:=λ_=>none,row:=λ_=>none },rd:=rd,nm:=true }
def ZfA {G:Jg} {M:Nat->Prop} {W:World} {N:Nat} {rd:Option Nat} {t:List (Nat×AV)} {a:Act} (hgr:GR G M W) (hM:∀ b,M b->b<W.heap.size) (hd:a.defers=[]) (hN:a.tmps.size=N) (ht:TT' M W t a):SR (Zfz G M W N rd) ⟨t,[]⟩ a W:=by
 have hGM:∀ b,b<W.heap.size->¬M b->¬((⟨t,[]⟩ : St).env M (λ_=>none)).M b/\W.heap[b]? = W.heap[b]?:=λb _ h1=>⟨(by rintro (h2 | ⟨k,s,h2⟩) <;> first|exact h1 h2|cases h2),rfl⟩
 refine ⟨λ_=>none,⟨[],by simp[hd,Zfz],.nil,by simp,λ_=>rfl⟩,hN,λn x hx=>.pv ((ht n x hx).mono hGM (W0f _)),(λk o ho=>by simp[St.get,lk]at ho),(λk p hk=>by cases hk),(λk k' b s s' hk=>by cases hk),hM,λ_ _ h=>h,Kp.refl _ _,(hgr.mono hGM (W0f _)),⟨W0f _,hGM,λk p hk=>(by cases hk),λk sz m hk=>(by cases hk)⟩,λ_ _=>⟨rfl,rfl⟩⟩
def endG {G:Jg} {M:Nat->Prop} {W W':World} {N:Nat} {rd:Option Nat} {st:St} {a:Act} (h:SR (Zfz G M W N rd) st a W') {t:List (Nat×AV)} (hw:Ym st ⟨t,[]⟩) (hp:∀ q∈t,q.2.pure=true) :
  a.defers=[]/\a.tmps.size=N/\TT' M W' t a/\Ext W W':=by
 obtain ⟨κ,hk⟩:=hw _ _ _ h;obtain ⟨cs,e,-,-,hz⟩:=hk.defers
 have hκ:∀ k,κ k=none:=λk=>by
  cases e:κ k with
  |none=>rfl
  |some p=>obtain ⟨o,ho⟩:=hk.dom k p e;simp[St.get,lk]at ho
 refine ⟨by rw[e,hz rfl];rfl,hk.size,λn x hx=>?_,⟨hk.kp.os,hk.kp.tape,hk.kp.output,hk.kp.size,λi hi=>hk.kp.block i hi (λh=>h)⟩⟩;refine ((hk.tm n x hx).toPV (hp (n,x) (Z4J hx))).mono (λb _ hb=>⟨λh=>hb (.inl h),rfl⟩) (W0f _)
def sbN (U:List Int) (v:Nat):Nat->List Int
 |0=>[]
 |i+1=>if v / 2 ^ i % 2=1 then sbN U v i++[U.getD i 0] else sbN U v i
def sbT (U:List Int) (v:Nat):List Int:=sbN U v U.length
def ZfB (U:List Int) (v:Nat):∀ i,(sbN U v i).length<=i
 |0=>W0f _
 | i+1=>by
   have:=ZfB U v i;rw[sbN];split
   . simp;omega
   . omega
def ZfC {U:List Int} {v:Nat}:∀ i,i<=U.length->(sbN U v i).Sublist (U.take i)
 |0,_=>by simp[sbN]
 | i + 1,h=>by
   have hi:i<U.length:=h;have ih:=ZfC (U:=U) (v:=v) i (by omega);rw[sbN,W08 hi]
   split
   . have e:U.getD i 0=U[i]:=(by simp[W0j,hi]);rw[e];exact ih.append (List.Sublist.refl _)
   . exact ih.trans (List.sublist_append_left _ _)
def ZfD (U:List Int) (v:Nat):(sbT U v).Sublist U:=by
 have:=ZfC (v:=v) U.length (W0f _)
 rwa [W0v]at this
def ZfE {l:Jl} {s:List Int} (h1:s.Pairwise λx y=>x<y) (h2:∀ n∈s,n∈opU l):truB l s=true:=by
 rw[Zew];intro j hj;have e:∀ k,k<s.length->∃ h:k<s.length,s.getD k 0=s[k]:=λk h=>⟨h,by simp[W0j,h]⟩
 obtain ⟨q1,e1⟩:=e j hj;rw[e1];refine ⟨h2 _ (W0e q1),λhp=>?_⟩;obtain ⟨q2,e2⟩:=e (j-1) (by omega);rw[e2];exact W0Y.1 h1 (j-1) j q2 q1 (by omega)
def ZfF (l:Jl):∀ i,i<=l.length->((opI l i).map λj=>(nAt l j).nu).Perm ((opN l i).map (·.nu))
 |0,_=>by simp[opI,opN]
 | i + 1,h=>by
   have ih:=ZfF l i (by omega);have hi:i<l.length:=(by omega);have e:=Zbf hi;have ea:=Zbe hi;rw[e];unfold opI;rw[ea];by_cases c:l[i].sg=1
   . rw[if_pos c,if_pos c];have:=(Zco (λj=>(nAt l j).nu) (opI l i) i).map λj=>(nAt l j).nu
     refine this.trans ?_;rw[W0F,W0r,W0F,W1d,ea];exact (List.Perm.cons _ ih).trans (List.perm_append_singleton _ _).symm
   . rw[if_neg c,if_neg c];exact ih
def opQ (l:Jl):List Int:=sortI (opU l)
def ZfG (l:Jl):nuI l=opQ l:=by
 refine (Zbq (ZfF l l.length (W0f _)) ?_).symm;have:=Zcr l l.length;exact W2o.2 this
def ZfH {r:Jr} {l:Jl} (h:Zbh r l=true):(opQ l).Pairwise λx y=>x<y:=by
 have h1:=Zbo (opU l);have h2:(opQ l).Nodup:=(Zbn (opU l)).nodup_iff.2 (Zf4 h).1;refine (h1.and (List.nodup_iff_pairwise_ne.1 h2)).imp ?_;rintro a b ⟨p,q⟩;omega
def ZfI {r:Jr} {l:Jl} (h:Zbh r l=true) (v:Nat):truB l (sbT (opQ l) v)=true :=
 ZfE ((ZfH h).sublist (ZfD _ v)) λn hn=>Zbs.1 ((ZfD _ v).subset hn)
def ZfJ {r:Jr} {l:Jl} (h:Zbh r l=true):(opQ l).length<=5:=by
 simp only[Zbh,W01,W0b]at h;rw[opQ,Zbr,opU,W0N];exact h.2
def bitU {v i:Nat} (h:v<64) (hi:i<6):i64.wrap ((((v:Int).fdiv (2 ^ (min i IntKind.i64.bits)) % 2 ^ IntKind.i64.bits).toNat &&& (1 % 2 ^ IntKind.i64.bits):Nat):Int)=if v / 2 ^ i % 2=1 then 1 else 0:=by
 have h1:∀ n:_root_.Fin 64,∀ k:_root_.Fin 6,i64.wrap ((((n.val:Int).fdiv (2 ^ (min k.val IntKind.i64.bits)) % 2 ^ IntKind.i64.bits).toNat &&& (1 % 2 ^ IntKind.i64.bits):Nat):Int)=if n.val / 2 ^ k.val % 2=1 then 1 else 0:=by decide +kernel
 exact h1 ⟨v,h⟩ ⟨i,hi⟩
def shU {n:Nat} (h:n<6):i64.wrap (2 ^ (min n IntKind.i64.bits))=((2 ^ n:Nat):Int):=by
 have h1:∀ k:_root_.Fin 6,i64.wrap (2 ^ (min k.val IntKind.i64.bits))=((2 ^ k.val:Nat):Int):=(by decide +kernel);exact h1 ⟨n,h⟩
def pow5 {n:Nat} (h:n<=5):2 ^ n<=32:=by
 have:n=0∨n=1∨n=2∨n=3∨n=4∨n=5:=(by omega);rcases this with rfl|rfl|rfl|rfl|rfl|rfl <;> decide
def PC.out {P:Program} {G:Jg} {f:FuncId} {xs:List AV} {v w:AV} (h:PC P G f xs v) (hs:Nsub v w):PC P G f xs w :=
 ⟨h.1,λM W vs a b c d=>(h.2 M W vs a b c d).mono λ_ _ ⟨u,h1,h2,h3⟩=>⟨u,h1,hs _ _ _ h2,h3⟩⟩
def trR (U:List Int) (v:Nat):List AV:=[.vsl ((sbT U v).map ia)]
def trK (U:List Int) (v:Nat):List (List AV):=(List.range v).map (trR U)
def ZfK (U:List Int) (v:Nat):trK U (v+1)=trK U v++[[.vsl ((sbT U v).map ia)]]:=by simp[trK,trR,W1y]
def ZfL (U:List Int) (v:Nat):(trK U v).length=v:=by simp[trK]
def ZfM (o:List (Nat×AObj)) (U:List Int) (v:Nat):Yc o (.row 1 (trK U v))=true:=by
 simp only[Yc,W03,trK,W0i];rintro x ⟨y,-,rfl⟩ w hw;simp only[trR,W0B]at hw;subst hw;simp[Ya,AV.keys]
def ZfN (U:List Int) (v:Nat):(trK U v).all (λr=>r.all AV.pure)=true:=by simp[trK,trR,AV.pure,ia]
def ZfO (ok:Nat->Bool) (st:St) (U:List Int) (v:Nat):(trK U v).map (λr=>r.map (frzA ok st))=trK U v:=by
 simp only[trK,W10]
 congr 1
 funext w;simp[trR,frzA,frz,AV.keys]
def iaM (l:List Int):List (List AV):=l.map ia
def ZfP (l:List Int) (x:Int):iaM (l++[x])=iaM l++[[.int .i64 x]]:=by simp[iaM,ia]
def ZfQ (l:List Int):(iaM l).length=l.length:=W0N _
def ZfR (o:List (Nat×AObj)) (l:List Int):Yc o (.row 1 (iaM l))=true:=Zee o l
def ZfS (l:List Int):(iaM l).all (λr=>r.all AV.pure)=true:=by simp[iaM,ia,AV.pure]
def thT (V:AV) (v:Nat):List (Nat×AV):=[(5,.int .i64 v),(3,V),(1,.ptr 1 0)]
def thO (r:Jr) (l:Jl) (v:Nat):List (Nat×AObj):=if v=0 then [(1,.box [.vsl (r.map isa),.vsl (l.map na)])] else [(44,.row 1 (trK (opQ l) v)),(1,.box [.vsl (r.map isa),.vsl (l.map na)])]
def thL (v:Nat):AV:=if v=0 then .nils else .osl 44 v
def thS (r:Jr) (l:Jl) (V:AV) (v:Nat):St:=⟨(4,thL v)::thT V v,thO r l v⟩
def thI (r:Jr) (l:Jl) (V:AV) (v i:Nat):St:=⟨(7,.int .i64 i)::(6,.osl 17 (sbN (opQ l) v i).length)::(4,thL v)::thT V v,(17,.row 1 (iaM (sbN (opQ l) v i)))::thO r l v⟩
def ZfT (U:List Int) (v i:Nat):sbN U v (i+1)=if v / 2 ^ i % 2=1 then sbN U v i++[U.getD i 0] else sbN U v i:=rfl
def ZfU (r:Jr) (l:Jl) (h:Zbh r l=true):PC prog G 62 [.agg [.vsl (r.map isa),.vsl (l.map na)]] (.vsl (trK (opQ l) (2 ^ (opQ l).length))):=by
 have h12:=Zfk h;have h5:=ZfJ h;have hO:=Zfg (G:=G) r l h12;have hp5:=pow5 h5;have eU:=ZfG l;have lU:(opQ l).length=(opI l l.length).length:=(by rw[<- eU,Zfh]);have hlt:=Zcp l l.length;have sh:=shU (n:=(opQ l).length) (by omega);rw[lU]at sh hp5 h5 ⊢
 have eget:∀ i (hi:i<(opI l l.length).length),(opQ l).getD i 0=(nAt l (opI l l.length)[i]).nu:=λi hi=>by
  rw[<- eU,nuI,W0j,W09,W07 hi];rfl
 have eT:∀ v,sbT (opQ l) v=sbN (opQ l) v (opI l l.length).length:=λv=>by rw[sbT,lU]
 have hpos:0<2 ^ (opI l l.length).length:=Nat.pos_of_ne_zero (by simp);generalize hI:opI l l.length=I at *;have hO:=PC.out hO (.orNil _);generalize hKe:2 ^ I.length=K at *
 (refine Zfd rfl λR hG hrd=>Qga ?_;subst hG)
 simp -implicitDefEqProofs[Zfb,Zfc];refine Qco (hO) ?_;simp -implicitDefEqProofs;refine Z8p (thS r l (.vsl (I.map ja))) (λ_=>True) K ?_ trivial ?_ ?_
 . simp only[thS,thT,thL,thO,if_true]
   ((try simp only[ja]);refine Ym.sub (by simp[lk,Ya,AV.keys,ja]) ?_;simp only[ja,Wkl,and_true];(try simp[lk,Yc,Ya,AV.keys,ja]))
 . intro v hv _;have wv:i64.wrap ((v:Int)+1)=(v:Int)+1:=Yf;have tk:=ZfK (opQ l) v;have tln:=ZfL (opQ l) v;have eTv:=eT v;have hT1:thL (v+1) = .osl 44 (v+1):=rfl;have hO1:thO r l (v+1)=[(44,.row 1 (trK (opQ l) (v+1))),(1,.box [.vsl (r.map isa),.vsl (l.map na)])]:=rfl;refine Qga ?_;by_cases v0:v=0
   case' pos =>
    have hT:thL v = .nils:=(by simp[thL,v0]);have hO:thO r l v=[(1,.box [.vsl (r.map isa),.vsl (l.map na)])]:=(by simp[thO,v0]);have tk0:trK (opQ l) v=[]:=(by rw[v0];rfl);rw[tk0,W18]at tk;simp -implicitDefEqProofs[thS,thT,hT,hO,sh,hv]
   case' neg =>
    have hT:thL v = .osl 44 v:=(by simp[thL,v0]);have hO:thO r l v=[(44,.row 1 (trK (opQ l) v)),(1,.box [.vsl (r.map isa),.vsl (l.map na)])]:=(by simp[thO,v0]);simp -implicitDefEqProofs[thS,thT,hT,hO,sh,hv]
   all_goals
    refine Z8p (thI r l (.vsl (I.map ja)) v) (λ_=>True) I.length ?_ trivial ?_ ?_
    . have e0:sbN (opQ l) v 0=[]:=rfl;have e1:iaM []=[]:=rfl;simp only[thI,thT,hT,hO,e0,e1]
      ((try simp only[ja]);refine Ym.sub (by simp[lk,Ya,AV.keys,ja]) ?_;simp only[ja,Wkl,ZfM,and_true];(try simp[lk,Yc,Ya,AV.keys,ja]))
    . intro i hi _;have wi:i64.wrap ((i:Int)+1)=(i:Int)+1:=Yf;have bU:=bitU (v:=v) (i:=i) (by omega) (by omega);have sn:=ZfT (opQ l) v i;rw[eget i hi]at sn;have sl:=ZfB (opQ l) v i;obtain ⟨hj,-⟩:=hlt I[i] (W0e hi);have hna:=Zbe hj;have hnx:na l[I[i]]=[.int .i64 l[I[i]].nu,.int .i64 l[I[i]].dy,.int .u8 l[I[i]].sg,.int .i64 l[I[i]].dr,.int .i64 l[I[i]].lt,.int .i64 l[I[i]].fr,.int .i64 l[I[i]].tu,.int .i64 l[I[i]].ca,.bool l[I[i]].up,.int .u8 l[I[i]].wy]:=rfl;have bb:((sbN (opQ l) v i).length+1)*8<=70368744177664:=(by omega);have lnm:=ZfQ (sbN (opQ l) v i);have em:=ZfP (sbN (opQ l) v i) l[I[i]].nu;rw[hna]at sn;refine Qga ?_;by_cases cb:v / 2 ^ i % 2=1
      . rw[if_pos cb]at sn bU;simp -implicitDefEqProofs[thI,thT,hT,hO,hi,bU,ja,wi,sn,hj,hnx,bb,lnm];refine ⟨rfl,?_⟩;rw[<- em]
        ((try simp only[ja]);refine Ym.sub (by simp[lk,Ya,AV.keys,ja]) ?_;simp only[ja,Wkl,ZfM,ZfR,and_true];(try simp[lk,Yc,Ya,AV.keys,ja]))
      . rw[if_neg cb]at sn bU;simp -implicitDefEqProofs[thI,thT,hT,hO,hi,bU,ja,wi,sn]
        ((try simp only[ja]);refine Ym.sub (by simp[lk,Ya,AV.keys,ja]) ?_;simp only[ja,Wkl,ZfM,ZfR,and_true];(try simp[lk,Yc,Ya,AV.keys,ja]))
    . intro _;have k5:=ZfS (sbN (opQ l) v I.length);have k6:=ZfQ (sbN (opQ l) v I.length);have k7:(sbN (opQ l) v I.length).map ia=iaM (sbN (opQ l) v I.length):=rfl;rw[eTv,k7]at tk;have bb:(v+1)*24<=70368744177664:=(by omega);refine Qga ?_;simp -implicitDefEqProofs[thI,thT,hT,hO];refine Z2R mixed 2 ?_;simp -implicitDefEqProofs;refine GO0 (Z2Q (st':=⟨(6,.vsl (iaM (sbN (opQ l) v I.length)))::(4,thL v)::thT (.vsl (I.map ja)) v,thO r l v⟩) (Ym.trans (Ym.frz (λk=>k == 17) _) ?_) ?_)
      . simp only[thT,hT,hO]
        ((try simp only[Yi,frzA,frzO,frz,Yh,Yj,St.get,AV.pure,ZfS,ZfQ,ja,k5,k6,ZfO]);refine Ym.sub (by simp[lk,Ya,AV.keys,Yi,frzA,frzO,frz,Yh,Yj,St.get,AV.pure,ZfS,ZfQ,ja,k5,k6,ZfO]) ?_;simp only[Yi,frzA,frzO,frz,Yh,Yj,St.get,AV.pure,ZfS,ZfQ,ja,k5,k6,ZfO,Wkl,ZfM,and_true];(try simp[lk,Yc,Ya,AV.keys,Yi,frzA,frzO,frz,Yh,Yj,St.get,AV.pure,ZfS,ZfQ,ja,k5,k6,ZfO]))
      refine Qga ?_;simp -implicitDefEqProofs[thT,hT,hO,bb,tln];refine Qgr ?_;simp -implicitDefEqProofs[thS,thT,hT1,hO1,wv];rw[<- tk]
      ((try simp only[ja,v0]);refine Ym.sub (by simp[lk,Ya,AV.keys,ja,v0]) ?_;simp only[ja,v0,Wkl,ZfM,and_true];(try simp[lk,Yc,Ya,AV.keys,ja,v0]))
 . intro _;have k0:¬K=0:=(by omega);have hT:thL K = .osl 44 K:=(by simp[thL,k0]);have hO:thO r l K=[(44,.row 1 (trK (opQ l) K)),(1,.box [.vsl (r.map isa),.vsl (l.map na)])]:=(by simp[thO,k0]);have tp:=ZfN (opQ l) K;have tl:=ZfL (opQ l) K;refine Qga ?_;simp -implicitDefEqProofs[thS,thT,hT,hO,sh];refine Qgr ?_;simp -implicitDefEqProofs[tp,tl]
def zN1:Nte:=⟨0,0,0,0,1,0,0,0,false,0⟩
def byV (s:List Int) (m:Int) (l:Jl) (d:Int):Nat->Nte
 |0=>zN1
 |i+1=>if (nAt l i).dr=d/\fB s [] m l i=true then nAt l i else byV s m l d i
def byK (s:List Int) (m:Int) (l:Jl) (d:Int):Nat->List (Int×Bool)->List (Int×Bool)
 |0,K=>K
 |i+1,K=>if (nAt l i).dr=d then if fB s [] m l i=true then ifK s [] m l l.length i K else byK s m l d i (ifK s [] m l l.length i K) else byK s m l d i K
def ZfV {s:List Int} {m:Int} {l:Jl} {d:Int}:∀ i {K:List (Int×Bool)},OkK s [] m l K->OkK s [] m l (byK s m l d i K)
 |0,_,h=>h
 | i + 1,K,h=>by
   rw[byK]
   split
   . split
     . exact ZeP _ _ h
     . exact ZfV i (ZeP _ _ h)
   . exact ZfV i h
def ltL (s:List Int) (m:Int) (l:Jl) (ds:List Int):List Int:=ds.map λd=>(byV s m l d l.length).lt
def ltK (s:List Int) (m:Int) (l:Jl) (ds:List Int) (i:Nat):List (Int×Bool):=(ds.take i).foldl (λK d=>byK s m l d l.length K) []
def ZfW {s:List Int} {m:Int} {l:Jl} {ds:List Int} {i:Nat} (h:i<ds.length):ltK s m l ds (i+1)=byK s m l ds[i] l.length (ltK s m l ds i):=by
 unfold ltK;rw[W08 h,W1q];rfl
def ZfX {s:List Int} {m:Int} {l:Jl} {ds:List Int}:∀ i,i<=ds.length->OkK s [] m l (ltK s m l ds i)
 |0,_=>λ_ _ h=>by cases h
 |i+1,h=>by rw[ZfW h];exact ZfV _ (ZfX i (by omega))
def z10:List AV:=[.int .i64 0,.int .i64 0,.int .u8 0,.int .i64 0,.int .i64 0,.int .i64 0,.int .i64 0,.int .i64 0,.bool false,.int .u8 0]
def byS (F sV:AV) (m d:Int) (x:Nat×List (Int×Bool)):St :=
 ⟨[(7,.int .i64 ((x.1:Int)-1)),(6,.ptr 6 0),(0,F),(1,.func (.func 162) [] fcC),(2,.int .i64 d)],(6,.box z10)::fcO F sV .nils m x.2⟩
def by_pb (r:Jr) (l:Jl) (s:List Int) (m d:Int) (K:List (Int×Bool)) (hl:l.length<=12) (hs:Sml s) (hK:OkK s [] m l K) :
  PB prog G 113 (fcO (fileA r l) (.vsl (s.map ia)) .nils m K) [fileA r l,.func (.func 162) [] fcC,.int .i64 d] (.agg (na (byV s m l d l.length))) (fcO (fileA r l) (.vsl (s.map ia)) .nils m (byK s m l d l.length K)):=by
 have hI:=λi K hi hK=>is_pb (G:=G) r l false true s [] m hl hs (by simp[Sml]) l.length i K hi (by omega) hK
 have e1:liA false s = .vsl (s.map ia):=(by simp[liA]);have e2:liA true [] = .nils:=(by simp[liA]);rw[e1,e2]at hI;have hF:fileA r l = .vptr [.vsl (r.map isa),.vsl (l.map na),.vsl ((nums r).map ia),opA l] 0:=rfl;have fF:∀ ok st,frz ok st 6 (fileA r l)=some (fileA r l):=λok st=>by rw[hF];simp[frz,AV.keys]
 have kF:(fileA r l).keys=[]:=(by rw[hF];simp[AV.keys]);have rF:=λρ=>AV.ren_pure (ρ:=ρ) (fileA r l) (Zf5 r l)
 simp only[hF]at hI fF kF rF ⊢;refine ZbW (W0C rfl) λR hG hrd=>?_
 subst hG;refine Qga ?_;have w0:i64.wrap ((l.length:Int)-1)=(l.length:Int)-1:=Yf;simp -implicitDefEqProofs[ZbU,ZbV,fcO,fcC,w0];refine Z1Q (byS (.vptr [.vsl (r.map isa),.vsl (l.map na),.vsl ((nums r).map ia),opA l] 0) (.vsl (s.map ia)) m d) (λx=>x.1<=l.length/\OkK s [] m l x.2/\byV s m l d x.1=byV s m l d l.length/\byK s m l d x.1 x.2=byK s m l d l.length K) (λx=>x.1) (l.length,K) ?_ ⟨W0f _,hK,rfl,rfl⟩ ?_
 . simp only[byS,z10,fcO,fcC]
   ((try simp only[ia]);refine Ym.sub (by simp[lk,Ya,AV.keys,ia]) ?_;simp only[ia,Wkl,ZeT,and_true];(try simp[lk,Yc,Ya,AV.keys,ia]))
 rintro ⟨i,K'⟩ ⟨h1,h2,h3,h4⟩;simp only at h1 h2 h3 h4
 cases i with
 | zero =>
   refine Qga ?_;simp -implicitDefEqProofs[byS,z10,fcO,fcC];refine Qgr ?_;rw[<- h3,<- h4];simp -implicitDefEqProofs[byV,byK,zN1,na];simp -implicitDefEqProofs[FinB,Yi,newK,ZeV,Zf0,frzA,frz,fF,tupV,Z29,ZbV]
 | succ i =>
   have hi:i<l.length:=h1;have hI:=hI i K' hi h2;have hx:=Zbe hi;rw[byV]at h3;rw[byK]at h4;generalize hxx:nAt l i=x at *;have hlx:l[i]=x:=hx.symm;have hnx:na x=[.int .i64 x.nu,.int .i64 x.dy,.int .u8 x.sg,.int .i64 x.dr,.int .i64 x.lt,.int .i64 x.fr,.int .i64 x.tu,.int .i64 x.ca,.bool x.up,.int .u8 x.wy]:=rfl;have w1:i64.wrap ((i:Int)-1)=(i:Int)-1:=Yf;have w2:((i:Int)+1-1)=(i:Int):=(by omega);refine Qga ?_;by_cases c:x.dr=d
   . simp only[fcO]at hI;simp -implicitDefEqProofs[byS,z10,fcO,fcC,hi,hlx,hnx,c,w2];refine Yd.sem (Z1B.byref hI id (by simp) (by simp) (by simp[St.get,lk,AV.ren,AObj.ren,ZeU,ia,rF]) (by simp only[W0g,W0Q,or_false,W1N,forall_eq,ZeT,and_true];simp[lk,Yc,Ya,AV.keys]) (by simp[Ya,AV.keys,lk,fcC]) rfl (by simp[AV.ren,fcC]) rfl rfl) ?_;simp -implicitDefEqProofs[Yl,AV.ren,AObj.ren,ZeU,ia,rF]
     cases hb:fB s [] m l i
     . rw[if_pos c,hb,if_neg (by simp)]at h4;rw[if_neg (λh=>by rw[hb]at h;cases h.2)]at h3;simp -implicitDefEqProofs[w1];refine ⟨(i,ifK s [] m l l.length i K'),?_,⟨by omega,ZeP _ _ h2,h3,h4⟩,W2u _⟩;simp only[byS,z10,fcO,fcC]
       (refine Wkc ?_;simp only[ZeT,Wkl,and_true];(try simp[lk,Yc,Ya,AV.keys]))
     . rw[if_pos c,hb,if_pos rfl]at h4;rw[if_pos ⟨c,hb⟩]at h3;rw[<- h3,<- h4];have hnd:na x=[.int .i64 x.nu,.int .i64 x.dy,.int .u8 x.sg,.int .i64 d,.int .i64 x.lt,.int .i64 x.fr,.int .i64 x.tu,.int .i64 x.ca,.bool x.up,.int .u8 x.wy]:=(by rw[<- c];rfl);simp -implicitDefEqProofs[hnd];refine Qgr ?_;simp -implicitDefEqProofs[FinB,Yi,newK,ZeV,Zf0,frzA,frz,fF,tupV,Z29,ZbV]
   . rw[if_neg (λh=>c h.1)]at h3;rw[if_neg c]at h4;simp -implicitDefEqProofs[byS,z10,fcO,fcC,hi,hlx,hnx,c,w1,w2];refine ⟨(i,K'),?_,⟨by omega,h2,h3,h4⟩,W2u _⟩;simp only[byS,z10,fcO,fcC]
     ((try simp only[ia]);refine Ym.sub (by simp[lk,Ya,AV.keys,ia]) ?_;simp only[ia,Wkl,ZeT,and_true];(try simp[lk,Yc,Ya,AV.keys,ia]))
def ltS (r:Jr) (l:Jl) (s:List Int) (m:Int) (ds:List Int) (i:Nat):St :=
 if i=0 then ⟨[(20,.int .i64 i),(19,.int .i64 ds.length),(18,.vsl (ds.map ia)),(8,.nils),(7,.func (.func 162) [] [.ptr 209 0,.ptr 204 0,.ptr 205 0,.ptr 206 0,.ptr 207 0,.ptr 210 0]),(0,fileA r l)],fcQ (fileA r l) (.vsl (s.map ia)) .nils m (ltK s m l ds i)⟩
 else ⟨[(20,.int .i64 i),(19,.int .i64 ds.length),(18,.vsl (ds.map ia)),(8,.osl 31 i),(7,.func (.func 162) [] [.ptr 209 0,.ptr 204 0,.ptr 205 0,.ptr 206 0,.ptr 207 0,.ptr 210 0]),(0,fileA r l)],(31,.row 1 (iaM (ltL s m l (ds.take i))))::fcQ (fileA r l) (.vsl (s.map ia)) .nils m (ltK s m l ds i)⟩
def ZfY (r:Jr) (l:Jl) (s:List Int) (m:Int) (hl:l.length<=12) (hs:Sml s) (h20:(nums r).length<=20) :
  PC prog G 118 [fileA r l,.vsl (s.map ia),.int .i64 m] (Yg ((ltL s m l (nums r)).map ia)):=by
 have hf:=Zfa (G:=G) r l false true s [] m;have e1:liA false s = .vsl (s.map ia):=(by simp[liA]);have e2:liA true [] = .nils:=(by simp[liA]);rw[e1,e2]at hf;have hB:=λd K hK=>by_pb (G:=G) r l s m d K hl hs hK
 have hp:=Zf5 r l;have kF:(fileA r l).keys=[]:=AV.pure_keys _ hp;have rF:=λρ=>AV.ren_pure (ρ:=ρ) (fileA r l) hp
 have hF:fileA r l = .vptr [.vsl (r.map isa),.vsl (l.map na),.vsl ((nums r).map ia),opA l] 0:=rfl;have e5:=λK=>ZeU (λk=>k-800) K
 generalize hds:nums r=ds at *
 (refine ZbT rfl λR hG hrd=>Qga ?_;subst hG)
 simp only[hF,fcO]at hf hB kF rF hp ⊢;simp -implicitDefEqProofs[ZbR,ZbS];refine Yd.sem (Z1B.objs hf (λk=>k+200) (by simp[ffO]) (by simp[ffO,St.get,lk]) (by simp[hp,AV.pure]) rfl rfl) ?_;simp -implicitDefEqProofs[Yl,ffO,ffC,AV.ren,AObj.ren,rF];refine Z8p (ltS r l s m ds) (λ_=>True) ds.length ?_ trivial ?_ ?_
 . have e3:ltK s m l ds 0=[]:=rfl;have e4:mpA AV.bool []=[]:=rfl;simp only[ltS,fcQ,e3,e4,hF,if_true]
   ((try simp only[kF]);refine Ym.sub (by simp[lk,Ya,AV.keys,kF]) ?_;simp only[kF,Wkl,and_true];(try simp[lk,Yc,Ya,AV.keys,kF]))
 . intro i hi _;obtain ⟨d,hd⟩:=Qex (ds[i]);have hB:=hB d (ltK s m l ds i) (ZfX i (by omega));have ks:=ZfW (s:=s) (m:=m) (l:=l) hi;rw[<- hd]at ks;rw[<- ks]at hB;have wi:i64.wrap ((i:Int)+1)=(i:Int)+1:=Yf;have bb:(i+1)*8<=70368744177664:=by omega
   have ls:ltL s m l (ds.take (i+1))=ltL s m l (ds.take i)++[(byV s m l d l.length).lt]:=by
    unfold ltL;rw[W08 hi,W0r,hd];rfl
   have ll:(ltL s m l (ds.take i)).length=i:=(by unfold ltL;rw[W0N,W15];omega);generalize byV s m l d l.length=x at *;have hnx:na x=[.int .i64 x.nu,.int .i64 x.dy,.int .u8 x.sg,.int .i64 x.dr,.int .i64 x.lt,.int .i64 x.fr,.int .i64 x.tu,.int .i64 x.ca,.bool x.up,.int .u8 x.wy]:=rfl;have em:=ZfP (ltL s m l (ds.take i)) x.lt;rw[<- ls]at em;have lm:=ZfQ (ltL s m l (ds.take i));rw[ll]at lm;rw[hnx]at hB;refine Qga ?_;by_cases i0:i=0
   case' pos =>
    have hS:ltS r l s m ds i=⟨[(20,.int .i64 i),(19,.int .i64 ds.length),(18,.vsl (ds.map ia)),(8,.nils),(7,.func (.func 162) [] [.ptr 209 0,.ptr 204 0,.ptr 205 0,.ptr 206 0,.ptr 207 0,.ptr 210 0]),(0,fileA r l)],fcQ (fileA r l) (.vsl (s.map ia)) .nils m (ltK s m l ds i)⟩:=(by unfold ltS;rw[if_pos i0]);have eL0:ltL s m l (ds.take i)=[]:=(by rw[i0];rfl);have e0:iaM []=[]:=rfl;rw[eL0,e0,W18]at em
   case' neg =>
    have hS:ltS r l s m ds i=⟨[(20,.int .i64 i),(19,.int .i64 ds.length),(18,.vsl (ds.map ia)),(8,.osl 31 i),(7,.func (.func 162) [] [.ptr 209 0,.ptr 204 0,.ptr 205 0,.ptr 206 0,.ptr 207 0,.ptr 210 0]),(0,fileA r l)],(31,.row 1 (iaM (ltL s m l (ds.take i))))::fcQ (fileA r l) (.vsl (s.map ia)) .nils m (ltK s m l ds i)⟩:=by unfold ltS;rw[if_neg i0]
   all_goals
    simp -implicitDefEqProofs[hS,fcQ,hF,hi,ia,<- hd];refine Yd.sem (Z1B.byref hB (λk=>k-800) (by simp) (by simp) (by simp[St.get,lk,AV.ren,AObj.ren,ZeU,rF,ia,fcC]) (by simp only[W0g,W0Q,or_false,W1N,forall_eq,ZeT,and_true];simp[lk,Yc,Ya,AV.keys,fcC]) (by simp[Ya,AV.keys,lk,fcC]) rfl (by simp[AV.ren,fcC]) rfl rfl) ?_;simp -implicitDefEqProofs[Yl,AV.ren,AObj.ren,ZeU,rF,wi,bb,lm,ia,fcC];have hS1:ltS r l s m ds (i+1)=⟨[(20,.int .i64 ((i+1:Nat):Int)),(19,.int .i64 ds.length),(18,.vsl (ds.map ia)),(8,.osl 31 (i+1)),(7,.func (.func 162) [] [.ptr 209 0,.ptr 204 0,.ptr 205 0,.ptr 206 0,.ptr 207 0,.ptr 210 0]),(0,fileA r l)],(31,.row 1 (iaM (ltL s m l (ds.take (i+1)))))::fcQ (fileA r l) (.vsl (s.map ia)) .nils m (ltK s m l ds (i+1))⟩:=(by unfold ltS;rw[if_neg (by omega)]);rw[hS1,<- em];simp only[fcQ,hF]
    ((try simp only[kF,i0]);refine Ym.sub (by simp[lk,Ya,AV.keys,kF,i0]) ?_;simp only[kF,i0,Wkl,ZeT,ZfR,and_true];(try simp[lk,Yc,Ya,AV.keys,kF,i0]))
 . intro _;have hall:ds.take ds.length=ds:=W0v;have lm:=ZfQ (ltL s m l ds);have ll:(ltL s m l ds).length=ds.length:=(by simp[ltL]);have eM:(ltL s m l ds).map ia=iaM (ltL s m l ds):=rfl;have k5:=ZfS (ltL s m l ds);rw[ll]at lm;rw[eM];refine Qga ?_;by_cases i0:ds.length=0
   . have hS:ltS r l s m ds ds.length=⟨[(20,.int .i64 ds.length),(19,.int .i64 ds.length),(18,.vsl (ds.map ia)),(8,.nils),(7,.func (.func 162) [] [.ptr 209 0,.ptr 204 0,.ptr 205 0,.ptr 206 0,.ptr 207 0,.ptr 210 0]),(0,fileA r l)],fcQ (fileA r l) (.vsl (s.map ia)) .nils m (ltK s m l ds ds.length)⟩:=(by unfold ltS;rw[if_pos i0]);have e0:iaM (ltL s m l ds)=[]:=(by rw[W0l.1 i0];rfl);simp -implicitDefEqProofs[hS,fcQ,hF];refine Qgr ?_;simp -implicitDefEqProofs[Yg,e0]
   . have hS:ltS r l s m ds ds.length=⟨[(20,.int .i64 ds.length),(19,.int .i64 ds.length),(18,.vsl (ds.map ia)),(8,.osl 31 ds.length),(7,.func (.func 162) [] [.ptr 209 0,.ptr 204 0,.ptr 205 0,.ptr 206 0,.ptr 207 0,.ptr 210 0]),(0,fileA r l)],(31,.row 1 (iaM (ltL s m l (ds.take ds.length))))::fcQ (fileA r l) (.vsl (s.map ia)) .nils m (ltK s m l ds ds.length)⟩:=(by unfold ltS;rw[if_neg i0]);rw[hall]at hS;have e0:¬iaM (ltL s m l ds)=[]:=λh=>i0 (by rw[<- lm,h];rfl)
     simp -implicitDefEqProofs[hS,fcQ,hF];refine Qgr ?_;simp -implicitDefEqProofs[Yg,e0,k5,lm]
def ltV (l:Jl) (d m:Int) (v:Nat):Int:=(byV (sbT (opQ l) v) m l d l.length).lt
def r8:List Int:=[1,2,3,4,5,6,7,8]
def ZfZ {x:Int}:x∈r8↔1<=x/\x<=8:=by simp[r8];omega
def r8_lt:r8.Pairwise (· < ·):=by decide
def posL (l:Jl) (d m:Int):List Int:=r8.filter λx=>(List.range (2 ^ (opQ l).length)).any λv=>decide (ltV l d m v=x)
def mk1 (h:Hld) (x:Nte):List Int:=(if inR x.fr h.fr h.to=true then [x.fr] else [])++(if inR (x.tu+1) h.fr h.to=true then [x.tu+1] else [])
def mks (l:Jl) (h:Hld):List Int:=h.fr::l.flatMap (mk1 h)
def ndsL (l:Jl) (h:Hld) (d:Int):List Int:=if h.ds.contains d=true then r8.filter λx=>(mks l h).any λm=>(posL l d m).contains x else []
def Zg0 {n a b:Int}:inR n a b=true↔a<=n/\n<=b:=by simp[inR]
def Zg1 {α:Type} {p p':α->Bool} {h:α->α->Bool}:∀ {l:List α},(∀ x∈l,p x=p' x)->gcL p h l=gcL p' h l
 |[],_=>rfl
 | x::l,e=>by
   rw[gcL,gcL,Zg1 λy hy=>e y (W0z _ hy),e x (W0H ..)]
def Zg2 {s w:List Int} {m m':Int} {l:Jl} (e:∀ x∈l,inR m x.fr x.tu=inR m' x.fr x.tu) (i:Nat):fB s w m l i=fB s w m' l i:=by
 unfold fB gcB;rw[Zg1 (p':=bsF s w m') λx hx=>by rw[bsF,bsF,e x hx]]
def Zg3 {s:List Int} {m m':Int} {l:Jl} (e:∀ x∈l,inR m x.fr x.tu=inR m' x.fr x.tu) (d:Int):∀ i,byV s m l d i=byV s m' l d i
 |0=>rfl
 |i+1=>by rw[byV,byV,Zg2 e,Zg3 e d i]
def Zg4 {m m':Int} {l:Jl} (e:∀ x∈l,inR m x.fr x.tu=inR m' x.fr x.tu) (d:Int):posL l d m=posL l d m':=by
 have q:∀ v,ltV l d m v=ltV l d m' v:=λv=>by unfold ltV;rw[Zg3 e]
 unfold posL;simp only[q]
def Zg5:∀ (L:List Int) (m:Int),(∃ x∈L,x<=m)->∃ x∈L,x<=m/\∀ y∈L,y<=m->y<=x
 |[],_,h=>by obtain ⟨x,hx,_⟩:=h;cases hx
 | a :: t,m,h=>by
   by_cases q:∃ x∈t,x<=m
   . obtain ⟨x,hx,h1,h2⟩:=Zg5 t m q;by_cases e:a<=m/\x<a
     . refine ⟨a,W0H ..,e.1,λy hy hm=>?_⟩;rcases W0g.1 hy with rfl|hy
       . omega
       . have:=h2 y hy hm;omega
     . refine ⟨x,W0z _ hx,h1,λy hy hm=>?_⟩;rcases W0g.1 hy with rfl|hy
       . omega
       . exact h2 y hy hm
   . obtain ⟨x,hx,h1⟩:=h
     have ea:a<=m:=by
      rcases W0g.1 hx with rfl|hx
      . exact h1
      . exact absurd ⟨x,hx,h1⟩ q
     refine ⟨a,W0H ..,ea,λy hy hm=>?_⟩;rcases W0g.1 hy with rfl|hy
     . omega
     . exact absurd ⟨y,hy,hm⟩ q
def Zg6 {l:Jl} {h:Hld} {m:Int}:m∈mks l h↔m=h.fr∨∃ x∈l,(m=x.fr/\h.fr<=x.fr/\x.fr<=h.to)∨(m=x.tu+1/\h.fr<=x.tu+1/\x.tu+1<=h.to):=by
 unfold mks;rw[W0g,W0u]
 constructor
 . rintro (q | ⟨x,hx,q⟩)
   . exact .inl q
   . right
     refine ⟨x,hx,?_⟩;rcases W0h.1 q with q|q <;> split at q <;> rename_i e
     . exact .inl ⟨W0B.1 q,Zg0.1 e⟩
     . cases q
     . exact .inr ⟨W0B.1 q,Zg0.1 e⟩
     . cases q
 . rintro (q | ⟨x,hx,⟨q,q2⟩ | ⟨q,q2⟩⟩)
   . exact .inl q
   . right
     refine ⟨x,hx,W0h.2 (.inl ?_)⟩;rw[if_pos (Zg0.2 q2)];exact W0B.2 q
   . right
     refine ⟨x,hx,W0h.2 (.inr ?_)⟩;rw[if_pos (Zg0.2 q2)];exact W0B.2 q
def Zg7 {l:Jl} {h:Hld} {m:Int} (h1:h.fr<=m) (h2:m<=h.to):∃ m'∈mks l h,∀ x∈l,inR m x.fr x.tu=inR m' x.fr x.tu:=by
 obtain ⟨m',hm,g1,g2⟩:=Zg5 (mks l h) m ⟨h.fr,Zg6.2 (.inl rfl),h1⟩;have g0:h.fr<=m':=g2 h.fr (Zg6.2 (.inl rfl)) h1;refine ⟨m',hm,λx hx=>?_⟩;have a1:h.fr<=x.fr->x.fr<=m->x.fr<=m':=λq1 q2=>g2 _ (Zg6.2 (.inr ⟨x,hx,.inl ⟨rfl,q1,by omega⟩⟩)) q2
 have a2:h.fr<=x.tu+1->x.tu+1<=m->x.tu+1<=m':=λq1 q2=>g2 _ (Zg6.2 (.inr ⟨x,hx,.inr ⟨rfl,q1,by omega⟩⟩)) q2
 have:inR m x.fr x.tu=true↔inR m' x.fr x.tu=true:=by
  rw[Zg0,Zg0];omega
 exact W2h.2 this
def Zg8 (l:Jl) (d m:Int):(posL l d m).Pairwise (· < ·):=r8_lt.filter _
def Zg9 (l:Jl) (h:Hld) (d:Int):(ndsL l h d).Pairwise (· < ·):=by
 unfold ndsL
 split
 . exact r8_lt.filter _
 . exact .nil
def Zga {l:Jl} {d m x:Int}:x∈posL l d m↔(1<=x/\x<=8)/\∃ v,v<2 ^ (opQ l).length/\ltV l d m v=x:=by
 simp[posL,ZfZ]
def Zgb {l:Jl} {h:Hld} {d x:Int}:x∈ndsL l h d↔d∈h.ds/\∃ m∈mks l h,x∈posL l d m:=by
 unfold ndsL;by_cases e:d∈h.ds
 . rw[if_pos (by simpa using e)];simp only[W0G,W14,W0w,e,true_and]
   constructor
   . exact λq=>q.2
   . rintro ⟨m,h1,h2⟩;exact ⟨(Zga.1 h2).1 |> ZfZ.2,m,h1,h2⟩
 . rw[if_neg (by simpa using e)];simp[e]
def Zgc {l:Jl} {h:Hld} {d x m:Int} (hd:d∈h.ds) (h1:h.fr<=m) (h2:m<=h.to) (hx:x∈posL l d m):x∈ndsL l h d:=by
 obtain ⟨m',g1,g2⟩:=Zg7 (l:=l) h1 h2;exact Zgb.2 ⟨hd,m',g1,Zg4 g2 d ▸ hx⟩
def Zgd {l:Jl} {h:Hld} (h0:h.fr<=h.to) {m:Int} (hm:m∈mks l h):h.fr<=m/\m<=h.to:=by
 rcases Zg6.1 hm with rfl | ⟨x,-,⟨rfl,q⟩ | ⟨rfl,q⟩⟩ <;> omega
def Zge {l:Jl} {d m:Int} (h:∀ v,1<=ltV l d m v/\ltV l d m v<=8):posL l d m≠[]:=by
 intro e;have:ltV l d m 0∈posL l d m:=Zga.2 ⟨h 0,0,Nat.two_pow_pos _,rfl⟩;rw[e]at this
 cases this
def hoF (hs:Jh) (id:Int):Option Hld:=hs.find? λh=>decide (h.id=id)
def stB (l:Jl) (hs:Jh) (day:Int) (x:Prt):Bool:=outB x day&&match hoF hs x.ho with
 |some h=>h.ds.contains x.dw && !(ndsL l h x.dw).contains x.lt
 |none=>false
def staL (l:Jl) (hs:Jh) (ps:Jp) (day:Int):List Prt:=ps.filter (stB l hs day)
def rchB (a b:List Int) (x:Prt):Bool:=a.contains x.ho||b.contains x.dw
def calP (l:Jl) (hs:Jh) (day:Int) (a b:List Int) (x:Prt):Prt:=if (stB l hs day x&&rchB a b x)=true then { x with bk:=day,lo:=0 } else x
def herB (id day:Int) (x:Prt):Bool:=decide (x.ho=id)&&outB x day
def sureM (ps:Jp) (day id d:Int):Int:=((ps.filter λx=>herB id day x&&decide (x.dw=d)&&decide (x.lo=0)).map (·.lt)).foldl max 0
def perhL (ps:Jp) (day id d:Int):List Int:=(ps.filter λx=>herB id day x&&decide (x.dw=d) && !decide (x.lo=0)).map (·.lt)
def wkL (ps:Jp) (day id d:Int):List Int:=sureM ps day id d::r9.filter λn=>decide (sureM ps day id d<n)&&(perhL ps day id d).contains n
def Zgf (ps:Jp) (day id d:Int):(wkL ps day id d).Pairwise (· < ·):=by
 unfold wkL;refine W1l.2 ⟨λn hn=>?_,r9_lt.filter _⟩;have:=(W0G.1 hn).2;simp only[W01,W0b]at this;exact this.1
def Zgg {ps:Jp} {day id d n:Int}:n∈perhL ps day id d↔∃ x∈ps,(herB id day x&&decide (x.dw=d) && !decide (x.lo=0))=true/\x.lt=n:=by
 unfold perhL;rw[W0i]
 constructor
 . rintro ⟨x,hx,e⟩;exact ⟨x,(W0G.1 hx).1,(W0G.1 hx).2,e⟩
 . rintro ⟨x,hx,q,e⟩;exact ⟨x,W0G.2 ⟨hx,q⟩,e⟩
def wrN (a b:List Int):Int:=if (a.any λx=>b.any λy=>!decide (x=y))=false then 0 else if (a.any λx=>b.any λy=>decide (x=y))=false then 2 else 1
def Zgh {a:List Int} (h:a.Pairwise (· < ·)) {y:Int} (he:∀ x∈a,x=y) (hn:a≠[]):a=[y]:=by
 match a,hn with
 |[x],_=>rw[he x (W0H ..)]
 | x::z::t,_ =>
   have h1:=he x (by simp);have h2:=he z (by simp);have:=(W1l.1 h).1 z (by simp);omega
def Zgi {a b:List Int} (ha:a.Pairwise (· < ·)) (hb:b.Pairwise (· < ·)) (na:a≠[]) (nb:b≠[]):(a.any λx=>b.any λy=>!decide (x=y))=false↔(a.length=1/\a=b):=by
 rw[W27]
 constructor
 . intro h
   have h2:∀ x∈a,∀ y∈b,x=y:=λx hx y hy=>by
    have:=h x hx;rw[Bool.not_eq_true,W27]at this;have:=this y hy;simpa using this
   obtain ⟨x,hx⟩:=List.exists_mem_of_ne_nil a na;obtain ⟨y,hy⟩:=List.exists_mem_of_ne_nil b nb;have e1:=Zgh ha (λz hz=>h2 z hz y hy) na;have e2:=Zgh hb (λz hz=>(h2 x hx z hz).symm) nb;have e3:=h2 x hx y hy;rw[e1,e2,e3];exact ⟨rfl,rfl⟩
 . rintro ⟨h1,rfl⟩ x hx
   match a,h1 with
   |[z],_=>simp at hx;subst hx;simp
def Zgj (ps:Jp) (day id d n:Int):Bool:=ps.any λx=>herB id day x&&decide (x.dw=d)&&decide (x.lt=n)&&decide (x.lo=0)
def misL (l:Jl) (h:Hld) (ps:Jp) (day:Int):List (Int×Int):=h.ds.flatMap λd=>((ndsL l h d).filter λn=>!Zgj ps day h.id d n).map λn=>(d,n)
def riP (ps:Jp):Prop:=ps.Pairwise λx y=>x.no<y.no
def putP (ps:Jp) (x:Prt) (p:Nat):List Prt:=ps.take p++x::ps.drop p
def plP (ps:Jp) (x:Prt):Nat:=ps.countP λy=>decide (y.no<x.no)
def Zgk {ps:Jp} {x y:Prt} {p:Nat}:y∈putP ps x p↔y=x∨y∈ps:=by
 unfold putP;rw[W0h,W0g];have:y∈ps↔y∈ps.take p∨y∈ps.drop p:=(by rw[<- W0h,W11]);rw[this]
 constructor
 . rintro (h|h|h)
   . exact .inr (.inl h)
   . exact .inl h
   . exact .inr (.inr h)
 . rintro (h|h|h)
   . exact .inr (.inl h)
   . exact .inl h
   . exact .inr (.inr h)
def Zgl {ps:Jp} {x:Prt} {p:Nat}:(putP ps x p).length=ps.length+1:=by
 unfold putP;simp only[W0s,W15,W1p,List.length_drop];omega
def Zgm {ps:Jp} {x:Prt} (h:riP ps):∀ {p:Nat} (_:p<=ps.length) (_:∀ y∈ps.take p,y.no<x.no) (_:∀ y∈ps.drop p,x.no<=y.no),plP ps x=p:=by
 intro p hp h1 h2;unfold plP
 conv=>lhs;rw[<- W11 p ps]
 rw[List.countP_append]
 have a:(ps.take p).countP (λy=>decide (y.no<x.no))=p:=by
  rw[List.countP_eq_length.2 λy hy=>by simpa using h1 y hy];simp;omega
 have b:(ps.drop p).countP (λy=>decide (y.no<x.no))=0:=by
  rw[List.countP_eq_zero];intro y hy;have:=h2 y hy;simp;omega
 omega
def exN:List Nte:=[⟨101,100,2,30,2,5,999,0,false,0⟩,⟨102,200,1,10,2,8,20,0,false,0⟩,⟨103,300,2,0,0,10,12,101,false,0⟩,⟨104,400,2,30,1,15,15,0,false,0⟩]
def exH:List Hld:=[⟨1,6,9,[10,30]⟩,⟨2,16,999,[30]⟩,⟨3,418,418,[10,30]⟩]
def exP1:List Prt:=[⟨1,10,1,30,1,-1,0⟩,⟨2,120,1,30,2,-1,0⟩,⟨3,10,2,30,1,-1,0⟩,⟨4,10,3,30,1,-1,1⟩,⟨5,10,3,10,1,-1,0⟩,⟨6,210,1,10,2,-1,0⟩,⟨7,10,1,10,1,205,0⟩]
def exDl:List Int:=[10,20,30,40,50]
def Zgn:opQ exN=[102]:=Zbq (by decide +kernel) (by simp[SrtI])
def ltU (U:List Int) (l:Jl) (d m:Int) (v:Nat):Int:=(byV (sbT U v) m l d l.length).lt
def posU (U:List Int) (l:Jl) (d m:Int):List Int:=r8.filter λx=>(List.range (2 ^ U.length)).any λv=>decide (ltU U l d m v=x)
def ndsU (U:List Int) (l:Jl) (h:Hld) (d:Int):List Int:=if h.ds.contains d=true then r8.filter λx=>(mks l h).any λm=>(posU U l d m).contains x else []
def staU (U:List Int) (l:Jl) (hs:Jh) (ps:Jp) (day:Int):List Prt:=ps.filter λx=>outB x day&&match hoF hs x.ho with
 |some h=>h.ds.contains x.dw && !(ndsU U l h x.dw).contains x.lt
 |none=>false
def Zgo (l:Jl) (d m:Int):posL l d m=posU (opQ l) l d m:=rfl
def Zgp (l:Jl) (h:Hld) (d:Int):ndsL l h d=ndsU (opQ l) l h d:=rfl
def Zgq (l:Jl) (hs:Jh) (ps:Jp) (day:Int):staL l hs ps day=staU (opQ l) l hs ps day:=rfl
def Zgr:staL exN exH exP1 300=[⟨1,10,1,30,1,-1,0⟩,⟨3,10,2,30,1,-1,0⟩,⟨4,10,3,30,1,-1,1⟩]:=by
 rw[Zgq,Zgn];decide +kernel
def ex_wk:wkL exP1 300 3 30=[0,1]:=by decide +kernel
def ex_nd:ndsL exN ⟨1,6,9,[10,30]⟩ 10=[1,2]:=by rw[Zgp,Zgn];decide +kernel
def ex_ca:caE [1,2,3] exDl (staL exN exH exP1 300)=([],[30]):=by rw[Zgr];decide +kernel
def ex_po:posL exN 30 418=[2]:=by rw[Zgo,Zgn];decide +kernel
def Zgs:posL exN 10 9=[1,2]:=by rw[Zgo,Zgn];decide +kernel
def Zgt:posL exN 30 6=[2]:=by rw[Zgo,Zgn];decide +kernel
section
open Qq Tryz
def Zgu:RCode :=
 S [r 0 [b 2 0,n 3 (.bool false)],r 1 [f 4 2 1,l 5 4,f 6 2 2,l 7 6,o 8 .eql 5 7,m 9 8,g 9 false (f 10 3 1),g 9 false (f 11 0 10),g 9 false (l 12 11),g 9 false (f 13 3 2),g 9 false (f 14 0 13),g 9 false (l 15 14),g 9 false (o 16 .eql 12 15),u 17 9 16,m 3 17],.ret]
def Zgv:List RRes:=[.t 3]
def Zgw:PCt prog 154 f154 Zgu Zgv:=pcT func154 rfl
def Zgx:RCode :=
 S [r 0 [n 4 O],S [r 1 [m 6 0,e 7 6,n 8 O],.block 0 (.loop (S [r 2 [o 9 .lss 8 7],.cond (.t 9) .skip (.exit 0),.block 1 (S [r 3 [m 10 8,m 5 10],r 4 [m 11 1,m 12 0,m 13 5,i 14 7 12 13,L 15 7 14,w 16 (.callv (.t 11) [.t 15])],K 16 5 [m 17 5,m 4 17]]),r 6 [k 18 .add 8 I,m 8 18]]))],r 7 [n 4 (.int .i64 (-1))],.ret]
def Zgy:List RRes:=[.t 4]
def Zgz:PCt prog 180 f180 Zgx Zgy:=pcT func180 rfl
def ZgA:RCode :=
 S [r 0 [n 4 (.bool false)],r 1 [m 5 0,m 6 1,c 7 180 [5,6],k 8 .geq 7 O,m 4 8],.ret]
def ZgB:List RRes:=[.t 4]
def ZgC:PCt prog 153 f153 ZgA ZgB:=pcT func153 rfl
def ZgD:RCode :=
 S [r 0 [n 2 .nils],S [r 1 [m 3 0,w 4 (.vop (.eqn false) [(.t 3),(.c .nils)])],K 4 2 [n 2 .nils]],r 3 [w 5 (.bsl true 7 0 [] []),m 6 0,w 7 (.app 7 56 (.t 5) (.t 6)),m 2 7],.ret]
def ZgE:List RRes:=[.t 2]
def ZgF:RCode :=
 S [r 0 [n 6 .nils],S [r 1 [m 10 1,k 11 .eql 10 O],K 11 2 [m 12 2,m 6 12]],S [r 3 [m 13 0,e 14 13,n 15 O],.block 0 (.loop (S [r 4 [o 16 .lss 15 14],.cond (.t 16) .skip (.exit 0),.block 1 (S [r 5 [m 17 15,i 18 7 13 15,L 19 7 18,w 8 (.alloc [O,O,O,O,O,O,.int .u8 0]),m 7 17,s 7 8 19],S [r 6 [m 20 2,w 21 (.mkf (.func 154) [] [.t 8]),c 22 153 [20,21]],.cond (.t 22) (.exit 1) .skip],R 7 [m 23 0,m 24 7,a [1] (k 25 .add 24 I),a [0,2] (w 26 (.slc 7 (.t 23) (some (.t 25)) none)),m 27 1,a [4] (k 28 .sub 27 I),m 29 2,a [6] (c 30 155 [29]),L 31 7 8,a [8] (w 32 (.bsl false 7 1 [O,O,O,O,O,O,.int .u8 0] [(0,.t 31)])),a [7,9,7] (w 33 (.app 7 56 (.t 30) (.t 32))),a [3,5,10,10] (c 34 97 [26,28,33]),a [11,11,0,1,2,3,4,5,6,7,8,9,10,11] (m 9 34)],r 8 [m 35 9,w 36 (.vop (.eqn true) [(.t 35),(.c .nils)])],K 36 9 [m 37 9,m 6 37]]),r 10 [k 38 .add 15 I,m 15 38]]))],r 11 [n 6 .nils],.ret]
def ZgG:List RRes:=[.t 6]
def ZgH:PCt prog 97 f97 ZgF ZgG:=pcT func97 rfl
end
section
open Qq Tryz
def ZgI:RCode :=
 S [r 0 [b 3 1,w 4 (.alloc [.nils,.nils])],r 1 [w 5 (.alloc [.nils,.nils])],r 2 [w 6 (.alloc [.bool false]),z (.store 1 (.t 6) (.c (.bool false)))],S [r 3 [m 8 0],.block 0 (.rngf (.t 8) [9] (r 4 [w 7 (.alloc [.nils,.nils]),s 2 7 9]) (.block 1 (S [r 5 [l 10 6,t 11 10,m 12 11,g 12 false (l 13 3),g 12 false (L 14 2 7),g 12 false (L 15 2 5),g 12 false (w 16 (.callv (.t 13) [.t 14,.t 15])),g 12 false (k 17 .lss 16 O),u 18 12 17],.cond (.t 18) (r 6 [L 19 2 7,s 2 5 19,z (.store 1 (.t 6) (.c (.bool true)))]) .skip])))],r 7 [L 20 2 5,s 2 4 20],.ret]
def ZgJ:List RRes:=[.c 4 true 2]
def ZgK:PCt prog 148 f148 ZgI ZgJ:=pcT func148 rfl
def ZgL:RCode :=
 S [r 0 [b 2 0,b 3 1,n 4 .nilf],r 1 [w 5 (.mkf (.func 179) [] [.t 2,.t 3]),m 4 5],.ret]
def ZgM:List RRes:=[.t 4]
def ZgN:PCt prog 149 f149 ZgL ZgM:=pcT func149 rfl
noncomputable def ZgO:RCode :=
 S [r 0 [l 15 1,w 16 (.nilck (.t 15)),f 17 0 16,f 18 2 17,l 19 18,e 20 19,w 21 (.vop (.sh true) [(.c I),(.t 20)]),n 22 O],.block 0 (.loop (S [r 1 [o 23 .lss 22 21],.cond (.t 23) .skip (.exit 0),.block 1 (S [r 2 [m 24 22,m 4 24],r 3 [w 5 (.alloc [.nils,.nils])],r 4 [w 25 (.mkmap),m 6 25],S [r 5 [l 26 2,e 27 26,n 28 O],.block 2 (.loop (S [r 6 [o 29 .lss 28 27],.cond (.t 29) .skip (.exit 2),.block 3 (S [r 7 [i 30 7 26 28,L 31 7 30,w 8 (.alloc [O,O,O,O,O,O,.int .u8 0]),s 7 8 31],r 8 [m 32 6,f 33 0 8,l 34 33,L 35 7 8,z (.mupd (.i .i64) (.t 32) (.t 34) (.t 35))]]),r 9 [k 36 .add 28 I,m 28 36]]))],S [r 10 [l 37 1,w 38 (.nilck (.t 37)),f 39 0 38,f 40 2 39,l 41 40,e 42 41,n 43 O],.block 4 (.loop (S [r 11 [o 44 .lss 43 42],.cond (.t 44) .skip (.exit 4),.block 5 (S [r 12 [m 45 43,i 46 4 41 43,L 47 4 46,w 10 (.alloc [O,O,O,.nils]),m 9 45,s 4 10 47],S [r 13 [m 48 4,m 49 9,w 50 (.vop (.sh false) [(.t 48),(.t 49)]),w 51 (.vop (.bits .and) [(.t 50),(.c I)]),k 52 .eql 51 O],.cond (.t 52) (.exit 5) .skip],r 14 [f 53 0 5,l 54 53,f 55 0 10,l 56 55,w 57 (.bsl false 1 1 [O] [(0,.t 56)]),w 58 (.app 1 8 (.t 54) (.t 57)),f 59 0 5,s 1 59 58],r 15 [l 60 2,e 61 60,n 62 O],.block 6 (.loop (S [r 16 [o 63 .lss 62 61],.cond (.t 63) .skip (.exit 6),.block 7 (S [r 17 [i 64 7 60 62,L 65 7 64,w 12 (.alloc [O,O,O,O,O,O,.int .u8 0]),s 7 12 65],r 18 [f 66 2 12,l 67 66,f 68 0 10,l 69 68,o 70 .eql 67 69],.cond (.t 70) (r 19 [m 71 6,f 72 0 12,l 73 72,z (.mdel (.i .i64) (.t 71) (.t 73))]) .skip]),r 20 [k 74 .add 62 I,m 62 74]]))]),r 21 [k 75 .add 43 I,m 43 75]]))],(.raw (rngV prog [m 76 6] 76 77 78 79 80 81 [w 14 (.alloc [O,O,O,O,O,O,.int .u8 0]),s 7 14 81] [f 82 1 5,l 83 82,f 84 3 14,f 85 0 84,l 86 85,w 87 (.bsl false 1 1 [O] [(0,.t 86)]),w 88 (.app 1 8 (.t 83) (.t 87)),f 89 1 5,s 1 89 88])),r 26 [f 90 1 5,l 91 90,c 92 115 [91]],r 27 [f 93 1 5,l 94 93,c 95 116 [94],f 96 1 5,s 1 96 95],r 28 [m 97 0,L 98 2 5,w 99 (.callv (.t 97) [.t 98]),t 100 99],.cond (.t 100) .ret .skip]),r 29 [k 101 .add 22 I,m 22 101]]))]
end
section
open Qq Tryz
def ZgP:RCode :=
 S [r 0 [n 4 O],S [r 1 [m 9 0,e 10 9,n 11 O],.block 0 (.loop (S [r 2 [o 12 .lss 11 10],.cond (.t 12) .skip (.exit 0),.block 1 (S [r 3 [m 13 11,i 14 1 9 11,l 15 14,m 5 13,m 6 15],S [r 4 [m 16 5,m 17 1,e 18 17,o 19 .geq 16 18],K 19 5 [n 4 I]],r 6 [m 20 1,m 21 5,i 22 1 20 21,l 23 22,m 7 23],r 7 [m 24 6,m 25 7,c 26 107 [24,25],m 8 26],r 8 [m 27 8,k 28 .neq 27 O],K 28 9 [m 29 8,m 4 29]]),r 10 [k 30 .add 11 I,m 11 30]]))],S [r 11 [m 31 0,e 32 31,m 33 1,e 34 33,o 35 .lss 32 34],K 35 12 [n 4 (.int .i64 (-1))]],r 13 [n 4 O],.ret]
def ZgQ:List RRes:=[.t 4]
def ZgR:PCt prog 152 f152 ZgP ZgQ:=pcT func152 rfl
def ZgS:RCode :=
 S [r 0 [b 1 0,n 2 O],r 1 [f 3 0 1,l 4 3,e 5 4,f 6 1 1,l 7 6,e 8 7,o 9 .add 5 8,m 2 9],.ret]
def ZgT:List RRes:=[.t 2]
def ZgU:PCt prog 98 f98 ZgS ZgT:=pcT func98 rfl
def ZgV:RCode :=
 S [r 0 [b 2 0,b 3 1,n 4 O],R 1 [L 5 2 2,a [0] (c 6 98 [5]),L 7 2 3,a [2,1] (c 8 98 [7]),a [1,3] (o 9 .sub 6 8),f 10 0 2,a [5] (l 11 10),a [6] (e 12 11),f 13 0 3,a [8] (l 14 13),a [9] (e 15 14),a [7,10] (o 16 .sub 12 15),f 17 0 2,a [12] (l 18 17),f 19 0 3,a [14] (l 20 19),a [13,15,3] (c 21 152 [18,20]),a [4,11,16] (w 22 (.bsl false 1 3 [O,O,O] [(0,.t 9),(1,.t 16),(2,.t 21)])),a [17,16] (c 23 151 [22]),a [18,18,0,1,2,3,4,5,6,7,8,9,10,11,12,13,14,15,16,17,18] (m 4 23)],.ret]
def ZgW:List RRes:=[.t 4]
def ZgX:PCt prog 150 f150 ZgV ZgW:=pcT func150 rfl
def ZgY:RCode :=
 S [r 0 [w 4 (.alloc [.nils,.nils])],r 1 [m 5 0,m 6 1,c 7 149 [5,6],w 8 (.call 148 [.t 7,.c (.func (.func 150) [] [])]),s 2 4 8],.ret]
def ZgZ:List RRes:=[.c 4 true 2]
def Zh0:PCt prog 95 f95 ZgY ZgZ:=pcT func95 rfl
end
section
open Qq Tryz
def Zh1:RCode :=
 S [r 0 [n 2 .nils],r 1 [n 3 .nils],S [r 2 [m 6 0,e 7 6,n 8 O],.block 0 (.loop (S [r 3 [o 9 .lss 8 7],.cond (.t 9) .skip (.exit 0),.block 1 (S [r 4 [i 10 7 6 8,L 11 7 10,w 5 (.alloc [O,O,O,O,O,O,.int .u8 0]),s 7 5 11],r 5 [m 12 3,f 13 0 5,l 14 13,w 15 (.bsl false 1 1 [O] [(0,.t 14)]),w 16 (.app 1 8 (.t 12) (.t 15)),m 3 16]]),r 6 [k 17 .add 8 I,m 8 17]]))],r 7 [m 18 3,m 2 18],.ret]
def Zh2:List RRes:=[.t 2]
def Zh3:PCt prog 90 f90 Zh1 Zh2:=pcT func90 rfl
def Zh4:RCode :=
 S [r 0 [b 2 0,n 4 .nils],r 1 [w 10 (.mkmap),w 5 (.alloc [.nilm]),s 1 5 10],r 2 [w 6 (.alloc [.nils])],S [r 3 [l 11 2,m 12 1,c 13 70 [11,12]],.block 0 (.rngf (.t 13) [14,15] (r 4 [w 8 (.alloc [O,O,O,O,O,O,.int .u8 0]),s 7 8 15]) (.block 1 (S [S [R 5 [l 16 2,a [0] (w 17 (.nilck (.t 16))),a [1] (f 18 0 17),a [2] (f 19 2 18),a [3] (l 20 19),l 21 2,f 22 2 8,a [6] (l 23 22),a [5,7] (c 24 82 [21,23]),a [4,8] (i 25 4 20 24),a [9] (f 26 3 25),a [10] (l 27 26),f 28 3 8,a [12] (f 29 0 28),a [13] (l 30 29),a [11,14,8] (c 31 87 [27,30]),a [15] (t 32 31)],.cond (.t 32) (.exit 1) .skip],r 6 [f 33 2 8,l 34 33,f 35 3 8,f 36 0 35,l 37 36,w 38 (.build [O,O] [(0,1,.t 34),(1,1,.t 37)]),w 9 (.alloc [O,O]),s 2 9 38],S [r 7 [l 39 5,L 40 2 9,w 41 (.look (.ag [.i,.i]) .nils false (.t 39) (.t 40)),w 42 (.vop (.eqn false) [(.t 41),(.c .nils)])],.cond (.t 42) (R 8 [l 43 5,L 44 2 9,l 45 2,f 46 2 8,a [3] (l 47 46),f 48 3 8,a [5] (f 49 0 48),a [6] (l 50 49),a [2,4,7] (c 51 80 [45,47,50]),a [0,1,8,8,0,1,2,3,4,5,6,7,8] (z (.mupd (.ag [.i,.i]) (.t 43) (.t 44) (.t 51)))]) .skip],R 9 [l 52 5,L 53 2 9,a [0,1] (w 54 (.look (.ag [.i,.i]) .nils false (.t 52) (.t 53))),f 55 3 8,a [3] (f 56 1 55),a [4] (l 57 56),a [2,5] (c 58 87 [54,57]),a [6] (t 59 58)],.cond (.t 59) (r 10 [l 60 6,L 61 7 8,w 62 (.bsl false 7 1 [O,O,O,O,O,O,.int .u8 0] [(0,.t 61)]),w 63 (.app 7 56 (.t 60) (.t 62)),s 1 6 63]) .skip])))],r 11 [l 64 6,m 4 64],.ret]
def Zh5:List RRes:=[.t 4]
def Zh6:PCt prog 91 f91 Zh4 Zh5:=pcT func91 rfl
def Zh7:RCode :=
 S [r 0 [b 2 0,n 4 .nils,n 5 O],r 1 [L 9 4 2,m 10 1,w 11 (.call 89 [.t 9,.t 10,.c I]),m 8 11,x 12 0 8,x 13 1 8,m 6 12,m 7 13],S [r 2 [m 14 7,k 15 .neq 14 O],K 15 3 [m 16 7,n 4 .nils,m 5 16]],r 4 [m 17 6,m 18 1,c 19 91 [17,18],c 20 90 [19],m 4 20,n 5 O],.ret]
def Zh8:List RRes:=[.t 4,.t 5]
def Zh9:PCt prog 34 f34 Zh7 Zh8:=pcT func34 rfl
end
section
open Qq Tryz
def Zha:RCode :=
 S [r 0 [b 3 0,b 5 2,n 6 .nils,n 7 O],r 1 [L 20 4 3,m 21 1,l 22 5,w 23 (.call 69 [.t 20,.t 21,.c I,.t 22,.c .nils]),m 19 23,x 24 0 19,x 25 1 19,m 8 24,m 9 25],S [r 2 [m 26 9,k 27 .neq 26 O],K 27 3 [m 28 9,n 6 .nils,m 7 28]],r 4 [w 29 (.mkmap),w 10 (.alloc [.nilm]),s 1 10 29],S [r 5 [m 30 8,m 31 1,c 32 70 [30,31]],.block 0 (.rngf (.t 32) [33,34] (r 6 [w 12 (.alloc [O,O,O,O,O,O,.int .u8 0]),s 7 12 34]) (.block 1 (S [r 7 [f 35 2 12,l 36 35,l 37 5,o 38 .eql 36 37,m 39 38,g 39 true (f 40 6 12),g 39 true (l 41 40),g 39 true (k 42 .eql 41 (.int .u8 0)),v 43 39 42],.cond (.t 43) (r 8 [l 44 10,f 45 3 12,L 46 2 45,z (.mupd (.ag [.i,.i]) (.t 44) (.t 46) (.c (.bool true)))]) .skip])))],r 9 [n 13 .nils],S [R 10 [m 47 8,a [0] (w 48 (.nilck (.t 47))),a [1] (f 49 0 48),a [2] (f 50 2 49),a [3] (l 51 50),m 52 8,l 53 5,a [5,6] (c 54 82 [52,53]),a [4,7] (i 55 4 51 54),a [8] (f 56 3 55),a [9] (l 57 56),a [10] (e 58 57),n 59 O],.block 2 (.loop (S [r 11 [o 60 .lss 59 58],.cond (.t 60) .skip (.exit 2),.block 3 (S [r 12 [i 61 1 57 59,l 62 61,m 15 62],r 13 [m 63 8,l 64 5,m 65 15,c 66 80 [63,64,65],e 67 66,n 68 O],.block 4 (.loop (S [r 14 [o 69 .lss 68 67],.cond (.t 69) .skip (.exit 4),.block 5 (S [r 15 [i 70 1 66 68,l 71 70,m 17 71],r 16 [m 72 15,m 73 17,w 74 (.build [O,O] [(0,1,.t 72),(1,1,.t 73)]),w 18 (.alloc [O,O]),s 2 18 74],r 17 [l 75 10,L 76 2 18,w 77 (.look (.ag [.i,.i]) (.bool false) false (.t 75) (.t 76)),t 78 77],.cond (.t 78) (r 18 [m 79 13,L 80 2 18,w 81 (.bsl false 2 1 [O,O] [(0,.t 80)]),w 82 (.app 2 16 (.t 79) (.t 81)),m 13 82]) .skip]),r 19 [k 83 .add 68 I,m 68 83]]))]),r 20 [k 84 .add 59 I,m 59 84]]))],r 21 [m 85 13,m 6 85,n 7 O],.ret]
def Zhb:List RRes:=[.t 6,.t 7]
def Zhc:PCt prog 29 f29 Zha Zhb:=pcT func29 rfl
def Zhd:RCode :=
 S [r 0 [b 5 0,n 10 (.int .u8 0),n 11 O],r 1 [L 18 4 5,m 19 1,m 20 4,m 21 2,m 22 3,w 23 (.bsl false 1 1 [O] [(0,.t 22)]),c 24 69 [18,19,20,21,23],m 17 24,x 25 0 17,x 26 1 17,m 12 25,m 13 26],S [r 2 [m 27 13,k 28 .neq 27 O],K 28 3 [m 29 13,n 10 (.int .u8 0),m 11 29]],r 4 [m 30 12,m 31 1,m 32 2,m 33 3,c 34 74 [30,31,32,33],m 14 34],r 5 [f 36 0 5,L 37 2 36,m 38 3,m 39 4,c 40 61 [37,38,39],m 35 40,x 41 0 35,x 42 1 35,w 15 (.alloc [.nils]),s 1 15 41,m 16 42],.block 0 (S [r 6 [m 44 14,e 45 44,k 46 .eql 45 I,m 47 46,g 47 true (m 48 14),g 47 true (l 49 15),g 47 true (c 50 84 [48,49]),v 51 47 50,m 43 51],.cond (.t 43) (S [r 7 [n 10 (.int .u8 0),n 11 O],.ret]) (S [r 8 [m 53 14,w 54 (.mkf (.func 86) [] [.t 15]),c 55 85 [53,54],t 56 55,m 52 56],K 52 9 [n 10 (.int .u8 2),n 11 O]])]),r 10 [n 10 (.int .u8 1),n 11 O],.ret]
def Zhe:List RRes:=[.t 10,.t 11]
def Zhf:PCt prog 31 f31 Zhd Zhe:=pcT func31 rfl
def Zhg:RCode :=
 S [r 0 [n 3 (.bool false)],r 1 [l 4 1,m 5 0,c 6 87 [4,5],m 3 6],.ret]
def Zhh:List RRes:=[.t 3]
def Zhi:PCt prog 86 f86 Zhg Zhh:=pcT func86 rfl
def Zhj:RCode :=
 S [r 0 [n 4 (.bool false)],S [r 1 [m 6 0,e 7 6,m 8 1,e 9 8,o 10 .neq 7 9],K 10 2 [n 4 (.bool false)]],S [r 3 [m 11 0,e 12 11,n 13 O],.block 0 (.loop (S [r 4 [o 14 .lss 13 12],.cond (.t 14) .skip (.exit 0),.block 1 (S [r 5 [m 15 13,m 5 15],R 6 [m 16 0,m 17 5,a [0,1] (i 18 1 16 17),a [2] (l 19 18),m 20 1,m 21 5,a [4,5] (i 22 1 20 21),a [6] (l 23 22),a [3,7] (o 24 .neq 19 23)],K 24 7 [n 4 (.bool false)]]),r 8 [k 25 .add 13 I,m 13 25]]))],r 9 [n 4 (.bool true)],.ret]
def Zhk:List RRes:=[.t 4]
def Zhl:PCt prog 84 f84 Zhj Zhk:=pcT func84 rfl
end
section
open Qq Tryz
def Zhm:RCode :=
 S [r 0 [b 4 0,n 8 .nilp,n 9 O],r 1 [L 13 2 4,m 14 1,m 15 2,c 16 117 [13,14,15],m 12 16,x 17 0 12,x 18 1 12,m 10 17,m 11 18],S [r 2 [m 19 11,k 20 .neq 19 O],K 20 3 [m 21 11,n 8 .nilp,m 9 21]],S [r 4 [m 22 10,w 23 (.nilck (.t 22)),f 24 2 23,l 25 24,m 26 3,c 27 87 [25,26],t 28 27],K 28 5 [n 8 .nilp,n 9 (.int .i64 6)]],r 6 [m 29 10,m 8 29,n 9 O],.ret]
def Zhn:List RRes:=[.t 8,.t 9]
def Zho:PCt prog 111 f111 Zhm Zhn:=pcT func111 rfl
def Zhp:RCode :=
 S [r 0 [b 1 0,n 2 .nilf],r 1 [w 3 (.mkf (.func 160) [] [.t 1]),m 2 3],.ret]
def Zhq:List RRes:=[.t 2]
def Zhr:PCt prog 112 f112 Zhp Zhq:=pcT func112 rfl
def Zhs:RCode :=
 S [r 0 [l 4 1,w 5 (.nilck (.t 4)),f 6 3 5,l 7 6,e 8 7,w 9 (.vop (.sh true) [(.c I),(.t 8)]),n 10 O],.block 0 (.loop (S [r 1 [o 11 .lss 10 9],.cond (.t 11) .skip (.exit 0),.block 1 (S [r 2 [m 12 10,m 3 12],r 3 [m 13 0,m 14 3,l 15 1,w 16 (.nilck (.t 15)),f 17 3 16,l 18 17,m 19 3,c 20 161 [18,19],w 21 (.callv (.t 13) [.t 14,.t 20]),t 22 21],.cond (.t 22) .ret .skip]),r 4 [k 23 .add 10 I,m 10 23]]))]
def Zht:RCode :=
 S [r 0 [n 4 .nils],r 1 [n 5 .nils],S [r 2 [m 8 0,e 9 8,n 10 O],.block 0 (.loop (S [r 3 [o 11 .lss 10 9],.cond (.t 11) .skip (.exit 0),.block 1 (S [r 4 [m 12 10,i 13 1 8 10,l 14 13,m 6 12,m 7 14],r 5 [m 15 1,m 16 6,w 17 (.vop (.sh false) [(.t 15),(.t 16)]),w 18 (.vop (.bits .and) [(.t 17),(.c I)]),k 19 .eql 18 I],.cond (.t 19) (r 6 [m 20 5,m 21 7,w 22 (.bsl false 1 1 [O] [(0,.t 21)]),w 23 (.app 1 8 (.t 20) (.t 22)),m 5 23]) .skip]),r 7 [k 24 .add 10 I,m 10 24]]))],r 8 [m 25 5,m 4 25],.ret]
def Zhu:List RRes:=[.t 4]
def Zhv:PCt prog 161 f161 Zht Zhu:=pcT func161 rfl
def Zhw:RCode :=
 S [r 0 [b 3 0,b 4 1,b 5 2,n 6 .nils,n 7 O],r 1 [L 14 2 3,l 15 5,l 16 4,w 17 (.call 111 [.t 14,.c .nils,.t 15,.t 16]),m 13 17,x 18 0 13,x 19 1 13,w 8 (.alloc [.nilp]),s 1 8 18,m 9 19],S [r 2 [m 20 9,k 21 .neq 20 O],K 21 3 [m 22 9,n 6 .nils,m 7 22]],r 4 [w 10 (.alloc [.nils])],S [r 5 [l 23 8,c 24 112 [23]],.block 0 (.rngf (.t 24) [25,26] (r 6 [m 12 26]) (.block 1 (R 7 [l 27 10,l 28 8,l 29 8,m 30 12,l 31 5,a [2,3,4] (w 32 (.call 114 [.t 29,.t 30,.c .nils,.t 31])),l 33 4,a [1,5,6,5] (c 34 113 [28,32,33]),a [7] (w 35 (.field false 4 1 (.t 34))),a [8] (w 36 (.bsl false 1 1 [O] [(0,.t 35)])),a [0,9,7] (w 37 (.app 1 8 (.t 27) (.t 36))),a [10,10,0,1,2,3,4,5,6,7,8,9,10] (s 1 10 37)])))],r 8 [l 38 10,c 39 115 [38]],r 9 [l 40 10,c 41 116 [40],m 6 41,n 7 O],.ret]
def Zhx:List RRes:=[.t 6,.t 7]
def Zhy:PCt prog 61 f61 Zhw Zhx:=pcT func61 rfl
def Zhz:RCode :=
 S [r 0 [n 6 .nils],R 1 [m 18 0,a [0] (w 19 (.nilck (.t 18))),a [1] (f 20 0 19),a [2] (f 21 2 20),a [3] (l 22 21),m 23 0,m 24 1,a [5,6] (c 25 82 [23,24]),a [4,7] (i 26 4 22 25),a [8] (L 27 4 26),w 7 (.alloc [O,O,O,.nils]),a [10,9,7,0,1,2,3,4,5,6,7,8,9,10] (s 4 7 27)],S [r 2 [f 28 3 7,l 29 28,m 30 2,c 31 87 [29,30],t 32 31],K 32 3 [n 6 .nils]],r 4 [f 33 1 7,l 34 33,w 35 (.bsl true 1 1 [O] [(0,.t 34)]),m 8 35],S [r 5 [m 36 0,w 37 (.nilck (.t 36)),f 38 0 37,f 39 0 38,f 40 1 39,l 41 40,e 42 41,n 43 O],.block 0 (.loop (S [r 6 [o 44 .lss 43 42],.cond (.t 44) .skip (.exit 0),.block 1 (S [r 7 [i 45 10 41 43,L 46 10 45,w 10 (.alloc [O,O,.int .u8 0,O,O,O,O,O,.bool false,.int .u8 0]),s 10 10 46],r 8 [f 47 5 10,l 48 47,f 49 6 10,l 50 49,k 51 .add 50 I,w 52 (.bsl false 1 2 [O,O] [(0,.t 48),(1,.t 51)]),e 53 52,n 54 O],.block 2 (.loop (S [r 9 [o 55 .lss 54 53],.cond (.t 55) .skip (.exit 2),.block 3 (S [r 10 [i 56 1 52 54,l 57 56,m 12 57],r 11 [f 58 1 7,l 59 58,f 60 2 7,l 61 60,m 62 12,w 63 (.bsl false 1 1 [O] [(0,.t 62)]),c 64 138 [59,61,63]],.cond (.t 64) (r 12 [m 65 8,m 66 12,w 67 (.bsl false 1 1 [O] [(0,.t 66)]),w 68 (.app 1 8 (.t 65) (.t 67)),m 8 68]) .skip]),r 13 [k 69 .add 54 I,m 54 69]]))]),r 14 [k 70 .add 43 I,m 43 70]]))],r 15 [n 13 .nils],S [r 16 [m 71 8,e 72 71,n 73 O],.block 4 (.loop (S [r 17 [o 74 .lss 73 72],.cond (.t 74) .skip (.exit 4),.block 5 (S [r 18 [i 75 1 71 73,l 76 75,m 15 76],r 19 [m 78 0,w 79 (.nilck (.t 78)),f 80 0 79,f 81 0 80,L 82 2 81,m 83 2,m 84 15,c 85 61 [82,83,84],m 77 85,x 86 0 77,x 87 1 77,m 16 86,m 17 87],r 20 [m 88 13,m 89 16,w 90 (.app 1 8 (.t 88) (.t 89)),m 13 90]]),r 21 [k 91 .add 73 I,m 73 91]]))],r 22 [m 92 13,c 93 115 [92]],r 23 [m 94 13,c 95 116 [94],m 6 95],.ret]
def ZhA:List RRes:=[.t 6]
def ZhB:PCt prog 80 f80 Zhz ZhA:=pcT func80 rfl
def ZhC:RCode :=
 S [r 0 [b 3 0,n 6 .nils,n 7 O],r 1 [L 11 4 3,m 12 1,m 13 2,w 14 (.bsl false 1 1 [O] [(0,.t 13)]),w 15 (.call 69 [.t 11,.c O,.c I,.t 12,.t 14]),m 10 15,x 16 0 10,x 17 1 10,m 8 16,m 9 17],S [r 2 [m 18 9,k 19 .neq 18 O],K 19 3 [m 20 9,n 6 .nils,m 7 20]],r 4 [m 21 8,m 22 1,m 23 2,c 24 80 [21,22,23],m 6 24,n 7 O],.ret]
def ZhD:List RRes:=[.t 6,.t 7]
def ZhE:PCt prog 27 f27 ZhC ZhD:=pcT func27 rfl
end
section
open Qq Tryz
def ZhF:RCode :=
 S [r 0 [b 3 0,b 4 1,n 6 (.bool false)],r 1 [m 7 2,w 8 (.mkf (.func 174) [] [.t 3,.t 4]),c 9 85 [7,8],t 10 9,m 6 10],.ret]
def ZhG:List RRes:=[.t 6]
def ZhH:PCt prog 138 f138 ZhF ZhG:=pcT func138 rfl
def ZhI:RCode :=
 S [r 0 [n 4 (.bool false)],r 1 [m 5 0,l 6 1,o 7 .lss 5 6,m 8 7,g 8 false (m 9 0),g 8 false (l 10 2),g 8 false (o 11 .gtr 9 10),u 12 8 11,m 4 12],.ret]
def ZhJ:List RRes:=[.t 4]
def ZhK:PCt prog 174 f174 ZhI ZhJ:=pcT func174 rfl
def ZhL:RCode :=
 S [r 0 [b 3 1,n 4 O],r 1 [m 5 0,w 6 (.nilck (.t 5)),f 7 0 6,f 8 2 7,l 9 8,w 10 (.mkf (.func 141) [] [.t 3]),c 11 140 [9,10],m 4 11],.ret]
def ZhM:List RRes:=[.t 4]
def ZhN:PCt prog 82 f82 ZhL ZhM:=pcT func82 rfl
def ZhO:RCode :=
 S [r 0 [b 2 0,n 3 (.bool false)],r 1 [f 4 0 2,l 5 4,l 6 1,o 7 .eql 5 6,m 3 7],.ret]
def ZhP:List RRes:=[.t 3]
def ZhQ:PCt prog 141 f141 ZhO ZhP:=pcT func141 rfl
def ZhR:RCode :=
 S [r 0 [b 3 1,n 4 (.bool false)],r 1 [f 5 0 3,l 6 5,w 7 (.bsl false 1 1 [O] [(0,.t 6)]),w 8 (.call 138 [.c I,.c (.int .i64 9999),.t 7]),m 9 8,g 9 true (f 10 1 3),g 9 true (l 11 10),g 9 true (w 12 (.bsl false 1 1 [O] [(0,.t 11)])),g 9 true (w 13 (.call 138 [.c O,.c (.int .i64 14610),.t 12])),v 14 9 13,m 4 14],.ret]
def ZhS:List RRes:=[.t 4]
def ZhT:PCt prog 252 f252 ZhR ZhS:=pcT func252 rfl
def ZhU:RCode :=
 S [r 0 [b 3 1,n 4 (.bool false)],r 1 [m 5 0,f 6 2 3,l 7 6,c 8 82 [5,7],k 9 .geq 8 O,m 4 9],.ret]
def ZhV:List RRes:=[.t 4]
def ZhW:PCt prog 253 f253 ZhU ZhV:=pcT func253 rfl
def ZhX:RCode :=
 S [r 0 [b 3 1,n 4 (.bool false)],r 1 [m 5 0,w 6 (.nilck (.t 5)),f 7 0 6,f 8 0 7,f 9 0 8,f 10 0 9,l 11 10,w 12 (.mkf (.func 256) [] [.t 3]),c 13 255 [11,12],m 4 13],.ret]
def ZhY:List RRes:=[.t 4]
def ZhZ:PCt prog 254 f254 ZhX ZhY:=pcT func254 rfl
def Zi0:RCode :=
 S [r 0 [b 2 0,n 3 (.bool false)],r 1 [f 4 3 1,L 5 2 4,f 6 0 2,l 7 6,f 8 1 2,l 9 8,w 10 (.build [O,O] [(0,1,.t 7),(1,1,.t 9)]),w 11 (.eqs false [.i,.i] (.t 5) (.t 10)),m 3 11],.ret]
def Zi1:List RRes:=[.t 3]
def Zi2:PCt prog 256 f256 Zi0 Zi1:=pcT func256 rfl
def Zi3:RCode :=
 S [r 0 [b 3 1,n 4 (.bool false)],r 1 [f 5 6 3,l 6 5,k 7 .leq 6 (.int .u8 2),m 4 7],.ret]
def Zi4:List RRes:=[.t 4]
def Zi5:PCt prog 257 f257 Zi3 Zi4:=pcT func257 rfl
def Zi6:RCode :=
 S [r 0 [b 3 1,n 4 (.bool false)],r 1 [f 5 5 3,l 6 5,k 7 .eql 6 (.int .i64 (-1)),m 8 7,g 8 false (f 9 1 3),g 8 false (l 10 9),g 8 false (f 11 5 3),g 8 false (l 12 11),g 8 false (w 13 (.bsl false 1 1 [O] [(0,.t 12)])),g 8 false (w 14 (.call 138 [.t 10,.c (.int .i64 14610),.t 13])),g 8 false (m 15 14),g 15 true (f 16 6 3),g 15 true (l 17 16),g 15 true (k 18 .eql 17 (.int .u8 0)),g 8 false (v 19 15 18),u 20 8 19,m 4 20],.ret]
def Zi7:List RRes:=[.t 4]
def Zi8:PCt prog 258 f258 Zi6 Zi7:=pcT func258 rfl
def Zi9:RCode :=
 S [r 0 [n 2 (.bool false)],.scope (S [S [r 1 [m 12 0,w 13 (.nilck (.t 12)),f 14 0 13,f 15 2 14,l 16 15,e 17 16,k 18 .gtr 17 (.int .i64 6),m 19 18,g 19 false (m 20 0),g 19 false (w 21 (.nilck (.t 20))),g 19 false (f 22 0 21),g 19 false (f 23 3 22),g 19 false (l 24 23),g 19 false (e 25 24),g 19 false (k 26 .gtr 25 (.int .i64 30)),u 27 19 26],K 27 2 [n 2 (.bool false)]],S [r 3 [m 28 0,w 29 (.nilck (.t 28)),f 30 0 29,f 31 2 30,l 32 31,e 33 32,n 34 O],.block 0 (.loop (S [r 4 [o 35 .lss 34 33],.cond (.t 35) .skip (.exit 0),.block 1 (S [r 5 [m 36 34,i 37 4 32 34,L 38 4 37,w 4 (.alloc [O,O,O,.nils]),m 3 36,s 4 4 38],S [R 6 [f 39 0 4,a [0] (l 40 39),a [1] (w 41 (.bsl false 1 1 [O] [(0,.t 40)])),a [2] (w 42 (.call 138 [.c I,.c (.int .i64 9999),.t 41])),a [3] (t 43 42),a [4,3] (m 44 43),a [5] (g 44 false (m 45 3)),a [6,5] (g 44 false (k 46 .gtr 45 O)),a [7,5,5] (g 44 false (m 47 46)),a [8] (g 47 true (m 48 0)),a [9,8] (g 47 true (w 49 (.nilck (.t 48)))),a [10,8] (g 47 true (f 50 0 49)),a [11,8] (g 47 true (f 51 2 50)),a [12,8] (g 47 true (l 52 51)),a [8] (g 47 true (m 53 3)),a [14,8] (g 47 true (k 54 .sub 53 I)),a [13,15,8] (g 47 true (i 55 4 52 54)),a [16,8] (g 47 true (f 56 0 55)),a [17,8] (g 47 true (l 57 56)),a [8] (g 47 true (f 58 0 4)),a [19,8] (g 47 true (l 59 58)),a [18,20,8] (g 47 true (o 60 .geq 57 59)),a [8,21,5] (g 44 false (v 61 47 60)),a [5,22] (u 62 44 61),a [23,8] (m 63 62),a [24] (g 63 false (f 64 1 4)),a [25,24] (g 63 false (l 65 64)),a [24] (g 63 false (f 66 2 4)),a [27,24] (g 63 false (l 67 66)),a [26,28,24] (g 63 false (w 68 (.bsl false 1 2 [O,O] [(0,.t 65),(1,.t 67)]))),a [29,24,24] (g 63 false (w 69 (.call 138 [.c I,.c (.int .i64 999),.t 68]))),a [30,24] (g 63 false (t 70 69)),a [24,31] (u 71 63 70),a [32,30] (m 72 71),a [33] (g 72 false (f 73 1 4)),a [34,33] (g 72 false (l 74 73)),a [33] (g 72 false (f 75 2 4)),a [36,33] (g 72 false (l 76 75)),a [35,37,33] (g 72 false (o 77 .gtr 74 76)),a [33,38] (u 78 72 77),a [39,33] (m 79 78),a [40] (g 79 false (f 80 3 4)),a [41,40] (g 79 false (l 81 80)),a [42,40] (g 79 false (e 82 81)),a [43,40] (g 79 false (k 83 .gtr 82 (.int .i64 8))),a [40,44] (u 84 79 83)],K 84 7 [n 2 (.bool false)]],r 8 [f 85 3 4,l 86 85,e 87 86,n 88 O],.block 2 (.loop (S [r 9 [o 89 .lss 88 87],.cond (.t 89) .skip (.exit 2),.block 3 (S [r 10 [m 90 88,i 91 1 86 88,l 92 91,m 5 90,m 6 92],r 11 [m 93 0,w 94 (.nilck (.t 93)),f 95 4 94,l 96 95,m 97 6,c 98 87 [96,97],t 99 98,m 100 99,g 100 false (m 101 5),g 100 false (k 102 .gtr 101 O),g 100 false (m 103 102),g 103 true (f 104 3 4),g 103 true (l 105 104),g 103 true (m 106 5),g 103 true (k 107 .sub 106 I),g 103 true (i 108 1 105 107),g 103 true (l 109 108),g 103 true (m 110 6),g 103 true (o 111 .geq 109 110),g 100 false (v 112 103 111),u 113 100 112],K 113 12 [n 2 (.bool false)]]),r 13 [k 114 .add 88 I,m 88 114]]))]),r 14 [k 115 .add 34 I,m 34 115]]))],r 15 [n 7 (.bool true)],(.label 0),S [r 16 [m 116 0,w 117 (.nilck (.t 116)),f 118 0 117,f 119 3 118,l 120 119,e 121 120,n 122 O],.block 4 (.loop (S [r 17 [o 123 .lss 122 121],.cond (.t 123) .skip (.exit 4),.block 5 (S [r 18 [m 124 122,i 125 7 120 122,L 126 7 125,w 9 (.alloc [O,O,O,O,O,O,.int .u8 0]),m 8 124,s 7 9 126],S [R 19 [m 127 8,a [0] (k 128 .gtr 127 O),a [1] (m 129 128),a [2] (g 129 true (m 130 0)),a [3,2] (g 129 true (w 131 (.nilck (.t 130)))),a [4,2] (g 129 true (f 132 0 131)),a [5,2] (g 129 true (f 133 3 132)),a [6,2] (g 129 true (l 134 133)),a [2] (g 129 true (m 135 8)),a [8,2] (g 129 true (k 136 .sub 135 I)),a [7,9,2] (g 129 true (i 137 7 134 136)),a [10,2] (g 129 true (f 138 0 137)),a [11,2] (g 129 true (l 139 138)),a [2] (g 129 true (f 140 0 9)),a [13,2] (g 129 true (l 141 140)),a [12,14,2] (g 129 true (o 142 .geq 139 141)),a [2,15] (v 143 129 142)],K 143 20 [n 2 (.bool false)]],r 21 [w 144 (.load true 5 (.g 1)),n 145 O],.block 6 (.loop (S [r 22 [k 146 .lss 145 (.int .i64 5)],.cond (.t 146) .skip (.exit 6),.block 7 (S [r 23 [w 147 (.vop (.aidx true 5 1) [(.t 144),(.t 145)]),w 11 (.alloc [.nilf]),s 1 11 147],r 24 [f 148 0 11,l 149 148,m 150 0,L 151 7 9,w 152 (.callv (.t 149) [.t 150,.t 151]),m 7 152],r 25 [m 153 7,t 154 153],.cond (.t 154) (.exit 4) .skip]),r 26 [k 155 .add 145 I,m 145 155]]))]),r 27 [k 156 .add 122 I,m 122 156]]))],r 28 [m 157 7,m 2 157],.ret])]
def Zia:List RRes:=[.t 2]
def Zib:PCt prog 132 f132 Zi9 Zia:=pcT func132 rfl
def Zic:RCode :=
 S [r 0 [b 1 0,n 2 .nilp,n 3 O],S [r 1 [f 6 0 1,L 7 2 6,c 8 130 [7],m 4 8],r 2 [m 9 4,k 10 .neq 9 O],K 10 3 [m 11 4,n 2 .nilp,m 3 11]],r 4 [L 12 4 1,w 13 (.build [.nils,.nils,.nils,.nils,.nils] [(0,4,.t 12)]),b 14 13,m 5 14],r 5 [m 16 5,f 17 0 1,f 18 0 17,L 19 1 18,c 20 131 [19],m 15 20,x 21 0 15,x 22 1 15,w 23 (.nilck (.t 16)),f 24 4 23,s 1 24 21],S [r 6 [m 25 5,c 26 132 [25],t 27 26],K 27 7 [n 2 .nilp,n 3 (.int .i64 70)]],r 8 [m 28 5,m 2 28,n 3 O],.ret]
def Zid:List RRes:=[.t 2,.t 3]
def Zie:PCt prog 76 f76 Zic Zid:=pcT func76 rfl
def Zif:RCode :=
 S [r 0 [b 1 0,n 2 O],r 1 [L 6 4 1,c 7 76 [6],m 5 7,x 8 0 5,x 9 1 5,m 3 8,m 4 9],r 2 [m 10 4,m 2 10],.ret]
def Zig:List RRes:=[.t 2]
def Zih:PCt prog 23 f23 Zif Zig:=pcT func23 rfl
def Zii:RCode :=
 S [r 0 [b 3 0,n 6 .nilp,n 7 O],r 1 [L 11 4 3,c 12 76 [11],m 10 12,x 13 0 10,x 14 1 10,m 8 13,m 9 14],S [r 2 [m 15 9,k 16 .neq 15 O],K 16 3 [m 17 9,n 6 .nilp,m 7 17]],S [r 4 [m 18 1,w 19 (.bsl false 1 1 [O] [(0,.t 18)]),w 20 (.call 138 [.c O,.c (.int .i64 14610),.t 19]),t 21 20,m 22 21,g 22 false (m 23 2),g 22 false (w 24 (.bsl false 1 1 [O] [(0,.t 23)])),g 22 false (w 25 (.call 138 [.c I,.c (.int .i64 999),.t 24])),g 22 false (t 26 25),u 27 22 26],K 27 5 [n 6 .nilp,n 7 (.int .i64 2)]],r 6 [m 28 8,m 6 28,n 7 O],.ret]
def Zij:List RRes:=[.t 6,.t 7]
def Zik:PCt prog 89 f89 Zii Zij:=pcT func89 rfl
def Zil:RCode :=
 S [r 0 [b 5 0,n 10 .nilp,n 11 O],r 1 [L 15 4 5,m 16 1,m 17 2,c 18 89 [15,16,17],m 14 18,x 19 0 14,x 20 1 14,w 12 (.alloc [.nilp]),s 1 12 19,m 13 20],S [r 2 [m 21 13,k 22 .neq 21 O],K 22 3 [m 23 13,n 10 .nilp,m 11 23]],S [r 4 [l 24 12,m 25 3,c 26 82 [24,25],k 27 .lss 26 O,m 28 27,g 28 false (m 29 4),g 28 false (w 30 (.mkf (.func 127) [] [.t 12])),g 28 false (c 31 85 [29,30]),u 32 28 31],K 32 5 [n 10 .nilp,n 11 (.int .i64 6)]],r 6 [l 33 12,m 10 33,n 11 O],.ret]
def Zim:List RRes:=[.t 10,.t 11]
def Zin:PCt prog 69 f69 Zil Zim:=pcT func69 rfl
def Zio:RCode :=
 S [r 0 [n 3 (.bool false)],r 1 [l 4 1,w 5 (.nilck (.t 4)),f 6 4 5,l 7 6,m 8 0,c 9 87 [7,8],t 10 9,m 3 10],.ret]
def Zip:List RRes:=[.t 3]
def Ziq:PCt prog 127 f127 Zio Zip:=pcT func127 rfl
def Zir:RCode :=
 S [r 0 [b 2 0,b 3 1,n 4 .nilf],r 1 [w 5 (.mkf (.func 128) [] [.t 2,.t 3]),m 4 5],.ret]
def Zis:List RRes:=[.t 4]
def Zit:PCt prog 70 f70 Zir Zis:=pcT func70 rfl
def Ziu:RCode :=
 S [r 0 [l 7 1,w 8 (.nilck (.t 7)),f 9 0 8,f 10 3 9,l 11 10,e 12 11,n 13 O],.block 0 (.loop (S [r 1 [o 14 .lss 13 12],.cond (.t 14) .skip (.exit 0),.block 1 (S [r 2 [m 15 13,i 16 7 11 13,L 17 7 16,w 5 (.alloc [O,O,O,O,O,O,.int .u8 0]),m 4 15,s 7 5 17],r 3 [f 18 5 5,l 19 18,k 20 .neq 19 (.int .i64 (-1)),m 21 20,g 21 true (f 22 5 5),g 21 true (l 23 22),g 21 true (l 24 2),g 21 true (o 25 .leq 23 24),v 26 21 25,m 6 26],r 4 [f 27 1 5,l 28 27,l 29 2,o 30 .leq 28 29,m 31 30,g 31 true (m 32 6),g 31 true (t 33 32),v 34 31 33,m 35 34,g 35 true (f 36 6 5),g 35 true (l 37 36),g 35 true (k 38 .neq 37 (.int .u8 2)),v 39 35 38,m 40 39,g 40 true (m 41 0),g 40 true (m 42 4),g 40 true (L 43 7 5),g 40 true (w 44 (.callv (.t 41) [.t 42,.t 43])),g 40 true (t 45 44),v 46 40 45],.cond (.t 46) .ret .skip]),r 5 [k 47 .add 13 I,m 13 47]]))]
def Ziv:RCode :=
 S [r 0 [b 3 0,b 5 2,w 6 (.alloc [.nils]),w 7 (.alloc [.nils]),n 8 O],r 1 [L 13 4 3,m 14 1,l 15 5,w 16 (.call 69 [.t 13,.t 14,.c I,.t 15,.c .nils]),m 12 16,x 17 0 12,x 18 1 12,m 9 17,m 8 18],S [r 2 [m 19 8,k 20 .neq 19 O],K 20 3 [m 21 8,z (.store 1 (.t 6) (.c .nils)),z (.store 1 (.t 7) (.c .nils)),m 8 21]],S [r 4 [m 22 9,m 23 1,c 24 70 [22,23]],.block 0 (.rngf (.t 24) [25,26] (r 5 [w 11 (.alloc [O,O,O,O,O,O,.int .u8 0]),s 7 11 26]) (.block 1 (.block 2 (S [r 7 [f 33 2 11,l 34 33,l 35 5,o 36 .neq 34 35,m 32 36],.cond (.t 32) .skip (S [r 8 [f 38 6 11,l 39 38,k 40 .eql 39 (.int .u8 1),m 37 40],.cond (.t 37) (r 9 [l 41 7,f 42 0 11,l 43 42,w 44 (.bsl false 1 1 [O] [(0,.t 43)]),w 45 (.app 1 8 (.t 41) (.t 44)),s 1 7 45]) (r 6 [l 27 6,f 28 0 11,l 29 28,w 30 (.bsl false 1 1 [O] [(0,.t 29)]),w 31 (.app 1 8 (.t 27) (.t 30)),s 1 6 31])])]))))],R 10 [l 46 6,l 47 7,a [0,0] (s 1 6 46),a [1,2,0,1,2] (s 1 7 47),a [3,0,1,2,3] (n 8 O)],.ret]
def Ziw:List RRes:=[.c 6 false 1,.c 7 false 1,.t 8]
def Zix:PCt prog 19 f19 Ziv Ziw:=pcT func19 rfl
def Ziy:RCode :=
 S [r 0 [b 6 2,b 7 3,n 8 .nils],r 1 [w 9 (.alloc [O]),z (.store 1 (.t 9) (.c O))],r 2 [w 10 (.alloc [.nils])],S [r 3 [m 14 0,m 15 1,c 16 70 [14,15]],.block 0 (.rngf (.t 16) [17,18] (r 4 [w 12 (.alloc [O,O,O,O,O,O,.int .u8 0]),s 7 12 18]) (.block 1 (S [S [r 5 [f 19 2 12,l 20 19,l 21 6,o 22 .neq 20 21,m 23 22,g 23 false (f 24 3 12),g 23 false (f 25 0 24),g 23 false (l 26 25),g 23 false (l 27 7),g 23 false (o 28 .neq 26 27),u 29 23 28],.cond (.t 29) (.exit 1) .skip],r 6 [f 30 6 12,l 31 30,k 32 .eql 31 (.int .u8 1)],.cond (.t 32) (r 7 [l 33 10,f 34 3 12,f 35 1 34,l 36 35,w 37 (.bsl false 1 1 [O] [(0,.t 36)]),w 38 (.app 1 8 (.t 33) (.t 37)),s 1 10 38]) (r 8 [l 39 9,f 40 3 12,f 41 1 40,l 42 41,w 43 (.mx true (.t 39) [.t 42]),s 1 9 43])])))],r 9 [l 44 10,l 45 9,w 46 (.bsl false 1 1 [O] [(0,.t 45)]),w 47 (.app 1 8 (.t 44) (.t 46)),m 13 47],r 10 [m 48 13,c 49 115 [48]],r 11 [m 50 13,c 51 116 [50],m 13 51],r 12 [m 52 13,m 53 13,l 54 9,c 55 129 [53,54],w 56 (.slc 1 (.t 52) (some (.t 55)) none),m 8 56],.ret]
def Ziz:List RRes:=[.t 8]
def ZiA:PCt prog 74 f74 Ziy Ziz:=pcT func74 rfl
def ZiB:RCode :=
 S [r 0 [b 4 0,n 8 .nils,n 9 O],r 1 [L 13 4 4,m 14 1,m 15 2,m 16 3,w 17 (.bsl false 1 1 [O] [(0,.t 16)]),w 18 (.call 69 [.t 13,.t 14,.c I,.t 15,.t 17]),m 12 18,x 19 0 12,x 20 1 12,m 10 19,m 11 20],S [r 2 [m 21 11,k 22 .neq 21 O],K 22 3 [m 23 11,n 8 .nils,m 9 23]],r 4 [m 24 10,m 25 1,m 26 2,m 27 3,c 28 74 [24,25,26,27],m 8 28,n 9 O],.ret]
def ZiC:List RRes:=[.t 8,.t 9]
def ZiD:PCt prog 21 f21 ZiB ZiC:=pcT func21 rfl
def ZiE:RCode :=
 S [r 0 [n 4 O],S [r 1 [m 6 0,e 7 6,n 8 O],.block 0 (.loop (S [r 2 [o 9 .lss 8 7],.cond (.t 9) .skip (.exit 0),.block 1 (S [r 3 [m 10 8,m 5 10],r 4 [m 11 1,m 12 0,m 13 5,i 14 4 12 13,L 15 4 14,w 16 (.callv (.t 11) [.t 15])],K 16 5 [m 17 5,m 4 17]]),r 6 [k 18 .add 8 I,m 8 18]]))],r 7 [n 4 (.int .i64 (-1))],.ret]
def ZiF:List RRes:=[.t 4]
def ZiG:PCt prog 140 f140 ZiE ZiF:=pcT func140 rfl
def ZiH:RCode :=
 S [r 0 [n 4 O],S [r 1 [m 6 0,e 7 6,n 8 O],.block 0 (.loop (S [r 2 [o 9 .lss 8 7],.cond (.t 9) .skip (.exit 0),.block 1 (S [r 3 [m 10 8,m 5 10],r 4 [m 11 1,m 12 0,m 13 5,i 14 5 12 13,L 15 5 14,w 16 (.callv (.t 11) [.t 15])],K 16 5 [m 17 5,m 4 17]]),r 6 [k 18 .add 8 I,m 8 18]]))],r 7 [n 4 (.int .i64 (-1))],.ret]
def ZiI:List RRes:=[.t 4]
def ZiJ:PCt prog 259 f259 ZiH ZiI:=pcT func259 rfl
def ZiK:RCode :=
 S [r 0 [n 4 (.bool false)],r 1 [m 5 0,m 6 1,c 7 259 [5,6],k 8 .geq 7 O,m 4 8],.ret]
def ZiL:List RRes:=[.t 4]
def ZiM:PCt prog 255 f255 ZiK ZiL:=pcT func255 rfl
def ZiN:RCode :=
 S [r 0 [n 2 .nils],S [r 1 [m 6 0,e 7 6,k 8 .lss 7 (.int .i64 2)],K 8 2 [m 9 0,m 2 9]],S [r 3 [n 3 I],.block 0 (.loop (S [S [r 4 [m 10 3,m 11 0,e 12 11,o 13 .lss 10 12],.cond (.t 13) .skip (.exit 0)],.block 1 (S [R 6 [m 16 0,m 17 3,a [0,1] (i 18 1 16 17),a [2] (l 19 18),m 20 0,m 21 3,a [5] (k 22 .sub 21 I),a [4,6] (i 23 1 20 22),a [7] (l 24 23),a [3,8] (o 25 .eql 19 24)],.cond (.t 25) (S [r 7 [m 26 0,m 27 3,w 28 (.slc 1 (.t 26) (some (.t 27)) none),m 4 28],S [r 8 [n 5 I],.block 2 (.loop (S [S [r 9 [m 29 5,m 30 4,e 31 30,o 32 .lss 29 31],.cond (.t 32) .skip (.exit 2)],.block 3 (S [R 11 [m 35 4,m 36 5,a [0,1] (i 37 1 35 36),a [2] (l 38 37),m 39 4,m 40 5,a [5] (k 41 .sub 40 I),a [4,6] (i 42 1 39 41),a [7] (l 43 42),a [3,8] (o 44 .neq 38 43)],.cond (.t 44) (S [r 12 [m 45 0,m 46 3,m 47 4,m 48 5,i 49 1 47 48,l 50 49,i 51 1 45 46,s 1 51 50],r 13 [m 52 3,k 53 .add 52 I,m 3 53]]) .skip]),r 10 [m 33 5,k 34 .add 33 I,m 5 34]]))],r 14 [m 54 0,m 55 3,w 56 (.slc 1 (.t 54) (some (.t 55)) none),z (.clr 1 [O] (.t 56))],r 15 [m 57 0,m 58 3,w 59 (.slc 1 (.t 57) none (some (.t 58))),m 2 59],.ret]) .skip]),r 5 [m 14 3,k 15 .add 14 I,m 3 15]]))],r 16 [m 60 0,m 2 60],.ret]
def ZiO:List RRes:=[.t 2]
def ZiP {G:Jg} {objs objs':List (Nat×AObj)} {args:List AV} {v:AV} (hn:args.length<=f116.ntmps) (h:∀ R:Run,R.G=G->R.Top->AR prog R ZiN ⟨iniT 0 args,objs⟩ (FinB ZiO v objs')):PB prog G 116 objs args v objs' :=
 PB_of func116 rfl (by kernel_rfl) (rc:=ZiN) (by kernel_rfl) (rs:=ZiO) (by kernel_rfl) hn (λR _ hG hr=>h R hG hr)
end
def ZiQ {l:Jl} {d m:Int} (h:∀ v,v<2 ^ (opQ l).length->1<=ltV l d m v/\ltV l d m v<=8):setI ((List.range (2 ^ (opQ l).length)).map (ltV l d m))=posL l d m:=by
 refine ZbG (Zg8 l d m) λx=>?_
 rw[Zga,W0i]
 constructor
 . rintro ⟨-,v,hv,rfl⟩;exact ⟨v,W1u.2 hv,rfl⟩
 . rintro ⟨v,hv,rfl⟩;have hv:=W1u.1 hv;exact ⟨h v hv,v,hv,rfl⟩
def ZiR {l:Jl} {h:Hld} {d:Int} (hd:h.ds.contains d=true):setI ((mks l h).flatMap λm=>posL l d m)=ndsL l h d:=by
 refine ZbG (Zg9 l h d) λx=>?_
 rw[Zgb,W0u];exact ⟨λq=>q.2,λq=>⟨by simpa using hd,q⟩⟩
def ZiS {dl:List Int} {L left:Jp} {a:List Int} (hl:dl.Pairwise (· < ·)) (hd:∀ x∈L,x.dw∈dl) (hm:∀ x,x∈left↔x∈L/\a.contains x.ho=false):setI (left.map (·.dw))=ndL dl L a:=by
 refine ZbG (hl.filter _) λd=>?_
 unfold ndL;rw[W0G,W0i,W14]
 constructor
 . rintro ⟨h1,x,hx,q⟩;simp only[W01,W0b,W1C]at q;exact ⟨x,(hm x).2 ⟨hx,q.2⟩,q.1⟩
 . rintro ⟨x,hx,rfl⟩;obtain ⟨h1,h2⟩:=(hm x).1 hx;exact ⟨hd x h1,x,h1,by rw[h2];simp⟩
def ZiT (ids:List Int) (s:Nat):∀ i,i<=ids.length->((List.range i).filter λj=>s.testBit j).map (λj=>ids.getD j 0)=sbN ids s i
 |0,_=>rfl
 | i+1,h=>by
   rw[W1y,W1a,W0r,ZiT ids s i (by omega),sbN]
   have e:s.testBit i=decide (s / 2 ^ i % 2=1):=by
    rw[Nat.testBit_eq_decide_div_mod_eq]
   by_cases c:s / 2 ^ i % 2=1
   . rw[if_pos c,W2j (by rw[e];simpa using c)];rfl
   . rw[if_neg c,W2k (by rw[e];simpa using c)];simp
def ZiU (ids:List Int) (s:Nat):bitL ids s=sbT ids s:=ZiT ids s ids.length (W0f _)
def ZiV {r:Jr} (h:openV r=0):Z8J r=true:=by
 unfold openV at h
 split at h
 . assumption
 . cases h
def ZiW {r:Jr} {l:Jl} (hr:openV r=0) (hB:Zbh r l=true) {d:Int} (hd:d∈nums r) (m:Int) (v:Nat):(findN d (ltV l d m v) r).isSome=true:=by
 have hL:=ZiV hr
 have hone:(findN d 1 r).isSome=true:=by
  rw[Zbd hL];obtain ⟨i,hi,e⟩:=Z8V (Z8R hL) hd;have hm:=W0e hi;have hf:=Zbc hL hm;have h1:inR r[i].l 1 (lastV r d)=true:=(Zbd hL d r[i].l).1 (by rw[<- e,hf];rfl);have h2:=W0X h1;exact W0M (by omega)
 have hd0:d≠0:=by
  obtain ⟨i,hi,e⟩:=Z8V (Z8R hL) hd;have hm:=W0e hi;have h1:Z8J r=true:=hL;simp only[Z8J,W01,W03]at h1;have h2:=h1.1.1.1.2 _ hm;simp only[issB,headB,W01]at h2;have h3:1<=r[i].d/\r[i].d<=9999:=(by simpa [inR] using h2.1.1.1.1.1);omega
 have key:∀ i,i<=l.length->(findN d (byV (sbT (opQ l) v) m l d i).lt r).isSome=true:=by
  intro i
  induction i with
  |zero=>intro _;exact hone
  | succ i ih =>
    intro hi;rw[byV]
    split
    . rename_i c;simp only[Zbh,W01]at hB;have h1:=Z8G.1 hB.1.2 i (by omega);simp only[noteB,W01]at h1;have h4:=h1.1.1.1.1.2;unfold cN4 at h4;rw[if_neg (by rw[c.1];intro q;exact hd0 q.1),c.1]at h4;exact h4
    . exact ih (by omega)
 exact key l.length (W0f _)
def ZiX {r:Jr} {l:Jl} (hr:openV r=0) (hB:Zbh r l=true) {d:Int} (hd:d∈nums r) (m:Int) (v:Nat):1<=ltV l d m v/\ltV l d m v<=8:=by
 have hL:=ZiV hr;obtain ⟨x,hx⟩:=W0t.1 (ZiW hr hB hd m v);obtain ⟨h1,h2,h3⟩:=Z99 hx;have h4:=hL;simp only[Z8J,W01,W03]at h4;have h5:=h4.1.1.1.2 _ h1;simp only[issB,headB,W01]at h5;have h6:1<=x.l/\x.l<=8:=(by simpa [inR] using h5.1.1.1.1.2);omega
def ZiY {r:Jr} {l:Jl} (hr:openV r=0) (hB:Zbh r l=true) {h:Hld} {d:Int} (hd:d∈nums r) (hh:d∈h.ds):ndsL l h d≠[]:=by
 intro e;have:ltV l d h.fr 0∈ndsL l h d:=Zgb.2 ⟨hh,h.fr,Zg6.2 (.inl rfl),Zga.2 ⟨ZiX hr hB hd h.fr 0,0,Nat.two_pow_pos _,rfl⟩⟩;rw[e]at this
 cases this
instance:Inhabited Hld:=⟨⟨0,0,0,[]⟩⟩
instance:Inhabited Prt:=⟨⟨0,0,0,0,0,0,0⟩⟩
def hAt (hs:Jh) (i:Nat):Hld:=hs.getD i default
def pAt (ps:Jp) (i:Nat):Prt:=ps.getD i default
def ZiZ {hs:Jh} {i:Nat} (h:i<hs.length):hAt hs i=hs[i]:=by simp[hAt,W0j,h]
def Zj0 {ps:Jp} {i:Nat} (h:i<ps.length):pAt ps i=ps[i]:=by simp[pAt,W0j,h]
def wksB (D ds:List Int):Bool:=(List.range ds.length).all λk=>D.contains (ds.getD k 0)&&(k == 0||decide (ds.getD (k-1) 0<ds.getD k 0))
def hoB (D:List Int) (hs:Jh) (i:Nat):Bool:=inR (hAt hs i).id 1 9999&&(i == 0||decide ((hAt hs (i-1)).id<(hAt hs i).id))&&inR (hAt hs i).fr 1 (hAt hs i).to&&decide ((hAt hs i).to<=999)&&decide ((hAt hs i).ds.length<=8)&&wksB D (hAt hs i).ds
def prB (r:Jr) (hs:Jh) (x:Prt):Bool:=inR x.no 1 9999&&inR x.dy 0 14610&&(hoF hs x.ho).isSome&&decide (x.lo<=2)&&(findN x.dw x.lt r).isSome&&(decide (x.bk = -1)||(inR x.bk x.dy 14610&&decide (x.lo=0)))
def shB (r:Jr) (hs:Jh) (ps:Jp) (i:Nat):Bool:=(i == 0||decide ((pAt ps (i-1)).no<(pAt ps i).no))&&prB r hs (pAt ps i)
def ptsB (r:Jr) (hs:Jh) (ps:Jp):Bool:=decide (hs.length<=6)&&decide (ps.length<=30)&&(List.range hs.length).all (hoB (nums r) hs)&&(List.range ps.length).all (shB r hs ps)
def ck7 (r:Jr) (l:Jl) (hs:Jh) (ps:Jp):Int:=if chN r l=0 then if ptsB r hs ps=true then 0 else 70 else chN r l
def Zj1 {f:Nat->Int} {n:Nat} (h:∀ i,i+1<n->f i<f (i+1)):∀ i j,i<j->j<n->f i<f j:=by
 intro i j hij hj
 induction j with
 |zero=>omega
 | succ j ih =>
   by_cases c:i=j
   . subst c;exact h i hj
   . have:=ih (by omega) (by omega);have:=h j hj;omega
section
variable {r:Jr} {hs:Jh} {ps:Jp}
def Zj2 {D ds:List Int}:wksB D ds=true↔(∀ d∈ds,d∈D)/\ds.Pairwise (· < ·):=by
 unfold wksB;rw[Z8G];have g:∀ k (hk:k<ds.length),ds.getD k 0=ds[k]:=λk hk=>by simp[W0j,hk]
 constructor
 . intro h;refine ⟨λd hd=>?_,?_⟩
   . obtain ⟨k,hk,rfl⟩:=W0k hd;have:=h k hk;rw[W01,g k hk]at this;simpa using this.1
   . rw[W0Y];intro i j hi hj hij
     have:=Zj1 (f:=λk=>ds.getD k 0) (n:=ds.length) (λk hk=>by
      have:=h (k+1) hk;rw[W01,W0T]at this;simpa using this.2) i j hij hj
     simp only[g i hi,g j hj]at this;exact this
 . rintro ⟨h1,h2⟩ k hk;rw[W01,g k hk];refine ⟨by simpa using h1 _ (W0e hk),?_⟩
   cases k with
   |zero=>rfl
   | succ k =>
     have:=W0Y.1 h2 k (k+1) (by omega) hk (by omega);simp[W0j,hk,show k<ds.length by omega,this]
structure OkH (r:Jr) (hs:Jh):Prop where
 len:hs.length<=6
 lt:(hs.map (·.id)).Pairwise (· < ·)
 id:∀ h∈hs,1<=h.id/\h.id<=9999
 mc:∀ h∈hs,1<=h.fr/\h.fr<=h.to/\h.to<=999
 ds:∀ h∈hs,h.ds.length<=8/\(∀ d∈h.ds,d∈nums r)/\h.ds.Pairwise (· < ·)
def Zj3 (hl:hs.length<=6) (h:(List.range hs.length).all (hoB (nums r) hs)=true):OkH r hs:=by
 rw[Z8G]at h
 have g:∀ x∈hs,∃ i,∃ hi:i<hs.length,hs[i]=x/\hoB (nums r) hs i=true:=λx hx=>by
  obtain ⟨i,hi,rfl⟩:=W0k hx;exact ⟨i,hi,rfl,h i hi⟩
 have p:∀ x∈hs,inR x.id 1 9999=true/\inR x.fr 1 x.to=true/\x.to<=999/\x.ds.length<=8/\wksB (nums r) x.ds=true:=λx hx=>by
  obtain ⟨i,hi,rfl,q⟩:=g x hx;simp only[hoB,ZiZ hi,W01,W0b]at q;exact ⟨q.1.1.1.1.1,q.1.1.1.2,q.1.1.2,q.1.2,q.2⟩
 refine ⟨hl,?_,λx hx=>Zg0.1 (p x hx).1,λx hx=>?_,λx hx=>⟨(p x hx).2.2.2.1,Zj2.1 (p x hx).2.2.2.2⟩⟩
 . rw[W2o,W0Y];intro i j hi hj hij
   have:=Zj1 (f:=λk=>(hAt hs k).id) (n:=hs.length) (λk hk=>by
    have q:=h (k+1) hk;simp only[hoB,W01,W0T,W0b]at q;have q2:=q.1.1.1.1.2;simpa using q2) i j hij hj
   simp only[ZiZ hi,ZiZ hj]at this;exact this
 . have q:=(p x hx).2;have q1:=Zg0.1 q.1;exact ⟨q1.1,q1.2,q.2.1⟩
def Zj4:ptsB r hs ps=true↔(hs.length<=6/\(List.range hs.length).all (hoB (nums r) hs)=true)/\ps.length<=30/\riP ps/\∀ x∈ps,prB r hs x=true:=by
 unfold ptsB;rw[W01,W01,W01,W0b,W0b,Z8G (n:=ps.length)]
 constructor
 . rintro ⟨⟨⟨h1,h2⟩,h3⟩,h4⟩;refine ⟨⟨h1,h3⟩,h2,?_,λx hx=>?_⟩
   . unfold riP;rw[W0Y];intro i j hi hj hij
     have:=Zj1 (f:=λk=>(pAt ps k).no) (n:=ps.length) (λk hk=>by
      have q:=h4 (k+1) hk;simp only[shB,W01,W0T,W0b]at q;simpa using q.1) i j hij hj
     simp only[Zj0 hi,Zj0 hj]at this;exact this
   . obtain ⟨i,hi,rfl⟩:=W0k hx;have:=h4 i hi;rw[shB,W01,Zj0 hi]at this;exact this.2
 . rintro ⟨⟨h1,h3⟩,h2,h4,h5⟩;refine ⟨⟨⟨h1,h2⟩,h3⟩,λi hi=>?_⟩;rw[shB,W01,Zj0 hi];refine ⟨?_,h5 _ (W0e hi)⟩
   cases i with
   |zero=>rfl
   | succ i =>
     have:=W0Y.1 h4 i (i+1) (by omega) hi (by omega);simp[Zj0 (show i<ps.length by omega),this]
def Zj5 {id:Int} {h:Hld} (q:hoF hs id=some h):h∈hs/\h.id=id:=by
 unfold hoF at q;exact ⟨List.mem_of_find?_eq_some q,by simpa using List.find?_some q⟩
def Zj6 (hl:(hs.map (·.id)).Pairwise (· < ·)) {h:Hld} (hh:h∈hs):hoF hs h.id=some h:=by
 unfold hoF
 induction hs with
 |nil=>cases hh
 | cons a t ih =>
   rw[W0F,W1l]at hl;rw[List.find?_cons];rcases W0g.1 hh with rfl|hh
   . simp
   . have:=hl.1 h.id (W0i.2 ⟨h,hh,rfl⟩);rw[show decide (a.id=h.id)=false by simp;omega];exact ih hl.2 hh
variable {l:Jl} {day:Int} {a b:List Int}
end
def prA (r:Jr) (l:Jl) (hs:Jh) (ps:Jp):AV:=.agg [.vsl (r.map isa),.vsl (l.map na),.vsl (hs.map hoa),.vsl (ps.map ptA)]
def ofA (r:Jr) (l:Jl) (hs:Jh) (ps:Jp):AV:=.vptr [.vsl (r.map isa),.vsl (l.map na),.vsl (hs.map hoa),.vsl (ps.map ptA),.vsl ((nums r).map ia)] 0
def Zj7 (r:Jr) (l:Jl) (hs:Jh) (ps:Jp):(ofA r l hs ps).pure=true:=by unfold ofA;simp[AV.pure,isa,na,hoa,ptA]
def Zj8 (r:Jr) (l:Jl) (hs:Jh) (ps:Jp):(ofA r l hs ps).keys=[]:=AV.pure_keys _ (Zj7 r l hs ps)
def POk (x:Prt):Prop:=0<=x.lo/\x.lo<=255
def NOk7 (x:Nte):Prop:=0<=x.sg/\x.sg<=255/\0<=x.wy/\x.wy<=255
structure WfP (hs:Jh) (ps:Jp):Prop where
 hl:hs.length<=8
 pl:ps.length<=41
 dl:∀ h∈hs,h.ds.length<=20
 po:∀ x∈ps,POk x
def outI (ps:Jp) (day:Int) (n:Nat):List Nat:=(List.range n).filter λi=>outB (pAt ps i) day
def outP (ps:Jp) (day:Int):List Prt:=ps.filter λx=>outB x day
def Zj9 {ps:Jp} {day:Int} {n:Nat}:outI ps day (n+1)=if outB (pAt ps n) day=true then outI ps day n++[n] else outI ps day n:=by
 unfold outI;rw[W1y,W1a]
 split <;> simp_all
def Zja {ps:Jp} {day:Int}:∀ {n i:Nat},i<n->outB (pAt ps i) day=true->(outI ps day n)[(outI ps day i).length]? = some i
 |0,_,h,_=>by omega
 | n + 1,i,h,ho=>by
   rw[Zj9];by_cases e:i=n
   . subst e;rw[if_pos ho];simp
   . have ih:=Zja (n:=n) (i:=i) (by omega) ho
     split
     . rw[W0E (W02.1 ih).1];exact ih
     . exact ih
def Zjb (ps:Jp) (day:Int):∀ n,n<=ps.length->(outI ps day n).map (pAt ps)=(ps.take n).filter λx=>outB x day
 |0,_=>by simp[outI]
 | n+1,h=>by
   have hn:n<ps.length:=h;rw[Zj9,W08 hn,W1a,<- Zjb ps day n (by omega),Zj0 hn];by_cases c:outB ps[n] day=true
   . rw[if_pos c];simp[c,Zj0 hn]
   . rw[if_neg c];simp[c]
def Zjc (ps:Jp) (day:Int):(outI ps day ps.length).map (pAt ps)=outP ps day:=by
 rw[Zjb ps day _ (W0f _),W0v];rfl
def Zjd (ps:Jp) (day:Int):(outI ps day ps.length).length=(outP ps day).length:=by rw[<- Zjc,W0N]
def outE (ps:Jp) (day:Int):List (AV×AV):=(outI ps day ps.length).map λ(i:Nat)=>(.int .i64 (i:Int),.agg (ptA (pAt ps i)))
def Zje (ps:Jp) (day:Int):(outE ps day).length=(outP ps day).length:=by unfold outE;rw[W0N,Zjd]
def Zjf {ps:Jp} {day:Int} {k:Nat} {x:AV×AV} (h:(outE ps day)[k]? = some x):∃ i:Nat,∃ hk:k<(outP ps day).length,x=(.int .i64 i,.agg (ptA (outP ps day)[k])):=by
 unfold outE at h;rw[W09]at h;obtain ⟨i,hi,rfl⟩:=W04.1 h;have h2:((outI ps day ps.length).map (pAt ps))[k]? = some (pAt ps i):=(by rw[W09,hi];rfl);rw[Zjc]at h2;obtain ⟨hk,h3⟩:=W02.1 h2;exact ⟨i,hk,by rw[h3]⟩
def pkL {α β:Type} (p:α->Bool) (f:α->β) (L:List α) (k:Nat):List β:=((L.take k).filter p).map f
def Zjg {α β:Type} {p:α->Bool} {f:α->β} {L:List α} {k:Nat} (h:k<L.length):pkL p f L (k+1)=if p L[k]=true then pkL p f L k++[f L[k]] else pkL p f L k:=by
 unfold pkL;rw[W08 h,W1a,W0r]
 split <;> simp_all
def Zjh {α β:Type} (p:α->Bool) (f:α->β) (L:List α) (k:Nat):(pkL p f L k).length<=k:=by
 unfold pkL;rw[W0N];exact W0O (W0D ..) (by simp;omega)
def Zji {α β:Type} (p:α->Bool) (f:α->β) (L:List α):pkL p f L 0=[]:=by simp[pkL]
def Zjj {α β:Type} (p:α->Bool) (f:α->β) (L:List α):pkL p f L L.length=(L.filter p).map f:=by unfold pkL;rw[W0v]
def Zjk (n lo hi:Int):PC prog G 174 [.int .i64 n,.vptr [.int .i64 lo] 0,.vptr [.int .i64 hi] 0] (.bool (!inR n lo hi)):=by
 (refine ZhK rfl λR hG hrd=>Qga ?_;subst hG)
 by_cases h1:n<lo
 . have h2:¬lo<=n:=(by omega);simp -implicitDefEqProofs[ZhI,ZhJ,h1,h2,inR]
 . have h2:lo<=n:=(by omega);by_cases h3:hi<n
   . have h4:¬n<=hi:=(by omega);simp -implicitDefEqProofs[ZhI,ZhJ,h1,h2,h3,h4,inR]
   . have h4:n<=hi:=(by omega);simp -implicitDefEqProofs[ZhI,ZhJ,h1,h2,h3,h4,inR]
def Zjl (lo hi:Int) (l:List Int) (hl:Sml l):PC prog G 138 [.int .i64 lo,.int .i64 hi,.vsl (l.map ia)] (.bool (l.all λn=>inR n lo hi)):=by
 (refine ZhH rfl λR hG hrd=>Qga ?_;subst hG)
 simp -implicitDefEqProofs[ZhF,ZhG]
 (first|refine Yd.flat (Z9g 174 [.vptr [.int .i64 lo] 0,.vptr [.int .i64 hi] 0] (λn=>!inR n lo hi) l (by simp[AV.pure]) hl (λn _=>Zjk n lo hi)) (by simp[AV.flat]) (by simp) ?_|refine Ye.flat (Z9g 174 [.vptr [.int .i64 lo] 0,.vptr [.int .i64 hi] 0] (λn=>!inR n lo hi) l (by simp[AV.pure]) hl (λn _=>Zjk n lo hi)) (by simp[AV.flat]) (by simp) ?_)
 have e:(!l.any λn=>!inR n lo hi)=l.all λn=>inR n lo hi:=by simp[W2l]
 simp -implicitDefEqProofs[e]
def Zjm (lo hi n:Int):PC prog G 138 [.int .i64 lo,.int .i64 hi,.vsl [[.int .i64 n]]] (.bool (inR n lo hi)):=by
 have h:=Zjl (G:=G) lo hi [n] (by simp[Sml]);simpa [ia] using h
def Zjn (lo hi n m:Int):PC prog G 138 [.int .i64 lo,.int .i64 hi,.vsl [[.int .i64 n],[.int .i64 m]]] (.bool (inR n lo hi&&inR m lo hi)):=by
 have h:=Zjl (G:=G) lo hi [n,m] (by simp[Sml]);simpa [ia] using h
def Zjo (g:Nat) (caps:List AV) (p:Hld->Bool) (l:Jh) (hc:caps.all AV.pure=true) (hl:Sml l)
  (hg:∀ x∈l,PC prog G g (.agg (hoa x)::caps) (.bool (p x))) :
  PC prog G 140 [.vsl (l.map hoa),.func (.func g) [] caps] (.int .i64 (fstOf p l)):=by
 (refine ZiG rfl λR hG hrd=>Qga ?_;subst hG)
 unfold Sml at hl;have hc2:∀ x∈caps,x.pure=true:=W03.1 hc;simp -implicitDefEqProofs[ZiE,ZiF];refine Z8p (λi=>⟨[(8,.int .i64 i),(7,.int .i64 l.length),(0,.vsl (l.map hoa)),(1,.func (.func g) [] caps)],[]⟩) (λi=>∀ j (h:j<l.length),j<i->p l[j]=false) l.length (by (first|exact Wka|exact Wkb)) (by simp) ?_ ?_
 . intro i hi he;refine Qga ?_;have w1:i64.wrap ((i:Int)+1)=((i+1:Nat):Int):=Yf;have hgi:=hg _ (W0e hi);have hln:(hoa l[i]).length=4:=rfl;have htk:(hoa l[i]).take 4=hoa l[i]:=rfl;simp -implicitDefEqProofs[hi,hln,htk];refine Yd.of hgi (by simpa [AV.pure,hoa] using hc2) ?_
   cases h3:p l[i]
   . simp -implicitDefEqProofs[w1];refine ⟨(by (first|exact Wka|exact Wkb)),λj q1 q2=>?_⟩;by_cases e:j=i
     . subst e;exact h3
     . exact he j q1 (by omega)
   . simp -implicitDefEqProofs;refine Qgr ?_;simp -implicitDefEqProofs[Z9c hi h3 he]
 . intro he;refine Qga ?_;simp -implicitDefEqProofs;refine Qgr ?_;simp -implicitDefEqProofs[Z9d (p:=p) (l:=l) (λj hj=>he j hj hj)]
def Zjp (g:Nat) (caps:List AV) (p:Iss->Bool) (l:Jr) (hc:caps.all AV.pure=true) (hl:Sml l)
  (hg:∀ x∈l,PC prog G g (.agg (isa x)::caps) (.bool (p x))) :
  PC prog G 259 [.vsl (l.map isa),.func (.func g) [] caps] (.int .i64 (fstOf p l)):=by
 (refine ZiJ rfl λR hG hrd=>Qga ?_;subst hG)
 unfold Sml at hl;have hc2:∀ x∈caps,x.pure=true:=W03.1 hc;simp -implicitDefEqProofs[ZiH,ZiI];refine Z8p (λi=>⟨[(8,.int .i64 i),(7,.int .i64 l.length),(0,.vsl (l.map isa)),(1,.func (.func g) [] caps)],[]⟩) (λi=>∀ j (h:j<l.length),j<i->p l[j]=false) l.length (by (first|exact Wka|exact Wkb)) (by simp) ?_ ?_
 . intro i hi he;refine Qga ?_;have w1:i64.wrap ((i:Int)+1)=((i+1:Nat):Int):=Yf;have hgi:=hg _ (W0e hi);have hln:(isa l[i]).length=5:=rfl;have htk:(isa l[i]).take 5=isa l[i]:=rfl;simp -implicitDefEqProofs[hi,hln,htk];refine Yd.of hgi (by simpa [AV.pure,isa] using hc2) ?_
   cases h3:p l[i]
   . simp -implicitDefEqProofs[w1];refine ⟨(by (first|exact Wka|exact Wkb)),λj q1 q2=>?_⟩;by_cases e:j=i
     . subst e;exact h3
     . exact he j q1 (by omega)
   . simp -implicitDefEqProofs;refine Qgr ?_;simp -implicitDefEqProofs[Z9c hi h3 he]
 . intro he;refine Qga ?_;simp -implicitDefEqProofs;refine Qgr ?_;simp -implicitDefEqProofs[Z9d (p:=p) (l:=l) (λj hj=>he j hj hj)]
def Zjq (g:Nat) (caps:List AV) (p:Iss->Bool) (l:Jr) (hc:caps.all AV.pure=true) (hl:Sml l)
  (hg:∀ x∈l,PC prog G g (.agg (isa x)::caps) (.bool (p x))) :
  PC prog G 255 [.vsl (l.map isa),.func (.func g) [] caps] (.bool (l.any p)):=by
 have hi:=Zjp (G:=G) g caps p l hc hl hg;have e:=Z9e p l
 (refine ZiM rfl λR hG hrd=>Qga ?_;subst hG)
 have hc2:∀ x∈caps,x.pure=true:=W03.1 hc;simp -implicitDefEqProofs[ZiK,ZiL];refine Yd.of hi (by simpa [AV.pure] using hc2) ?_;simp -implicitDefEqProofs[e]
def hoI (hs:Jh) (id:Int):Int:=fstOf (λh=>decide (h.id=id)) hs
def Zjr (h:Hld) (id:Int):PC prog G 141 [.agg (hoa h),.vptr [.int .i64 id] 0] (.bool (decide (h.id=id))):=by
 (refine ZhQ rfl λR hG hrd=>Qga ?_;subst hG)
 simp -implicitDefEqProofs[ZhO,ZhP,hoa]
def Zjs (r:Jr) (l:Jl) (hs:Jh) (ps:Jp) (id:Int) (hh:Sml hs):PC prog G 82 [ofA r l hs ps,.int .i64 id] (.int .i64 (hoI hs id)):=by
 have h:=Zjo (G:=G) 141 [.vptr [.int .i64 id] 0] (λh=>decide (h.id=id)) hs (by simp[AV.pure]) hh (λh _=>Zjr h id);have e:fstOf (λh=>decide (h.id=id)) hs=hoI hs id:=rfl;rw[e]at h;generalize hoI hs id=n at *;unfold ofA
 (refine ZhN rfl λR hG hrd=>Qga ?_;subst hG)
 simp -implicitDefEqProofs[ZhL,ZhM]
 (first|refine Yd.flat (h) (by simp[AV.flat]) (by simp) ?_|refine Ye.flat (h) (by simp[AV.flat]) (by simp) ?_)
 simp -implicitDefEqProofs
def Zjt (o:AV) (x:Prt):PC prog G 252 [o,.agg (ptA x)] (.bool (inR x.no 1 9999&&inR x.dy 0 14610)):=by
 have h1:=Zjm (G:=G) 1 9999 x.no;have h2:=Zjm (G:=G) 0 14610 x.dy
 (refine ZhT rfl λR hG hrd=>Qga ?_;subst hG)
 simp -implicitDefEqProofs[ZhR,ZhS,ptA];refine Qco (h1) ?_
 cases inR x.no 1 9999
 . simp -implicitDefEqProofs
 . simp -implicitDefEqProofs;refine Qco (h2) ?_;simp -implicitDefEqProofs
def Zju (r:Jr) (l:Jl) (hs:Jh) (ps:Jp) (x:Prt) (hh:Sml hs):PC prog G 253 [ofA r l hs ps,.agg (ptA x)] (.bool (decide (0<=hoI hs x.ho))):=by
 have h:=Zjs (G:=G) r l hs ps x.ho hh;have pO:=Zj7 r l hs ps;generalize ofA r l hs ps=O at *
 (refine ZhW rfl λR hG hrd=>Qga ?_;subst hG)
 simp -implicitDefEqProofs[ZhU,ZhV,ptA];refine Yd.of h (by simp[pO,AV.pure]) ?_;simp -implicitDefEqProofs
def Zjv (x:Prt) (y:Iss):PC prog G 256 [.agg (isa y),.vptr (ptA x) 0] (.bool (rfp x.dw x.lt y)):=by
 (refine Zi2 rfl λR hG hrd=>Qga ?_;subst hG)
 by_cases h1:x.dw=y.d
 . by_cases h2:x.lt=y.l
   . have e:rfp x.dw x.lt y=true:=(by simp[rfp,h1,h2]);rw[e];simp -implicitDefEqProofs[Zi0,Zi1,ptA,isa,h1,h2]
   . have e:rfp x.dw x.lt y=false:=(by simp[rfp,h1,Ne.symm h2]);rw[e];simp -implicitDefEqProofs[Zi0,Zi1,ptA,isa,h1,h2]
 . have e:rfp x.dw x.lt y=false:=(by simp[rfp,Ne.symm h1]);rw[e];simp -implicitDefEqProofs[Zi0,Zi1,ptA,isa,h1]
def Zjw (r:Jr) (l:Jl) (hs:Jh) (ps:Jp) (x:Prt) (hr:Sml r):PC prog G 254 [ofA r l hs ps,.agg (ptA x)] (.bool (findN x.dw x.lt r).isSome):=by
 have h:=Zjq (G:=G) 256 [.vptr (ptA x) 0] (rfp x.dw x.lt) r (by simp[AV.pure,ptA]) hr (λy _=>Zjv x y);rw[Zfl];generalize r.any (rfp x.dw x.lt)=b at *;unfold ofA
 (refine ZhZ rfl λR hG hrd=>Qga ?_;subst hG)
 simp -implicitDefEqProofs[ZhX,ZhY,ptA];unfold ptA at h
 (first|refine Yd.flat (h) (by simp[AV.flat]) (by simp) ?_|refine Ye.flat (h) (by simp[AV.flat]) (by simp) ?_)
 simp -implicitDefEqProofs
def Zjx (o:AV) (x:Prt):PC prog G 257 [o,.agg (ptA x)] (.bool (decide (x.lo<=2))):=by
 (refine Zi5 rfl λR hG hrd=>Qga ?_;subst hG)
 simp -implicitDefEqProofs[Zi3,Zi4,ptA]
def Zjy (o:AV) (x:Prt):PC prog G 258 [o,.agg (ptA x)] (.bool (decide (x.bk = -1)||(inR x.bk x.dy 14610&&decide (x.lo=0)))):=by
 have h1:=Zjm (G:=G) x.dy 14610 x.bk
 (refine Zi8 rfl λR hG hrd=>Qga ?_;subst hG)
 by_cases h0:x.bk = -1
 . simp -implicitDefEqProofs[Zi6,Zi7,ptA,h0]
 . simp -implicitDefEqProofs[Zi6,Zi7,ptA,h0];refine Qco (h1) ?_
   cases inR x.bk x.dy 14610
   . simp -implicitDefEqProofs
   . simp -implicitDefEqProofs
def Zjz (P:Program) (G:Jg) (gf:Nat) (caps:List AV) (els:List (AV×AV)):Prop :=
 entB P gf=true/\∀ (n l:Nat) (lb:Array Value) (J:Nat->(Nat->Prop)->World->Prop) (K:World->Prop) (M:Nat->Prop) (W:World),2<=n->(∀ k M A B,J k M A->Ext A B->J k M B)->(∀ A B,K A->Ext A B->K B) ->
  (∀ k M A,J k M A->∀ b,M b->b<A.heap.size)->(∀ k M A,J k M A->GR G M A)->CP M W caps lb ->
  (∀ (k:Nat) (x:AV×AV) (u v:Value) (M:Nat->Prop) (A:World),J k M A->els[k]? = some x->PV M A x.1 u->PV M A x.2 v ->
   YieldAt Fence.wide (n-1) P l #[u,v] A λe A'=>(e = .returned (.bool true)/\∃ M',J (k+1) M' A'/\Since M A M' A')∨(e = .returned (.bool false)/\K A')) ->
  J 0 M W->CallsIn Fence.wide n P gf (#[.func (.yield l) #[] #[]]++lb) W λe W'=>(∃ v,e = .returned v)/\((∃ M,J els.length M W')∨K W')
def ZjA {n:Nat} {P:Program} {g:Operand} {p q:Nat} {assign body:Code} {Q:Exit->Act->World->Prop} {a:Act} {w:World}
  {gf:Nat} {lb:Array Value} {caps:List AV} {els:List (AV×AV)} (hg:a.eval g = .func (.func gf) #[] lb) {G:Jg} (hit:Zjz P G gf caps els) (hn:3<=n)
  (I:Nat->(Nat->Prop)->World->Prop) (K:World->Prop) (M0:Nat->Prop) (hIe:∀ k M A B,I k M A->Ext A B->I k M B) (hKe:∀ A B,K A->Ext A B->K B)
  (hIo:∀ (k l:Nat) (M:Nat->Prop) (W:World) (r r':Loop),w.heap.size<=l->I k M W->W.heap[l]? = some (.loop r)->I k M (W.putObj l (.loop r')))
  (hKo:∀ (l:Nat) (W:World) (r r':Loop),w.heap.size<=l->K W->W.heap[l]? = some (.loop r)->K (W.putObj l (.loop r')))
  (hIM:∀ k M A,I k M A->(∀ b,M b->b<A.heap.size)/\∀ (b:Nat) (o:Obj),w.heap.size<=b->A.heap[b]? = some o->Odd o->¬M b)
  (hIG:∀ k M A,I k M A->GR G M A) (hcaps:CP M0 w caps lb) (h0:I 0 M0 w)
  (hround:∀ (l k m:Nat) (x:AV×AV) (u v:Value) (M:Nat->Prop) (W:World) (lr:Loop),w.heap.size<=l->I k M W->W.heap[l]? = some (.loop lr)->els[k]? = some x->PV M W x.1 u->PV M W x.2 v ->
   assign.wpIn (FW (some l)) m P (Exit.then (λa1 W1=>(∀ (b:Nat) (o:Obj),W.heap[b]? = some o->Odd o->W1.heap[b]? = some o) /\
     body.wpIn (FW (some l)) m P (λe _ W'=>((∀ (b:Nat) (o:Obj),W.heap[b]? = some o->Odd o->b≠l->W'.heap[b]? = some o)/\W'.heap[l]? = some (.loop { lr with state:=.busy })) /\
      ((e = .normal/\∃ M',I (k+1) M' W'/\W.heap.size<=W'.heap.size/\∀ b,b<W.heap.size->¬M b->¬M' b/\(b≠l->W'.heap[b]? = W.heap[b]?))∨(e = .ret/\K W'))) a1 (W1.putObj l (.loop { lr with state:=.busy }))) (λ_ _ _=>False))
    { tmps:=(a.tmps.setIfInBounds p u).setIfInBounds q v,defers:=[] } W)
  (hdone:∀ (D:Nat) (M:Nat->Prop) (W:World),w.heap.size<=D->I els.length M W->W.heap[D]? = some (.deferred (some []))->Q .normal { a with defers:=coll D::a.defers } W)
  (hstop:∀ (D:Nat) (W:World),w.heap.size<=D->K W->W.heap[D]? = some (.deferred (some []))->Q .ret { a with defers:=coll D::a.defers } W) :
  (Code.rangeFunc g #[p,q] assign body).wpIn (FW none) n P Q a w:=by
 refine wpIn_rangeFunc ?_;intro fn hfn;obtain ⟨rec,hrec⟩ : ∃ rec:LoopState->Option Code->Loop,rec=λst pe=>{ state:=st,pending:=pe,fn,tmps:=a.tmps,params:=#[p,q],assign,body,defers:=w.heap.size }:=⟨_,rfl⟩
 obtain ⟨W1,hW1⟩ : ∃ W1,(w.alloc (.deferred (some []))).alloc (.loop (rec .ready none))=W1:=⟨_,rfl⟩;have hE1:Ext w W1:=by rw[<- hW1];exact (Ext.refl w).al.al
 have hL1:W1.heap[w.heap.size+1]? = some (.loop (rec .ready none)):=by
  rw[<- hW1];have:=World.alloc_heap_new (w.alloc (.deferred (some []))) (.loop (rec .ready none));rwa [World.size_alloc]at this
 have hK1:W1.heap[w.heap.size]? = some (.deferred (some [])):=by
  rw[<- hW1];exact (Below.heap_alloc _ _ _ (by simp)).trans (World.alloc_heap_new w _)
 have hI1:I 0 M0 W1:=hIe _ _ _ _ h0 hE1;have hC1:CP M0 W1 caps lb:=⟨hcaps.1,λi x u hx hu=>(hcaps.2 i x u hx hu).mono (λb hb hM=>⟨hM,hE1.block b hb⟩) hE1.size⟩
 refine ⟨w.heap.size+1,[{ target:=.collected w.heap.size,args:=#[] }],W1,{ target:=.fn (.func gf) lb,args:=#[.func (.yield (w.heap.size+1)) #[] #[]] },W1,gf,
  #[.func (.yield (w.heap.size+1)) #[] #[]]++lb,W1,?_,?_,λ_ _=>trivial,?_,Z24,?_⟩
 . rw[<- hW1,hrec];exact run_enterLoop_outer _ _ _ _ _
 . simp only[resolve,hg];simp[go_sem]
 . simp[invoke,go_sem,Z1W hit.1]
 . have stay : ∀ {A B:World} {b:Nat} {o:Obj},Ext A B->A.heap[b]? = some o->B.heap[b]? = some o:=λh hb=>(h.block _ (W0c.1 hb).1).trans hb
   refine (hit.2 (n-1) (w.heap.size+1) lb
    (λk M W=>I k M W/\W.heap[w.heap.size+1]? = some (.loop (rec .ready none))/\W.heap[w.heap.size]? = some (.deferred (some [])))
    (λW=>K W/\W.heap[w.heap.size+1]? = some (.loop (rec .done (some .ret)))/\W.heap[w.heap.size]? = some (.deferred (some [])))
    M0 W1 (by omega) (λk M A B h e=>⟨hIe k M A B h.1 e,stay e h.2.1,stay e h.2.2⟩) (λA B h e=>⟨hKe A B h.1 e,stay e h.2.1,stay e h.2.2⟩) (λk M A h=>(hIM k M A h.1).1) (λk M A h=>hIG k M A h.1) hC1 ?_ ⟨hI1,hL1,hK1⟩).mono ?_
   . rintro k x u v M W ⟨hi,hl,hk⟩ hr hus hvs;have hls:w.heap.size+1<W.heap.size:=(W0c.1 hl).1;have hy:=run_yield (P:=P) (args:=#[u,v]) hl (by rw[hrec];rfl);rw[hrec]at hy
     have hfold:(#[p,q].zip #[u,v]).foldl (λt (x:Nat×Value)=>match x with|(p,v)=>t.setIfInBounds p v) a.tmps=(a.tmps.setIfInBounds p u).setIfInBounds q v:=by
      rw[<- Array.foldl_toList,Array.toList_zip];rfl
     have hy:(Instr.yield (w.heap.size+1) #[u,v]).run P W = .ok (.round (w.heap.size+1) fn ((a.tmps.setIfInBounds p u).setIfInBounds q v) assign body) W:=(by rw[<- hfold];exact hy);refine ⟨fn,_,assign,body,hy,roundIn_of_wpIn hfn (wpIn_mono (hround (w.heap.size+1) k _ x u v M W _ (by omega) hi hl hr hus hvs) ?_)⟩;rintro e a1 W2 hp
     cases e with
     | normal =>
       obtain ⟨hodd0,hp⟩:=hp;have hl2:=hodd0 _ _ hl trivial;have hk2:=hodd0 _ _ hk trivial;have hls2:w.heap.size+1<W2.heap.size:=(W0c.1 hl2).1;refine ⟨_,run_beginRound hl2 (by rw[hrec]),wpIn_mono hp ?_⟩;rintro e a3 W3 ⟨⟨hodd,hl3⟩,hp3⟩;have hd3:=hodd _ _ hk trivial (by omega);have hls3:=(W0c.1 hl3).1
       have fin:∀ jump:Option Code,(W3.putObj (w.heap.size+1) (.loop (rec (if jump.isNone then .ready else .done) jump))).heap[w.heap.size+1]? = some (.loop (rec (if jump.isNone then .ready else .done) jump)) /\
         (W3.putObj (w.heap.size+1) (.loop (rec (if jump.isNone then .ready else .done) jump))).heap[w.heap.size]? = some (.deferred (some [])):=λjump =>
        ⟨World.putObj_heap_same hls3,(World.putObj_heap_other (by omega)).trans hd3⟩
       rcases hp3 with ⟨rfl,M',hi3,hsz3,hs3⟩ | ⟨rfl,hk3⟩
       . have hr3:=run_endRound (P:=P) none hl3;have f1:=fin none;rw[hrec]at hr3 f1;refine ⟨_,_,hr3,.inl ⟨rfl,M',⟨hIo _ _ _ _ _ _ (by omega) hi3 hl3,?_,f1.2⟩,by simpa using hsz3,λb hb hM=>⟨(hs3 b hb hM).1,?_⟩⟩⟩
         . rw[hrec];exact f1.1
         . by_cases e:b=w.heap.size+1
           . subst e;rw[hl,hrec];exact f1.1
           . rw[World.putObj_heap_other e];exact (hs3 b hb hM).2 e
       . have hr3:=run_endRound (P:=P) (some .ret) hl3;have f1:=fin (some .ret);rw[hrec]at hr3 f1;refine ⟨_,_,hr3,.inr ⟨rfl,hKo _ _ _ _ (by omega) hk3 hl3,?_,f1.2⟩⟩;rw[hrec];exact f1.1
     |_=>exact hp.elim
   . rintro e W2 ⟨⟨v,rfl⟩,⟨M,hi,hl,hk⟩ | ⟨hi,hl,hk⟩⟩
     . exact ⟨none,_,by have:=run_endLoop (P:=P) hl (by rw[hrec];simp);rw[hrec]at this;exact this,hdone _ M _ (W0f _) (hIo _ _ _ _ _ _ (by omega) hi hl) ((World.putObj_heap_other (by omega)).trans hk)⟩
     . exact ⟨some .ret,_,by have:=run_endLoop (P:=P) hl (by rw[hrec];simp);rw[hrec]at this;exact this,wpIn_ret (hstop _ _ (W0f _) (hKo _ _ _ _ (by omega) hi hl) ((World.putObj_heap_other (by omega)).trans hk))⟩
section
variable {P:Program} {R:Run} {st:St} {a:Act} {W:World} {κ:Nat->Option (Nat×Nat)}
def ZjB {g:RA} {p q gf:Nat} {assign body:RCode} {Φ:Exit->St->Prop} {caps:List AV} {els:List (AV×AV)} (hrd:R.Top) (hpq:p≠q) (hit:Zjz P R.G gf caps els) (hg:evA R.G st g = .func (.func gf) [] caps) (hp:caps.all AV.pure=true)
  (ok:Nat->Bool) (hok:∀ k,ok k=true->k<1000) (ρ:Nat->Nat) (t0:List (Nat×AV)) (objs outs:Nat->List (Nat×AObj)) (Iv:Nat->Prop) (hI0:Iv 0) (hK:∀ k,∀ q∈objs k,1000<=q.1) (hinj:∀ k,((objs k).map λq=>ρ q.1).Nodup) (hinj2:∀ k,((outs k).map λq=>ρ q.1).Nodup)
  (hsub:∀ k,∀ q∈objs k,isK (outs k) q.1=true) (hnew:∀ k,∀ q∈outs k,isK (objs k) q.1=true∨(Yl ρ (objs k) st).get (ρ q.1)=none) (hnext:∀ k,Yl ρ (outs k) st=Yl ρ (objs (k+1)) st)
  (h0:Yl ρ (objs 0) st=st) (hin:∀ k,∀ q∈objs k,Yc (objs k) q.2=true)
  (ht0:∀ z∈t0,lk st.t z.1=some (z.2.ren ρ)/\z.1≠p/\z.1≠q/\∀ j,∀ k∈z.2.keys,isK (objs j) k=true)
  (hround:∀ (k:Nat) (x:AV×AV),els[k]? = some x->Iv k->∀ R':Run,R'.G=R.G->R'.N=R.N->AR P R' assign ⟨(p,x.1)::(q,x.2)::t0,objs k⟩ λe s1=>e = .normal/\∀ R'':Run,R''.G=R.G->R''.N=R.N ->
   AR P R'' body s1 (λe s2=>e = .normal/\(Yi ok s2).o=outs k/\Iv (k+1)))
  (hdone:Iv els.length->Φ .normal (Yl ρ (objs els.length) st)):AR P R (.rngf g [p,q] assign body) st Φ:=by
 intro c hc m a W hs
 cases c <;> simp only[Z1A,W05,W01,W0A]at hc
 rename_i g' ps' ca cb;obtain ⟨⟨⟨⟨hcg,hps⟩,hpn⟩,hca⟩,hcb⟩:=hc;have hpn2:p<R.N/\q<R.N:=(by simpa using hpn);have hpn:=hpn2.1;have hqn:=hpn2.2;obtain rfl:ps' = #[p,q]:=(by rw[<- W16];exact hps);rw[hrd.1];refine wpFW.2 ((wpFW (n:=3)).1 ?_);obtain ⟨κ0,hs⟩:=hs;obtain ⟨S,hS⟩ : ∃ S:Nat->St,S=λk=>Yl ρ (objs k) st:=⟨_,rfl⟩
 have hSt:∀ k,(S k).t=st.t:=λk=>by rw[hS];exact Z52 ρ _ _
 have nod:∀ k,((objs k).map λp=>ρ p.1).Nodup:=hinj
 have memK:∀ {o:List (Nat×AObj)} {q:Nat},isK o q=true->∃ x,(q,x)∈o:=λ{o q} h=>by
  obtain ⟨x,h1⟩:=W0t.1 h;exact ⟨x,Z4J h1⟩
 have injK:∀ {o:List (Nat×AObj)},(o.map λp=>ρ p.1).Nodup->∀ q q',isK o q=true->isK o q'=true->ρ q=ρ q'->q=q':=λ{o} hn q q' h1 h2 e=>by
  have m1:=Z55.1 h1;have m2:=Z55.1 h2;have:(o.map (·.1)).map ρ=o.map (λp=>ρ p.1):=(by simp[W10,W0y]);rw[<- this]at hn;exact Z56 hn m1 m2 e
 have hevg:∀ k,evA R.G (S k) g = .func (.func gf) [] caps:=λk=>by
  rw[<- hg]
  cases g <;> simp only[evA,St.tmp,hSt]
 have hv0:=hs.ev hcg;rw[hg]at hv0;obtain ⟨us0,lb,hav,hus0,hlb0⟩:=hv0.func_inv
 obtain rfl:us0 = #[]:=by
  have:=hus0.1;rw[<- W16];exact W0l.1 (by simpa using this)
 have hcaps:∀ k W κ,SK R (S k) a W κ->CP ((S k).env R.M κ).M W caps lb:=λk W κ h=>by
  have h1:=h.ev hcg;rw[hevg,hav]at h1;obtain ⟨us1,lb1,h2,-,h3⟩:=h1.func_inv;simp only[Value.func.injEq]at h2;obtain ⟨-,-,rfl⟩:=h2;exact ⟨by simpa using h3.1,λi x u hx hu=>(h3.2 i x u hx (by simpa using hu)).toPV (W03.1 hp x (W0d hx))⟩
 obtain ⟨cs0,e0,nd0,hc0,-⟩:=hs.defers
 have marks:∀ (D:Nat) (st1:St) (W1:World) (κ1:Nat->Option (Nat×Nat)),W.heap.size<=D->SK R st1 a W1 κ1->W1.heap[D]? = some (.deferred (some []))->SK R st1 { a with defers:=coll D::a.defers } W1 κ1:=λD st1 W1 κ1 hD h hd=>by
  obtain ⟨cs1,e1,nd1,hc1,-⟩:=h.defers;obtain rfl:cs1=cs0:=Z58 (List.append_cancel_right (e1.symm.trans e0));refine h.odd ⟨rfl,λb=>.inl rfl⟩ rfl rfl rfl (λb _=>rfl) rfl ⟨D::cs1,by simp[e1],W1z.2 ⟨λhm=>?_,nd1⟩,λc hm=>?_,λe=>by rw[hrd.2]at e;cases e⟩
  . have:=(W0c.1 (hc0 D hm).2).1;omega
  . rcases W0g.1 hm with rfl|hm
    . exact ⟨W0O hs.kp.size hD,hd⟩
    . exact hc1 c hm
 have put:∀ (l:Nat) (st1:St) (W1:World) (κ1:Nat->Option (Nat×Nat)) (r r':Loop),W.heap.size<=l->SK R st1 a W1 κ1->W1.heap[l]? = some (.loop r)->SK R st1 a (W1.putObj l (.loop r')) κ1:=λl st1 W1 κ1 r r' hl h hr=>by
  obtain ⟨cs1,e1,nd1,hc1,hz1⟩:=h.defers;have:=hs.kp.size;refine h.odd (.put hr trivial) rfl rfl rfl (λb hb=>World.putObj_heap_other (by omega)) rfl ⟨cs1,e1,nd1,λc hm=>⟨(hc1 c hm).1,?_⟩,hz1⟩;rw[World.putObj_heap_other (by rintro rfl;have:=(hc1 _ hm).2;rw[hr]at this;cases this)];exact (hc1 c hm).2
 have hs0:SK R (S 0) a W κ0:=by rw[hS];show SK R (Yl ρ (objs 0) st) a W κ0;rw[h0];exact hs
 refine ZjA (I:=λk M W'=>∃ κ,(M=((S k).env R.M κ).M/\Iv k)/\SK R (S k) a W' κ) (K:=λW'=>∃ s κ,Φ .ret s/\SK R s a W' κ) (M0:=((S 0).env R.M κ0).M) (caps:=caps) (els:=els) hav hit (by omega) (λk M A B h e=>h.imp λκ h=>⟨h.1,h.2.grow e⟩) (λA B ⟨s,κ,h1,h2⟩ e=>⟨s,κ,h1,h2.grow e⟩)
  (λk l M W' r r' hl ⟨κ,hM,h⟩ hr=>⟨κ,hM,put l _ _ _ r r' hl h hr⟩) (λl W' r r' hl ⟨s,κ,h1,h⟩ hr=>⟨s,κ,h1,put l _ _ _ r r' hl h hr⟩) (λk M A ⟨κ,⟨hM,_⟩,h⟩=>?_) (λk M A ⟨κ,⟨hM,_⟩,h⟩=>hM ▸ h.gr) (hcaps 0 W κ0 hs0) ⟨κ0,⟨rfl,hI0⟩,hs0⟩ ?_ ?_ ?_
 . subst hM;refine ⟨λb hb=>h.owned_lt hb,λb o hb ho hodd hM=>?_⟩;rcases hM with hM | ⟨q,s,hq⟩
   . have:=h.low b hM;have:=hs.kp.size;omega
   . exact h.notOdd hq ho hodd
 . intro l k m x u v M W1 lr hl hI hlr hx hxu hxv;obtain ⟨κ,⟨rfl,hIk⟩,h⟩:=hI
   have enterAt:∀ W',SK R (S k) a W' κ->SK (rC (objs k) ρ R (S k) κ W') (obSt (objs k)) noAct W' (kC (objs k) ρ κ)/\∀ (x:AV) (v:Value),inK (objs k) x->VR ((S k).env R.M κ) W' (x.ren ρ) v->VR ((obSt (objs k)).env (mC (objs k) ρ R (S k) κ) (kC (objs k) ρ κ)) W' x v:=λW' h =>
    Z4Z h (λq hq=>by obtain ⟨x,hx⟩:=memK hq;exact hK k _ hx) (injK (hinj k)) (λq o hq=>by rw[hS];exact Z54 ρ _ _ q o (nod k) hq)
     (λq o hq=>by
      have h2:=hin k (q,o) (Z4J hq);have kept:∀ x,Ya (objs k) x=true->inK (objs k) x:=λx hx k' hk'=>W03.1 hx k' hk'
      cases o with
      |box cells=>exact λx hx=>kept x (W03.1 h2 x hx)
      |row sz rows=>exact λr hr x hx=>kept x (W03.1 (W03.1 h2 r hr) x hx)
      | mp kvs =>
        intro p hp;have:=W03.1 h2 p hp;simp only[W01]at this;exact ⟨kept _ this.1,kept _ this.2⟩)
   obtain ⟨h1,conv⟩:=enterAt W1 h
   have hXo:∀ W',SK R (S k) a W' κ->∀ b,(rC (objs k) ρ R (S k) κ W').X b->∀ o,W'.heap[b]? = some o->¬Odd o:=λW' h b ⟨q,s,hq⟩ o ho hodd=>by
    simp only[kC]at hq
    split at hq
    . exact h.notOdd hq ho hodd
    . cases hq
   have hMM:∀ b,((obSt (objs k)).env (mC (objs k) ρ R (S k) κ) (kC (objs k) ρ κ)).M b->((S k).env R.M κ).M b:=λb hb=>by
    rcases hb with hb | ⟨q,s,hq⟩
    . exact hb.1
    . simp only[kC]at hq
      split at hq
      . exact .inr ⟨ρ q,s,hq⟩
      . cases hq
   let R1:Run:={ rC (objs k) ρ R (S k) κ W1 with N:=R.N,rd:=some l }
   have hN:R.N=a.tmps.size:=h.size.symm
   have start:SK R1 ⟨(p,x.1)::(q,x.2)::t0,objs k⟩ { tmps:=(a.tmps.setIfInBounds p u).setIfInBounds q v,defers:=[] } W1 (kC (objs k) ρ κ):=by
    refine ⟨.nil _ _ _ _,by show ((a.tmps.setIfInBounds p u).setIfInBounds q v).size=R.N;simp[hN],λn y hy=>?_,h1.obj,h1.dom,h1.inj,h1.low,h1.apart,h1.kp,h1.gr,h1.mono,h1.ent⟩;have hy:lk ((p,x.1)::(q,x.2)::t0) n=some y:=hy;show VR ((obSt (objs k)).env (mC (objs k) ρ R (S k) κ) (kC (objs k) ρ κ)) W1 y (((a.tmps.setIfInBounds p u).setIfInBounds q v).getD n Go.undef);have hlt:p<a.tmps.size:=(by rw[<- hN];exact hpn);have hlq:q<a.tmps.size:=(by rw[<- hN];exact hqn);simp only[lk]at hy
    split at hy
    . rename_i e;subst e;obtain rfl:x.1=y:=(by simpa using hy);have e:((a.tmps.setIfInBounds p u).setIfInBounds q v).getD p Go.undef=u:=(by simp[W0a,W0p,Ne.symm hpq,hlt]);rw[e];exact .pv (hxu.mono (λb _ hb=>⟨λhb'=>hb (hMM b hb'),rfl⟩) (W0f _))
    . rename_i e0
      split at hy
      . rename_i e;subst e;obtain rfl:x.2=y:=(by simpa [hpq] using hy);have e:((a.tmps.setIfInBounds p u).setIfInBounds q v).getD q Go.undef=v:=(by simp[W0a,W0p,hlq]);rw[e];exact .pv (hxv.mono (λb _ hb=>⟨λhb'=>hb (hMM b hb'),rfl⟩) (W0f _))
      . rename_i e
        have e2:((a.tmps.setIfInBounds p u).setIfInBounds q v).getD n Go.undef=a.tmps.getD n Go.undef:=by
         simp only[W0a,W0p,if_neg e,if_neg e0]
        rw[e2];obtain ⟨g1,g2,g3,g5⟩:=ht0 (n,y) (Z4J hy);have g4:=h.tm n (y.ren ρ) (by show lk (S k).t n=_;rw[hSt];exact g1);exact conv y _ (λq hq=>g5 k q hq) g4
   refine wpIn_mono (hround k x hx hIk R1 rfl rfl ca hca m _ W1 ⟨_,start⟩) ?_;rintro e a1 W2 ⟨s1,⟨rfl,hbody⟩,κ1,h2⟩;refine ⟨λb o hb ho=>h2.keepOdd (hXo W1 h) hb ho,?_⟩;have hl2:W2.heap[l]? = some (.loop lr):=h2.keepOdd (hXo W1 h) hlr trivial;have h3:=SK.both rfl h2 (o':=.loop { lr with state:=.busy }) hl2 hlr;have hb:=put l _ W1 κ lr { lr with state:=.busy } hl h hlr;refine wpIn_mono (hbody { R1 with W0:=W1.putObj l (.loop { lr with state:=.busy }) } rfl rfl cb hcb m _ _ ⟨_,h3⟩) ?_;rintro e a2 W3 ⟨s2,hrnd,hs2⟩
   have hodd:∀ κ2,SK { R1 with W0:=W1.putObj l (.loop { lr with state:=.busy }) } s2 a2 W3 κ2->(∀ (b:Nat) (o:Obj),W1.heap[b]? = some o->Odd o->b≠l->W3.heap[b]? = some o)/\W3.heap[l]? = some (.loop { lr with state:=.busy }):=λκ2 h4 =>
    ⟨λb o hb1 ho hne=>h4.keepOdd (hXo _ hb) ((World.putObj_heap_other hne).trans hb1) ho,
     h4.keepOdd (hXo _ hb) (o:=.loop { lr with state:=.busy }) (World.putObj_heap_same (W0c.1 hlr).1) trivial⟩
   have leave:(Yi ok s2).o=outs k->∃ κ3,SK R (Yl ρ (outs k) st) a W3 κ3/\Mono ((S k).env R.M κ) (W1.putObj l (.loop { lr with state:=.busy })) ((Yl ρ (outs k) st).env R.M κ3) W3:=λhe=>by
    obtain ⟨κ2,h4⟩:=Ym.frz ok s2 (λk hk=>by
     cases e:ok k
     . rfl
     . have:=hok k e;omega) _ a2 W3 hs2
    have g:=h4.sub (t':=[]) (λn x hx=>by simp[lk]at hx);have e:({ Yi ok s2 with t:=[] }:St)=obSt (outs k):=(by rw[<- he];rfl);rw[e]at g
    have g2:SK (rC (objs k) ρ R (S k) κ (W1.putObj l (.loop { lr with state:=.busy }))) (obSt (outs k)) noAct W3 κ2 :=
     ⟨.nil _ _ _ _,rfl,λn x hx=>by simp[obSt,St.tmp,lk]at hx,g.obj,g.dom,g.inj,g.low,g.apart,g.kp,g.gr,g.mono,g.ent⟩
    obtain ⟨κ3,h5,h6,-⟩:=Z5j hb (objs':=outs k) (st1:=Yl ρ (outs k) st) (injK (hinj2 k)) (λq o hq=>by rw[hS];exact Z54 ρ _ _ q o (nod k) hq)
     (λq hq=>by obtain ⟨x,hx⟩:=memK hq;exact hsub k _ hx)
     (λq h1 h2=>by
      obtain ⟨x,hx⟩:=memK h1;rcases hnew k _ hx with h3|h3
      . rw[h2]at h3;cases h3
      . rw[hS];exact h3) g2 ((Z52 ρ _ _).trans (hSt k).symm) (λq o hq=>Z54 ρ _ _ q o (hinj2 k) hq)
     (λj hj=>by
      have o1:(Yl ρ (outs k) st).get j=st.get j:=Z53 ρ j _ _ λq hq=>hj q.1 (Z55.2 (W0i.2 ⟨q,hq,rfl⟩))
      have o2:(Yl ρ (objs k) st).get j=st.get j:=Z53 ρ j _ _ λq hq=>hj q.1 (hsub k q hq)
      rw[hS];exact o1.trans o2.symm)
    exact ⟨κ3,h5,h6⟩
   obtain ⟨κ2,h4⟩:=id hs2;refine ⟨hodd κ2 h4,?_⟩;obtain ⟨rfl,hro,hri⟩:=hrnd;obtain ⟨κ3,h5,h6⟩:=leave hro;rw[hnext k]at h5 h6;refine .inl ⟨rfl,_,⟨κ3,⟨rfl,hri⟩,by rw[hS];exact h5⟩,by have:=h6.size;simpa using this,λb hb1 hM=>?_⟩;obtain ⟨g1,g2⟩:=h6.imm b (by simpa using hb1) hM;exact ⟨by rw[hS];exact g1,λhne=>g2.trans (World.putObj_heap_other hne)⟩
 . rintro D M W1 hD ⟨κ,⟨-,hIk⟩,h⟩ hd;refine ⟨_,?_,κ,marks D _ _ _ hD h hd⟩;rw[hS];exact hdone hIk
 . rintro D W1 hD ⟨s,κ,h1,h⟩ hd;exact ⟨s,h1,κ,marks D _ _ _ hD h hd⟩
end
structure ItH (G:Jg) (J:Nat->(Nat->Prop)->World->Prop) (K:World->Prop):Prop where
 je:∀ k M A B,J k M A->Ext A B->J k M B
 ke:∀ A B,K A->Ext A B->K B
 jm:∀ k M A,J k M A->∀ b,M b->b<A.heap.size
 jg:∀ k M A,J k M A->GR G M A
def ItS (G:Jg) (N:Nat) (J:Nat->(Nat->Prop)->World->Prop) (k:Nat) (st:St) (a:Act) (A:World):Prop:=∃ M A0,J k M A0/\SR (Zfz G M A0 N none) st a A
def ItQ (G:Jg) (N:Nat) (J:Nat->(Nat->Prop)->World->Prop) (K:World->Prop) (Φ:Exit->Nat->St->Prop) (e:Exit) (a:Act) (A:World):Prop :=
 (∃ k st,Φ e k st/\ItS G N J k st a A)∨(e = .ret/\K A/\a.defers=[])
def ItW (P:Program) (G:Jg) (N n:Nat) (J:Nat->(Nat->Prop)->World->Prop) (K:World->Prop) (rc:RCode) (k:Nat) (st:St) (Φ:Exit->Nat->St->Prop):Prop :=
 ∀ c,Z1A P N c rc=true->∀ a A,ItS G N J k st a A->c.wpIn (FW none) n P (ItQ G N J K Φ) a A
def YOK (P:Program) (n l:Nat) (J:Nat->(Nat->Prop)->World->Prop) (K:World->Prop) (els:List (List AV)):Prop :=
 ∀ (k:Nat) (xs:List AV) (us:Array Value) (M:Nat->Prop) (A:World),J k M A->els[k]? = some xs->CP M A xs us ->
   YieldAt Fence.wide n P l us A λe A'=>(e = .returned (.bool true)/\∃ M',J (k+1) M' A'/\Since M A M' A')∨(e = .returned (.bool false)/\K A')
def PV.flatW {M M':Nat->Prop} {W W':World} {x:AV} {v:Value} (h:PV M W x v):x.flat=true->PV M' W' x v:=by
 induction h with
 |hole=>exact λ_=>.hole
 |int k n=>exact λ_=>.int k n
 |bool b=>exact λ_=>.bool b
 |abool b=>exact λ_=>.abool b
 |str s=>exact λ_=>.str s
 |nilp=>exact λ_=>.nilp
 |nils=>exact λ_=>.nils
 |nilm=>exact λ_=>.nilm
 |nilf=>exact λ_=>.nilf
 | agg xs us h1 hx ih =>
   intro h;simp only[AV.flat,W03,W0V,W1B,W1n]at h;exact .agg xs us h1 (λi x u hi hu=>ih i x u hi hu (h x (W0d hi)))
 | tup xs us h1 hx ih =>
   intro h;simp only[AV.flat,W03,W0V,W1B,W1n]at h;exact .tup xs us h1 (λi x u hi hu=>ih i x u hi hu (h x (W0d hi)))
 |_=>intro h;simp[AV.flat]at h
def ZjC {P:Program} {R:Run} {st:St} {a:Act} {W:World} {κ:Nat->Option (Nat×Nat)} {rd:Option Nat} {m:Nat} {ops:Array Oper} {r:ROper} {j l:Nat} {o:Oper} {f:RA} {ys:List RA} {K:Act->World->Prop} {Q:Exit->Act->World->Prop}
  (hr:r.op = .callv f ys) (hf:evA R.G st f = .func (.yield l) [] []) (hw:wants st r.guard=some true) (ho:ops[j]? = some o) (hk:Z1z P R.N ops o r=true) (hκ:SK R st a W κ)
  (hc:∀ us:Array Value,us.size=ys.length->(∀ (i:Nat) (y:RA) (u:Value),ys[i]? = some y->us[i]? = some u->VR (st.env R.M κ) W (evA R.G st y) u)->YieldAt (FW rd) (m-1) P l us W fun
   |.returned v,W'=>K (a.put o.dst v) W'
   |.panicked ch,W'=>Q (.panic ch) a W'
   |.outgrown,_=>LetsOut Q):wpOpIn (FW rd) m P ops Q j K a W:=by
 simp only[Z1z,W01,W0b]at hk;obtain ⟨⟨⟨hd,hdn⟩,hop⟩,hg⟩:=hk;unfold wpOpIn;simp only[ho];rw[if_pos (Z20 hκ hg hw)];rw[hr]at hop;simp only[Z1y,if_true,Z1x]at hop
 split at hop <;> try (simp at hop;done)
 . simp_all
 . simp_all
 . rename_i r0 x xs ats y' ys e1 e2;simp only[W01]at hop;simp only[ROp.callv.injEq]at e2;obtain ⟨rfl,rfl⟩:=e2;have hx:=hκ.ev hop.1;rw[hf]at hx;obtain ⟨us,vs,hv1,hv2,hv3⟩:=hx.func_inv
   obtain rfl:us = #[]:=by
    have:=hv2.1;rw[<- W16];exact W0l.1 (by simpa using this)
   obtain rfl:vs = #[]:=by
    have:=hv3.1;rw[<- W16];exact W0l.1 (by simpa using this)
   obtain ⟨hl,ha⟩:=Zc hop.2
   obtain ⟨fn,tmps,assign,body,h1,h2⟩:=hc ((⟨xs⟩ : Array Operand).map a.eval) (by simpa using hl) (λi y u hy hu=>by
    have hi:i<xs.length:=by
     have:=(W0c.1 hu).1;simpa using this
    have hu2:u=a.eval xs[i]:=by
     have:=(W0c.1 hu).2;simpa using this.symm
    rw[hu2];exact hκ.ev (ha i _ y (W07 hi) hy))
   refine ⟨λ_ _=>trivial,?_⟩;rw[Oper.semAt_eq _ _ _ (λc e=>by rw[e1]at e;cases e)]
   have:(execOp a.eval o).run P W = .ok (.round l fn tmps assign body) W:=by
    rw[<- h1];simp[execOp,e1,resolve,hv1,Deferred.ofValue,invoke,Sem.run_bind]
   rw[this];exact ⟨Z24,h2⟩
section
variable {P:Program} {G:Jg} {N n l:Nat} {J:Nat->(Nat->Prop)->World->Prop} {K:World->Prop} {k:Nat} {st:St} {Φ Ψ:Exit->Nat->St->Prop} {rc:RCode}
def ZjD (h:ItW P G N n J K rc k st Φ) (hm:∀ e k t,Φ e k t->Ψ e k t):ItW P G N n J K rc k st Ψ:=λc hc a A hs =>
 wpIn_mono (h c hc a A hs) λ_ _ _ q=>q.imp (λ⟨k,t,h1,h2⟩=>⟨k,t,hm _ _ _ h1,h2⟩) id
def ZjE (h:∀ M A,AR P (Zfz G M A N none) rc st λe s=>∃ s',Φ e k s'/\Ym s s'):ItW P G N n J K rc k st Φ:=by
 rintro c hc a A ⟨M,A0,hJ,hs⟩;refine wpIn_mono (h M A0 c hc n a A hs) ?_;rintro e a' A' ⟨s,⟨s',hΦ,hw⟩,hs'⟩;exact .inl ⟨k,s',hΦ,M,A0,hJ,hw _ _ _ hs'⟩
def ZjF {a b:RCode} (h:ItW P G N n J K a k st λe k' t'=>match e with | .normal=>ItW P G N n J K b k' t' Φ|e=>Φ e k' t'):ItW P G N n J K (.seq a b) k st Φ:=by
 intro c hc x A hs;obtain ⟨c1,c2,rfl,h1,h2⟩:=Z9H hc;refine wpIn_seq (wpIn_mono (h c1 h1 x A hs) ?_);rintro e a' A' (⟨k',t',hΦ,hs'⟩ | ⟨rfl,hK,hd⟩)
 . cases e with
   |normal=>exact hΦ c2 h2 a' A' hs'
   |_=>exact .inl ⟨k',t',hΦ,hs'⟩
 . exact .inr ⟨rfl,hK,hd⟩
def ZjG {a b:RCode} (h:ItW P G N n J K a k st λe k' t'=>e = .normal/\ItW P G N n J K b k' t' Φ):ItW P G N n J K (.seq a b) k st Φ :=
 ZjF (ZjD h λe k t ⟨he,h⟩=>by subst he;exact h)
def ZjH {a b:RCode} (st':St) (h:∀ M A,AR P (Zfz G M A N none) a st λe s=>e = .normal/\Ym s st') (hb:ItW P G N n J K b k st' Φ):ItW P G N n J K (.seq a b) k st Φ :=
 ZjG (ZjE λM A=>Z2I (h M A) λe s ⟨he,hw⟩=>⟨st',⟨he,hb⟩,hw⟩)
def ZjI {a:RCode} (e0:Exit) (st':St) (h:∀ M A,AR P (Zfz G M A N none) a st λe s=>e=e0/\Ym s st') (hb:Φ e0 k st'):ItW P G N n J K a k st Φ :=
 ZjE λM A=>Z2I (h M A) λe s ⟨he,hw⟩=>⟨st',he ▸ hb,hw⟩
def ItBk (id:Nat) (Φ:Exit->Nat->St->Prop):Exit->Nat->St->Prop
 |.exit id',k,t=>if id'=id then Φ .normal k t else Φ (.exit id') k t
 |e,k,t=>Φ e k t
def ZjJ {id:Nat} {a:RCode} (h:ItW P G N n J K a k st (ItBk id Φ)):ItW P G N n J K (.block id a) k st Φ:=by
 intro c hc x A hs;obtain ⟨c1,rfl,h1⟩:=Z9I hc;refine wpIn_block (wpIn_mono (h c1 h1 x A hs) ?_);rintro e a' A' (⟨k',t',hΦ,hs'⟩ | ⟨rfl,hK,hd⟩)
 . cases e
   case exit j =>
    simp only[ItBk,Exit.inBlock]at *
    split at hΦ
    . rename_i e;rw[if_pos e];exact .inl ⟨k',t',hΦ,hs'⟩
    . rename_i e;rw[if_neg e];exact .inl ⟨k',t',hΦ,hs'⟩
   all_goals exact .inl ⟨k',t',hΦ,hs'⟩
 . exact .inr ⟨rfl,hK,hd⟩
def ZjK {α:Type} {b:RCode} (kf:α->Nat) (tf:α->St) (I:α->Prop) (μ:α->Nat) (x0:α) (h0:kf x0=k) (ht:tf x0=st) (hi:I x0)
  (hr:∀ x,I x->ItW P G N n J K b (kf x) (tf x) λe k' t'=>match e with | .normal=>∃ y,kf y=k'/\tf y=t'/\I y/\μ y<μ x|e=>Φ e k' t'):ItW P G N n J K (.loop b) k st Φ:=by
 intro c hc x A hs;obtain ⟨c1,rfl,h1⟩:=Z9J hc;subst h0;subst ht;refine wpIn_loop_ghost (λm a A=>∃ x,I x/\m=μ x/\ItS G N J (kf x) (tf x) a A) (μ x0) ⟨x0,hi,rfl,hs⟩ ?_;rintro m a A ⟨x,hx,rfl,hs⟩;refine wpIn_mono (hr x hx c1 h1 a A hs) ?_;rintro e a' A' (⟨k',t',hΦ,hs'⟩ | ⟨rfl,hK,hd⟩)
 . cases e with
   | normal =>
     obtain ⟨y,rfl,rfl,hy,hm⟩:=hΦ;exact ⟨μ y,hm,y,hy,rfl,hs'⟩
   |_=>exact .inl ⟨k',t',hΦ,hs'⟩
 . exact .inr ⟨rfl,hK,hd⟩
def ZjL (H:ItH G J K) {els:List (List AV)} (hY:YOK P (n-1) l J K els) {id d:Nat} {gd:Option (Nat×Bool)} {pre post:List ROper} {f:RA} {ys:List RA} {rest:RCode} {xs:List AV} {t1 tf tF:List (Nat×AV)} {st2:St}
  (hdN:d<N) (hx:els[k]? = some xs) (hpx:∀ x∈xs,x.pure=true) (hp1:∀ q∈t1,q.2.pure=true)
  (hpre:RW P G pre st λe s=>e = .normal/\Ym s ⟨t1,[]⟩) (hw:wants ⟨t1,[]⟩ gd=some true) (hf:evA G ⟨t1,[]⟩ f = .func (.yield l) [] []) (hy:ys.map (evA G ⟨t1,[]⟩)=xs)
  (hpost:RW P G post ⟨(d,.bool true)::t1,[]⟩ λe s=>e = .normal/\Ym s st2) (hrest:ItW P G N n J K rest (k+1) st2 Φ)
  (htf:∀ q∈tf,lk t1 q.1=some q.2/\q.2.flat=true) (hpostF:RW P (λ_=>none) post ⟨(d,.bool false)::tf,[]⟩ λe s=>e = .normal/\Ym s ⟨tF,[]⟩)
  (hrestF:∀ A,AR P (Zfz (λ_=>none) (λ_=>False) A N none) rest ⟨tF,[]⟩ λe s=>e = .ret/\Ym s ⟨[],[]⟩) :
  ItW P G N n J K (.seq (.reg id false (pre++{ d:=some d,op:=.callv f ys,guard:=gd }::post)) rest) k st Φ:=by
 rintro c hc a A ⟨M,A0,hJ,hs0⟩;obtain ⟨c1,c2,rfl,hc1,hc2⟩:=Z9H hc;obtain ⟨ops,rfl,hops⟩:=Z9K hc1;obtain ⟨hol,hoo⟩:=Zc hops
 have hol:ops.size=pre.length+(1+post.length):=by
  have:ops.toList.length=ops.size:=rfl;rw[<- this,hol];simp;omega
 refine wpIn_seq (wpIn_region ?_)
 have okAt:∀ (i:Nat) (r:ROper),(pre++{ d:=some d,op:=.callv f ys,guard:=gd }::post)[i]? = some r->∃ o,ops[i]? = some o/\Z1z P N ops o r=true:=λi r hi=>by
  have hlt:i<ops.size:=by
   have:=(W02.1 hi).1;rw[hol];simp at this;omega
  exact ⟨ops[i],by simp[hlt],hoo i _ r (by simp[hlt]) hi⟩
 have hrg:List.range ops.size=List.range pre.length++(pre.length::(List.range post.length).map (λi=>pre.length+1+i)):=by
  rw[hol,List.range_add,List.range_add];simp[W1y,W0y,W1v]
 rw[hrg];refine Z9L (R:=Zfz G M A0 N none) _ _ pre st (λs=>Ym s ⟨t1,[]⟩) a A ?_ (by simp) ?_ hpre hs0
 . intro i r hi;have hlt:=(W02.1 hi).1;obtain ⟨o,h1,h2⟩:=okAt i r (by rw[W0E hlt];exact hi);exact ⟨i,o,by simp[hlt],h1,h2⟩
 intro s4 b4 B4 w4 hs4;obtain ⟨κ4,hk4⟩:=w4 _ _ _ hs4;obtain ⟨d4,n4,t4,e4⟩:=endG hs4 w4 hp1;obtain ⟨o2,ho2,hk2⟩:=okAt pre.length { d:=some d,op:=.callv f ys,guard:=gd } (by rw[W0o (W0f _)];simp);rw[wpOpsIn_cons];refine ZjC (R:=Zfz G M A0 N none) (l:=l) (f:=f) (ys:=ys) rfl hf hw ho2 hk2 hk4 λus hus hval=>?_
 have hcp:CP M B4 xs us:=by
  refine ⟨by rw[hus,<- hy,W0N],λi x u hi hu=>?_⟩
  have hlt:i<ys.length:=by
   have:=(W02.1 hi).1;rw[<- hy,W0N]at this;exact this
  have h1:=hval i ys[i] u (W07 hlt) hu
  have hxe:evA G ⟨t1,[]⟩ ys[i]=x:=by
   rw[<- hy,W09,W07 hlt]at hi;simpa using hi
  rw[show evA (Zfz G M A0 N none).G ⟨t1,[]⟩ ys[i]=x from hxe]at h1;exact (h1.toPV (hpx x (W0d hi))).mono (λb _ hb=>⟨λh=>hb (.inl h),rfl⟩) (W0f _)
 have hdst:o2.dst=some d:=by
  simp only[Z1z,W01,W0b]at hk2;exact hk2.1.1.1
 have suffix:∀ (b:Bool) (T:List (Nat×AV)) (st2:St) (G':Jg) (M':Nat->Prop) (A':World),GR G' M' A'->(∀ x,M' x->x<A'.heap.size)->TT' M' A' T b4 ->
   RW P G' post ⟨(d,.bool b)::T,[]⟩ (λe s=>e = .normal/\Ym s st2)->∀ (Qx:Exit->Act->World->Prop),
    (∀ a5 A5,SR (Zfz G' M' A' N none) st2 a5 A5->Qx .normal a5 A5)->wpOpsIn (FW none) n P ops Qx ((List.range post.length).map (λi=>pre.length+1+i)) (b4.put (some d) (.bool b)) A':=by
  intro b T st2 G' M' A' hGR hM' hT hrw Qx hQx
  have hsr:SR (Zfz G' M' A' N none) ⟨(d,.bool b)::T,[]⟩ (b4.put (some d) (.bool b)) A':=by
   refine ZfA hGR hM' d4 (by simpa [Act.put] using n4) λk x hx=>?_
   show PV M' A' x ((b4.tmps.setIfInBounds d (.bool b)).getD k Go.undef);simp only[lk]at hx
   split at hx
   . rename_i e;subst e
     cases hx
     have:(b4.tmps.setIfInBounds d (.bool b)).getD d Go.undef = .bool b:=(by simp[Array.getD,n4,hdN]);rw[this];exact .bool b
   . rename_i e
     have h3:(b4.tmps.setIfInBounds d (.bool b)).getD k Go.undef=b4.tmps.getD k Go.undef:=by
      simp only[W0a,W0p,if_neg e]
     rw[h3];exact hT k x hx
  refine Z27 (R:=Zfz G' M' A' N none) _ post ⟨(d,.bool b)::T,[]⟩ (λe s=>e = .normal/\Ym s st2) Qx _ A' ?_ (by simp) ?_ hrw hsr
  . intro i r hi;have hlt:=(W02.1 hi).1
    obtain ⟨o,h1,h2⟩:=okAt (pre.length+1+i) r (by
     rw[W0o (by omega),show pre.length+1+i-pre.length=i+1 by omega];simpa using hi)
    exact ⟨pre.length+1+i,o,by simp[hlt],h1,h2⟩
  . rintro e s5 a5 A5 ⟨rfl,w5⟩ hs5;exact hQx a5 A5 (w5 _ _ _ hs5)
 obtain ⟨fn,tm,asg,bo,y1,y2⟩:=hY k xs us M B4 (H.je _ _ _ _ hJ e4) hx hcp;refine ⟨fn,tm,asg,bo,y1,y2.mono ?_⟩;rintro e A' (⟨rfl,M',hJ',hSi⟩ | ⟨rfl,hK'⟩)
 . show wpOpsIn (FW none) n P ops _ _ (b4.put o2.dst (.bool true)) A';rw[hdst];have hT':TT' M' A' t1 b4:=λk x hx=>(t4 k x hx).mono hSi.2 hSi.1
   exact suffix true t1 st2 G M' A' (H.jg _ _ _ hJ') (H.jm _ _ _ hJ') hT' hpost _ λa5 A5 h5=>hrest c2 hc2 a5 A5 ⟨M',A',hJ',h5⟩
 . show wpOpsIn (FW none) n P ops _ _ (b4.put o2.dst (.bool false)) A';rw[hdst]
   refine suffix false tf ⟨tF,[]⟩ (λ_=>none) (λ_=>False) A' (λg cs hg=>by cases hg) (λ_ h=>h.elim) (λk x hx=>by
    obtain ⟨g1,g2⟩:=htf (k,x) (Z4J hx);exact (t4 k x g1).flatW g2) hpostF _ λa5 A5 h5=>?_
   refine wpIn_mono (hrestF A' c2 hc2 n a5 A5 h5) ?_;rintro e b6 B6 ⟨s6,⟨rfl,w6⟩,hs6⟩;obtain ⟨d6,-,-,e6⟩:=endG hs6 w6 (by simp);exact .inr ⟨rfl,H.ke _ _ hK' e6,d6⟩
def ZjM (H:ItH G J K) {els:List (List AV)} (hY:YOK P (n-1) l J K els) {id d:Nat} {gd:Option (Nat×Bool)} {rs:List ROper} (i:Nat) {f:RA} {ys:List RA} (hri:rs[i]? = some { d:=some d,op:=.callv f ys,guard:=gd }) {rest:RCode} {xs:List AV} (t1:List (Nat×AV)) (st2:St) (tf tF:List (Nat×AV))
  (hdN:d<N) (hx:els[k]? = some xs) (hpx:∀ x∈xs,x.pure=true) (hp1:∀ q∈t1,q.2.pure=true)
  (hpre:RW P G (rs.take i) st λe s=>e = .normal/\Ym s ⟨t1,[]⟩) (hw:wants ⟨t1,[]⟩ gd=some true) (hf:evA G ⟨t1,[]⟩ f = .func (.yield l) [] []) (hy:ys.map (evA G ⟨t1,[]⟩)=xs)
  (hpost:RW P G (rs.drop (i+1)) ⟨(d,.bool true)::t1,[]⟩ λe s=>e = .normal/\Ym s st2) (hrest:ItW P G N n J K rest (k+1) st2 Φ)
  (htf:∀ q∈tf,lk t1 q.1=some q.2/\q.2.flat=true) (hpostF:RW P (λ_=>none) (rs.drop (i+1)) ⟨(d,.bool false)::tf,[]⟩ λe s=>e = .normal/\Ym s ⟨tF,[]⟩)
  (hrestF:∀ A,AR P (Zfz (λ_=>none) (λ_=>False) A N none) rest ⟨tF,[]⟩ λe s=>e = .ret/\Ym s ⟨[],[]⟩):ItW P G N n J K (.seq (.reg id false rs) rest) k st Φ:=by
 have e:rs=rs.take i++{ d:=some d,op:=.callv f ys,guard:=gd }::rs.drop (i+1):=by
  obtain ⟨hi,h⟩:=W02.1 hri;rw[<- h,<- W0x hi,W11]
 rw[e];exact ZjL H hY hdN hx hpx hp1 hpre hw hf hy hpost hrest htf hpostF hrestF
end
def ZjN {P:Program} {gf:Nat} {fn:Func} (hf:P.funcs[gf]? = some fn) (hE:entB P gf=true) {rc:RCode} (hb:(match fn.body with|some c=>Z1A P fn.ntmps c rc|none=>false)=true) (hr:fn.results = #[])
  {G:Jg} {caps:List AV} {els:List (List AV)} (hn:caps.length+1<=fn.ntmps)
  (h:∀ (n l:Nat) (J:Nat->(Nat->Prop)->World->Prop) (K:World->Prop),2<=n->ItH G J K->YOK P (n-1) l J K els ->
   ItW P G fn.ntmps n J K rc 0 ⟨iniT 0 (.func (.yield l) [] []::caps),[]⟩ λe k s=>(e = .ret∨e = .normal)/\k=els.length/\Ym s ⟨[],[]⟩) :
  entB P gf=true/\∀ (n l:Nat) (lb:Array Value) (J:Nat->(Nat->Prop)->World->Prop) (K:World->Prop) (M:Nat->Prop) (W:World),2<=n->ItH G J K->CP M W caps lb->YOK P (n-1) l J K els ->
   J 0 M W->CallsIn Fence.wide n P gf (#[.func (.yield l) #[] #[]]++lb) W λe W'=>(∃ v,e = .returned v)/\((∃ M,J els.length M W')∨K W'):=by
 refine ⟨hE,λn l lb J K M W hn2 H hC hY hJ0=>?_⟩
 obtain ⟨c,hc⟩ : ∃ c,fn.body=some c:=by
  cases e:fn.body with
  |none=>rw[e]at hb;cases hb
  |some c=>exact ⟨c,rfl⟩
 rw[hc]at hb;have hb:Z1A P fn.ntmps c rc=true:=hb;refine callsIn_of_wp (F:=Fence.wide) hf hc trivial ?_ rfl
 have hres:∀ (tm:Array Value) (W':World),(results fn tm).run P W' = .ok (.tuple #[]) W':=λtm W'=>by
  simp[results,hr,Sem.run_bind]
 have hwide:Fence.wide=FW none:=rfl;rw[hwide];have hsz:lb.size=caps.length:=hC.1
 have hs0:ItS G fn.ntmps J 0 ⟨iniT 0 (.func (.yield l) [] []::caps),[]⟩ { tmps:=(#[.func (.yield l) #[] #[]]++lb:Array Value)++Array.replicate (fn.ntmps-(#[.func (.yield l) #[] #[]]++lb:Array Value).size) Go.undef,defers:=[] } W:=by
  refine ⟨M,W,hJ0,ZfA (H.jg _ _ _ hJ0) (H.jm _ _ _ hJ0) rfl (by simp;omega) λk x hx=>?_⟩
  have hini:∀ (xs:List AV) (m k:Nat) (x:AV),lk (iniT m xs) k=some x->m<=k/\xs[k-m]? = some x:=by
   intro xs
   induction xs with
   |nil=>intro m k x h;simp[iniT,lk]at h
   | cons y ys ih =>
     intro m k x h;simp only[iniT,lk]at h
     split at h
     . rename_i e;subst e;cases h;exact ⟨W0f _,by simp⟩
     . obtain ⟨h1,h2⟩:=ih (m+1) k x h;refine ⟨by omega,?_⟩;rw[show k-m=(k-(m+1))+1 by omega];simpa using h2
  obtain ⟨-,h2⟩:=hini _ 0 k x hx;rw[W1X]at h2
  cases k with
  | zero =>
    have h3:AV.func (.yield l) [] []=x:=(by simpa using h2);subst h3
    have g0:((#[.func (.yield l) #[] #[]]++lb:Array Value)++Array.replicate (fn.ntmps-(#[.func (.yield l) #[] #[]]++lb:Array Value).size) Go.undef).getD 0 Go.undef = .func (.yield l) #[] #[]:=by
     rw[W0a,W28 (by simp;omega),W28 (by simp)];rfl
    rw[g0];exact .func _ [] [] #[] #[] rfl rfl (by simp) (by simp)
  | succ k =>
    have h3:caps[k]? = some x:=(by simpa using h2);have hk:k<lb.size:=by rw[hsz];exact (W02.1 h3).1
    have g1:((#[.func (.yield l) #[] #[]]++lb:Array Value)++Array.replicate (fn.ntmps-(#[.func (.yield l) #[] #[]]++lb:Array Value).size) Go.undef).getD (k+1) Go.undef=lb[k]:=by
     rw[W0a,W28 (by simp;omega),Array.getElem?_append_right (by simp)];simp[hk]
    rw[g1];exact hC.2 k x lb[k] h3 (by simp[hk])
 refine wpIn_mono (h n l J K hn2 H hY c hb _ W hs0) ?_;rintro e a A (⟨k,t,⟨he,rfl,hw⟩,M',A',hJ',hs⟩ | ⟨rfl,hK,hd⟩)
 . obtain ⟨hd,-,-,e'⟩:=endG hs hw (by simp);rcases he with rfl|rfl
   . exact ⟨hd,_,hres _ _,⟨_,rfl⟩,.inl ⟨M',H.je _ _ _ _ hJ' e'⟩⟩
   . exact ⟨hd,_,hres _ _,⟨_,rfl⟩,.inl ⟨M',H.je _ _ _ _ hJ' e'⟩⟩
 . exact ⟨hd,_,hres _ _,⟨_,rfl⟩,.inr hK⟩
def ZjO {M:Nat->Prop} {W:World} {x:AV} {us:Array Value} (h:CP M W [x] us):∃ u,us = #[u]/\PV M W x u:=by
 obtain ⟨h1,h2⟩:=h
 match us,h1,h2 with
 | ⟨[u]⟩,_,h2=>exact ⟨u,rfl,h2 0 x u rfl rfl⟩
def ZjP {M:Nat->Prop} {W:World} {x y:AV} {us:Array Value} (h:CP M W [x,y] us):∃ u v,us = #[u,v]/\PV M W x u/\PV M W y v:=by
 obtain ⟨h1,h2⟩:=h
 match us,h1,h2 with
 | ⟨[u,v]⟩,_,h2=>exact ⟨u,v,rfl,h2 0 x u rfl rfl,h2 1 y v rfl rfl⟩
def ZjQ {P:Program} {gf:Nat} {fn:Func} (hf:P.funcs[gf]? = some fn) (hE:entB P gf=true) {rc:RCode} (hb:(match fn.body with|some c=>Z1A P fn.ntmps c rc|none=>false)=true) (hr:fn.results = #[])
  {G:Jg} {caps els:List AV} (hn:caps.length+1<=fn.ntmps)
  (h:∀ (n l:Nat) (J:Nat->(Nat->Prop)->World->Prop) (K:World->Prop),2<=n->ItH G J K->YOK P (n-1) l J K (els.map λx=>[x]) ->
   ItW P G fn.ntmps n J K rc 0 ⟨iniT 0 (.func (.yield l) [] []::caps),[]⟩ λe k s=>(e = .ret∨e = .normal)/\k=els.length/\Ym s ⟨[],[]⟩):IterG P G gf caps els:=by
 obtain ⟨h1,h2⟩:=ZjN (els:=els.map λx=>[x]) hf hE hb hr hn (by simpa using h);refine ⟨h1,λn l lb J K M W hn2 je ke jm jg hC hY hJ0=>?_⟩
 have:=h2 n l lb J K M W hn2 ⟨je,ke,jm,jg⟩ hC (λk xs us M A hJ hx hc=>by
  rw[W09]at hx;obtain ⟨x,hx1,rfl⟩:=W04.1 hx;obtain ⟨u,rfl,hu⟩:=ZjO hc;exact hY k x u M A hJ hx1 hu) hJ0
 simpa using this
def ZjR {P:Program} {gf:Nat} {fn:Func} (hf:P.funcs[gf]? = some fn) (hE:entB P gf=true) {rc:RCode} (hb:(match fn.body with|some c=>Z1A P fn.ntmps c rc|none=>false)=true) (hr:fn.results = #[])
  {G:Jg} {caps:List AV} {els:List (AV×AV)} (hn:caps.length+1<=fn.ntmps)
  (h:∀ (n l:Nat) (J:Nat->(Nat->Prop)->World->Prop) (K:World->Prop),2<=n->ItH G J K->YOK P (n-1) l J K (els.map λx=>[x.1,x.2]) ->
   ItW P G fn.ntmps n J K rc 0 ⟨iniT 0 (.func (.yield l) [] []::caps),[]⟩ λe k s=>(e = .ret∨e = .normal)/\k=els.length/\Ym s ⟨[],[]⟩):Zjz P G gf caps els:=by
 obtain ⟨h1,h2⟩:=ZjN (els:=els.map λx=>[x.1,x.2]) hf hE hb hr hn (by simpa using h);refine ⟨h1,λn l lb J K M W hn2 je ke jm jg hC hY hJ0=>?_⟩
 have:=h2 n l lb J K M W hn2 ⟨je,ke,jm,jg⟩ hC (λk xs us M A hJ hx hc=>by
  rw[W09]at hx;obtain ⟨x,hx1,rfl⟩:=W04.1 hx;obtain ⟨u,v,rfl,hu,hv⟩:=ZjP hc;exact hY k x u v M A hJ hx1 hu hv) hJ0
 simpa using this
def oiT (O:AV) (ps:Jp) (day:Int) (l i:Nat):List (Nat×AV):=[(13,.int .i64 i),(12,.int .i64 ps.length),(11,.vsl (ps.map ptA)),(2,.vptr [.int .i64 day] 0),(1,.vptr [O] 0),(0,.func (.yield l) [] [])]
def outIt (r:Jr) (l:Jl) (hs:Jh) (ps:Jp) (day:Int) (hp:ps.length<=41) :
  Zjz prog G 128 [.vptr [ofA r l hs ps] 0,.vptr [.int .i64 day] 0] (outE ps day):=by
 have pO:=Zj7 r l hs ps;have eO:ofA r l hs ps = .vptr [.vsl (r.map isa),.vsl (l.map na),.vsl (hs.map hoa),.vsl (ps.map ptA),.vsl ((nums r).map ia)] 0:=rfl;refine ZjR Tryz.func128 (by kernel_rfl) (rc:=Ziu) (by kernel_rfl) rfl (W0C rfl) λn l' J K hn H hY=>?_
 obtain ⟨O,hO⟩:=Qex (ofA r l hs ps);rw[<- hO]at pO eO ⊢;clear hO
 have pT:∀ i,∀ q∈oiT O ps day l' i,q.2.pure=true:=λi q hq=>by
  simp only[oiT,W0g,W0Q,or_false]at hq;rcases hq with rfl|rfl|rfl|rfl|rfl|rfl <;> simp[AV.pure,ptA,pO]
 unfold Ziu;refine ZjH ⟨oiT O ps day l' 0,[]⟩ (λM A=>?_) (ZjJ (ZjK (λi=>(outI ps day i).length) (λi=>⟨oiT O ps day l' i,[]⟩) (λi=>i<=ps.length) (λi=>ps.length-i) 0 rfl rfl (W1f _) λi hi=>?_))
 . refine Qga ?_;simp -implicitDefEqProofs[iniT,eO,oiT]
   (refine Wkc ?_;simp only[Wkl,and_true];(try simp[lk,Yc,Ya,AV.keys]))
 by_cases hlt:i<ps.length
 case neg =>
  obtain rfl:i=ps.length:=(by omega);refine ZjH ⟨(14,.bool false)::oiT O ps day l' ps.length,[]⟩ (λM A=>?_) (ZjF (ZjI (.exit 0) ⟨[],[]⟩ (λM A=>?_) ?_))
  . refine Qga ?_;simp -implicitDefEqProofs[oiT];exact (by (first|exact Wka|exact Wkb))
  . refine Qga ?_;simp -implicitDefEqProofs[oiT];exact (by (first|exact Wka|exact Wkb))
  . simp only[ItBk,if_true];refine ⟨by simp,by simp[outE],λ_ _ _ h=>h⟩
 have wi:i64.wrap ((i:Int)+1)=((i+1:Nat):Int):=Yf;have hx:=Zj0 hlt;have hsu:=Zj9 (ps:=ps) (day:=day) (n:=i);have hgt:=Zja (ps:=ps) (day:=day) (n:=ps.length) (i:=i) hlt;obtain ⟨x,hxe⟩:=Qex (ps[i]);rw[<- hxe]at hx;rw[hx]at hsu hgt;have hlx:ps[i]=x:=hxe.symm;have hpt:ptA x=[.int .i64 x.no,.int .i64 x.dy,.int .i64 x.ho,.int .i64 x.dw,.int .i64 x.lt,.int .i64 x.bk,.int .u8 x.lo]:=rfl;refine ZjH ⟨(14,.bool true)::oiT O ps day l' i,[]⟩ (λM A=>?_) (ZjH ⟨oiT O ps day l' i,[]⟩ (λM A=>?_) (ZjG (ZjJ ?_)))
 . refine Qga ?_;simp -implicitDefEqProofs[oiT,hlt];exact (by (first|exact Wka|exact Wkb))
 . refine Qga ?_;simp -implicitDefEqProofs[oiT];exact (by (first|exact Wka|exact Wkb))
 obtain ⟨bk,hbk⟩:=Qex ((!decide (x.bk = -1)&&decide (x.bk<=day)));refine ZjH ⟨(5,.ptr 5 0)::(4,.int .i64 i)::oiT O ps day l' i,[(5,.box (ptA x))]⟩ (λM A=>?_) (ZjH ⟨(6,.bool bk)::(5,.ptr 5 0)::(4,.int .i64 i)::oiT O ps day l' i,[(5,.box (ptA x))]⟩ (λM A=>?_) ?_)
 . refine Qga ?_;simp -implicitDefEqProofs[oiT,hlt,hlx,hpt]
   (refine Wkc ?_;simp only[Wkl,and_true];(try simp[lk,Yc,Ya,AV.keys]))
 . refine Qga ?_;by_cases c1:x.bk = -1
   . have e:bk=false:=(by rw[hbk];simp[c1]);simp -implicitDefEqProofs[oiT,hpt,c1,e]
     (refine Wkc ?_;simp only[Wkl,and_true];(try simp[lk,Yc,Ya,AV.keys]))
   . by_cases c2:x.bk<=day
     . have e:bk=true:=(by rw[hbk];simp[c1,c2]);simp -implicitDefEqProofs[oiT,hpt,c1,c2,e]
       (refine Wkc ?_;simp only[Wkl,and_true];(try simp[lk,Yc,Ya,AV.keys]))
     . have e:bk=false:=(by rw[hbk];simp[c2]);simp -implicitDefEqProofs[oiT,hpt,c1,c2,e]
       (refine Wkc ?_;simp only[Wkl,and_true];(try simp[lk,Yc,Ya,AV.keys]))
 have hout:outB x day=(decide (x.dy<=day) && !bk && !decide (x.lo=2)):=by
  rw[hbk,outB];by_cases c1:x.bk = -1
  . simp only[c1,W1i,Bool.true_or,W17,W1L,W1F]
  . by_cases c2:x.bk<=day
    . have c3:¬day<x.bk:=(by omega);simp only[c1,c2,c3,W1i,W1x,W1F,W17,W1k,Bool.or_self]
    . have c3:day<x.bk:=(by omega);simp only[c1,c2,c3,W1i,W1x,W1F,W1k,Bool.or_true]
 clear hbk;by_cases ho:outB x day=true
 . rw [if_pos ho]at hsu;have hg:=hgt ho;rw[hout]at ho;simp only[W01,W1C,W0b,W1b]at ho;obtain ⟨⟨o1,rfl⟩,o3⟩:=ho
   refine ZjM H hY 17 (d:=44) (f:=.t 41) (ys:=[.t 42,.t 43]) (gd:=some (40,true)) rfl (xs:=[.int .i64 i,.agg (ptA x)])
    ((43,.agg (ptA x))::(42,.int .i64 i)::(41,.func (.yield l') [] [])::(40,.bool true)::oiT O ps day l' i) ⟨(46,.bool false)::oiT O ps day l' i,[]⟩ [(40,.bool true)] [(46,.bool true)] (W0C rfl) ?_ (by simp[AV.pure,ptA]) ?_ ?_ (by simp[wants,St.tmp,lk]) (by simp[evA,St.tmp,lk]) (by simp[evA,St.tmp,lk]) ?_ ?_ ?_ ?_ ?_
   . rw[outE,W10,W09,hg];simp[hx]
   . intro q hq;simp only[W0g]at hq;rcases hq with rfl|rfl|rfl|rfl|hq
     . simp[AV.pure,ptA]
     . simp[AV.pure]
     . simp[AV.pure]
     . simp[AV.pure]
     . exact pT i q hq
   . simp -implicitDefEqProofs[oiT,hpt,o1,o3]
     (refine Wkc ?_;simp only[Wkl,and_true];(try simp[lk,Yc,Ya,AV.keys]))
   . simp -implicitDefEqProofs[oiT];exact (by (first|exact Wka|exact Wkb))
   . refine ZjI .normal ⟨oiT O ps day l' i,[]⟩ (λM A=>?_) ⟨rfl,ZjI .normal ⟨oiT O ps day l' (i+1),[]⟩ (λM A=>?_) ⟨i+1,by rw[hsu];simp,rfl,by omega,by omega⟩⟩
     . refine Qga ?_;simp -implicitDefEqProofs[oiT];exact (by (first|exact Wka|exact Wkb))
     . refine Qga ?_;simp -implicitDefEqProofs[oiT,wi];exact (by (first|exact Wka|exact Wkb))
   . intro q hq;simp at hq;subst hq;exact ⟨by simp[lk],by simp[AV.flat]⟩
   . simp -implicitDefEqProofs;exact (by (first|exact Wka|exact Wkb))
   . intro A;refine Qga ?_;simp -implicitDefEqProofs;exact (by (first|exact Wka|exact Wkb))
 . rw [if_neg ho]at hsu;rw[hout]at ho;refine ZjH ⟨(46,.bool false)::oiT O ps day l' i,[]⟩ (λM A=>?_) (ZjI .normal ⟨oiT O ps day l' i,[]⟩ (λM A=>?_) ⟨rfl,ZjI .normal ⟨oiT O ps day l' (i+1),[]⟩ (λM A=>?_) ⟨i+1,by rw[hsu],rfl,by omega,by omega⟩⟩)
   . refine Qga ?_;by_cases o1:x.dy<=day
     . cases bk
       . by_cases o3:x.lo=2
         . simp -implicitDefEqProofs[oiT,hpt,o1,o3]
           (refine Wkc ?_;simp only[Wkl,and_true];(try simp[lk,Yc,Ya,AV.keys]))
         . exact absurd (by simp[o1,o3]) ho
       . simp -implicitDefEqProofs[oiT,hpt,o1]
         (refine Wkc ?_;simp only[Wkl,and_true];(try simp[lk,Yc,Ya,AV.keys]))
     . simp -implicitDefEqProofs[oiT,hpt,o1]
       (refine Wkc ?_;simp only[Wkl,and_true];(try simp[lk,Yc,Ya,AV.keys]))
   . refine Qga ?_;simp -implicitDefEqProofs[oiT];exact (by (first|exact Wka|exact Wkb))
   . refine Qga ?_;simp -implicitDefEqProofs[oiT,wi];exact (by (first|exact Wka|exact Wkb))
def K5p:List AV:=[.func (.func 252) [] [],.func (.func 253) [] [],.func (.func 254) [] [],.func (.func 257) [] [],.func (.func 258) [] []]
def GP (G:Jg):Prop:=G 1=some K5p
def ckP (r:Jr) (hs:Jh) (x:Prt):Nat->Bool
 |0=>inR x.no 1 9999&&inR x.dy 0 14610
 |1=>decide (0<=hoI hs x.ho)
 |2=>(findN x.dw x.lt r).isSome
 |3=>decide (x.lo<=2)
 |_=>decide (x.bk = -1)||(inR x.bk x.dy 14610&&decide (x.lo=0))
def hoF_I (hs:Jh) (id:Int):decide (0<=hoI hs id)=(hoF hs id).isSome:=by
 unfold hoI hoF;rw[Z9e,W2h,W14,List.find?_isSome]
def ZjS {r:Jr} {hs:Jh} {x:Prt}:prB r hs x=true↔∀ j,j<5->ckP r hs x j=true:=by
 simp only[prB,W01];rw[<- hoF_I]
 constructor
 . rintro ⟨⟨⟨⟨⟨h1,h2⟩,h3⟩,h4⟩,h5⟩,h6⟩ j hj
   match j,hj with
   |0,_=>simp only[ckP,h1,h2,Bool.and_self]
   |1,_=>exact h3
   |2,_=>exact h5
   |3,_=>exact h4
   |4,_=>exact h6
 . intro h;have h1:=h 0 (by omega);simp only[ckP,W01]at h1;exact ⟨⟨⟨⟨h1,h 1 (by omega)⟩,h 3 (by omega)⟩,h 2 (by omega)⟩,h 4 (by omega)⟩
def ZjT {r:Jr} {hs:Jh} {ps:Jp} {i:Nat} (hi:i<hs.length) (h:hoB (nums r) hs i=false):ptsB r hs ps=false:=by
 cases q:ptsB r hs ps
 . rfl
 . simp only[ptsB,W01]at q;have:=Z8G.1 q.1.2 i hi;rw[h]at this;cases this
def ZjU {r:Jr} {hs:Jh} {ps:Jp} {i:Nat} (hi:i<ps.length) (h:shB r hs ps i=false):ptsB r hs ps=false:=by
 cases q:ptsB r hs ps
 . rfl
 . simp only[ptsB,W01]at q;have:=Z8G.1 q.2 i hi;rw[h]at this;cases this
def hoC (hs:Jh) (i:Nat):Bool:=inR (hAt hs i).id 1 9999&&(i == 0||decide ((hAt hs (i-1)).id<(hAt hs i).id))&&inR (hAt hs i).fr 1 (hAt hs i).to&&decide ((hAt hs i).to<=999)&&decide ((hAt hs i).ds.length<=8)
def wkC (D ds:List Int) (k:Nat):Bool:=D.contains (ds.getD k 0)&&(k == 0||decide (ds.getD (k-1) 0<ds.getD k 0))
def ZjV (D:List Int) (hs:Jh) (i:Nat):hoB D hs i=(hoC hs i&&(List.range (hAt hs i).ds.length).all (wkC D (hAt hs i).ds)):=rfl
def rgT (r:Jr) (l:Jl) (hs:Jh) (ps:Jp) (i:Nat):List (Nat×AV):=[(34,.int .i64 i),(33,.int .i64 hs.length),(32,.vsl (hs.map hoa)),(0,ofA r l hs ps)]
def rgD (r:Jr) (l:Jl) (hs:Jh) (ps:Jp) (h:Hld) (i k:Nat):St:=⟨(88,.int .i64 k)::(87,.int .i64 h.ds.length)::(86,.vsl (h.ds.map ia))::(4,.ptr 4 0)::(3,.int .i64 i)::rgT r l hs ps i,[(4,.box (hoa h))]⟩
def rgP (r:Jr) (l:Jl) (hs:Jh) (ps:Jp) (i:Nat):List (Nat×AV):=[(122,.int .i64 i),(121,.int .i64 ps.length),(120,.vsl (ps.map ptA)),(7,.bool true),(0,ofA r l hs ps)]
def rgK (r:Jr) (l:Jl) (hs:Jh) (ps:Jp) (x:Prt) (i j:Nat):St:=⟨(145,.int .i64 j)::(144,.agg K5p)::(9,.ptr 9 0)::(8,.int .i64 i)::rgP r l hs ps i,[(9,.box (ptA x))]⟩
def kPall {r:Jr} {l:Jl} {hs:Jh} {ps:Jp} (x:Prt) (hr:Sml r) (hh:Sml hs) (j:Nat) (hj:j<5) :
  ∃ f,(K5p.drop j).take 1=[.func (.func f) [] []]/\PC prog G f [ofA r l hs ps,.agg (ptA x)] (.bool (ckP r hs x j)):=by
 match j,hj with
 |0,_=>exact ⟨_,rfl,Zjt _ x⟩
 |1,_=>exact ⟨_,rfl,Zju r l hs ps x hh⟩
 |2,_=>exact ⟨_,rfl,Zjw r l hs ps x hr⟩
 |3,_=>exact ⟨_,rfl,Zjx _ x⟩
 |4,_=>exact ⟨_,rfl,Zjy _ x⟩
def ZjW (hP:GP G) (r:Jr) (l:Jl) (hs:Jh) (ps:Jp) (hr:Sml r) (hd:Sml (nums r)) (hw:WfP hs ps):PC prog G 132 [ofA r l hs ps] (.bool (ptsB r hs ps)):=by
 have hh:Sml hs:=(by have:=hw.hl;unfold Sml;omega);have hl:=hw.hl;have hp:=hw.pl;have hk2:=λx j hj=>kPall (G:=G) (r:=r) (l:=l) (hs:=hs) (ps:=ps) x hr hh j hj
 have pO:=Zj7 r l hs ps;have kO:=Zj8 r l hs ps;have eO:ofA r l hs ps = .vptr [.vsl (r.map isa),.vsl (l.map na),.vsl (hs.map hoa),.vsl (ps.map ptA),.vsl ((nums r).map ia)] 0:=rfl;have hC:=λn=>Zf2 (G:=G) false (nums r) n hd
 have eC:liA false (nums r) = .vsl ((nums r).map ia):=(by simp[liA]);rw[eC]at hC;unfold GP at hP;refine Zib rfl λR hG hrd=>?_
 subst hG;refine Qga ?_;by_cases h6:6<hs.length
 . have h6':(6:Int)<hs.length:=by omega
   have e:ptsB r hs ps=false:=by
    have:¬hs.length<=6:=(by omega);simp[ptsB,this]
   simp -implicitDefEqProofs[Zi9,Zia,eO,h6',e]
 have h6':¬(6:Int)<hs.length:=(by omega);by_cases h30:30<ps.length
 . have h30':(30:Int)<ps.length:=by omega
   have e:ptsB r hs ps=false:=by
    have:¬ps.length<=30:=(by omega);simp[ptsB,this]
   simp -implicitDefEqProofs[Zi9,Zia,eO,h6',h30',e]
 have h30':¬(30:Int)<ps.length:=(by omega);simp -implicitDefEqProofs[Zi9,Zia,eO,h6',h30'];refine Z8p (λi=>⟨rgT r l hs ps i,[]⟩) (λi=>∀ j,j<i->hoB (nums r) hs j=true) hs.length ?_ (by simp) ?_ ?_
 . simp only[rgT,eO]
   (refine Wkc ?_;simp only[Wkl,and_true];(try simp[lk,Yc,Ya,AV.keys]))
 . intro i hi he;have hno:hoB (nums r) hs i=false->ptsB r hs ps=false:=ZjT hi;have hx:=ZiZ hi;have hds:=hw.dl _ (W0e hi);have heq:=ZjV (nums r) hs i;have wi:i64.wrap ((i:Int)+1)=(i:Int)+1:=Yf;obtain ⟨h,hhe⟩:=Qex (hs[i]);rw[<- hhe]at hx hds;have hlx:hs[i]=h:=hhe.symm;have hho:hoa h=[.int .i64 h.id,.int .i64 h.fr,.int .i64 h.to,.vsl (h.ds.map ia)]:=rfl;have c1:=Zjm (G:=R.G) 1 9999 h.id;have c2:=Zjn (G:=R.G) 1 999 h.fr h.to;have hC0:hoC hs i=(inR h.id 1 9999&&(i == 0||decide ((hAt hs (i-1)).id<h.id))&&inR h.fr 1 h.to&&decide (h.to<=999)&&decide (h.ds.length<=8)):=by unfold hoC;rw[hx]
   have hfin:inR h.id 1 9999=true->(i == 0||decide ((hAt hs (i-1)).id<h.id))=true->hoC hs i=(inR h.fr 1 999&&inR h.to 1 999 && !decide (h.to<h.fr) && !decide (8<h.ds.length)):=λq1 q2=>by
    rw[hC0,q1,q2,W2h];simp only[W1k,W01,Zg0,W0b,W1C,W1b];omega
   have hno2:hoC hs i=false->ptsB r hs ps=false:=λq=>hno (by rw[heq,q];rfl)
   have hst:∀ k:Nat,k<=h.ds.length->(∀ j,j<k->wkC (nums r) h.ds j=true)->k=h.ds.length->hoC hs i=true->∀ j,j<i+1->hoB (nums r) hs j=true:=λk _ hk1 hk2 hc j hj=>by
    rcases W0q j i with h1|h1
    . exact he j h1
    . obtain rfl:j=i:=(by omega);rw[heq,hc,hx,W1k];exact Z8G.2 (by rw[<- hk2];exact hk1)
   refine Qga ?_
   cases q1:inR h.id 1 9999
   . have e:=hno2 (by rw[hC0,q1];rfl);rw[q1]at c1
     cases i
     case' zero=>simp -implicitDefEqProofs[rgT,hi,hlx,hho]
     case' succ k =>
      have k1:(k:Int)+1<hs.length:=(by omega);have k2:((k:Int)+1).toNat=k+1:=(by omega);have k3:(0:Int)<=(k:Int)+1:=(by omega);simp -implicitDefEqProofs[rgT,k1,k2,k3,hi,hlx,hho]
     all_goals
      refine Qco (c1) ?_;simp -implicitDefEqProofs;refine ⟨rfl,?_⟩;refine Qgr ?_;simp -implicitDefEqProofs[e]
      done
   rw[q1]at c1;obtain ⟨I,hIe⟩:=Qex i
   cases i
   case' zero =>
    have q2:=hfin q1 rfl;simp -implicitDefEqProofs[rgT,hi,hlx,hho];refine Qco (c1) ?_;simp -implicitDefEqProofs
   case' succ k =>
    have hk:k<hs.length:=(by omega);have w0:i64.wrap ((k:Int)+1-1)=(k:Int):=(by rw[Yf (by omega) (by omega)];omega);have w2:i64.wrap (k:Int)=(k:Int):=Yf;have g0:(0:Int)<(k:Int)+1:=(by omega);have k1:(k:Int)+1<hs.length:=(by omega);have k2:((k:Int)+1).toNat=k+1:=(by omega);have k3:(0:Int)<=(k:Int)+1:=(by omega);have hhk:hoa hs[k]=[.int .i64 hs[k].id,.int .i64 hs[k].fr,.int .i64 hs[k].to,.vsl (hs[k].ds.map ia)]:=rfl;simp -implicitDefEqProofs[rgT,k1,k2,k3,hi,hlx,hho];refine Qco (c1) ?_;by_cases hp:hs[k].id<h.id
    case' neg =>
     have e:=hno2 (by rw[hC0,W19,ZiZ hk,W0S hp];simp);have hp2:h.id<=hs[k].id:=(by omega);simp -implicitDefEqProofs[hk,w0,w2,g0,hhk,hp2,eO,hho];refine ⟨rfl,?_⟩;refine Qgr ?_;simp -implicitDefEqProofs[e]
     done
    have hp2:¬h.id<=hs[k].id:=(by omega);have q2:=hfin q1 (by rw[W19,ZiZ hk,W0M hp];simp);simp -implicitDefEqProofs[hk,w0,w2,g0,hhk,hp2,eO,hho]
   all_goals
    refine Qco (c2) ?_
    cases q3:(inR h.fr 1 999&&inR h.to 1 999)
    case false =>
     have e:=hno2 (by rw[q2,q3];rfl);simp -implicitDefEqProofs;refine ⟨rfl,?_⟩;refine Qgr ?_;simp -implicitDefEqProofs[e]
    by_cases q4:h.to<h.fr
    case pos =>
     have e:=hno2 (by rw[q2,q3,W0M q4];rfl);simp -implicitDefEqProofs[hho,q4];refine ⟨rfl,?_⟩;refine Qgr ?_;simp -implicitDefEqProofs[e]
    by_cases q5:8<h.ds.length
    case pos =>
     have q5':(8:Int)<h.ds.length:=(by omega);have e:=hno2 (by rw[q2,W0M q5];simp);simp -implicitDefEqProofs[hho,q4,q5'];refine ⟨rfl,?_⟩;refine Qgr ?_;simp -implicitDefEqProofs[e]
    have q5':¬(8:Int)<h.ds.length:=(by omega);rw[q3,W0S q4,W0S q5]at q2;simp -implicitDefEqProofs[hho,q4,q5'];refine ⟨rfl,?_⟩;refine Z8p (rgD r l hs ps h I) (λk=>∀ j,j<k->wkC (nums r) h.ds j=true) h.ds.length ?_ (by simp) ?_ ?_
    . simp only[rgD,rgT,eO,hIe]
      ((try simp only[hho]);refine Ym.sub (by simp[lk,Ya,AV.keys,hho]) ?_;simp only[hho,Wkl,and_true];(try simp[lk,Yc,Ya,AV.keys,hho]))
    . intro k hk hK
      have hwf:wkC (nums r) h.ds k=false->ptsB r hs ps=false:=λq=>hno (by
       rw[heq,q2,hx,W1k]
       cases q6:(List.range h.ds.length).all (wkC (nums r) h.ds)
       . rfl
       . have:=Z8G.1 q6 k hk;rw[q]at this;cases this)
      have wk:i64.wrap ((k:Int)+1)=(k:Int)+1:=Yf;have hcd:=hC h.ds[k];have gd:h.ds.getD k 0=h.ds[k]:=(by simp[W0j,hk]);refine Qga ?_;by_cases m1:h.ds[k]∈nums r
      case neg =>
       have e:=hwf (by rw[wkC,gd];simp[m1]);rw[W0S m1]at hcd;simp -implicitDefEqProofs[rgD,rgT,hk,ia,eO];refine Qco (hcd) ?_;simp -implicitDefEqProofs;refine Qgr ?_;simp -implicitDefEqProofs;refine Qgr ?_;simp -implicitDefEqProofs[e]
      rw[W0M m1]at hcd
      cases k with
      | zero =>
        have e:wkC (nums r) h.ds 0=true:=(by rw[wkC,gd];simp[m1]);have w1:i64.wrap 1=1:=rfl;simp -implicitDefEqProofs[rgD,rgT,hk,ia,eO];refine Qco (hcd) ?_;simp -implicitDefEqProofs[w1];refine ⟨?_,e⟩;simp only[rgD,rgT,eO]
        ((try simp only[hho]);refine Ym.sub (by simp[lk,Ya,AV.keys,hho]) ?_;simp only[hho,Wkl,and_true];(try simp[lk,Yc,Ya,AV.keys,hho]))
      | succ p =>
        have hp:p<h.ds.length:=(by omega);have g2:h.ds.getD p 0=h.ds[p]:=(by simp[W0j,hp]);have w0:i64.wrap ((p:Int)+1-1)=(p:Int):=(by rw[Yf (by omega) (by omega)];omega);have w2:i64.wrap (p:Int)=(p:Int):=Yf;have g0:(0:Int)<(p:Int)+1:=(by omega);have k1:(p:Int)+1<h.ds.length:=(by omega);have k2:((p:Int)+1).toNat=p+1:=(by omega);have k3:(0:Int)<=(p:Int)+1:=(by omega);have wk2:i64.wrap ((p:Int)+1+1)=(p:Int)+1+1:=Yf;by_cases m2:h.ds[p]<h.ds[p+1]
        . have e:wkC (nums r) h.ds (p+1)=true:=(by rw[wkC,gd,W19,g2];simp[m1,m2]);have m3:¬h.ds[p+1]<=h.ds[p]:=(by omega);simp -implicitDefEqProofs[rgD,rgT,k1,k2,k3,hk,ia,eO];refine Qco (hcd) ?_;simp -implicitDefEqProofs[hp,w0,w2,g0,hho,ia,m3,wk2];refine ⟨?_,λj hj=>?_⟩
          . simp only[rgD,rgT,eO]
            ((try simp only[hho]);refine Ym.sub (by simp[lk,Ya,AV.keys,hho]) ?_;simp only[hho,Wkl,and_true];(try simp[lk,Yc,Ya,AV.keys,hho]))
          . rcases W0q j (p+1) with h4|h4
            . exact hK j h4
            . obtain rfl:j=p+1:=(by omega);exact e
        . have e:=hwf (by rw[wkC,gd,W19,g2];simp[m2]);have m3:h.ds[p+1]<=h.ds[p]:=(by omega);simp -implicitDefEqProofs[rgD,rgT,k1,k2,k3,hk,ia,eO];refine Qco (hcd) ?_;simp -implicitDefEqProofs[hp,w0,w2,g0,hho,ia,m3];refine Qgr ?_;simp -implicitDefEqProofs;refine Qgr ?_;simp -implicitDefEqProofs[e]
    . intro hK;have hst2:=hst h.ds.length (W0f _) hK rfl q2;refine Qga ?_;have wI:i64.wrap ((I:Int)+1)=(I:Int)+1:=Yf;simp -implicitDefEqProofs[rgD,rgT];refine Qgr ?_;simp -implicitDefEqProofs[wI];refine ⟨?_,by first|exact hst2|exact hst2 0 (by omega)⟩;simp only[rgT,eO]
      ((try simp only[hIe]);refine Ym.sub (by simp[lk,Ya,AV.keys,hIe]) ?_;simp only[hIe,Wkl,and_true];(try simp[lk,Yc,Ya,AV.keys,hIe]))
 . intro he;refine Qga ?_;simp -implicitDefEqProofs[rgT,eO];refine Qgr ?_;simp -implicitDefEqProofs;refine Z8p (λi=>⟨rgP r l hs ps i,[]⟩) (λi=>∀ j,j<i->shB r hs ps j=true) ps.length ?_ (by simp) ?_ ?_
   . simp only[rgP,eO]
     (refine Wkc ?_;simp only[Wkl,and_true];(try simp[lk,Yc,Ya,AV.keys]))
   . intro i hi hE;have hno:shB r hs ps i=false->ptsB r hs ps=false:=ZjU hi;have hx:=Zj0 hi;have wi:i64.wrap ((i:Int)+1)=(i:Int)+1:=Yf;obtain ⟨x,hxe⟩:=Qex (ps[i]);rw[<- hxe]at hx;have hlx:ps[i]=x:=hxe.symm;have hpt:ptA x=[.int .i64 x.no,.int .i64 x.dy,.int .i64 x.ho,.int .i64 x.dw,.int .i64 x.lt,.int .i64 x.bk,.int .u8 x.lo]:=rfl;have hsh:shB r hs ps i=((i == 0||decide ((pAt ps (i-1)).no<x.no))&&prB r hs x):=(by unfold shB;rw[hx]);have t5:K5p.take 5=K5p:=rfl;have l5:K5p.length=5:=rfl;obtain ⟨I,hIe⟩:=Qex i;refine Qga ?_
     cases i
     case' zero =>
      have q2:shB r hs ps 0=prB r hs x:=(by rw[hsh];rfl);simp -implicitDefEqProofs[rgP,hi,hlx,hpt]
     case' succ k =>
      have hk:k<ps.length:=(by omega);have w0:i64.wrap ((k:Int)+1-1)=(k:Int):=(by rw[Yf (by omega) (by omega)];omega);have w2:i64.wrap (k:Int)=(k:Int):=Yf;have g0:(0:Int)<(k:Int)+1:=(by omega);have k1:(k:Int)+1<ps.length:=(by omega);have k2:((k:Int)+1).toNat=k+1:=(by omega);have k3:(0:Int)<=(k:Int)+1:=(by omega);have hpk:ptA ps[k]=[.int .i64 ps[k].no,.int .i64 ps[k].dy,.int .i64 ps[k].ho,.int .i64 ps[k].dw,.int .i64 ps[k].lt,.int .i64 ps[k].bk,.int .u8 ps[k].lo]:=rfl;by_cases hp:ps[k].no<x.no
      case' neg =>
       have e:=hno (by rw[hsh,W19,Zj0 hk,W0S hp];simp);have hp2:x.no<=ps[k].no:=(by omega);simp -implicitDefEqProofs[rgP,k1,k2,k3,hi,hlx,hpt,hk,w0,w2,g0,hpk,hp2,eO];refine ⟨rfl,?_⟩;refine Qgr ?_;simp -implicitDefEqProofs[e]
       done
      have hp2:¬x.no<=ps[k].no:=(by omega);have q2:shB r hs ps (k+1)=prB r hs x:=(by rw[hsh,W19,Zj0 hk,W0M hp];simp);simp -implicitDefEqProofs[rgP,k1,k2,k3,hi,hlx,hpt,hk,w0,w2,g0,hpk,hp2,eO]
     all_goals
      refine ⟨rfl,?_⟩;simp -implicitDefEqProofs[hP,t5,l5];refine Z8p (rgK r l hs ps x I) (λj=>∀ k,k<j->ckP r hs x k=true) 5 ?_ (by simp) ?_ ?_
      . simp only[rgK,rgP,eO,hIe]
        ((try simp only[hpt,K5p]);refine Ym.sub (by simp[lk,Ya,AV.keys,hpt,K5p]) ?_;simp only[hpt,K5p,Wkl,and_true];(try simp[lk,Yc,Ya,AV.keys,hpt,K5p]))
      . intro j hj hJ;refine Qga ?_;obtain ⟨f,hf1,hf2⟩:=hk2 x j hj;have wj:i64.wrap ((j:Int)+1)=(j:Int)+1:=Yf;have j1:(j:Int)<5:=(by omega);have j2:j+1<=5:=(by omega);have j3:j<=4:=(by omega);simp -implicitDefEqProofs[rgK,rgP,j1,j2,j3,l5,hf1,hj,hpt];rw[hpt]at hf2;refine Yd.of hf2 (by simp[pO,AV.pure]) ?_
        cases hb:ckP r hs x j
        . have e:=hno (by
           rw[q2]
           cases q:prB r hs x
           . rfl
           . have:=ZjS.1 q j hj;rw[hb]at this;cases this)
          simp -implicitDefEqProofs;refine Qgr ?_;simp -implicitDefEqProofs;refine Qgr ?_;simp -implicitDefEqProofs[e]
        . simp -implicitDefEqProofs[wj];refine ⟨?_,λk hk=>?_⟩
          . simp only[rgK,rgP,eO]
            ((try simp only[hpt,K5p]);refine Ym.sub (by simp[lk,Ya,AV.keys,hpt,K5p]) ?_;simp only[hpt,K5p,Wkl,and_true];(try simp[lk,Yc,Ya,AV.keys,hpt,K5p]))
          . rcases W0q k j with h1|h1
            . exact hJ k h1
            . obtain rfl:k=j:=(by omega);exact hb
      . intro hJ;rw[ZjS.2 hJ]at q2
        have hE2:∀ j,j<I+1->shB r hs ps j=true:=λj hj=>by
         rcases W0q j I with h1|h1
         . exact hE j (by omega)
         . obtain rfl:j=I:=(by omega);rw[hIe];exact q2
        have wI:i64.wrap ((I:Int)+1)=(I:Int)+1:=Yf;refine Qga ?_;simp -implicitDefEqProofs[rgK,rgP];refine Qgr ?_;simp -implicitDefEqProofs[wI];refine ⟨?_,by first|exact q2|exact λj hj=>hE2 j (by omega)⟩;simp only[rgP,eO]
        ((try simp only[hIe]);refine Ym.sub (by simp[lk,Ya,AV.keys,hIe]) ?_;simp only[hIe,Wkl,and_true];(try simp[lk,Yc,Ya,AV.keys,hIe]))
   . intro hE
     have e:ptsB r hs ps=true:=by
      simp only[ptsB,W01,W0b];exact ⟨⟨⟨by omega,by omega⟩,Z8G.2 he⟩,Z8G.2 hE⟩
     refine Qga ?_;simp -implicitDefEqProofs[rgP];refine Qgr ?_;simp -implicitDefEqProofs[e]
def opP (r:Jr) (l:Jl) (hs:Jh) (ps:Jp):AV:=.tup [if ck7 r l hs ps=0 then ofA r l hs ps else .nilp,.int .i64 (ck7 r l hs ps)]
def ZjX {r:Jr} {l:Jl} {hs:Jh} {ps:Jp}:ck7 r l hs ps=0↔chN r l=0/\ptsB r hs ps=true:=by
 unfold ck7;by_cases h:chN r l=0
 . rw[if_pos h];by_cases h2:ptsB r hs ps=true
   . simp[h,h2]
   . simp[h,h2]
 . simp[h]
def ZjY {r:Jr} {l:Jl} (h:chN r l=0):openV r=0:=by
 unfold chN at h
 split at h
 . assumption
 . rename_i e;exact absurd h e
def as7 (r:Jr) (l:Jl) (hs:Jh) (ps:Jp) (day m:Int):Int:=if ck7 r l hs ps=0 then if inR day 0 14610=true/\inR m 1 999=true then 0 else 2 else ck7 r l hs ps
def ab7 (r:Jr) (l:Jl) (hs:Jh) (ps:Jp) (day m id:Int) (ds:List Int):Int:=if as7 r l hs ps day m=0 then if 0<=hoI hs id/\(ds.all λd=>decide (d∈nums r))=true then 0 else 6 else as7 r l hs ps day m
def ZjZ (hG:GC G) (hN:GN G) (hP:GP G) (r:Jr) (l:Jl) (hs:Jh) (ps:Jp) (hl:WfN l) (hr:Wf r) (hd:Sml (nums r)) (hw:WfP hs ps):PC prog G 76 [prA r l hs ps] (opP r l hs ps):=by
 have hc:=Zf8 hG hN r l hl hr;have hD:=ZaK hG r hr;rw[rega]at hD;have hR:=ZjW hP r l hs ps hr.1.1 hd hw;have pO:=Zj7 r l hs ps;have kO:=Zj8 r l hs ps;have eO:ofA r l hs ps = .vptr [.vsl (r.map isa),.vsl (l.map na),.vsl (hs.map hoa),.vsl (ps.map ptA),.vsl ((nums r).map ia)] 0:=rfl;have sO:∀ ok st,Yh ok st 6 (ofA r l hs ps)=some (ofA r l hs ps):=λok st=>by rw[eO];rw[eO]at pO;simp[Yh,pO]
 unfold opP prA;by_cases h0:chN r l=0
 case neg =>
  have e:ck7 r l hs ps=chN r l:=(by rw[ck7,if_neg h0]);rw[e,if_neg h0]
  (refine Zie rfl λR hG hrd=>Qga ?_;subst hG)
  simp -implicitDefEqProofs[Zic,Zid];refine Qco (hc) ?_;simp -implicitDefEqProofs[h0]
 have ho:=ZjY h0;rw[if_pos ho,ho]at hD;rw[h0]at hc;refine Zie rfl λR hG hrd=>?_
 subst hG;refine Qga ?_;simp -implicitDefEqProofs[Zic,Zid];refine Qco (hc) ?_;simp -implicitDefEqProofs;refine Qco (hD) ?_;simp -implicitDefEqProofs;rw[eO]at hR
 (first|refine Yd.flat (hR) (by simp[AV.flat]) (by simp) ?_|refine Ye.flat (hR) (by simp[AV.flat]) (by simp) ?_)
 cases q:ptsB r hs ps
 . have e:ck7 r l hs ps=70:=(by rw[ck7,if_pos h0,q];rfl);simp -implicitDefEqProofs[e]
 . have e:ck7 r l hs ps=0:=(by rw[ck7,if_pos h0,q];rfl);simp -implicitDefEqProofs[e,eO]
def Zk0 (hG:GC G) (hN:GN G) (hP:GP G) (r:Jr) (l:Jl) (hs:Jh) (ps:Jp) (hl:WfN l) (hr:Wf r) (hd:Sml (nums r)) (hw:WfP hs ps):PC prog G 23 [prA r l hs ps] (.int .i64 (ck7 r l hs ps)):=by
 have ho:=ZjZ hG hN hP r l hs ps hl hr hd hw;unfold opP prA at ho;unfold prA
 (refine Zih rfl λR hG hrd=>Qga ?_;subst hG)
 simp -implicitDefEqProofs[Zif,Zig];refine Qco (ho) ?_;simp -implicitDefEqProofs
def asP (r:Jr) (l:Jl) (hs:Jh) (ps:Jp) (day m:Int):AV:=.tup [if as7 r l hs ps day m=0 then ofA r l hs ps else .nilp,.int .i64 (as7 r l hs ps day m)]
def Zk1 (hG:GC G) (hN:GN G) (hP:GP G) (r:Jr) (l:Jl) (hs:Jh) (ps:Jp) (day m:Int) (hl:WfN l) (hr:Wf r) (hd:Sml (nums r)) (hw:WfP hs ps) :
  PC prog G 89 [prA r l hs ps,.int .i64 day,.int .i64 m] (asP r l hs ps day m):=by
 have ho:=ZjZ hG hN hP r l hs ps hl hr hd hw;have c1:=Zjm (G:=G) 0 14610 day;have c2:=Zjm (G:=G) 1 999 m;have pO:=Zj7 r l hs ps;have kO:=Zj8 r l hs ps;have eO:ofA r l hs ps = .vptr [.vsl (r.map isa),.vsl (l.map na),.vsl (hs.map hoa),.vsl (ps.map ptA),.vsl ((nums r).map ia)] 0:=rfl;have sO:∀ ok st,Yh ok st 6 (ofA r l hs ps)=some (ofA r l hs ps):=λok st=>by rw[eO];rw[eO]at pO;simp[Yh,pO]
 unfold opP at ho;unfold asP as7;by_cases h0:ck7 r l hs ps=0
 case neg =>
  rw[if_neg h0]at ho;unfold prA at *
  (refine Zik rfl λR hG hrd=>Qga ?_;subst hG)
  simp -implicitDefEqProofs[Zii,Zij];refine Qco (ho) ?_;simp -implicitDefEqProofs[h0]
 rw[if_pos h0,h0]at ho;unfold prA at *;generalize ofA r l hs ps=O at *
 (refine Zik rfl λR hG hrd=>Qga ?_;subst hG)
 simp -implicitDefEqProofs[Zii,Zij];refine Qco (ho) ?_;simp -implicitDefEqProofs;refine Qco (c1) ?_
 cases q1:inR day 0 14610
 . simp -implicitDefEqProofs[h0]
 simp -implicitDefEqProofs;refine Qco (c2) ?_
 cases q2:inR m 1 999
 . simp -implicitDefEqProofs[h0]
 . simp -implicitDefEqProofs[h0,pO,sO]
def abP (r:Jr) (l:Jl) (hs:Jh) (ps:Jp) (day m id:Int) (ds:List Int):AV:=.tup [if ab7 r l hs ps day m id ds=0 then ofA r l hs ps else .nilp,.int .i64 (ab7 r l hs ps day m id ds)]
def Zk2 (r:Jr) (l:Jl) (hs:Jh) (ps:Jp) (d:Int) (hd:Sml (nums r)):PC prog G 127 [.int .i64 d,.vptr [ofA r l hs ps] 0] (.bool (!decide (d∈nums r))):=by
 have hC:=Zf2 (G:=G) false (nums r) d hd;have eC:liA false (nums r) = .vsl ((nums r).map ia):=(by simp[liA]);rw[eC]at hC;unfold ofA
 (refine Ziq rfl λR hG hrd=>Qga ?_;subst hG)
 simp -implicitDefEqProofs[Zio,Zip];refine Qco (hC) ?_;simp -implicitDefEqProofs
def Zk3 (hG:GC G) (hN:GN G) (hP:GP G) (r:Jr) (l:Jl) (hs:Jh) (ps:Jp) (day m id:Int) (ds:List Int) (hl:WfN l) (hr:Wf r) (hd:Sml (nums r)) (hw:WfP hs ps) (hds:Sml ds) :
  PC prog G 69 [prA r l hs ps,.int .i64 day,.int .i64 m,.int .i64 id,.vsl (ds.map ia)] (abP r l hs ps day m id ds):=by
 have ho:=Zk1 hG hN hP r l hs ps day m hl hr hd hw;have pO:=Zj7 r l hs ps;have hh:Sml hs:=(by have:=hw.hl;unfold Sml;omega);have c1:=Zjs (G:=G) r l hs ps id hh;have c2:=Z9g (G:=G) 127 [.vptr [ofA r l hs ps] 0] (λd=>!decide (d∈nums r)) ds (by simp[AV.pure,pO]) hds (λd _=>Zk2 r l hs ps d hd);have kO:=Zj8 r l hs ps;have eO:ofA r l hs ps = .vptr [.vsl (r.map isa),.vsl (l.map na),.vsl (hs.map hoa),.vsl (ps.map ptA),.vsl ((nums r).map ia)] 0:=rfl;have sO:∀ ok st n,Yh ok st (n+1) (ofA r l hs ps)=some (ofA r l hs ps):=λok st n=>by rw[eO];rw[eO]at pO;simp[Yh,pO]
 have eN:(ds.any λd=>!decide (d∈nums r)) = !(ds.all λd=>decide (d∈nums r)):=(by simp[W2l]);rw[eN]at c2;unfold asP at ho;unfold abP ab7;by_cases h0:as7 r l hs ps day m=0
 case neg =>
  rw[if_neg h0]at ho;unfold prA at *
  (refine Zin rfl λR hG hrd=>Qga ?_;subst hG)
  simp -implicitDefEqProofs[Zil,Zim];refine Qco (ho) ?_;simp -implicitDefEqProofs[h0]
 rw[if_pos h0,h0]at ho;unfold prA at *;generalize (ds.all λd=>decide (d∈nums r))=b at *;obtain ⟨cs,hcs⟩ : ∃ cs,ofA r l hs ps = .vptr cs 0:=⟨_,rfl⟩;clear eO;rw[hcs]at ho pO c1 c2 kO sO ⊢;generalize hoI hs id=hid at *
 (refine Zin rfl λR hG hrd=>Qga ?_;subst hG)
 simp -implicitDefEqProofs[Zil,Zim];refine Qco (ho) ?_;simp -implicitDefEqProofs;refine Yd.of c1 (by simp[pO,AV.pure]) ?_;by_cases q1:hid<0
 . have q1':¬0<=hid:=(by omega);simp -implicitDefEqProofs[q1,q1',h0]
 have q1':0<=hid:=(by omega);simp -implicitDefEqProofs[q1];refine Yd.flat c2 (by simp[AV.flat]) (by simp[snap,Yj,sO,Yh,okAll,St.get,lk]) ?_
 cases b
 . simp -implicitDefEqProofs[q1',h0]
 . simp -implicitDefEqProofs[q1',h0,pO,sO]
def Zk4 (ok:Nat->Bool) (st:St) (l:List Int):frzO ok st (.row 1 (l.map ia)) = .row 1 (l.map ia):=by
 simp only[frzO,W10]
 congr 2
 funext p;simp[ia,frzA,frz,AV.keys]
def smI (x y:Int):Bool:=decide (x=y)
def kI (l:List Int):Nat->List Int
 |0=>[]
 |p+1=>if p≠0/\smI (l.getD p default) (l.getD (p-1) default)=true then kI l p else kI l p++[l.getD p default]
def Zk5 (l:List Int):∀ p,(kI l p).length<=p
 |0=>W0f _
 | p+1=>by
   have:=Zk5 l p;rw[kI];split <;> simp <;> omega
def noI (l:List Int) (p:Nat):Prop:=∀ j,0<j->j<p->smI (l.getD j default) (l.getD (j-1) default)=false
def Zk6 {l:List Int}:∀ {p:Nat},noI l p->p<=l.length->kI l p=l.take p
 |0,_,_=>rfl
 | p + 1,h,hp=>by
   rw[kI,Zk6 (p:=p) (λj h1 h2=>h j h1 (by omega)) (by omega),W08 (by omega)];have e:l.getD p default=l[p]:=by simp[W0j,show p<l.length by omega]
   split
   . rename_i h2;rw[h p (by omega) (by omega)]at h2;exact absurd h2.2 (by simp)
   . rw[e]
def cpI (l:List Int) (p:Nat):List Int:=kI l p++l.drop (kI l p).length
def Zk7 {l:List Int} {p:Nat} (h:p<=l.length):(cpI l p).length=l.length:=by
 have:=Zk5 l p;simp[cpI];omega
def Zk8 {l:List Int} {p j:Nat} (hp:p<l.length) (h1:(kI l p).length<=j) (h2:j<=p):(cpI l p)[j]? = some (l.getD j default):=by
 rw[cpI,W0o h1,W13];have:(kI l p).length+(j-(kI l p).length)=j:=(by omega);rw[this];simp[W0j,show j<l.length by omega]
def Zk9 {l:List Int} {p:Nat} (hp:p<l.length) (h:¬(p≠0/\smI (l.getD p default) (l.getD (p-1) default)=true)):(cpI l p).set (kI l p).length (l.getD p default)=cpI l (p+1):=by
 have hl:=Zk5 l p;have e:kI l (p+1)=kI l p++[l.getD p default]:=(by rw[kI,if_neg h]);rw[cpI,cpI,e,W25 _ _ (by omega),W2q,W0x (by omega:(kI l p).length<l.length)];simp only[List.set_cons_zero,W0s,List.length_singleton,W0U,List.singleton_append]
def Zka {l:List Int} {p:Nat} (h:p≠0/\smI (l.getD p default) (l.getD (p-1) default)=true):cpI l (p+1)=cpI l p/\kI l (p+1)=kI l p:=by
 have e:kI l (p+1)=kI l p:=(by rw[kI,if_pos h]);exact ⟨by rw[cpI,cpI,e],e⟩
def cpcI (l:List Int):List Int:=kI l l.length
def zrO:List AV:=[.int .i64 0]
def cpoI (l:List Int):List (List AV):=(cpcI l).map ia++List.replicate (l.length-(cpcI l).length) zrO
def cpvI (k:Nat) (l:List Int):AV:=if (cpcI l).length=l.length then .osl k l.length else .oss k l.length 0 (cpcI l).length
def kI_lt {l:List Int} {k:Nat} (hk0:k≠0) (hd:smI (l.getD k default) (l.getD (k-1) default)=true):∀ p,k<p->(kI l p).length<p:=by
 intro p hp
 induction p with
 |zero=>omega
 | succ p ih =>
   by_cases h:p=k
   . subst h;have:=Zk5 l p;rw[kI,if_pos ⟨hk0,hd⟩];omega
   . have:=ih (by omega);rw[kI];split <;> simp <;> omega
def Zkb {l:List Int} {p:Nat} (h:p<l.length):l.getD p default=l[p]:=by simp[W0j,h]
def Zkc {l:List Int} (h:noI l l.length):cpcI l=l:=by rw[cpcI,Zk6 h (W0f _),W0v]
def Zkd (ok:Nat->Bool) (st:St) (l:List Int):frzO ok st (.row 1 (cpoI l)) = .row 1 (cpoI l):=by
 have h:=Zk4 ok st (cpcI l);simp only[frzO,AObj.row.injEq,true_and]at h ⊢;rw[cpoI,W0r,h];simp[zrO,frzA,frz,AV.keys]
def Zke (x:Int):∀ (t:List Int) (p:Int),cmpG p (t++[x])=if (p::t).getLast (by simp)=x then cmpG p t else cmpG p t++[x]
 | [],p=>by
   by_cases e:x=p
   . subst e;simp[cmpG]
   . simp[cmpG,e,Ne.symm e]
 | y :: t,p=>by
   have ih:=Zke x t y;rw[W1e,cmpG,cmpG,List.getLast_cons (by simp)];by_cases e:y=p
   . rw[if_pos e,if_pos e,<- e,ih]
   . rw[if_neg e,if_neg e,ih]
     split <;> simp
def Zkf (l:List Int):∀ p,p<=l.length->kI l p=cmpI (l.take p)
 |0,_=>by simp[kI,cmpI]
 | p + 1,h=>by
   have hp:p<l.length:=h;have ih:=Zkf l p (by omega);rw[kI,ih,Zkb hp,W08 hp]
   cases p with
   | zero =>
     simp[cmpI,cmpG]
   | succ q =>
     have hq:q<l.length:=(by omega);have e1:(q+1-1)=q:=(by omega);rw[e1,Zkb hq];have e2:l.take (q+1)=l.take q++[l[q]]:=W08 hq
     obtain ⟨a,t,hat⟩ : ∃ a t,l.take (q+1)=a::t:=by
      cases hh:l.take (q+1) with
      |nil=>exact absurd (congrArg List.length hh) (by simp only[W15,W1V];omega)
      |cons a t=>exact ⟨a,t,rfl⟩
     have hl:(a::t).getLast (by simp)=l[q]:=by
      have:(l.take (q+1)).getLast (by rw[hat];simp)=l[q]:=by
       simp only[List.getLast_eq_getElem,W1W,W15]
       congr 1;omega
      simpa [hat] using this
     rw[hat,W1e,cmpI,cmpI,Zke,hl];by_cases c:l[q]=l[q+1]
     . rw[if_pos c,if_pos ⟨by omega,by simp[smI,c]⟩]
     . rw[if_neg c,if_neg (λh=>c (by have:=h.2;simp[smI]at this;exact this.symm))];simp
def Zkg (l:List Int):cpcI l=cmpI l:=by rw[cpcI,Zkf l _ (W0f _),W0v]
def Zkh (l:List Int) (h3:l.length<=1000) :
  PB prog G 116 [(1000,.row 1 (l.map ia))] [.osl 1000 l.length] (cpvI 1000 l) [(1000,.row 1 (cpoI l))]:=by
 (refine ZiP (W0C rfl) λR hG hrd=>Qga ?_;subst hG)
 simp -implicitDefEqProofs[ZiN,ZiO];by_cases hs:(l.length:Int)<2
 . have e:cpcI l=l:=Zkc λj h1 h2=>by omega
   simp -implicitDefEqProofs[hs];refine ⟨[.osl 1000 l.length],?_,?_,?_⟩
   . simp[Z29,evRes,Yi,newK,frzA,frz,AV.keys,lk,St.tmp,ZiO]
   . simp[cpvI,e,tupV]
   . simp[Yi,newK,Zk4,cpoI,e]
 simp -implicitDefEqProofs[hs];refine Z8p (λi=>⟨[(3,.int .i64 ((i:Int)+1)),(0,.osl 1000 l.length)],[(1000,.row 1 (l.map ia))]⟩) (λi=>noI l (i+1)) (l.length-1) ?_ (λj h1 h2=>by omega) ?_ ?_
 . refine Ym.sub (by simp[lk,Ya,AV.keys]) ?_;simp only[W0g,W0Q,or_false,W1N,forall_eq,Zee,and_true];simp[lk]
 . intro i hi hn;refine Qga ?_;have k1:(i:Int)+1<l.length:=(by omega);have k2:((i:Int)+1).toNat=i+1:=(by omega);have k3:(0:Int)<=(i:Int)+1:=(by omega);have k4:i+1<l.length:=(by omega);have k5:i<l.length:=(by omega);have w1:i64.wrap (i:Int)=i:=Yf;have w2:i64.wrap ((i:Int)+1+1)=(i:Int)+1+1:=Yf;have ex:∀ x,ia x=[.int .i64 x]:=λx=>rfl
   have hsm:smI (l.getD (i+1) default) (l.getD i default)=decide (l[i+1]=l[i]):=(by rw[Zkb k4,Zkb k5];rfl);by_cases hd:l[i+1]=l[i]
   . simp -implicitDefEqProofs [k1,k2,k3,k4,k5,w1,ex,hd];refine ⟨rfl,?_⟩;rw[W0M hd]at hsm;have hs2:i+1≠0/\smI (l.getD (i+1) default) (l.getD (i+1-1) default)=true:=⟨by omega,hsm⟩;have hk:=Zk6 hn (by omega);have hk1:(kI l (i+1)).length=i+1:=(by rw[hk];simp;omega);obtain ⟨c1,c2⟩:=Zka hs2;have c3:cpI l (i+1)=l:=(by rw[cpI,hk1,hk,W11]);have hkl:=λp=>kI_lt (l:=l) (k:=i+1) (by omega) hsm p
     have k6:i+1<=l.length:=(by omega);simp -implicitDefEqProofs[k2,k3,k6];refine Z8p (λj=>⟨[(5,.int .i64 ((j:Int)+1)),(4,.oss 1000 l.length (i+1) l.length),(3,.int .i64 (kI l (i+1+1+j)).length),(0,.osl 1000 l.length)],[(1000,.row 1 ((cpI l (i+1+1+j)).map ia))]⟩) (λ_=>True) (l.length-(i+1+1)) ?_ trivial ?_ ?_
     . have z1:cpI l (i+1+1+0)=l:=(by rw[W1Y,c1,c3]);have z2:(kI l (i+1+1+0)).length=i+1:=(by rw[W1Y,c2,hk1]);rw[z1,z2];refine Ym.sub (by simp[lk,Ya,AV.keys]) ?_;simp only[W0g,W0Q,or_false,W1N,forall_eq,Zee,and_true];simp[lk]
     . intro j hj _;refine Qga ?_;have hq:i+1+1+j<l.length:=(by omega);have hq2:i+1+j<l.length:=(by omega);have hml:=hkl (i+1+1+j) (by omega);have hcl:=Zk7 (l:=l) (p:=i+1+1+j) (by omega);have a1:=Zk8 (j:=i+1+1+j) hq (by omega) (by omega);have a2:=Zk8 (j:=i+1+j) hq (by omega) (by omega);rw[Zkb hq]at a1;rw[Zkb hq2]at a2;have hkeep:=Zk9 hq;have hskip:=Zka (l:=l) (p:=i+1+1+j);have e3:i+1+1+j-1=i+1+j:=(by omega);have hkk:kI l (i+1+1+j+1)=kI l (i+1+1+j+1):=rfl
       conv at hkk=>rhs;rw[kI]
       have hsm2:smI (l.getD (i+1+1+j) default) (l.getD (i+1+j) default)=decide (l[i+1+1+j]=l[i+1+j]):=(by rw[Zkb hq,Zkb hq2];rfl);rw[e3,hsm2,Zkb hq]at hkeep hkk;rw[e3,hsm2]at hskip;have e4:i+1+1+(j+1)=i+1+1+j+1:=(by omega);have m1:(j:Int)+1<((l.length-(i+1):Nat):Int):=(by omega);have m2:((j:Int)+1).toNat=j+1:=(by omega);have m3:(0:Int)<=(j:Int)+1:=(by omega);have m4:j+1<l.length-(i+1):=(by omega);have m5:j<l.length-(i+1):=(by omega);have m6:i+1+(j+1)=i+1+1+j:=(by omega);have u1:i64.wrap (j:Int)=j:=Yf;have u2:i64.wrap ((j:Int)+1+1)=(j:Int)+1+1:=Yf;have u3:i64.wrap (((kI l (i+1+1+j)).length:Int)+1)=(kI l (i+1+1+j)).length+1:=Yf;have m7:(kI l (i+1+1+j)).length<l.length:=(by omega);have hpl:=Zk5 l (i+1+1+j);generalize cpI l (i+1+1+j)=Q at *;obtain ⟨q1,g1⟩:=W02.1 a1;obtain ⟨q2,g2⟩:=W02.1 a2;generalize l[i+1+1+j]=x at *;generalize l[i+1+j]=y at *;have ex1:=ex x;have ey1:=ex y;by_cases hd2:x=y
       . obtain ⟨f1,f2⟩:=hskip ⟨by omega,W0M hd2⟩;simp -implicitDefEqProofs[m1,m2,m3,m4,m5,m6,u1,u2,hq,hq2,g1,g2,hcl,ex1,ey1,hd2];refine ⟨rfl,?_⟩;rw[e4,f1,f2];refine Ym.sub (by simp[lk,Ya,AV.keys]) ?_;simp only[W0g,W0Q,or_false,W1N,forall_eq,Zee,and_true];simp[lk]
       . have hn2:¬(i+1+1+j≠0/\decide (x=y)=true):=by
          rintro ⟨-,h⟩;exact hd2 (W0X h)
         have f1:=hkeep hn2;rw[if_neg hn2]at hkk;have il:∀ z:Int,(ia z).length=1:=λz=>rfl
         have id5:∀ z:Int,(ia z).drop 1=[]:=λz=>rfl
         have m8:(((kI l (i+1+1+j)).length:Int)+1)=((kI l (i+1+1+j+1)).length:Nat):=(by rw[hkk];simp);simp -implicitDefEqProofs[hd2,m1,m2,m3,m4,m5,m6,u1,u2,u3,hq,hq2,g1,g2,hcl,ex1,ey1,m7,il,id5];refine ⟨rfl,?_⟩;rw[<- ex1,<- W2r,f1,m8,e4];refine Ym.sub (by simp[lk,Ya,AV.keys]) ?_;simp only[W0g,W0Q,or_false,W1N,forall_eq,Zee,and_true];simp[lk]
     . intro _;refine Qga ?_;have n1:¬(((l.length-(i+1+1):Nat):Int)+1<((l.length-(i+1):Nat):Int)):=(by omega);have e5:i+1+1+(l.length-(i+1+1))=l.length:=(by omega);rw[e5];have hml:=hkl l.length (by omega);have hcl:=Zk7 (l:=l) (p:=l.length) (W0f _);have n2:(kI l l.length).length<=l.length:=(by omega);simp -implicitDefEqProofs[n1,hcl];refine Qgr ?_;simp -implicitDefEqProofs[hcl,n2];refine Qgr ?_
       have t1:List.take (kI l l.length).length ((cpI l l.length).map ia)=(cpcI l).map ia:=by
        rw[<- List.map_take,cpI,List.take_left'];rfl;rfl
       have t2:List.drop l.length ((cpI l l.length).map ia)=[]:=W1j (by simp[hcl]);rw[t1,t2,W1H];have hne:¬(cpcI l).length=l.length:=(by rw[cpcI];omega);refine ⟨[.oss 1000 l.length 0 (kI l l.length).length],?_,?_,?_⟩
       . simp[Z29,evRes,Yi,newK,frzA,frz,AV.keys,lk,St.tmp]
       . rw[cpvI,if_neg hne];rfl
       . have hz:List.map ia (cpcI l)++List.replicate (l.length-(kI l l.length).length) [AV.int .i64 0]=cpoI l:=rfl;rw[hz];simp[Yi,newK,Zkd]
   . rw [W0S hd]at hsm;simp -implicitDefEqProofs[k1,k2,k3,k4,k5,w1,ex,hd,w2];refine ⟨rfl,?_,λj h1 h2=>?_⟩
     . (refine Wkc ?_;simp only[Zee,Wkl,and_true];(try simp[lk,Yc,Ya,AV.keys]))
     . rcases W0q j (i+1) with h|h
       . exact hn j h1 h
       . have:j=i+1:=(by omega);subst this;exact hsm
 . intro hn;refine Qga ?_;have k1:¬((l.length-1:Nat):Int)+1<l.length:=by omega
   have hn2:noI l l.length:=by
    have:l.length-1+1=l.length:=by omega
    rwa [this]at hn
   have e:cpcI l=l:=Zkc hn2;simp -implicitDefEqProofs[k1];refine Qgr ?_;simp -implicitDefEqProofs;refine ⟨[.osl 1000 l.length],?_,?_,?_⟩
   . simp[Z29,evRes,Yi,newK,frzA,frz,AV.keys,lk,St.tmp,ZiO]
   . simp[cpvI,e,tupV]
   . simp[Yi,newK,Zk4,cpoI,e]
end Go.Proofs.YtcdlimgkliklhaaGreatDoor

namespace Go.Proofs
open Go.Shelf
def Tryz.lays189_ren:Go.Shelf.Ren:=⟨fun|189=>115|125=>165|257=>164|128=>192|129=>193|294=>183|295=>184|296=>185|297=>186|298=>187|299=>188|216=>189|300=>190|301=>191|328=>203|329=>204|330=>205|331=>206|332=>207|215=>157|343=>213|n=>n,fun|28=>34|3=>3|46=>225|0=>0|51=>93|53=>156|4=>4|183=>255|182=>254|131=>159|5=>5|9=>9|218=>272|222=>276|228=>284|229=>285|n=>n,fun|n=>n⟩
def Tryz.lays189:Go.Proofs.Lays.n189 prog Tryz.lays189_ren:={
 mixed:=by kernel_rfl
 f125:=Tryz.func165.trans (congrArg some (by kernel_rfl))
 f128:=Tryz.func192.trans (congrArg some (by kernel_rfl))
 f129:=Tryz.func193.trans (congrArg some (by kernel_rfl))
 f189:=Tryz.func115.trans (congrArg some (by kernel_rfl))
 f215:=Tryz.func157.trans (congrArg some (by kernel_rfl))
 f216:=Tryz.func189.trans (congrArg some (by kernel_rfl))
 f257:=Tryz.func164.trans (congrArg some (by kernel_rfl))
 f294:=Tryz.func183.trans (congrArg some (by kernel_rfl))
 f295:=Tryz.func184.trans (congrArg some (by kernel_rfl))
 f296:=Tryz.func185.trans (congrArg some (by kernel_rfl))
 f297:=Tryz.func186.trans (congrArg some (by kernel_rfl))
 f298:=Tryz.func187.trans (congrArg some (by kernel_rfl))
 f299:=Tryz.func188.trans (congrArg some (by kernel_rfl))
 f300:=Tryz.func190.trans (congrArg some (by kernel_rfl))
 f301:=Tryz.func191.trans (congrArg some (by kernel_rfl))
 f328:=Tryz.func203.trans (congrArg some (by kernel_rfl))
 f329:=Tryz.func204.trans (congrArg some (by kernel_rfl))
 f330:=Tryz.func205.trans (congrArg some (by kernel_rfl))
 f331:=Tryz.func206.trans (congrArg some (by kernel_rfl))
 f332:=Tryz.func207.trans (congrArg some (by kernel_rfl))
 f343:=Tryz.func213.trans (congrArg some (by kernel_rfl))
 t0:=Tryz.underlying0
 a0:=Tryz.isAgg0
 z0:=Tryz.sizeOf0
 v0:=Tryz.zeroValue0
 t3:=Tryz.underlying3
 a3:=Tryz.isAgg3
 z3:=Tryz.sizeOf3
 v3:=Tryz.zeroValue3
 t4:=Tryz.underlying4
 a4:=Tryz.isAgg4
 z4:=Tryz.sizeOf4
 v4:=Tryz.zeroValue4
 t5:=Tryz.underlying5
 a5:=Tryz.isAgg5
 z5:=Tryz.sizeOf5
 v5:=Tryz.zeroValue5
 t9:=Tryz.underlying9
 a9:=Tryz.isAgg9
 z9:=Tryz.sizeOf9
 v9:=Tryz.zeroValue9
 t28:=Tryz.underlying34
 a28:=Tryz.isAgg34
 z28:=Tryz.sizeOf34
 v28:=Tryz.zeroValue34
 t46:=Tryz.underlying225
 a46:=Tryz.isAgg225
 z46:=Tryz.sizeOf225
 v46:=Tryz.zeroValue225
 t51:=Tryz.underlying93
 a51:=Tryz.isAgg93
 z51:=Tryz.sizeOf93
 v51:=Tryz.zeroValue93
 t53:=Tryz.underlying156
 a53:=Tryz.isAgg156
 z53:=Tryz.sizeOf156
 v53:=Tryz.zeroValue156
 t131:=Tryz.underlying159
 a131:=Tryz.isAgg159
 z131:=Tryz.sizeOf159
 v131:=Tryz.zeroValue159
 t182:=Tryz.underlying254
 a182:=Tryz.isAgg254
 z182:=Tryz.sizeOf254
 v182:=Tryz.zeroValue254
 t183:=Tryz.underlying255
 a183:=Tryz.isAgg255
 z183:=Tryz.sizeOf255
 v183:=Tryz.zeroValue255
 t218:=Tryz.underlying272
 a218:=Tryz.isAgg272
 z218:=Tryz.sizeOf272
 v218:=Tryz.zeroValue272
 t222:=Tryz.underlying276
 a222:=Tryz.isAgg276
 z222:=Tryz.sizeOf276
 v222:=Tryz.zeroValue276
 t228:=Tryz.underlying284
 a228:=Tryz.isAgg284
 z228:=Tryz.sizeOf284
 v228:=Tryz.zeroValue284
 t229:=Tryz.underlying285
 a229:=Tryz.isAgg285
 z229:=Tryz.sizeOf285
 v229:=Tryz.zeroValue285 }
open Go.Sort Go.RowKit in
def Tryz.slices_Sort_int (blk off cap:Nat) (zs:List Int) (w:World) (hH:Holds (Value.int .i64) w blk off zs.toArray) (hblk:blk<w.heap.size) (hsz:zs.length<4611686018427387904) :
 Calls prog 115 #[.slice (some ⟨blk,off,none⟩) zs.length cap] w λe w' =>
  e = .returned (.tuple #[])/\∃ n os,w'=grow (putRow (Value.int .i64) (Sort.ahead w n) blk off (zs.mergeSort λx y=>decide (x<=y)).toArray) os:=Any.slices_Sort_int Tryz.lays189 blk off cap zs w hH hblk hsz
end Go.Proofs

namespace Go.Proofs.YtcdlimgkliklhaaGreatDoor
open Tryz (prog)
open IntKind (i64)
open Go.RowKit
variable {G:Jg}
def Zki (W:World) (os:Array Obj):Ext W (Go.Sort.grow W os):=by
 refine ⟨rfl,rfl,rfl,?_,λk hk=>?_⟩
 . simp[Go.Sort.grow]
 . simp only[Go.Sort.grow];exact W28 hk
def Zkj (l:List Int) (hm:l.length<4611686018427387904) :
  PB prog G 115 [(1000,.row 1 (l.map ia))] [.osl 1000 l.length] (.tup []) [(1000,.row 1 ((sortI l).map ia))]:=by
 refine ⟨by kernel_rfl,λR W κ vs hG hN hW hX hE hk hsz hvs=>?_⟩;have hg:(obSt [(1000,.row 1 (l.map ia))]).get 1000=some (.row 1 (l.map ia)):=rfl;obtain ⟨vs⟩:=vs
 match vs,hsz with
 |[v],_ =>
 have hv:=hvs 0 _ v rfl rfl;obtain ⟨b,s,c,cs,t,hκ,rfl,hnc,hc,hb,hs,hr,hx⟩:=hk.osl hv hg (by simp)
 have hcell:∀ i,i<l.length->cs[s+i]? = some (.int .i64 l[i]!):=by
  intro i hi;obtain ⟨u,hu,hu2⟩:=hx i 0 (ia l[i]) (.int .i64 l[i]) (by simp[hi]) rfl
  have hu3:u = .int .i64 l[i]:=by
   cases hu2 with|pv h=>cases h;rfl
  subst hu3;rw[getElem!_pos l i hi];simpa using hu
 have hH:Go.Sort.Holds (Value.int .i64) W b s l.toArray:=by
  intro j hj;have hj':j<l.length:=(by simpa using hj);refine ⟨?_,by simp[World.frozen?,hb]⟩;rw[World.cell?,hb];simpa using hcell j hj'
 have hlt:=hk.loc_lt hκ;refine (Go.Proofs.Tryz.slices_Sort_int b s c l W hH hlt hm).mono ?_;rintro e W' ⟨rfl,n,os,rfl⟩;have hsl:(sortI l).length=l.length:=Zbr l;refine ⟨_,κ,rfl,?_,.tup [] #[] rfl (by simp)⟩;refine SK.grow ?_ (Zki _ _)
 have:=hk.change (o':=.row 1 ((sortI l).map ia)) (W':=Go.Sort.putRow (Value.int .i64) (Go.Sort.ahead W n) b s (l.mergeSort λx y=>decide (x<=y)).toArray)
  (cs':=Go.Sort.putCells (Value.int .i64) s (l.mergeSort λx y=>decide (x<=y)).toArray cs) hg hκ hb (by simp[AObj.dim,hsl]) (by simp[Go.Sort.putCells])
  (by simp[Go.Sort.putRow,Go.Sort.mapBlock,Go.Sort.ahead])
  (by simp[Go.Sort.putRow,Go.Sort.mapBlock,Go.Sort.ahead,Array.getElem?_modify,hb,Go.Sort.onCells])
  (by intro i hi hne;simp[Go.Sort.putRow,Go.Sort.mapBlock,Go.Sort.ahead,Array.getElem?_modify,Ne.symm hne]) rfl rfl rfl ?_
 . exact this
 . refine ⟨by simp[ia],by simp[Go.Sort.putCells];omega,?_⟩;intro i j r x hi hj
   have hi2:i<l.length:=by
    have:=(W02.1 hi).1;simpa [hsl] using this
   have hi3:i<(sortI l).length:=(by omega);rw[W09,W07 hi3,W0m,W00]at hi;subst hi
   match j,hj with
   |0,hj =>
   have ex:AV.int .i64 (sortI l)[i]=x:=(by simpa [ia] using hj);subst ex;refine ⟨.int .i64 (sortI l)[i],?_,.pv (.int _ _)⟩;have hz:s+i*1+0<cs.size:=(by omega);have e1:s+i*1+0-s=i:=(by omega);have e2:(l.mergeSort λx y=>decide (x<=y))=sortI l:=rfl;simp only[Go.Sort.putCells,e2];rw[Array.getElem?_mapIdx,W0n hz,W0m,if_pos (by simp;omega),e1];simp[hi3]
end Go.Proofs.YtcdlimgkliklhaaGreatDoor
