/-
  The abstract machine: a region whose order is drawn, in which calls let new objects out.
-/
import Derived.Test.YtcdlimgkliklhaaGreatDoorJAmLToAmW
set_option linter.all false
set_option maxHeartbeats 8000000
namespace Go.Proofs.YtcdlimgkliklhaaGreatDoor
open Go.RowKit
def NewS (P:Program) (G:Jg) (st:St) (ρ:Nat->Nat) (os:List (Nat×AObj)) (f:FuncId) (args:List AV) (v:AV):Prop :=
 ∃ pre:Nat->Option AObj,(∀ p∈os,st.get (ρ p.1)=pre p.1)/\∀ st':St,(∀ p∈os,st'.get (ρ p.1)=pre p.1)->Z1B P G st' f args v (Yl ρ os st')
def NewS.of {P:Program} {G:Jg} {st:St} {f:FuncId} {os:List (Nat×AObj)} {args:List AV} {r:AV} (h:PB P G f [] args r os) (ρ:Nat->Nat) (hinj:(os.map λp=>ρ p.1).Nodup) (hnw:∀ p∈os,st.get (ρ p.1)=none) (hargs:args.all AV.pure=true) {v:AV} (hv:v=r.ren ρ) :
  NewS P G st ρ os f args v:=by
 refine ⟨λ_=>none,hnw,λst' h'=>?_⟩;exact Z1B.objs h ρ hinj h' hargs hv rfl
def NewS.ref {P:Program} {G:Jg} {st:St} {f:FuncId} {objs os:List (Nat×AObj)} {args:List AV} {r:AV} (h:PB P G f objs args r os) (ρ:Nat->Nat) (hK:∀ p∈objs,1000<=p.1) (hinj:(objs.map λp=>ρ p.1).Nodup)
  (ho:∀ p∈objs,st.get (ρ p.1)=some (p.2.ren ρ)) (hin:∀ p∈objs,Yc objs p.2=true) (hargs:args.all (Ya objs)=true) (hd:os.map (·.1)=objs.map (·.1)) {args':List AV} {v:AV} (ha:args'=args.map (AV.ren ρ)) (hv:v=r.ren ρ) :
  NewS P G st ρ os f args' v:=by
 have nd:(objs.map (·.1)).Nodup:=by
  have h2:((objs.map (·.1)).map ρ).Nodup:=(by simpa [W10,W0y] using hinj);exact List.Pairwise.of_map (S:=λa b=>a≠b) ρ (λa b h e=>h (congrArg ρ e)) h2
 have hl:∀ p∈objs,lk objs p.1=some p.2:=by
  intro p hp;clear hK hinj ho hin hargs hd h ha
  induction objs with
  |nil=>cases hp
  | cons q t ih =>
    obtain ⟨k,o⟩:=q;simp only[W0F,W1z]at nd;rcases W0g.1 hp with rfl|hp
    . simp[lk]
    . have:¬k=p.1:=λe=>nd.1 (e ▸ W0i.2 ⟨p,hp,rfl⟩)
      simp only[lk];rw[if_neg this];exact ih nd.2 hp
 have tr:∀ st':St,(∀ p∈os,st'.get (ρ p.1)=(lk objs p.1).map (AObj.ren ρ))->∀ p∈objs,st'.get (ρ p.1)=some (p.2.ren ρ):=λst' h' p hp=>by
  have:p.1∈os.map (·.1):=(by rw[hd];exact W0i.2 ⟨p,hp,rfl⟩);obtain ⟨q,hq,e⟩:=W0i.1 this;have:=h' q hq;rw[e,hl p hp]at this;exact this
 refine ⟨λk=>(lk objs k).map (AObj.ren ρ),λp hp=>?_,λst' h'=>Z1B.byref h ρ hK hinj (tr st' h') hin hargs hd ha hv rfl⟩;have:p.1∈objs.map (·.1):=(by rw[<- hd];exact W0i.2 ⟨p,hp,rfl⟩);obtain ⟨q,hq,e⟩:=W0i.1 this;simp only[<- e];rw[hl q hq];exact ho q hq
def Zks {ρ:Nat->Nat}:∀ (os:List (Nat×AObj)) (st:St) (n:Nat),(Yl ρ os st).tmp n=st.tmp n
 |[],_,_=>rfl
 |(k,o)::os,st,n=>by rw[Yl,Zks os];rfl
def Zkt {ρ:Nat->Nat}:∀ (os:List (Nat×AObj)) (st:St) (k:Nat),k ∉ os.map (λp=>ρ p.1)->(Yl ρ os st).get k=st.get k
 |[],_,_,_=>rfl
 | (k0,o)::os,st,k,h=>by
   simp only[W0F,W0g,not_or]at h;rw[Yl,Zkt os _ k h.2,St.get_set,if_neg (λe=>h.1 e.symm)]
def Zku {ρ:Nat->Nat}:∀ (os:List (Nat×AObj)) (st st2:St) (k:Nat),k∈os.map (λp=>ρ p.1)->(Yl ρ os st2).get k=(Yl ρ os st).get k
 |[],_,_,_,h=>by cases h
 | (k0,o)::os,st,st2,k,h=>by
   rw[Yl,Yl];by_cases c:k∈os.map (λp=>ρ p.1)
   . exact Zku os _ _ k c
   . rw[Zkt os _ k c,Zkt os _ k c];simp only[W0F,W0g]at h;rcases h with rfl|h
     . rw[St.get_set,St.get_set,if_pos rfl,if_pos rfl]
     . exact absurd h c
inductive Stp2 (P:Program) (G:Jg) (r:ROper) (st:St):Rec->St->Prop
 |std {st':St} (h:Stp P G r st st'):Stp2 P G r st (recOf G r st) st'
 | new (h:wants st r.guard=some true) (f:FuncId) (args:List RA) (v:AV) (ρ:Nat->Nat) (os:List (Nat×AObj)) (ho:r.op = .call f args) (hc:NewS P G st ρ os f (args.map (evA G st)) v) :
   Stp2 P G r st ⟨r.d,r.rt,os.map (λp=>ρ p.1)++ftk G st (r.d.getD 0) r.op,os.map (λp=>ρ p.1),r.aft⟩ ((Yl ρ os st).putd r.d v)
 | ck (h:wants st r.guard=some true) (x:RA) (k n i off sz:Nat) (rows:List (List AV)) (ho:r.op = .nilck x) (hx:evA G st x = .eptr k n i off) (hk:st.get k=some (.row sz rows)) (hl:rows.length=n) :
   Stp2 P G r st ⟨r.d,r.rt,[k],[],r.aft⟩ (st.putd r.d (.eptr k n i off))
section
variable {P:Program} {G:Jg}
def Stp2.recs {r:ROper} {st st':St} {rc:Rec} (h:Stp2 P G r st rc st'):rc.d=r.d/\rc.rt=r.rt/\rc.aft=r.aft:=by
 cases h <;> exact ⟨rfl,rfl,rfl⟩
def Zkv {r:ROper} {st st' st2:St} {rc:Rec} (h:Stp2 P G r st rc st') (ht:∀ t∈r.rt,st2.tmp t=st.tmp t) (hk:∀ k∈rc.fk,st2.get k=st.get k) :
  ∃ st2' rc',Stp2 P G r st2 rc' st2'/\(∀ n,r.d=some n->st2'.tmp n=st'.tmp n)/\(∀ n,r.d≠some n->st2'.tmp n=st2.tmp n/\st'.tmp n=st.tmp n) /\
    (∀ k∈rc.wk,st2'.get k=st'.get k)/\(∀ k,k ∉ rc.wk->st2'.get k=st2.get k/\st'.get k=st.get k):=by
 cases h with
 | std h =>
   obtain ⟨st2',h1,h2⟩:=Z2w h ht hk;exact ⟨st2',_,.std h1,h2⟩
 | new h f args v ρ os ho hc =>
   have hw:wants st2 r.guard=wants st r.guard:=by
    cases e:r.guard with
    |none=>rfl
    |some p=>obtain ⟨t,b⟩:=p;simp only[wants];rw[ht t (by simp[ROper.rt,e])]
   have ha:∀ y∈r.op.args,evA G st2 y=evA G st y:=λy hy=>by
    cases y <;> simp only[evA]
    rename_i t;rw[ht t (by simp only[ROper.rt,W0h,W0u];exact .inl ⟨_,hy,by simp[RA.tm]⟩)]
   have hargs:args.map (evA G st2)=args.map (evA G st):=W0K λy hy=>ha y (by rw[ho];exact hy)
   have putn:∀ (a:St) (x:AV) (n:Nat),r.d≠some n->(a.putd r.d x).tmp n=a.tmp n:=λa x n e=>by
    cases e2:r.d with
    |none=>rfl
    |some m=>simp only[St.putd,St.tmp_put];rw[if_neg (by rintro rfl;exact e e2)]
   have putg:∀ (a:St) (x:AV) (k:Nat),(a.putd r.d x).get k=a.get k:=λa x k=>by cases e2:r.d <;> rfl
   have hc2:NewS P G st2 ρ os f (args.map (evA G st2)) v:=by
    rw[hargs];obtain ⟨pre,hc1,hc2⟩:=hc;exact ⟨pre,λp hp=>(hk _ (List.mem_append_left _ (W0i.2 ⟨p,hp,rfl⟩))).trans (hc1 p hp),hc2⟩
   refine ⟨_,_,.new (hw.trans h) f args v ρ os ho hc2,λn e=>by simp[e,St.putd,St.tmp_put],λn hn=>⟨?_,?_⟩,λk hk'=>?_,λk hk'=>⟨?_,?_⟩⟩
   . rw[putn _ _ n hn,Zks]
   . rw[putn _ _ n hn,Zks]
   . rw[putg,putg];exact Zku os st st2 k hk'
   . rw[putg];exact Zkt os st2 k hk'
   . rw[putg];exact Zkt os st k hk'
 | ck h x k n i off sz rows ho hx hg hl =>
   have hw:wants st2 r.guard=wants st r.guard:=by
    cases e:r.guard with
    |none=>rfl
    |some p=>obtain ⟨t,b⟩:=p;simp only[wants];rw[ht t (by simp[ROper.rt,e])]
   have ha:evA G st2 x=evA G st x:=by
    have hy:x∈r.op.args:=by rw[ho];simp[ROp.args]
    cases x <;> simp only[evA]
    rename_i t;rw[ht t (by simp only[ROper.rt,W0h,W0u];exact .inl ⟨_,hy,by simp[RA.tm]⟩)]
   have putn:∀ (a:St) (x:AV) (n:Nat),r.d≠some n->(a.putd r.d x).tmp n=a.tmp n:=λa x n e=>by
    cases e2:r.d with
    |none=>rfl
    |some m=>simp only[St.putd,St.tmp_put];rw[if_neg (by rintro rfl;exact e e2)]
   have putg:∀ (a:St) (x:AV) (k:Nat),(a.putd r.d x).get k=a.get k:=λa x k=>by cases e2:r.d <;> rfl
   refine ⟨_,_,.ck (hw.trans h) x k n i off sz rows ho (ha.trans hx) ((hk k (by simp)).trans hg) hl,λn e=>by simp[e,St.putd,St.tmp_put],λn hn=>⟨putn _ _ n hn,putn _ _ n hn⟩,λk hk'=>(by cases hk'),λk _=>⟨putg _ _ _,putg _ _ _⟩⟩
end
section
variable {P:Program} {R:Run}
def Zkw {st:St} {a:Act} {W:World} {rd:Option Nat} {m:Nat} {ops:Array Oper} {r:ROper} {rc:Rec} {st':St} {j:Nat} {o:Oper} {K:Act->World->Prop} {Q:Exit->Act->World->Prop} (hst:Stp2 P R.G r st rc st') (ho:ops[j]? = some o) (hk:Z1z P R.N ops o r=true)
  (hs:SR R st a W) (hK:∀ a' W',SR R st' a' W'->K a' W'):wpOpIn (FW rd) m P ops Q j K a W:=by
 cases hst with
 |std h=>exact Z26 h ho hk hs hK
 | new h f args v ρ os hcall hc =>
   obtain ⟨κ,hκ⟩:=hs;have hk0:=hk;simp only[Z1z,W01,W0b]at hk;obtain ⟨⟨⟨hd,hdn⟩,-⟩,-⟩:=hk;have hdn':∀ n,r.d=some n->n<R.N:=λn e=>by rw[e]at hdn;simpa using hdn
   refine Z25 (.inl ⟨_,.inl hcall,rfl⟩) h ho hk0 hκ λvs ha=>?_
   obtain ⟨pre,hc1,hc2⟩:=hc;obtain ⟨h1,h2⟩:=hc2 st hc1 R a W κ vs rfl hκ ha;refine ⟨h1,h2.mono ?_⟩;rintro e W' ⟨u,κ1,rfl,h3,h4⟩;refine hK _ _ ⟨κ1,?_⟩;rw[hd];exact h3.putd hdn' h4
 | ck h x k n i off sz rows hcall hx hg hl =>
   obtain ⟨κ,hκ⟩:=hs;simp only[Z1z,W01,W0b]at hk;obtain ⟨⟨⟨hd,hdn⟩,hop⟩,hgd⟩:=hk;have hdn':∀ n,r.d=some n->n<R.N:=λn e=>by rw[e]at hdn;simpa using hdn
   rw[hcall]at hop;simp only[Z1y,W05,if_false]at hop;have hnd:=Z23 hop
   have hsim:Sim P R a W o (.eptr k n i off) st:=by
    cases e:o.op <;> rw[e]at hop <;> simp only[okOp,W05]at hop
    rename_i y;have h1:=hκ.ev hop;rw[hx]at h1;generalize hv:a.eval y=v at *
    cases h1 with
    |pv h=>cases h
    | eptr _ _ _ _ sz' m p hr hn he =>
      have hm:m=n:=by
       have h2:(st.env R.M κ).row k=some (sz,rows.length):=(by simp only[St.env,hg];rfl);rw[h2]at hr;simp only[W00,W06]at hr;omega
      obtain ⟨b,s,h3,rfl⟩:=he hm;refine .val hκ (by simp[execOp,e,hv]) (.eptr _ _ _ _ sz' m _ hr hn he)
   unfold wpOpIn;simp only[ho];obtain ⟨v,W',κ',h1,h2,h3⟩:=hsim;rw[if_pos (Z20 hκ hgd h)];refine ⟨λ_ _=>trivial,?_⟩;rw[Oper.semAt_eq _ _ _ hnd]
   have fin:K (a.put o.dst v) W':=by
    refine hK _ _ ⟨κ',?_⟩;rw[hd];exact h2.putd hdn' h3
   rcases h1 with h1 | ⟨h1,rfl⟩ <;> rw[h1] <;> exact fin
def Zkx:StepK P R (Stp2 P R.G):=⟨λh=>h.recs,λh=>Zkv h,λh=>Zkw h⟩
end
def ropE (G:Jg) (st:St) (d:Nat) (op:ROp):Option (AV×St):=match op with
 | .nilck x=>match evA G st x with
   | .eptr k n i off=>match st.get k with
     |some (.row _ rows)=>if rows.length=n then some (.eptr k n i off,st) else none
     |_=>none
   |_=>rop G st d op
 |_=>rop G st d op
def recE (G:Jg) (r:ROper) (st:St):Rec:=match r.op with
 | .nilck x=>match evA G st x with
   |.eptr k _ _ _=>⟨r.d,r.rt,[k],[],r.aft⟩
   |_=>recOf G r st
 |_=>recOf G r st
def RE (P:Program) (G:Jg):List ROper->St->List Rec->(St->Prop)->Prop
 |[],st,acc,K=>Z2t acc.reverse=true/\K st
 | r :: rs,st,acc,K=>match wants st r.guard with
   |none=>False
   |some false=>RE P G rs (st.putd r.d .hole) (recOf G r st::acc) K
   | some true=>match r.op with
     | .call f args=>(∃ v,CallR P G st f (args.map (evA G st)) v/\RE P G rs (st.putd r.d v) (recOf G r st::acc) K) ∨
       ∃ v ρ os,NewS P G st ρ os f (args.map (evA G st)) v/\RE P G rs ((Yl ρ os st).putd r.d v) (⟨r.d,r.rt,os.map (λp=>ρ p.1)++ftk G st (r.d.getD 0) r.op,os.map (λp=>ρ p.1),r.aft⟩::acc) K
     | op=>if Z1y op=true then False else match ropE G st (r.d.getD 0) op with
       |some (x,st')=>RE P G rs (st'.putd r.d x) (recE G r st::acc) K
       |none=>False
section
variable {P:Program} {G:Jg}
def Stp2.opE {r:ROper} {st st':St} {x:AV} (hw:wants st r.guard=some true) (hn:Z1y r.op=false) (hr:ropE G st (r.d.getD 0) r.op=some (x,st')):Stp2 P G r st (recE G r st) (st'.putd r.d x):=by
 unfold ropE at hr;unfold recE
 split at hr
 . rename_i y hop
   split at hr
   . rename_i k n i off he
     split at hr <;> try (simp at hr;done)
     rename_i sz rows hg
     split at hr <;> simp only[W00,W06,reduceCtorEq]at hr
     obtain ⟨rfl,rfl⟩:=hr;exact .ck hw y k n i off sz rows hop he hg ‹_›
   . exact .std (.op hw x st' hn hr)
 . exact .std (.op hw x st' hn hr)
def Zky {r:ROper} {rs:List ROper} {st:St} {acc:List Rec} {K:St->Prop} (h:RE P G (r::rs) st acc K):∃ st' rc,Stp2 P G r st rc st'/\RE P G rs st' (rc::acc) K:=by
 simp only[RE]at h
 split at h
 . exact h.elim
 . exact ⟨_,_,.std (.skip ‹_›),h⟩
 . split at h
   . rcases h with ⟨v,hc,hv⟩ | ⟨v,ρ,os,hc,hv⟩
     . exact ⟨_,_,.std (.call ‹_› _ _ v ‹_› hc),hv⟩
     . exact ⟨_,_,.new ‹_› _ _ v ρ os ‹_› hc,hv⟩
   . split at h
     . exact h.elim
     . rename_i hn
       split at h <;> try (exact h.elim)
       rename_i x st' hr;exact ⟨_,_,Stp2.opE ‹_› (by simpa using hn) hr,h⟩
def Zkz:∀ (rs:List ROper) (st:St) (acc:List Rec) (K:St->Prop),RE P G rs st acc K ->
  ∃ (S:Nat->St) (rc:Nat->Rec),S 0=st/\(∀ (i:Nat) (r:ROper),rs[i]? = some r->Stp2 P G r (S i) (rc i) (S (i+1)))/\K (S rs.length)/\Z2t (acc.reverse++(List.range rs.length).map λi=>rc i)=true
 |[],st,acc,K,h=>⟨λ_=>st,λ_=>⟨none,[],[],[],[]⟩,rfl,by simp,h.2,by simpa using h.1⟩
 | r :: rs,st,acc,K,h=>by
   obtain ⟨st',rc0,h1,h2⟩:=Zky h;obtain ⟨S,rc,h3,h4,h5,h6⟩:=Zkz rs st' _ K h2;refine ⟨λi=>match i with|0=>st|i+1=>S i,λi=>match i with|0=>rc0|i+1=>rc i,rfl,λi r' hi=>?_,h5,?_⟩
   . cases i with
     |zero=>simp at hi;subst hi;rw[<- h3]at h1;exact h1
     |succ i=>exact h4 i r' (by simpa using hi)
   . rw[W1p,W2m];simp only[W0F,W10];simpa [W0y] using h6
end
def ZkA {P:Program} {R:Run} {st:St} {Φ:Exit->St->Prop} {id:Nat} {rs:List ROper} (hm:P.follows .mixedOrders=true) (h:RE P R.G rs st [] (Φ .normal)):AR P R (.reg id true rs) st Φ:=by
 obtain ⟨S,rc,rfl,hS,hK,hi⟩:=Zkz rs st [] _ h;exact Z2G Zkx hm hS hK (by simpa using hi)
section
variable {P:Program} {G:Jg} {d:Option Nat} {op:ROp} {g:Option (Nat×Bool)} {aft:List Nat} {rs:List ROper} {st:St} {K:St->Prop} {acc:List Rec}
def ZkB:RE P G [] st acc K=(Z2t acc.reverse=true/\K st):=rfl
def execE (P:Program) (G:Jg) (op:ROp) (d:Option Nat) (g:Option (Nat×Bool)) (aft:List Nat) (rs:List ROper) (st:St) (acc:List Rec) (K:St->Prop):Prop:=match ropE G st (d.getD 0) op with
 |some (x,st')=>RE P G rs (st'.putd d x) (recE G ⟨d,op,g,aft⟩ st::acc) K
 |none=>False
def RE_op (hw:wants st g=some true) (hn:Z1y op=false):RE P G (⟨d,op,g,aft⟩::rs) st acc K=execE P G op d g aft rs st acc K:=by
 cases op <;> first|(cases hn;done)|(simp only[RE,hw];rw[if_neg (by rw[hn];simp)];rfl)
def CallE (P:Program) (G:Jg) (f:FuncId) (args:List RA) (d:Option Nat) (g:Option (Nat×Bool)) (aft:List Nat) (rs:List ROper) (st:St) (acc:List Rec) (K:St->Prop) (as:List AV):Prop :=
 (∃ v,CallR P G st f as v/\RE P G rs (st.putd d v) (recOf G ⟨d,.call f args,g,aft⟩ st::acc) K) ∨
  ∃ v ρ os,NewS P G st ρ os f as v/\RE P G rs ((Yl ρ os st).putd d v) (⟨d,(⟨d,.call f args,g,aft⟩ : ROper).rt,os.map (λp=>ρ p.1)++ftk G st (d.getD 0) (.call f args),os.map (λp=>ρ p.1),aft⟩::acc) K
def ZkC {f:FuncId} {args:List RA} (hw:wants st g=some true):RE P G (⟨d,.call f args,g,aft⟩::rs) st acc K=CallE P G f args d g aft rs st acc K (args.map (evA G st)):=by
 simp only[RE,hw,CallE]
def CallE.of {f:FuncId} {args:List RA} {as:List AV} {v:AV} (h:PC P G f as v) (hp:as.all AV.pure=true) (hk:RE P G rs (st.putd d v) (recOf G ⟨d,.call f args,g,aft⟩ st::acc) K):CallE P G f args d g aft rs st acc K as:=.inl ⟨v,.inl ⟨hp,h⟩,hk⟩
def CallE.new {f:FuncId} {args:List RA} {as:List AV} {v:AV} {ρ:Nat->Nat} {os:List (Nat×AObj)} (h:NewS P G st ρ os f as v)
 (hk:RE P G rs ((Yl ρ os st).putd d v) (⟨d,(⟨d,.call f args,g,aft⟩ : ROper).rt,os.map (λp=>ρ p.1)++ftk G st (d.getD 0) (.call f args),os.map (λp=>ρ p.1),aft⟩::acc) K):CallE P G f args d g aft rs st acc K as:=.inr ⟨v,ρ,os,h,hk⟩
end
attribute [simp] ZkB ropE recE
def TT_eq {β:Type} {L w:Nat->Bool} {v:Nat->β}:∀ N,(∀ i,i<N->L i=true->v (i+1)=v 0)->TT L w v N=v 0
 |0,_=>rfl
 | N+1,h=>by
   simp only[TT]
   split
   . exact h N (by omega) (by simp_all)
   . exact TT_eq N λi hi=>h i (by omega)
def dumR (r:ROper):Rec:=⟨none,[],[],[],r.aft⟩
def cutB (n:Nat) (rs:List ROper):Bool:=decide (n<=rs.length)&&(List.range (rs.length-n)).all λt=>(List.range n).all λi=>reach (rs.map dumR) rs.length (n+t) i
def Znm {P:Program} {R:Run} {st:St} {Φ:Exit->St->Prop} {id:Nat} {rs:List ROper} (hm:P.follows .mixedOrders=true) (n:Nat) (ht:cutB n rs=true)
  (h:RE P R.G (rs.take n) st [] λst1=>∃ st2,Ym st1 st2/\RE P R.G (rs.drop n) st2 ((rs.take n).map dumR).reverse (Φ .normal)):AR P R (.reg id true rs) st Φ:=by
 intro c hc mm a W hs
 cases c <;> simp only[Z1A,W05,W01,W0A]at hc
 rename_i id' ops draw;obtain ⟨⟨⟨rfl,rfl⟩,hc⟩,hae⟩:=hc;simp only[W17,W1O]at hae;obtain ⟨h1,hop⟩:=Z2F hc hae;simp only[cutB,W01,W0b,W03,W1u]at ht;obtain ⟨hn,hcut⟩:=ht;obtain ⟨rs1,e1⟩:=Qex (rs.take n);obtain ⟨rs2,e2⟩:=Qex (rs.drop n);have e3:rs=rs1++rs2:=(by rw[e1,e2,W11]);have en:rs1.length=n:=(by rw[e1,W15];omega);rw[<- e1,<- e2]at h;clear e1 e2;subst e3;subst en;obtain ⟨S,rc,rfl,hS,⟨st2,hw,hB⟩,hi⟩:=Zkz rs1 st [] _ h;obtain ⟨S2,rc2,rfl,hS2,hK,hi2⟩:=Zkz rs2 st2 _ _ hB;have hl:ops.size=rs1.length+rs2.length:=by simpa using h1
 have aftM:∀ {o:Oper} {r:ROper},(o.after.toList.filter (Region.binds .any ·)).map (·.on)=r.aft->∀ x∈r.aft,∃ e∈o.after,Region.binds .any e=true/\e.on=x:=λ{o r} hae x hx=>by
  rw[<- hae]at hx;obtain ⟨e,he,rfl⟩:=W0i.1 hx;obtain ⟨g1,g2⟩:=W0G.1 he;exact ⟨e,by simpa using g1,g2,rfl⟩
 refine wpIn_region_any hm (Z2C Zkx hS (by omega) (λi r hr=>?_) (by simpa using hi) (λj o listed hj ho hsz hdc hno haf=>?_) (λfuel listed a' w' hsz hall hno hdc hfu hs'=>?_) hs)
 . exact hop i r (by rw[W0E (W02.1 hr).1];exact hr)
 . -- no operation of the second part comes up before
   have hlt:=(W0c.1 ho).1;intro i hi;obtain ⟨t,rfl⟩ : ∃ t,j=rs1.length+t:=⟨j-rs1.length,by omega⟩;have hj2:rs1.length+t<(rs1++rs2).length:=(by simp;omega);obtain ⟨o',ho',-,hae⟩:=hop (rs1.length+t) (rs1++rs2)[rs1.length+t] (W07 hj2);rw[ho]at ho';simp only[W00]at ho';subst ho';refine Z2A (L:=λi=>listed.getD i false) (λk rc hk hL x hx=>?_) _ _ i (hcut t (by simp only[W0s]at hj2 ⊢;omega) i hi) (λrc hk x hx=>?_)
   . rw[W09,W04]at hk;obtain ⟨r',hr',rfl⟩:=hk;rcases W0q k rs1.length with c|c
     . exact hdc k r' (by rw[<- W0E c];exact hr') hL x hx
     . have:=hno k c;rw[this]at hL;cases hL
   . rw[W09,W04]at hk;obtain ⟨r',hr',rfl⟩:=hk;rw[W07 hj2]at hr'
     cases hr'
     obtain ⟨e,he,hb,rfl⟩:=aftM hae x hx;exact haf e he hb
 . have hs2:=hw _ _ _ hs'
   have erc:(List.range (rs1++rs2).length).map (λi=>if i<rs1.length then dumR ((rs1++rs2).getD i default) else rc2 (i-rs1.length))=rs1.map dumR++(List.range rs2.length).map λi=>rc2 i:=by
    rw[W0s,List.range_add,W0r,W10]
    congr 1
    . apply W1I (by simp)
      intro i q1 q2;simp at q1 q2;simp[q1,List.getD,W0E q1]
    . refine W0K λi _=>?_
      simp only[Function.comp];rw[if_neg (by omega),Nat.add_sub_cancel_left]
   refine Z2B Zkx (rs:=rs1++rs2) (S:=λi=>S2 (i-rs1.length)) (rc:=λi=>if i<rs1.length then dumR ((rs1++rs2).getD i default) else rc2 (i-rs1.length)) rs1.length (λi r hr=>?_) (λi r hi hr=>?_) (λi hi=>?_) (by simp;omega) hop ?_ (λj o listed hj ho=>?_) (λfuel listed a2 w2 hsz2 hall2 hno2 hdc2 hfu2 hs3=>?_) fuel listed (S2 0) a' w' hsz hall (λi hi=>hno i (by simp at hi;omega)) (λj r hr hL=>?_) ?_ (λm=>?_) (λk=>?_) hs2
   . rcases W0q i rs1.length with c|c
     . simp only[c,if_true];simp[List.getD,hr,dumR]
     . have hq:rs2[i-rs1.length]? = some r:=(by rw[<- W0o c];exact hr);simp only[show ¬i<rs1.length by omega,if_false];exact (hS2 _ r hq).recs.2.2
   . have hq:rs2[i-rs1.length]? = some r:=(by rw[<- W0o hi];exact hr);have:=hS2 _ r hq;simp only[show ¬i<rs1.length by omega,if_false];rw[show i+1-rs1.length=i-rs1.length+1 by omega];exact this
   . show S2 (i+1-rs1.length)=S2 (i-rs1.length);rw[show i+1-rs1.length=0 by omega,show i-rs1.length=0 by omega]
   . rw[erc];simpa using hi2
   . have:=(W0c.1 ho).1;simp at hj;omega
   . have hs4:SR R (S2 rs2.length) a2 w2:=(by simpa using hs3);exact Z2E hsz2 (λi hi=>hall2 i (by simp;omega)) ⟨_,hK,hs4⟩
   . rcases W0q j rs1.length with c|c
     . exact hdc j r (by rw[<- W0E c];exact hr) hL
     . rw[hno j c]at hL;cases hL
   . have e0:(List.range rs1.length).filter (λi=>!listed.getD i false)=[]:=by
      rw[W2n];intro i hi;simp only[W1u]at hi;rw[hall i hi];simp
     rw[W0s,List.range_add,W1a,e0];have:=W0D (λi=>!listed.getD i false) ((List.range rs2.length).map (rs1.length + ·));simp only[W0N,List.length_range]at this;simp only[W18];omega
   . refine ((TT_eq (v:=λi=>(S2 (i-rs1.length)).tmp m) _ λi hi hL=>?_).trans (by simp)).symm;rcases W0q i rs1.length with c|c
     . rw[show i+1-rs1.length=0 by omega,show 0-rs1.length=0 by omega]
     . rw[hno i c]at hL;cases hL
   . refine ((TT_eq (v:=λi=>(S2 (i-rs1.length)).get k) _ λi hi hL=>?_).trans (by simp)).symm;rcases W0q i rs1.length with c|c
     . rw[show i+1-rs1.length=0 by omega,show 0-rs1.length=0 by omega]
     . rw[hno i c]at hL;cases hL
end Go.Proofs.YtcdlimgkliklhaaGreatDoor
