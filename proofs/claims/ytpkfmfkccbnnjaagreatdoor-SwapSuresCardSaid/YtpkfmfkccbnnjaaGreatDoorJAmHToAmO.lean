/-
  The abstract machine: an operation depends on few things; regions whose order is drawn.
-/
import Derived.Test.YtpkfmfkccbnnjaaGreatDoorJAmEToAmG
import Derived.Defers
import Derived.Recover
import Derived.RangeFuncNested
import Derived.RangeFuncBound
import Derived.RangeFuncCalls
import Derived.Maps.RangeRun
set_option linter.all false
set_option linter.unusedSimpArgs false
set_option linter.unusedVariables false
set_option linter.unusedSectionVars false
namespace Go.Proofs.YtpkfmfkccbnnjaaGreatDoor
open Go.RowKit
def AV.keys:AV→List Nat
 |.ptr k _ | .eptr k _ _ _ | .osl k _ | .oss k _ _ _ | .mp k=>[k]
 |.func _ xs ys=>(xs.attach.flatMap fun ⟨x,_⟩=>x.keys)++(ys.attach.flatMap fun ⟨x,_⟩=>x.keys)
 |.agg xs | .tup xs=>xs.attach.flatMap fun ⟨x,_⟩=>x.keys
 |_=>[]
def RA.tm:RA→List Nat
 |.t n=>[n]
 |_=>[]
def ROp.args:ROp→List RA
 |.mov x | .nilck x | .un _ x | .conv _ x | .ext _ x | .field _ _ _ x | .faddr _ x | .len x | .slen x | .load _ _ x | .box x | .mksl _ _ _ x=>[x]
 |.pick a b c=>[a,b,c]
 |.bin _ x y | .eqs _ _ x y | .iaddr _ x y | .store _ x y | .app _ _ x y=>[x,y]
 |.mkf _ xs ys=>xs++ys
 |.vop _ xs=>xs
 |.build _ ps=>ps.map fun p=>p.2.2
 |.mx _ x r=>x::r
 |.alloc _=>[]
 |.bsl _ _ _ _ ps=>ps.map fun p=>p.2
 |.slc _ x lo hi | .sslc x lo hi=>x::(lo.toList++hi.toList)
 |.call _ xs=>xs
 |.calln _ xs=>xs
 |.callv f xs=>f::xs
 |.mkmap=>[]
 |.look _ _ _ m k=>[m,k]
 |.mupd _ m k v=>[m,k,v]
 |.mdel _ m k=>[m,k]
 |.mlen m=>[m]
 |.clr _ _ x=>[x]
def Z2e (st:St):Nat→AV→List Nat
 |0,_=>[]
 | n+1,x=>x.keys.flatMap fun k=>k::match st.get k with
   |some (.box cells)=>cells.flatMap (Z2e st n)
   |some (.row _ rows)=>rows.flatMap fun r=>r.flatMap (Z2e st n)
   |some (.mp kvs)=>kvs.flatMap fun p=>Z2e st n p.1++Z2e st n p.2
   |none=>[]
section
variable (G:Nat→Option (List AV))
def ftk (st:St) (d:Nat):ROp→List Nat
 |.load _ _ p | .len p | .slc _ p _ _ | .look _ _ _ p _ | .mupd _ p _ _ | .mdel _ p _ | .mlen p | .clr _ _ p=>(evA G st p).keys
 | .faddr _ p=>match evA G st p with
   |.eptr k _ _ _=>[k]
   |_=>[]
 |.store _ p _=>(evA G st p).keys
 |.iaddr _ s _=>(evA G st s).keys
 |.app _ _ s x=>d::((evA G st s).keys++(evA G st x).keys)
 |.alloc _ | .box _ | .bsl true _ _ _ _ | .mksl .. | .mkmap=>[d]
 |.call _ xs=>xs.flatMap fun x=>Z2e st 6 (evA G st x)
 |.calln _ xs=>d::xs.flatMap fun x=>Z2e st 6 (evA G st x)
 |.callv f xs=>Z2e st 6 (evA G st f)++xs.flatMap fun x=>Z2e st 6 (evA G st x)
 |_=>[]
def wtk (st:St) (d:Nat):ROp→List Nat
 |.store _ p _ | .mupd _ p _ _ | .mdel _ p _ | .clr _ _ p=>(evA G st p).keys
 |.app _ _ s _=>d::(evA G st s).keys
 |.alloc _ | .box _ | .bsl true _ _ _ _ | .mksl .. | .mkmap | .calln ..=>[d]
 |_=>[]
end
section
variable {G:Nat→Option (List AV)} {st st2:St}
theorem Z2f {p:AV} (h:∀ k∈p.keys,st2.get k=st.get k):Z5 st2 p=Z5 st p:=by
 cases p <;> simp only [Z5]
 · rw [h _ (by simp [AV.keys])]
 · rw [h _ (by simp [AV.keys])]
theorem Z2g {p:AV} (h:∀ k∈p.keys,st2.get k=st.get k):aLen st2 p=aLen st p:=by
 cases p <;> simp only [aLen]
 · rw [h _ (by simp [AV.keys])]
 · rw [h _ (by simp [AV.keys])]
theorem Z2h {sz:Nat} {p:AV} (h:∀ k∈p.keys,st2.get k=st.get k):Z9 st2 sz p=Z9 st sz p:=by
 cases p <;> simp only [Z9]
 · rw [h _ (by simp [AV.keys])]
 · rw [h _ (by simp [AV.keys])]
theorem Z2i {p:AV} (h:∀ k∈p.keys,st2.get k=st.get k):mapOf st2 p=mapOf st p:=by
 cases p <;> simp only [mapOf]
 rw [h _ (by simp [AV.keys])]
theorem Z2j {α β:Type} {f g:α→Option β}:∀ {xs:List α},(∀ x∈xs,f x=g x)→snapL f xs=snapL g xs
 |[],_=>rfl
 |x::xs,h=>by simp only [snapL];rw [h x (by simp),Z2j (fun y hy=>h y (by simp [hy]))]
theorem Z2k {n:Nat} {x:AV} {k:Nat} (h:k∈x.keys):k∈Z2e st (n+1) x:=by
 simp only [Z2e,List.mem_flatMap]
 exact ⟨k,h,List.mem_cons_self ..⟩
theorem Z2l {n:Nat} {x y:AV} {k:Nat} {o:AObj} (hk:k∈x.keys) (ho:st.get k=some o) (hy:match o with | .box cells=>y∈cells | .row _ rows=>∃ r∈rows,y∈r | .mp kvs=>∃ p∈kvs,y=p.1∨y=p.2) {j:Nat} (hj:j∈Z2e st n y):j∈Z2e st (n+1) x:=by
 simp only [Z2e,List.mem_flatMap]
 refine ⟨k,hk,List.mem_cons_of_mem _ ?_⟩
 rw [ho]
 cases o with
 |box cells=>exact List.mem_flatMap.2 ⟨y,hy,hj⟩
 |row sz rows=>obtain ⟨r,h1,h2⟩:=hy;exact List.mem_flatMap.2 ⟨r,h1,List.mem_flatMap.2 ⟨y,h2,hj⟩⟩
 | mp kvs =>
   obtain ⟨p,h1,h2⟩:=hy
   refine List.mem_flatMap.2 ⟨p,h1,List.mem_append.2 ?_⟩
   rcases h2 with rfl|rfl
   · exact .inl hj
   · exact .inr hj
theorem Z2m:∀ (n:Nat) {x:AV} {k:Nat},k∈Z2e st n x→k∈Z2e st (n+1) x:=by
 intro n
 induction n with
 |zero=>intro x k h;simp [Z2e]at h
 | succ n ih =>
   intro x k h
   rw [Z2e,List.mem_flatMap]at h
   obtain ⟨k0,h1,h2⟩:=h
   rw [Z2e,List.mem_flatMap]
   refine ⟨k0,h1,?_⟩
   rcases List.mem_cons.1 h2 with h2|h2
   · rw [h2];exact List.mem_cons_self ..
   · refine List.mem_cons_of_mem _ ?_
     split at h2
     · obtain ⟨y,h3,h4⟩:=List.mem_flatMap.1 h2
       exact List.mem_flatMap.2 ⟨y,h3,ih h4⟩
     · obtain ⟨r,h3,h4⟩:=List.mem_flatMap.1 h2
       obtain ⟨y,h5,h6⟩:=List.mem_flatMap.1 h4
       exact List.mem_flatMap.2 ⟨r,h3,List.mem_flatMap.2 ⟨y,h5,ih h6⟩⟩
     · obtain ⟨p,h3,h4⟩:=List.mem_flatMap.1 h2
       refine List.mem_flatMap.2 ⟨p,h3,List.mem_append.2 ?_⟩
       rcases List.mem_append.1 h4 with h4|h4
       · exact .inl (ih h4)
       · exact .inr (ih h4)
     · simp at h2
theorem Z2n {n:Nat} {x y:AV} (hp:∀ k∈y.keys,k∈x.keys) {k:Nat} (h:k∈Z2e st n y):k∈Z2e st n x:=by
 cases n with
 |zero=>simp [Z2e]at h
 | succ n =>
   rw [Z2e,List.mem_flatMap]at h ⊢
   obtain ⟨k0,h1,h2⟩:=h
   exact ⟨k0,hp k0 h1,h2⟩
theorem Z2o {ok:Nat→Bool}:∀ (n:Nat) {x:AV},(∀ k∈Z2e st n x,st2.get k=st.get k)→snapF ok st2 n x=snapF ok st n x:=by
 intro n
 induction n with
 |zero=>intro x h;cases x <;> simp only [snapF]
 | succ n ih =>
   intro x h
   have part:∀ {y:AV},(∀ k∈y.keys,k∈x.keys)→snapF ok st2 n y=snapF ok st n y:=fun hp=>ih fun k hk=>h k (Z2m n (Z2n hp hk))
   cases x
   case func fn xs ys =>
    simp only [snapF]
    rw [Z2j (fun x hx=>part fun k hk=>?_),Z2j (fun x hx=>part fun k hk=>?_)]
    · simp only [AV.keys,List.mem_append,List.mem_flatMap,List.mem_attach,true_and,Subtype.exists];exact .inr ⟨x,hx,hk⟩
    · simp only [AV.keys,List.mem_append,List.mem_flatMap,List.mem_attach,true_and,Subtype.exists];exact .inl ⟨x,hx,hk⟩
   case agg xs =>
    simp only [snapF]
    rw [Z2j (fun x hx=>part fun k hk=>?_)]
    simp only [AV.keys,List.mem_flatMap,List.mem_attach,true_and,Subtype.exists];exact ⟨x,hx,hk⟩
   case tup xs =>
    simp only [snapF]
    rw [Z2j (fun x hx=>part fun k hk=>?_)]
    simp only [AV.keys,List.mem_flatMap,List.mem_attach,true_and,Subtype.exists];exact ⟨x,hx,hk⟩
   case osl k m =>
    have e:=h k (Z2k (by simp [AV.keys]))
    simp only [snapF,e]
    cases ho:st.get k with
    |none=>rfl
    | some o =>
      cases o with
      |box cells=>rfl
      |mp kvs=>rfl
      | row sz rows =>
        simp only
        rw [Z2j (fun r hr=>Z2j fun y hy=>ih fun j hj=>h j (Z2l (by simp [AV.keys]) ho ⟨r,hr,hy⟩ hj))]
   case oss k m lo hi =>
    have e:=h k (Z2k (by simp [AV.keys]))
    simp only [snapF,e]
    cases ho:st.get k with
    |none=>rfl
    | some o =>
      cases o with
      |box cells=>rfl
      |mp kvs=>rfl
      | row sz rows =>
        simp only
        rw [Z2j (xs:=(rows.take hi).drop lo) (fun r hr=>Z2j fun y hy=>ih fun j hj=>h j (Z2l (by simp [AV.keys]) ho ⟨r,List.mem_of_mem_take (List.mem_of_mem_drop hr),hy⟩ hj))]
   case ptr k off =>
    have e:=h k (Z2k (by simp [AV.keys]))
    simp only [snapF,e]
    cases ho:st.get k with
    |none=>rfl
    | some o =>
      cases o with
      |row sz rows=>rfl
      |mp kvs=>rfl
      | box cells =>
        simp only
        rw [Z2j (fun y hy=>ih fun j hj=>h j (Z2l (by simp [AV.keys]) ho hy hj))]
   case mp k =>
    have e:=h k (Z2k (by simp [AV.keys]))
    simp only [snapF,e]
    cases ho:st.get k with
    |none=>rfl
    | some o =>
      cases o with
      |row sz rows=>rfl
      |box cells=>rfl
      | mp kvs =>
        simp only
        rw [Z2j (xs:=kvs.map (·.1)) (fun y hy=>ih fun j hj=>?_),Z2j (xs:=kvs.map (·.2)) (fun y hy=>ih fun j hj=>?_)]
        · obtain ⟨p,h1,rfl⟩:=List.mem_map.1 hy
          exact h j (Z2l (by simp [AV.keys]) ho ⟨p,h1,.inr rfl⟩ hj)
        · obtain ⟨p,h1,rfl⟩:=List.mem_map.1 hy
          exact h j (Z2l (by simp [AV.keys]) ho ⟨p,h1,.inl rfl⟩ hj)
   all_goals simp only [snapF]
theorem Z2p {P:Program} {f:FuncId} {args:List AV} {v:AV} (h:CallR P G st f args v) (hk:∀ x∈args,∀ k∈Z2e st 6 x,st2.get k=st.get k):CallR P G st2 f args v:=by
 rcases h with h | ⟨h1,ys,h2,h3⟩
 · exact .inl h
 · exact .inr ⟨h1,ys,by rw [← h2];exact Z2j fun x hx=>Z2o 6 (hk x hx),h3⟩
structure Loc (G:Nat→Option (List AV)) (st st2:St) (d:Nat) (r:ROp) (x:AV) (st' st2':St):Prop where
 run:rop G st2 d r=some (x,st2')
 t2:st2'.t=st2.t
 t1:st'.t=st.t
 inn:∀ k∈wtk G st d r,st2'.get k=st'.get k
 out:∀ k,k ∉ wtk G st d r→st2'.get k=st2.get k∧st'.get k=st.get k
theorem Loc.pure {d:Nat} {r:ROp} {x:AV} (hr:rop G st2 d r=some (x,st2)) (hw:wtk G st d r=[]):Loc G st st2 d r x st st2 :=
 ⟨hr,rfl,rfl,by simp [hw],fun k _=>⟨rfl,rfl⟩⟩
theorem Loc.set {d k:Nat} {o:AObj} {r:ROp} {x:AV} (hr:rop G st2 d r=some (x,st2.set k o)) (hw:k∈wtk G st d r) (hs:∀ j∈wtk G st d r,st2.get j=st.get j):Loc G st st2 d r x (st.set k o) (st2.set k o):=by
 refine ⟨hr,rfl,rfl,fun j hj=>?_,fun j hj=>?_⟩
 · rw [St.get_set,St.get_set]
   split
   · rfl
   · exact hs j hj
 · have:¬k=j:=by rintro rfl;exact hj hw
   simp only [St.get_set,if_neg this,and_self]
theorem Z2q {us:List AV} {p:AV} {st':St} (h:Z8 st us p=some st') (hk:∀ k∈p.keys,st2.get k=st.get k) :
  ∃ k o,k∈p.keys∧st'=st.set k o∧Z8 st2 us p=some (st2.set k o):=by
 unfold Z8 at h
 split at h <;> try (simp at h;done)
 · rename_i k off
   have e:=hk k (by simp [AV.keys])
   split at h <;> try (simp at h;done)
   rename_i cs hg
   split at h <;> simp only [Option.some.injEq,reduceCtorEq]at h
   rename_i hle
   exact ⟨k,_,by simp [AV.keys],h.symm,by simp only [Z8,e,hg,if_pos hle]⟩
 · rename_i k n i off
   have e:=hk k (by simp [AV.keys])
   split at h <;> try (simp at h;done)
   rename_i sz rows hg
   split at h <;> try (simp at h;done)
   rename_i hn
   split at h <;> try (simp at h;done)
   rename_i r hr
   split at h <;> simp only [Option.some.injEq,reduceCtorEq]at h
   rename_i hle
   exact ⟨k,_,by simp [AV.keys],h.symm,by simp only [Z8,e,hg,if_pos hn,hr,if_pos hle]⟩
theorem Z2r {d:Nat} {r:ROp} {x:AV} {st':St} (hr:rop G st d r=some (x,st')) (ha:∀ y∈r.args,evA G st2 y=evA G st y) (hk:∀ k∈ftk G st d r,st2.get k=st.get k) :
  ∃ st2',Loc G st st2 d r x st' st2':=by
 have evs:∀ (xs:List RA),(∀ y∈xs,y∈r.args)→xs.map (evA G st2)=xs.map (evA G st):=fun xs h=>List.map_congr_left fun y hy=>ha y (h y hy)
 cases r
 case mov y =>
  have e:=ha y (by simp [ROp.args])
  simp only [rop,Option.some.injEq,Prod.mk.injEq]at hr
  obtain ⟨rfl,rfl⟩:=hr
  exact ⟨st2,.pure (by simp only [rop,e]) rfl⟩
 case pick a b c =>
  have e1:=ha a (by simp [ROp.args])
  have e2:=ha b (by simp [ROp.args])
  have e3:=ha c (by simp [ROp.args])
  simp only [rop]at hr
  split at hr <;> simp only [Option.some.injEq,Prod.mk.injEq,reduceCtorEq]at hr
  all_goals
   rename_i e
   obtain ⟨rfl,rfl⟩:=hr
   exact ⟨st2,.pure (by simp only [rop,e1,e2,e3,e]) rfl⟩
 case nilck y =>
  have e:=ha y (by simp [ROp.args])
  simp only [rop]at hr
  split at hr <;> simp only [Option.some.injEq,Prod.mk.injEq,reduceCtorEq]at hr
  all_goals
   rename_i e2
   obtain ⟨rfl,rfl⟩:=hr
   exact ⟨st2,.pure (by simp only [rop,e,e2]) rfl⟩
 case bin op a b =>
  have e1:=ha a (by simp [ROp.args])
  have e2:=ha b (by simp [ROp.args])
  simp only [rop,Option.map_eq_some_iff,Prod.mk.injEq]at hr
  obtain ⟨u,hu,rfl,rfl⟩:=hr
  exact ⟨st2,.pure (by simp only [rop,e1,e2,hu,Option.map_some]) rfl⟩
 case eqs neg ks a b =>
  have e1:=ha a (by simp [ROp.args])
  have e2:=ha b (by simp [ROp.args])
  simp only [rop]at hr
  split at hr <;> simp only [Option.map_eq_some_iff,Prod.mk.injEq,reduceCtorEq]at hr
  rename_i f1 f2
  obtain ⟨u,hu,rfl,rfl⟩:=hr
  exact ⟨st2,.pure (by simp only [rop,e1,e2,f1,f2,hu,Option.map_some]) rfl⟩
 case un op a =>
  have e1:=ha a (by simp [ROp.args])
  simp only [rop,Option.map_eq_some_iff,Prod.mk.injEq]at hr
  obtain ⟨u,hu,rfl,rfl⟩:=hr
  exact ⟨st2,.pure (by simp only [rop,e1,hu,Option.map_some]) rfl⟩
 case conv k y =>
  have e:=ha y (by simp [ROp.args])
  simp only [rop]at hr
  split at hr <;> simp only [Option.some.injEq,Prod.mk.injEq,reduceCtorEq]at hr
  rename_i e2
  obtain ⟨rfl,rfl⟩:=hr
  exact ⟨st2,.pure (by simp only [rop,e,e2]) rfl⟩
 case ext i y =>
  have e:=ha y (by simp [ROp.args])
  simp only [rop]at hr
  split at hr <;> simp only [Option.map_eq_some_iff,Prod.mk.injEq,reduceCtorEq]at hr
  rename_i e2
  obtain ⟨u,hu,rfl,rfl⟩:=hr
  exact ⟨st2,.pure (by simp only [rop,e,e2,hu,Option.map_some]) rfl⟩
 case mkf fn xs ys =>
  simp only [rop,Option.some.injEq,Prod.mk.injEq]at hr
  obtain ⟨rfl,rfl⟩:=hr
  exact ⟨st2,.pure (by simp only [rop,evs xs (fun y hy=>by simp [ROp.args,hy]),evs ys (fun y hy=>by simp [ROp.args,hy])]) rfl⟩
 case field agg off n y =>
  have e:=ha y (by simp [ROp.args])
  simp only [rop]at hr
  split at hr <;> simp only [Option.map_eq_some_iff,Prod.mk.injEq,reduceCtorEq]at hr
  rename_i e2
  obtain ⟨u,hu,rfl,rfl⟩:=hr
  exact ⟨st2,.pure (by simp only [rop,e,e2,hu,Option.map_some]) rfl⟩
 case vop v xs =>
  simp only [rop,Option.map_eq_some_iff,Prod.mk.injEq]at hr
  obtain ⟨u,hu,rfl,rfl⟩:=hr
  exact ⟨st2,.pure (by simp only [rop,evs xs (fun y hy=>by simp [ROp.args,hy]),hu,Option.map_some]) rfl⟩
 case faddr off y =>
  have e:=ha y (by simp [ROp.args])
  simp only [rop]at hr
  split at hr <;> try (simp at hr;done)
  · rename_i e2
    simp only [Option.some.injEq,Prod.mk.injEq]at hr
    obtain ⟨rfl,rfl⟩:=hr
    exact ⟨st2,.pure (by simp only [rop,e,e2]) rfl⟩
  · rename_i k n i o e2
    have e3:=hk k (by simp [ftk,e2])
    split at hr <;> try (simp at hr;done)
    rename_i hg
    split at hr <;> simp only [Option.some.injEq,Prod.mk.injEq,reduceCtorEq]at hr
    rename_i hn
    obtain ⟨rfl,rfl⟩:=hr
    exact ⟨st2,.pure (by simp only [rop,e,e2,e3,hg,if_pos hn]) rfl⟩
  · rename_i e2
    simp only [Option.some.injEq,Prod.mk.injEq]at hr
    obtain ⟨rfl,rfl⟩:=hr
    exact ⟨st2,.pure (by simp only [rop,e,e2]) rfl⟩
 case iaddr sz s i =>
  have e1:=ha s (by simp [ROp.args])
  have e2:=ha i (by simp [ROp.args])
  simp only [rop]at hr
  split at hr <;> try (simp at hr;done)
  rename_i f1
  split at hr <;> try (simp at hr;done)
  rename_i f2
  split at hr <;> try (simp at hr;done)
  · rename_i f3
    split at hr <;> try (simp at hr;done)
    rename_i f4
    split at hr <;> simp only [Option.some.injEq,Prod.mk.injEq,reduceCtorEq]at hr
    rename_i f5
    obtain ⟨rfl,rfl⟩:=hr
    exact ⟨st2,.pure (by simp only [rop,e1,e2,f1,if_pos f2,f3,f4,if_pos f5]) rfl⟩
  · rename_i k m f3
    have e3:=hk k (by simp [ftk,f3,AV.keys])
    split at hr <;> try (simp at hr;done)
    rename_i f4
    split at hr <;> simp only [Option.some.injEq,Prod.mk.injEq,reduceCtorEq]at hr
    rename_i f5
    obtain ⟨rfl,rfl⟩:=hr
    exact ⟨st2,.pure (by simp only [rop,e1,e2,f1,if_pos f2,f3,e3,f4];rw [if_pos f5]) rfl⟩
  · rename_i k m lo' hi' f3
    have e3:=hk k (by simp [ftk,f3,AV.keys])
    split at hr <;> try (simp at hr;done)
    rename_i f4
    split at hr <;> simp only [Option.some.injEq,Prod.mk.injEq,reduceCtorEq]at hr
    rename_i f5
    obtain ⟨rfl,rfl⟩:=hr
    exact ⟨st2,.pure (by simp only [rop,e1,e2,f1,if_pos f2,f3,e3,f4];rw [if_pos f5]) rfl⟩
 case build zero ps =>
  have e:ps.map (fun p=>(p.1,p.2.1,evA G st2 p.2.2))=ps.map (fun p=>(p.1,p.2.1,evA G st p.2.2)):=List.map_congr_left fun p hp=>by
   rw [ha p.2.2 (by simp only [ROp.args,List.mem_map];exact ⟨p,hp,rfl⟩)]
  simp only [rop,Option.map_eq_some_iff,Prod.mk.injEq]at hr
  obtain ⟨u,hu,rfl,rfl⟩:=hr
  exact ⟨st2,.pure (by simp only [rop,e,hu,Option.map_some]) rfl⟩
 case len y =>
  have e:=ha y (by simp [ROp.args])
  simp only [rop,Option.map_eq_some_iff,Prod.mk.injEq]at hr
  obtain ⟨u,hu,rfl,rfl⟩:=hr
  exact ⟨st2,.pure (by simp only [rop,e,Z2g (p:=evA G st y) (fun k h=>hk k (by simpa [ftk] using h)),hu,Option.map_some]) rfl⟩
 case slen y =>
  have e:=ha y (by simp [ROp.args])
  simp only [rop]at hr
  split at hr <;> simp only [Option.some.injEq,Prod.mk.injEq,reduceCtorEq]at hr
  rename_i e2
  obtain ⟨rfl,rfl⟩:=hr
  exact ⟨st2,.pure (by simp only [rop,e,e2]) rfl⟩
 case mx great y ys =>
  have e:=ha y (by simp [ROp.args])
  simp only [rop,Option.map_eq_some_iff,Prod.mk.injEq]at hr
  obtain ⟨u,hu,rfl,rfl⟩:=hr
  exact ⟨st2,.pure (by simp only [rop,e,evs ys (fun y hy=>by simp [ROp.args,hy]),hu,Option.map_some]) rfl⟩
 case load agg n y =>
  have e:=ha y (by simp [ROp.args])
  simp only [rop]at hr
  split at hr <;> simp only [Option.map_eq_some_iff,Prod.mk.injEq,reduceCtorEq]at hr
  rename_i e2
  obtain ⟨u,hu,rfl,rfl⟩:=hr
  exact ⟨st2,.pure (by simp only [rop,e,Z2f (p:=evA G st y) (fun k h=>hk k (by simpa [ftk] using h)),e2,hu,Option.map_some]) rfl⟩
 case store n y u =>
  have e1:=ha y (by simp [ROp.args])
  have e2:=ha u (by simp [ROp.args])
  simp only [rop]at hr
  split at hr <;> simp only [Option.map_eq_some_iff,Prod.mk.injEq,reduceCtorEq]at hr
  rename_i f1
  obtain ⟨st3,hs,rfl,rfl⟩:=hr
  obtain ⟨k,o,h1,rfl,h3⟩:=Z2q (st2:=st2) hs (fun k h=>hk k (by simpa [ftk] using h))
  exact ⟨_,.set (by simp only [rop,e1,e2,if_pos f1,h3,Option.map_some]) (by simpa [wtk] using h1) (fun j hj=>hk j (by simpa [ftk,wtk] using hj))⟩
 case alloc cells =>
  have e:=hk d (by simp [ftk])
  simp only [rop]at hr
  split at hr <;> simp only [Option.some.injEq,Prod.mk.injEq,reduceCtorEq]at hr
  rename_i f1
  obtain ⟨rfl,rfl⟩:=hr
  exact ⟨_,.set (by simp only [rop,e,f1]) (by simp [wtk]) (fun j hj=>hk j (by simpa [ftk,wtk] using hj))⟩
 case box y =>
  have e:=hk d (by simp [ftk])
  have e1:=ha y (by simp [ROp.args])
  simp only [rop]at hr
  split at hr <;> try (simp at hr;done)
  rename_i f1
  split at hr <;> simp only [Option.some.injEq,Prod.mk.injEq,reduceCtorEq]at hr
  rename_i f2
  obtain ⟨rfl,rfl⟩:=hr
  exact ⟨_,.set (by simp only [rop,e,e1,f1,if_pos f2]) (by simp [wtk]) (fun j hj=>hk j (by simpa [ftk,wtk] using hj))⟩
 case bsl own sz n zero ps =>
  have e:ps.map (fun p=>(p.1*sz,sz,evA G st2 p.2))=ps.map (fun p=>(p.1*sz,sz,evA G st p.2)):=List.map_congr_left fun p hp=>by
   rw [ha p.2 (by simp only [ROp.args,List.mem_map];exact ⟨p,hp,rfl⟩)]
  simp only [rop]at hr
  split at hr <;> try (simp at hr;done)
  rename_i f1
  cases own
  · simp only [Bool.false_eq_true,if_false]at hr
    split at hr <;> simp only [Option.some.injEq,Prod.mk.injEq,reduceCtorEq]at hr
    rename_i f2
    obtain ⟨rfl,rfl⟩:=hr
    exact ⟨st2,.pure (by simp only [rop,e,f1,Bool.false_eq_true,if_false,if_pos f2]) rfl⟩
  · simp only [if_true]at hr
    have e3:=hk d (by simp [ftk])
    split at hr <;> simp only [Option.some.injEq,Prod.mk.injEq,reduceCtorEq]at hr
    rename_i f2
    obtain ⟨rfl,rfl⟩:=hr
    exact ⟨_,.set (by simp only [rop,e,f1,if_true,e3,f2]) (by simp [wtk]) (fun j hj=>hk j (by simpa [ftk,wtk] using hj))⟩
 case slc sz y lo hi =>
  have e:=ha y (by simp [ROp.args])
  have e1:lo.map (evA G st2)=lo.map (evA G st):=by cases lo with|none=>rfl|some l=>simp [ha l (by simp [ROp.args])]
  have e2:hi.map (evA G st2)=hi.map (evA G st):=by cases hi with|none=>rfl|some l=>simp [ha l (by simp [ROp.args])]
  simp only [rop]at hr
  split at hr <;> try (simp at hr;done)
  · rename_i f1
    split at hr <;> try (simp at hr;done)
    rename_i f2 f3
    split at hr <;> simp only [Option.some.injEq,Prod.mk.injEq,reduceCtorEq]at hr
    rename_i f4
    obtain ⟨rfl,rfl⟩:=hr
    exact ⟨st2,.pure (by simp only [rop,e,e1,e2,f1,f2,f3,if_pos f4]) rfl⟩
  · rename_i k n f1
    have e3:=hk k (by simp [ftk,f1,AV.keys])
    split at hr <;> try (simp at hr;done)
    rename_i f5
    split at hr <;> try (simp at hr;done)
    rename_i f2 f3
    split at hr <;> simp only [Option.some.injEq,Prod.mk.injEq,reduceCtorEq]at hr
    rename_i f4
    obtain ⟨rfl,rfl⟩:=hr
    exact ⟨st2,.pure (by simp only [rop,e,e1,e2,e3,f1,f5,f2,f3];rw [if_pos f4]) rfl⟩
 case clr sz zero y =>
  have e:=ha y (by simp [ROp.args])
  simp only [rop]at hr
  split at hr <;> try (simp at hr;done)
  rename_i k n lo hi f1
  have e3:=hk k (by simp [ftk,f1,AV.keys])
  split at hr <;> try (simp at hr;done)
  rename_i f2
  split at hr <;> simp only [Option.some.injEq,Prod.mk.injEq,reduceCtorEq]at hr
  rename_i f3
  obtain ⟨rfl,rfl⟩:=hr
  exact ⟨_,.set (by simp only [rop,e,f1,e3,f2];rw [if_pos f3]) (by simp [wtk,f1,AV.keys]) (fun j hj=>hk j (by simpa [ftk,wtk] using hj))⟩
 case sslc y lo hi =>
  have e:=ha y (by simp [ROp.args])
  have e1:lo.map (evA G st2)=lo.map (evA G st):=by cases lo with|none=>rfl|some l=>simp [ha l (by simp [ROp.args])]
  have e2:hi.map (evA G st2)=hi.map (evA G st):=by cases hi with|none=>rfl|some l=>simp [ha l (by simp [ROp.args])]
  simp only [rop]at hr
  split at hr <;> try (simp at hr;done)
  rename_i f1
  split at hr <;> try (simp at hr;done)
  rename_i f2 f3
  split at hr <;> simp only [Option.some.injEq,Prod.mk.injEq,reduceCtorEq]at hr
  rename_i f4
  obtain ⟨rfl,rfl⟩:=hr
  exact ⟨st2,.pure (by simp only [rop,e,e1,e2,f1,f2,f3,if_pos f4]) rfl⟩
 case mksl sz bytes zero y =>
  have e:=ha y (by simp [ROp.args])
  have e3:=hk d (by simp [ftk])
  simp only [rop]at hr
  split at hr <;> try (simp at hr;done)
  rename_i f1
  split at hr <;> try (simp at hr;done)
  rename_i f2
  split at hr <;> simp only [Option.some.injEq,Prod.mk.injEq,reduceCtorEq]at hr
  rename_i f3
  obtain ⟨rfl,rfl⟩:=hr
  exact ⟨_,.set (by simp only [rop,e,f1,if_pos f2,e3,f3]) (by simp [wtk]) (fun j hj=>hk j (by simpa [ftk,wtk] using hj))⟩
 case app sz bytes s y =>
  have e1:=ha s (by simp [ROp.args])
  have e2:=ha y (by simp [ROp.args])
  have e3:=hk d (by simp [ftk])
  have e4:Z9 st2 sz (evA G st y)=Z9 st sz (evA G st y):=Z2h fun k h=>hk k (by simp [ftk,h])
  simp only [rop]at hr
  split at hr <;> try (simp at hr;done)
  rename_i ys f1
  split at hr <;> try (simp at hr;done)
  rename_i f0
  split at hr <;> try (simp at hr;done)
  · rename_i f2
    split at hr
    · rename_i f3
      simp only [Option.some.injEq,Prod.mk.injEq]at hr
      obtain ⟨rfl,rfl⟩:=hr
      exact ⟨st2,by simp only [rop,e1,e2,e4,f1,if_pos f0,f2,if_pos f3],rfl,rfl,fun k h=>hk k (by simp only [wtk,ftk,List.mem_cons,List.mem_append]at h ⊢;rcases h with h|h;exact .inl h;exact .inr (.inl h)),fun k _=>⟨rfl,rfl⟩⟩
    · rename_i f3
      split at hr <;> try (simp at hr;done)
      rename_i f5
      split at hr <;> simp only [Option.some.injEq,Prod.mk.injEq,reduceCtorEq]at hr
      rename_i f4
      obtain ⟨rfl,rfl⟩:=hr
      exact ⟨_,.set (by simp only [rop,e1,e2,e4,f1,if_pos f0,f2,if_neg f3,if_pos f5,e3,f4]) (by simp [wtk]) (fun j hj=>hk j (by simp only [wtk,ftk,List.mem_cons,List.mem_append]at hj ⊢;rcases hj with h|h;exact .inl h;exact .inr (.inl h)))⟩
  · rename_i k n f2
    have e5:=hk k (by simp [ftk,f2,AV.keys])
    split at hr <;> try (simp at hr;done)
    rename_i f3
    split at hr <;> try (simp at hr;done)
    rename_i f4
    split at hr
    · rename_i f6
      simp only [Option.some.injEq,Prod.mk.injEq]at hr
      obtain ⟨rfl,rfl⟩:=hr
      exact ⟨st2,by simp only [rop,e1,e2,e4,f1,if_pos f0,f2,e5,f3];rw [if_pos f4,if_pos f6],rfl,rfl,fun k h=>hk k (by simp only [wtk,ftk,List.mem_cons,List.mem_append]at h ⊢;rcases h with h|h;exact .inl h;exact .inr (.inl h)),fun k _=>⟨rfl,rfl⟩⟩
    rename_i f6
    simp only [Option.some.injEq,Prod.mk.injEq]at hr
    obtain ⟨rfl,rfl⟩:=hr
    exact ⟨_,.set (by simp only [rop,e1,e2,e4,f1,if_pos f0,f2,e5,f3];rw [if_pos f4,if_neg f6]) (by simp [wtk,f2,AV.keys]) (fun j hj=>hk j (by simp only [wtk,ftk,List.mem_cons,List.mem_append]at hj ⊢;rcases hj with h|h;exact .inl h;exact .inr (.inl h)))⟩
  · rename_i k n lo hi f2
    have e5:=hk k (by simp [ftk,f2,AV.keys])
    split at hr <;> try (simp at hr;done)
    rename_i f3
    split at hr <;> try (simp at hr;done)
    rename_i f4
    split at hr
    · rename_i f6
      simp only [Option.some.injEq,Prod.mk.injEq]at hr
      obtain ⟨rfl,rfl⟩:=hr
      exact ⟨st2,by simp only [rop,e1,e2,e4,f1,if_pos f0,f2,e5,f3];rw [if_pos f4,if_pos f6],rfl,rfl,fun k h=>hk k (by simp only [wtk,ftk,List.mem_cons,List.mem_append]at h ⊢;rcases h with h|h;exact .inl h;exact .inr (.inl h)),fun k _=>⟨rfl,rfl⟩⟩
    rename_i f6
    split at hr
    · rename_i f7
      simp only [Option.some.injEq,Prod.mk.injEq]at hr
      obtain ⟨rfl,rfl⟩:=hr
      exact ⟨_,.set (by simp only [rop,e1,e2,e4,f1,if_pos f0,f2,e5,f3];rw [if_pos f4,if_neg f6,if_pos f7]) (by simp [wtk,f2,AV.keys]) (fun j hj=>hk j (by simp only [wtk,ftk,List.mem_cons,List.mem_append]at hj ⊢;rcases hj with h|h;exact .inl h;exact .inr (.inl h)))⟩
    · rename_i f7
      simp only [Option.some.injEq,Prod.mk.injEq]at hr
      obtain ⟨rfl,rfl⟩:=hr
      exact ⟨_,.set (by simp only [rop,e1,e2,e4,f1,if_pos f0,f2,e5,f3];rw [if_pos f4,if_neg f6,if_neg f7]) (by simp [wtk,f2,AV.keys]) (fun j hj=>hk j (by simp only [wtk,ftk,List.mem_cons,List.mem_append]at hj ⊢;rcases hj with h|h;exact .inl h;exact .inr (.inl h)))⟩
 case call f xs=>simp [rop]at hr
 case callv f xs=>simp [rop]at hr
 case calln f xs=>simp [rop]at hr
 case mkmap =>
  have e3:=hk d (by simp [ftk])
  simp only [rop]at hr
  split at hr <;> simp only [Option.some.injEq,Prod.mk.injEq,reduceCtorEq]at hr
  rename_i f1
  obtain ⟨rfl,rfl⟩:=hr
  exact ⟨_,.set (by simp only [rop,e3,f1]) (by simp [wtk]) (fun j hj=>hk j (by simpa [wtk,ftk] using hj))⟩
 case mlen y =>
  have e:=ha y (by simp [ROp.args])
  simp only [rop,Option.map_eq_some_iff,Prod.mk.injEq]at hr
  obtain ⟨u,hu,rfl,rfl⟩:=hr
  exact ⟨st2,.pure (by simp only [rop,e,Z2i (p:=evA G st y) (fun k h=>hk k (by simpa [ftk] using h)),hu,Option.map_some]) rfl⟩
 case look kk zero ok m k =>
  have e1:=ha m (by simp [ROp.args])
  have e2:=ha k (by simp [ROp.args])
  simp only [rop]at hr
  split at hr <;> try (simp at hr;done)
  rename_i f1
  have e3:=(Z2i (p:=evA G st m) (fun k h=>hk k (by simpa [ftk] using h))).trans f1
  split at hr <;> simp only [Option.some.injEq,Prod.mk.injEq,reduceCtorEq]at hr
  all_goals
   rename_i f2
   obtain ⟨rfl,rfl⟩:=hr
   exact ⟨st2,.pure (by simp only [rop,e1,e2,e3,f2]) rfl⟩
 case mupd kk m k v =>
  have e1:=ha m (by simp [ROp.args])
  have e2:=ha k (by simp [ROp.args])
  have e4:=ha v (by simp [ROp.args])
  simp only [rop]at hr
  split at hr <;> try (simp at hr;done)
  rename_i n f1
  have e3:=hk n (by simp [ftk,f1,AV.keys])
  split at hr <;> try (simp at hr;done)
  rename_i f2
  split at hr <;> simp only [Option.some.injEq,Prod.mk.injEq,reduceCtorEq]at hr
  rename_i f3
  obtain ⟨rfl,rfl⟩:=hr
  exact ⟨_,.set (by simp only [rop,e1,e2,e3,e4,f1,f2,f3]) (by simp [wtk,f1,AV.keys]) (fun j hj=>hk j (by simpa [wtk,ftk] using hj))⟩
 case mdel kk m k =>
  have e1:=ha m (by simp [ROp.args])
  have e2:=ha k (by simp [ROp.args])
  simp only [rop]at hr
  split at hr <;> try (simp at hr;done)
  rename_i n f1
  have e3:=hk n (by simp [ftk,f1,AV.keys])
  split at hr <;> try (simp at hr;done)
  rename_i f2
  split at hr <;> simp only [Option.some.injEq,Prod.mk.injEq,reduceCtorEq]at hr
  rename_i f3
  obtain ⟨rfl,rfl⟩:=hr
  exact ⟨_,.set (by simp only [rop,e1,e2,e3,f1,f2,f3]) (by simp [wtk,f1,AV.keys]) (fun j hj=>hk j (by simpa [wtk,ftk] using hj))⟩
end
structure Rec where
 d:Option Nat
 rt:List Nat
 fk:List Nat
 wk:List Nat
 aft:List Nat
def ROper.rt (r:ROper):List Nat:=r.op.args.flatMap RA.tm++(match r.guard with|some (t,_)=>[t]|none=>[])
def recOf (G:Nat→Option (List AV)) (r:ROper) (st:St):Rec:=⟨r.d,r.rt,ftk G st (r.d.getD 0) r.op,wtk G st (r.d.getD 0) r.op,r.aft⟩
def cuts (xs ys:List Nat):Bool:=xs.any fun x=>ys.contains x
def conf (a b:Rec):Bool:=(match a.d with|some n=>b.rt.contains n||b.d == some n|none=>false)||(match b.d with|some n=>a.rt.contains n|none=>false)||cuts a.wk b.fk||cuts b.wk a.fk||cuts a.wk b.wk
def reach (rs:List Rec):Nat→Nat→Nat→Bool
 |0,_,_=>false
 | f+1,j,i=>match rs[j]? with
   |some r=>r.aft.any fun e=>e == i||reach rs f e i
   |none=>false
def Z2s (rs:List Rec) (j:Nat) (b:Rec):Bool:=(List.range j).all fun i=>match rs[i]? with
 |some a=>!conf a b||reach rs rs.length j i
 |none=>false
def Z2t (rs:List Rec):Bool:=(List.range rs.length).all fun j=>match rs[j]? with
 |some b=>b.aft.all (fun e=>decide (e<j))&&Z2s rs j b
 |none=>false
def RD (P:Program) (G:Nat→Option (List AV)):List ROper→St→List Rec→(St→Prop)→Prop
 |[],st,acc,K=>Z2t acc.reverse=true∧K st
 | r :: rs,st,acc,K=>match wants st r.guard with
   |none=>False
   | some w=>(w=false→RD P G rs (st.putd r.d .hole) (recOf G r st::acc) K)∧(w=true→match r.op with
     |.call f args=>∃ v,CallR P G st f (args.map (evA G st)) v∧RD P G rs (st.putd r.d v) (recOf G r st::acc) K
     |.calln f args=>(∃ v,CallR P G st f (args.map (evA G st)) v∧RD P G rs (st.putd r.d v) (recOf G r st::acc) K)∨∃ sz rows,NewR P G st (r.d.getD 0) f (args.map (evA G st)) sz rows∧RD P G rs ((st.set (r.d.getD 0) (.row sz rows)).putd r.d (.osl (r.d.getD 0) rows.length)) (recOf G r st::acc) K
     | .callv f args=>match evA G st f with
       |.func (.func g) first caps=>∃ v,CallR P G st g (first++args.map (evA G st)++caps) v∧RD P G rs (st.putd r.d v) (recOf G r st::acc) K
       |_=>False
     | op=>match rop G st (r.d.getD 0) op with
       |some (x,st')=>RD P G rs (st'.putd r.d x) (recOf G r st::acc) K
       |none=>False)
section
variable {P:Program} {G:Nat→Option (List AV)}
theorem Z2u {r:ROper} {rs:List ROper} {st:St} {acc:List Rec} {K:St→Prop} (h:RD P G (r::rs) st acc K):∃ st',Stp P G r st st'∧RD P G rs st' (recOf G r st::acc) K:=by
 simp only [RD]at h
 split at h
 · exact h.elim
 · rename_i w hw
   cases w
   · exact ⟨_,.skip hw,h.1 rfl⟩
   · have h:=h.2 rfl
     split at h
     · obtain ⟨v,hc,hv⟩:=h
       exact ⟨_,.call hw _ _ v ‹_› hc,hv⟩
     · rcases h with ⟨v,hc,hv⟩ | ⟨sz,rows,hc,hv⟩
       · exact ⟨_,.callp hw _ _ v ‹_› hc,hv⟩
       · exact ⟨_,.calln hw _ _ sz rows ‹_› hc,hv⟩
     · split at h <;> try (exact h.elim)
       obtain ⟨v,hc,hv⟩:=h
       exact ⟨_,.callv hw _ _ _ _ _ v ‹_› ‹_› hc,hv⟩
     · rename_i hn1 hn2
       split at h <;> try (exact h.elim)
       refine ⟨_,.op hw _ _ ?_ ‹_›,h⟩
       cases e:r.op <;> simp_all [Z1y]
theorem Z2v:∀ (rs:List ROper) (st:St) (acc:List Rec) (K:St→Prop),RD P G rs st acc K →
  ∃ S:Nat→St,S 0=st∧(∀ (i:Nat) (r:ROper),rs[i]? = some r→Stp P G r (S i) (S (i+1)))∧K (S rs.length)∧Z2t (acc.reverse++(List.range rs.length).map fun i=>recOf G (rs.getD i default) (S i))=true
 |[],st,acc,K,h=>⟨fun _=>st,rfl,by simp,h.2,by simpa using h.1⟩
 | r :: rs,st,acc,K,h=>by
   obtain ⟨st',h1,h2⟩:=Z2u h
   obtain ⟨S,h3,h4,h5,h6⟩:=Z2v rs st' _ K h2
   refine ⟨fun i=>match i with|0=>st|i+1=>S i,rfl,fun i r' hi=>?_,h5,?_⟩
   · cases i with
     |zero=>simp at hi;subst hi;rw [← h3]at h1;exact h1
     |succ i=>exact h4 i r' (by simpa using hi)
   · rw [List.length_cons,List.range_succ_eq_map]
     simp only [List.map_cons,List.map_map]
     simpa [Function.comp_def] using h6
theorem Z2w {r:ROper} {st st' st2:St} (h:Stp P G r st st') (ht:∀ t∈r.rt,st2.tmp t=st.tmp t) (hk:∀ k∈ftk G st (r.d.getD 0) r.op,st2.get k=st.get k) :
  ∃ st2',Stp P G r st2 st2'∧(∀ n,r.d=some n→st2'.tmp n=st'.tmp n)∧(∀ n,r.d≠some n→st2'.tmp n=st2.tmp n∧st'.tmp n=st.tmp n) ∧
    (∀ k∈wtk G st (r.d.getD 0) r.op,st2'.get k=st'.get k)∧(∀ k,k ∉ wtk G st (r.d.getD 0) r.op→st2'.get k=st2.get k∧st'.get k=st.get k):=by
 have hw:wants st2 r.guard=wants st r.guard:=by
  cases e:r.guard with
  |none=>rfl
  |some p=>obtain ⟨t,b⟩:=p;simp only [wants];rw [ht t (by simp [ROper.rt,e])]
 have ha:∀ y∈r.op.args,evA G st2 y=evA G st y:=fun y hy=>by
  cases y <;> simp only [evA]
  rename_i t
  rw [ht t (by simp only [ROper.rt,List.mem_append,List.mem_flatMap];exact .inl ⟨_,hy,by simp [RA.tm]⟩)]
 have puts:∀ (a b:St) (x:AV),(∀ n,r.d=some n→(a.putd r.d x).tmp n=(b.putd r.d x).tmp n):=fun a b x n e=>by simp [e,St.putd,St.tmp_put]
 have putn:∀ (a:St) (x:AV) (n:Nat),r.d≠some n→(a.putd r.d x).tmp n=a.tmp n:=fun a x n e=>by
  cases e2:r.d with
  |none=>rfl
  |some m=>simp only [St.putd,St.tmp_put];rw [if_neg (by rintro rfl;exact e e2)]
 have putg:∀ (a:St) (x:AV) (k:Nat),(a.putd r.d x).get k=a.get k:=fun a x k=>by cases e2:r.d <;> rfl
 have nowr:∀ {v:AV},wtk G st (r.d.getD 0) r.op=[]∨(∀ k∈wtk G st (r.d.getD 0) r.op,st2.get k=st.get k)→(∀ n,r.d=some n→(st2.putd r.d v).tmp n=(st.putd r.d v).tmp n)∧(∀ n,r.d≠some n→(st2.putd r.d v).tmp n=st2.tmp n∧(st.putd r.d v).tmp n=st.tmp n) ∧
   (∀ k∈wtk G st (r.d.getD 0) r.op,(st2.putd r.d v).get k=(st.putd r.d v).get k)∧(∀ k,k ∉ wtk G st (r.d.getD 0) r.op→(st2.putd r.d v).get k=st2.get k∧(st.putd r.d v).get k=st.get k):=fun {v} e =>
  ⟨puts st2 st v,fun n hn=>⟨putn _ _ n hn,putn _ _ n hn⟩,fun k hk=>by
   rw [putg,putg]
   rcases e with e|e
   · rw [e]at hk;cases hk
   · exact e k hk,fun k _=>⟨putg _ _ _,putg _ _ _⟩⟩
 have wsub:∀ k∈wtk G st (r.d.getD 0) r.op,k∈ftk G st (r.d.getD 0) r.op:=fun k hk=>by
  cases e:r.op <;> simp only [e,wtk,ftk]at hk ⊢ <;> first
   |exact hk
   |(simp_all;done)
   |(cases hk;done)
   |(rename_i own _ _ _ _;cases own <;> simp_all;done)
   | (simp only [List.mem_cons,List.mem_append]at hk ⊢;rcases hk with hk|hk
      · exact .inl hk
      · exact .inr (.inl hk))
 cases h with
 |skip h=>exact ⟨_,.skip (hw.trans h),nowr (.inr fun k h=>hk k (wsub k h))⟩
 | call h f args v ho hc =>
   refine ⟨_,.call (hw.trans h) f args v ho ?_,nowr (.inl (by rw [ho];rfl))⟩
   rw [List.map_congr_left (fun y hy=>ha y (by rw [ho];exact hy))]
   refine Z2p hc fun x hx k hxk=>hk k ?_
   obtain ⟨y,hy,rfl⟩:=List.mem_map.1 hx
   simp only [ho,ftk,List.mem_flatMap]
   exact ⟨y,hy,hxk⟩
 | callp h f args v ho hc =>
   have hd:r.d.getD 0∈wtk G st (r.d.getD 0) r.op:=by rw [ho];simp [wtk]
   refine ⟨_,.callp (hw.trans h) f args v ho ?_,nowr (.inr fun k hk'=>hk k (wsub k hk'))⟩
   rw [List.map_congr_left (fun y hy=>ha y (by rw [ho];exact hy))]
   refine Z2p hc fun x hx k hxk=>hk k ?_
   obtain ⟨y,hy,rfl⟩:=List.mem_map.1 hx
   simp only [ho,ftk,List.mem_cons,List.mem_flatMap]
   exact .inr ⟨y,hy,hxk⟩
 | calln h f args sz rows ho hc =>
   have hd:r.d.getD 0∈ftk G st (r.d.getD 0) r.op:=by rw [ho];simp [ftk]
   have hwt:wtk G st (r.d.getD 0) r.op=[r.d.getD 0]:=by rw [ho];rfl
   refine ⟨_,.calln (hw.trans h) f args sz rows ho ?_,puts _ _ _,fun n hn=>⟨?_,?_⟩,fun k hk'=>?_,fun k hk'=>⟨?_,?_⟩⟩
   · rw [List.map_congr_left (fun y hy=>ha y (by rw [ho];exact hy))]
     exact ⟨(hk _ hd).trans hc.1,hc.2⟩
   · rw [putn _ _ n hn];rfl
   · rw [putn _ _ n hn];rfl
   · rw [hwt,List.mem_singleton]at hk'
     rw [putg,putg,St.get_set,St.get_set,if_pos hk'.symm,if_pos hk'.symm]
   · rw [hwt,List.mem_singleton]at hk'
     rw [putg,St.get_set,if_neg (fun e=>hk' e.symm)]
   · rw [hwt,List.mem_singleton]at hk'
     rw [putg,St.get_set,if_neg (fun e=>hk' e.symm)]
 | callv h f g first caps args v ho hf hc =>
   refine ⟨_,.callv (hw.trans h) f g first caps args v ho (by rw [ha f (by rw [ho];simp [ROp.args]),hf]) ?_,nowr (.inl (by rw [ho];rfl))⟩
   rw [List.map_congr_left (fun y hy=>ha y (by rw [ho];simp [ROp.args,hy]))]
   refine Z2p hc fun x hx k hxk=>hk k ?_
   simp only [ho,ftk,List.mem_append,List.mem_flatMap,hf]
   simp only [List.mem_append,List.mem_map]at hx
   rcases hx with (hx | ⟨y,hy,rfl⟩)|hx
   · left;refine Z2n (fun k hk=>?_) hxk;simp only [AV.keys,List.mem_append,List.mem_flatMap,List.mem_attach,true_and,Subtype.exists];exact .inl ⟨x,hx,hk⟩
   · right;exact ⟨y,hy,hxk⟩
   · left;refine Z2n (fun k hk=>?_) hxk;simp only [AV.keys,List.mem_append,List.mem_flatMap,List.mem_attach,true_and,Subtype.exists];exact .inr ⟨x,hx,hk⟩
 | op h x st1 hn hr =>
   obtain ⟨st3,l⟩:=Z2r hr ha hk
   refine ⟨_,.op (hw.trans h) x st3 hn l.run,puts _ _ _,fun n hn=>⟨?_,?_⟩,fun k hk=>?_,fun k hk=>⟨?_,?_⟩⟩
   · rw [putn _ _ n hn];unfold St.tmp;rw [l.t2]
   · rw [putn _ _ n hn];unfold St.tmp;rw [l.t1]
   · rw [putg,putg];exact l.inn k hk
   · rw [putg];exact (l.out k hk).1
   · rw [putg];exact (l.out k hk).2
end
theorem SR.congr {R:Run} {st st2:St} {a:Act} {W:World} (ht:∀ n,st2.tmp n=st.tmp n) (hg:∀ k,st2.get k=st.get k) (h:SR R st2 a W):SR R st a W:=by
 obtain ⟨κ,h⟩:=h
 have he:st.env R.M κ=st2.env R.M κ:=by unfold St.env;simp only [hg]
 refine ⟨κ,h.defers,h.size,fun n x hx=>by rw [he];exact h.tm n x (by rw [ht];exact hx),fun k o ho=>by rw [he];exact h.obj k o (by rw [hg];exact ho),fun k p hk=>by rw [← hg];exact h.dom k p hk,h.inj,h.low,h.apart,h.kp,by rw [he];exact h.gr,by rw [he];exact h.mono,h.ent⟩
section
variable {P:Program} {R:Run} {rs:List ROper} {S:Nat→St}
def TT {β:Type} (L:Nat→Bool) (w:Nat→Bool) (v:Nat→β):Nat→β
 |0=>v 0
 |i+1=>if L i=true∧w i=true then v (i+1) else TT L w v i
theorem Z2x {β:Type} {L L' w:Nat→Bool} {v:Nat→β} {n:Nat} (h:∀ i,i<n→w i=true→L i=L' i):TT L w v n=TT L' w v n:=by
 induction n with
 |zero=>rfl
 | succ n ih =>
   simp only [TT]
   rw [ih (fun i hi=>h i (by omega))]
   by_cases hw:w n=true
   · rw [h n (by omega) hw]
   · simp [hw]
theorem Z2y {β:Type} {w:Nat→Bool} {v:Nat→β} {n:Nat} (hv:∀ i,i<n→w i=false→v (i+1)=v i) {j:Nat} (hj:j≤n):TT (fun i=>decide (i<j)) w v n=v j:=by
 have low:∀ m,m≤j→TT (fun i=>decide (i<j)) w v m=v m:=by
  intro m
  induction m with
  |zero=>intro _;rfl
  | succ m ihm =>
    intro hm
    simp only [TT]
    by_cases hw:w m=true
    · rw [if_pos ⟨by simp;omega,hw⟩]
    · rw [if_neg (by simp [hw]),ihm (by omega),hv m (by omega) (by simpa using hw)]
 have high:∀ d,j+d≤n→TT (fun i=>decide (i<j)) w v (j+d)=v j:=by
  intro d
  induction d with
  |zero=>intro _;exact low j (Nat.le_refl _)
  | succ d ihd =>
    intro hd
    rw [← Nat.add_assoc]
    simp only [TT]
    rw [if_neg (fun h=>by have h2:=of_decide_eq_true h.1;omega),ihd (by omega)]
 have:=high (n-j) (by omega)
 rwa [show j+(n-j)=n by omega]at this
theorem Z2z {β:Type} {L w:Nat→Bool} {v:Nat→β} (hL:∀ i,L i=false) (n:Nat):TT L w v n=v 0:=by
 induction n with
 |zero=>rfl
 |succ n ih=>simp [TT,hL,ih]
theorem Z2A {recs:List Rec} {L:Nat→Bool} (hd:∀ (j:Nat) (r:Rec),recs[j]? = some r→L j=true→∀ e∈r.aft,L e=true):∀ (f j i:Nat),reach recs f j i=true→(∀ r,recs[j]? = some r→∀ e∈r.aft,L e=true)→L i=true:=by
 intro f
 induction f with
 |zero=>intro j i h;simp [reach]at h
 | succ f ih =>
   intro j i h hj
   simp only [reach]at h
   split at h <;> try (simp at h;done)
   rename_i r hr
   obtain ⟨e,he,h2⟩:=List.any_eq_true.1 h
   simp only [Bool.or_eq_true,beq_iff_eq]at h2
   have hle:=hj r hr e he
   rcases h2 with rfl|h2
   · exact hle
   · exact ih e i h2 (fun r' hr' e' he'=>hd e r' hr' hle e' he')
theorem Z2B {rd:Option Nat} {mm:Nat} {ops:Array Oper} {Q:Exit→Act→World→Prop} (hS:∀ (i:Nat) (r:ROper),rs[i]? = some r→Stp P R.G r (S i) (S (i+1))) (hl:ops.size=rs.length)
  (hok:∀ (i:Nat) (r:ROper),rs[i]? = some r→∃ o,ops[i]? = some o∧Z1z P R.N ops o r=true∧(o.after.toList.filter (Region.binds .any ·)).map (·.on)=r.aft)
  (hi:Z2t ((List.range rs.length).map fun i=>recOf R.G (rs.getD i default) (S i))=true) (hQ:∀ a w,SR R (S rs.length) a w→Q .normal a w) :
  ∀ (fuel:Nat) (listed:Array Bool) (st2:St) (a:Act) (w:World),listed.size=rs.length →
    (∀ (j:Nat) (r:ROper),rs[j]? = some r→listed.getD j false=true→∀ e∈r.aft,listed.getD e false=true) →
    ((List.range rs.length).filter (fun i=>!listed.getD i false)).length≤fuel →
    (∀ m,st2.tmp m=TT (fun i=>listed.getD i false) (fun i=>(rs.getD i default).d == some m&&decide (i<rs.length)) (fun i=>(S i).tmp m) rs.length) →
    (∀ k,st2.get k=TT (fun i=>listed.getD i false) (fun i=>(wtk R.G (S i) ((rs.getD i default).d.getD 0) (rs.getD i default).op).contains k&&decide (i<rs.length)) (fun i=>(S i).get k) rs.length) →
    SR R st2 a w→wpAnyIn (FW rd) mm P .any ops Q fuel listed a w:=by
 have hgd:∀ {i:Nat} {r:ROper},rs[i]? = some r→rs.getD i default=r:=fun {i r} h=>by simp [List.getD,h]
 have hrec:∀ {i:Nat} {r:ROper},rs[i]? = some r→((List.range rs.length).map fun i=>recOf R.G (rs.getD i default) (S i))[i]? = some (recOf R.G r (S i)):=fun {i r} h=>by
  have hlt:i<rs.length:=(List.getElem?_eq_some_iff.1 h).1
  rw [List.getElem?_map,List.getElem?_range hlt,Option.map_some,hgd h]
 have hlen:((List.range rs.length).map fun i=>recOf R.G (rs.getD i default) (S i)).length=rs.length:=by simp
 have hind:∀ (j:Nat) (r:ROper),rs[j]? = some r→(∀ e∈r.aft,e<j)∧∀ (i:Nat) (q:ROper),i<j→rs[i]? = some q→conf (recOf R.G q (S i)) (recOf R.G r (S j))=true→reach ((List.range rs.length).map fun i=>recOf R.G (rs.getD i default) (S i)) rs.length j i=true:=by
  intro j r hj
  have hlt:j<rs.length:=(List.getElem?_eq_some_iff.1 hj).1
  have h1:=List.all_eq_true.1 hi j (by simp [hlt])
  rw [hrec hj]at h1
  simp only [Bool.and_eq_true,List.all_eq_true,decide_eq_true_eq]at h1
  refine ⟨h1.1,fun i q hij hq hc=>?_⟩
  have h2:=List.all_eq_true.1 h1.2 i (by simp [hij])
  rw [hrec hq]at h2
  simp only [hc,Bool.not_true,Bool.false_or,hlen]at h2
  exact h2
 have fr:∀ (i:Nat) (r:ROper),rs[i]? = some r→(∀ n,r.d≠some n→(S (i+1)).tmp n=(S i).tmp n)∧(∀ k,k ∉ wtk R.G (S i) (r.d.getD 0) r.op→(S (i+1)).get k=(S i).get k):=fun i r h=>by
  obtain ⟨st3,-,-,h2,-,h4⟩:=Z2w (hS i r h) (fun _ _=>rfl) (fun _ _=>rfl)
  exact ⟨fun n hn=>(h2 n hn).2,fun k hk=>(h4 k hk).2⟩
 intro fuel
 have view:∀ {listed:Array Bool} {st2:St} {j:Nat} {r:ROper},rs[j]? = some r→listed.getD j false=false →
   (∀ (j:Nat) (r:ROper),rs[j]? = some r→listed.getD j false=true→∀ e∈r.aft,listed.getD e false=true)→(∀ e∈r.aft,listed.getD e false=true) →
   (∀ (i:Nat) (q:ROper),rs[i]? = some q→conf (recOf R.G q (S i)) (recOf R.G r (S j))=true→i<j→listed.getD i false=true) ∧
   (∀ (i:Nat) (q:ROper),rs[i]? = some q→conf (recOf R.G r (S j)) (recOf R.G q (S i))=true→j<i→listed.getD i false=false):=by
  intro listed st2 j r hj hun hdc haf
  have hdc':∀ (j:Nat) (r:Rec),((List.range rs.length).map fun i=>recOf R.G (rs.getD i default) (S i))[j]? = some r→listed.getD j false=true→∀ e∈r.aft,listed.getD e false=true:=by
   intro j r hr hL e he
   have hlt:j<rs.length:=by have:=(List.getElem?_eq_some_iff.1 hr).1;simpa using this
   have hq:rs[j]? = some rs[j]:=by simp [hlt]
   rw [hrec hq]at hr
   simp only [Option.some.injEq]at hr
   subst hr
   exact hdc j _ hq hL e he
  refine ⟨fun i q hq hc hij=>?_,fun i q hq hc hji=>?_⟩
  · refine Z2A hdc' _ j i ((hind j r hj).2 i q hij hq hc) (fun r' hr' e he=>?_)
    rw [hrec hj]at hr'
    simp only [Option.some.injEq]at hr'
    subst hr'
    exact haf e he
  · cases hL:listed.getD i false with
    |false=>rfl
    | true =>
      have:=Z2A hdc' _ i j ((hind i q hq).2 j r hji hj hc) (fun r' hr' e he=>hdc' i r' hr' hL e he)
      rw [hun]at this;cases this
 have frT:∀ m i,i<rs.length→((rs.getD i default).d == some m&&decide (i<rs.length))=false→(S (i+1)).tmp m=(S i).tmp m:=fun m i hlt h=>by
  have hq:rs[i]? = some rs[i]:=by simp [hlt]
  refine (fr i _ hq).1 m (fun e=>?_)
  rw [hgd hq]at h
  simp [e,hlt]at h
 have frK:∀ k i,i<rs.length→((wtk R.G (S i) ((rs.getD i default).d.getD 0) (rs.getD i default).op).contains k&&decide (i<rs.length))=false→(S (i+1)).get k=(S i).get k:=fun k i hlt h=>by
  have hq:rs[i]? = some rs[i]:=by simp [hlt]
  refine (fr i _ hq).2 k (fun e=>?_)
  rw [hgd hq]at h
  simp [e,hlt]at h
 have cT:∀ {i j:Nat} {q r:ROper} {t:Nat},q.d=some t→(t∈r.rt∨r.d=some t)→conf (recOf R.G q (S i)) (recOf R.G r (S j))=true:=fun {i j q r t} h1 h2=>by
  simp only [conf,recOf,h1,Bool.or_eq_true,List.contains_iff_mem,beq_iff_eq]
  exact .inl (.inl (.inl (.inl h2)))
 have cT':∀ {i j:Nat} {q r:ROper} {t:Nat},q.d=some t→(t∈r.rt∨r.d=some t)→conf (recOf R.G r (S j)) (recOf R.G q (S i))=true:=fun {i j q r t} h1 h2=>by
  simp only [conf,recOf,h1,Bool.or_eq_true,List.contains_iff_mem,beq_iff_eq]
  rcases h2 with h2|h2
  · exact .inl (.inl (.inl (.inr h2)))
  · exact .inl (.inl (.inl (.inl (by simp [h2]))))
 have cutI:∀ {xs ys:List Nat} {k:Nat},k∈xs→k∈ys→cuts xs ys=true:=fun {xs ys k} h1 h2=>List.any_eq_true.2 ⟨k,h1,by simpa using h2⟩
 have cK:∀ {i j:Nat} {q r:ROper} {k:Nat},k∈wtk R.G (S i) (q.d.getD 0) q.op→(k∈ftk R.G (S j) (r.d.getD 0) r.op∨k∈wtk R.G (S j) (r.d.getD 0) r.op)→conf (recOf R.G q (S i)) (recOf R.G r (S j))=true∧conf (recOf R.G r (S j)) (recOf R.G q (S i))=true:=fun {i j q r k} h1 h2=>by
  simp only [conf,recOf,Bool.or_eq_true]
  rcases h2 with h2|h2
  · exact ⟨.inl (.inl (.inr (cutI h1 h2))),.inl (.inr (cutI h1 h2))⟩
  · exact ⟨.inr (cutI h1 h2),.inr (cutI h2 h1)⟩
 have done:∀ {listed:Array Bool} {st2:St} {a:Act} {w:World},(∀ i,i<rs.length→listed.getD i false=true) →
   (∀ m,st2.tmp m=TT (fun i=>listed.getD i false) (fun i=>(rs.getD i default).d == some m&&decide (i<rs.length)) (fun i=>(S i).tmp m) rs.length) →
   (∀ k,st2.get k=TT (fun i=>listed.getD i false) (fun i=>(wtk R.G (S i) ((rs.getD i default).d.getD 0) (rs.getD i default).op).contains k&&decide (i<rs.length)) (fun i=>(S i).get k) rs.length) →
   SR R st2 a w→Q .normal a w:=by
  intro listed st2 a w hall hT hK hs
  refine hQ a w (SR.congr (fun m=>?_) (fun k=>?_) hs)
  · rw [hT m,Z2x (L':=fun i=>decide (i<rs.length)) (fun i hi _=>by simp [hall i hi,hi]),Z2y (frT m) (Nat.le_refl _)]
  · rw [hK k,Z2x (L':=fun i=>decide (i<rs.length)) (fun i hi _=>by simp [hall i hi,hi]),Z2y (frK k) (Nat.le_refl _)]
 have aftL:∀ {listed:Array Bool} {j:Nat} {o:Oper} {r:ROper},(o.after.toList.filter (Region.binds .any ·)).map (·.on)=r.aft→((∀ e∈o.after,Region.binds .any e=true→listed.getD e.on false=true)↔∀ e∈r.aft,listed.getD e false=true):=by
  intro listed j o r h
  rw [← h]
  constructor
  · intro h1 e he
    obtain ⟨x,hx,rfl⟩:=List.mem_map.1 he
    obtain ⟨h2,h3⟩:=List.mem_filter.1 hx
    exact h1 x (by simpa using h2) h3
  · intro h1 e he hb
    exact h1 _ (List.mem_map.2 ⟨e,List.mem_filter.2 ⟨by simpa using he,hb⟩,rfl⟩)
 induction fuel with
 | zero =>
   intro listed st2 a w hsz hdc hcnt hT hK hs
   have hall:∀ i,i<rs.length→listed.getD i false=true:=fun i hi=>by
    cases hL:listed.getD i false with
    |true=>rfl
    | false =>
      have hm:i∈(List.range rs.length).filter (fun i=>!listed.getD i false):=List.mem_filter.2 ⟨by simpa using hi,by rw [hL];rfl⟩
      have h0:=List.length_eq_zero_iff.1 (Nat.le_zero.1 hcnt)
      rw [h0]at hm
      cases hm
   refine ⟨?_,done hall hT hK hs⟩
   apply List.eq_nil_iff_forall_not_mem.2
   intro j hj
   obtain ⟨h1,oj,h2,-⟩:=mem_ready.1 hj
   have hjl:j<rs.length:=by rw [← hl];exact (Array.getElem?_eq_some_iff.1 h2).1
   have h3:=hall j hjl
   simp only [Array.getD_eq_getD_getElem?]at h1 h3
   rw [Array.getElem?_eq_getElem (by omega)]at h1 h3
   simp at h1 h3
   rw [h1]at h3;cases h3
 | succ fuel ih =>
   intro listed st2 a w hsz hdc hcnt hT hK hs
   refine ⟨fun hnil=>?_,fun j hj=>?_⟩
   · refine done (fun i hi=>?_) hT hK hs
     induction i using Nat.strongRecOn with
     | _ i ihi =>
       cases hL:listed.getD i false with
       |true=>rfl
       | false =>
         have hr:rs[i]? = some rs[i]:=by simp [hi]
         obtain ⟨o,ho,-,hae⟩:=hok i _ hr
         have:i∈Region.ready .any ops listed:=mem_ready.2 ⟨by
          simp only [Array.getD_eq_getD_getElem?]at hL ⊢
          rw [Array.getElem?_eq_getElem (by omega)]at hL ⊢
          simpa using hL,o,ho,(aftL (j:=i) hae).2 (fun e he=>ihi e ((hind i _ hr).1 e he) (Nat.lt_trans ((hind i _ hr).1 e he) hi))⟩
         rw [hnil]at this;cases this
   · obtain ⟨h1,oj,h2,h3⟩:=mem_ready.1 hj
     have hjl:j<rs.length:=by rw [← hl];exact (Array.getElem?_eq_some_iff.1 h2).1
     have hr:rs[j]? = some rs[j]:=by simp [hjl]
     generalize rs[j]=r at hr
     obtain ⟨o,ho,hko,hae⟩:=hok j _ hr
     rw [h2]at ho
     simp only [Option.some.injEq]at ho
     subst ho
     have hun:listed.getD j false=false:=by
      simp only [Array.getD_eq_getD_getElem?]at h1 ⊢
      rw [Array.getElem?_eq_getElem (by omega)]at h1 ⊢
      simpa using h1
     have haf:=(aftL (j:=j) hae).1 h3
     obtain ⟨v1,v2⟩:=view (st2:=st2) hr hun hdc haf
     have eqT:∀ t,(t∈r.rt∨r.d=some t)→st2.tmp t=(S j).tmp t:=fun t ht=>by
      rw [hT t,Z2x (L':=fun i=>decide (i<j)) (fun i hi hw=>?_),Z2y (frT t) (by omega)]
      have hq:rs[i]? = some rs[i]:=by simp [hi]
      rw [hgd hq]at hw
      simp only [Bool.and_eq_true,beq_iff_eq]at hw
      rcases Nat.lt_trichotomy i j with c|c|c
      · simp only [v1 i _ hq (cT hw.1 ht) c,c,decide_true]
      · subst c;simp [hun]
      · rw [v2 i _ hq (cT' hw.1 ht) c];symm;simp;omega
     have eqK:∀ k,(k∈ftk R.G (S j) (r.d.getD 0) r.op∨k∈wtk R.G (S j) (r.d.getD 0) r.op)→st2.get k=(S j).get k:=fun k hk=>by
      rw [hK k,Z2x (L':=fun i=>decide (i<j)) (fun i hi hw=>?_),Z2y (frK k) (by omega)]
      have hq:rs[i]? = some rs[i]:=by simp [hi]
      rw [hgd hq]at hw
      simp only [Bool.and_eq_true,List.contains_iff_mem]at hw
      rcases Nat.lt_trichotomy i j with c|c|c
      · simp only [v1 i _ hq (cK hw.1 hk).1 c,c,decide_true]
      · subst c;simp [hun]
      · rw [v2 i _ hq (cK hw.1 hk).2 c];symm;simp;omega
     obtain ⟨st3,hst,u1,u2,u3,u4⟩:=Z2w (hS j r hr) (fun t ht=>eqT t (.inl ht)) (fun k hk=>eqK k (.inl hk))
     have gset:∀ i,(listed.setIfInBounds j true).getD i false=if i=j then true else listed.getD i false:=fun i=>by
      simp only [Array.getD_eq_getD_getElem?,Array.getElem?_setIfInBounds]
      by_cases c:j=i
      · subst c;rw [if_pos rfl,if_pos (by omega),if_pos rfl];rfl
      · rw [if_neg c,if_neg (fun e=>c e.symm)]
     refine Z26 hst h2 hko hs fun a' w' hs'=>ih (listed.setIfInBounds j true) st3 a' w' (by simpa using hsz) (fun i q hq hL e he=>?_) ?_ (fun m=>?_) (fun k=>?_) hs'
     · rw [gset]at hL ⊢
       split
       · rfl
       · split at hL
         · rename_i e2
           subst e2
           rw [hr]at hq
           simp only [Option.some.injEq]at hq
           subst hq
           exact haf e he
         · exact hdc i q hq hL e he
     · have hsub:((List.range rs.length).filter (fun i=>!(listed.setIfInBounds j true).getD i false)).length<((List.range rs.length).filter (fun i=>!listed.getD i false)).length:=by
        rw [← List.countP_eq_length_filter,← List.countP_eq_length_filter]
        have e1:(List.range rs.length).countP (fun i=>!listed.getD i false)=(List.range rs.length).countP (fun i=>!(listed.setIfInBounds j true).getD i false)+(List.range rs.length).countP (fun i=>i == j):=by
         generalize List.range rs.length=l
         induction l with
         |nil=>rfl
         | cons x l ihl =>
           simp only [List.countP_cons,ihl,gset]
           by_cases c:x=j
           · subst c;simp [hun];omega
           · simp [c];omega
        have e2:0<(List.range rs.length).countP (fun i=>i == j):=List.countP_pos_iff.2 ⟨j,by simp [hjl],by simp⟩
        omega
       omega
     · by_cases c:r.d=some m
       · rw [u1 m c,Z2x (L':=fun i=>decide (i<j+1)) (fun i hi hw=>?_),Z2y (frT m) (by omega)]
         have hq:rs[i]? = some rs[i]:=by simp [hi]
         rw [hgd hq]at hw
         simp only [Bool.and_eq_true,beq_iff_eq]at hw
         rw [gset]
         rcases Nat.lt_trichotomy i j with c2|c2|c2
         · rw [if_neg (by omega),v1 i _ hq (cT hw.1 (.inr c)) c2];symm;simp;omega
         · subst c2;simp
         · rw [if_neg (by omega),v2 i _ hq (cT' hw.1 (.inr c)) c2];symm;simp;omega
       · rw [(u2 m c).1,hT m]
         refine Z2x fun i hi hw=>?_
         have hq:rs[i]? = some rs[i]:=by simp [hi]
         rw [hgd hq]at hw
         simp only [Bool.and_eq_true,beq_iff_eq]at hw
         rw [gset,if_neg]
         rintro rfl
         rw [hr]at hq
         simp only [Option.some.injEq]at hq
         rw [← hq]at hw
         exact c hw.1
     · by_cases c:k∈wtk R.G (S j) (r.d.getD 0) r.op
       · rw [u3 k c,Z2x (L':=fun i=>decide (i<j+1)) (fun i hi hw=>?_),Z2y (frK k) (by omega)]
         have hq:rs[i]? = some rs[i]:=by simp [hi]
         rw [hgd hq]at hw
         simp only [Bool.and_eq_true,List.contains_iff_mem]at hw
         rw [gset]
         rcases Nat.lt_trichotomy i j with c2|c2|c2
         · rw [if_neg (by omega),v1 i _ hq (cK hw.1 (.inr c)).1 c2];symm;simp;omega
         · subst c2;simp
         · rw [if_neg (by omega),v2 i _ hq (cK hw.1 (.inr c)).2 c2];symm;simp;omega
       · rw [(u4 k c).1,hK k]
         refine Z2x fun i hi hw=>?_
         have hq:rs[i]? = some rs[i]:=by simp [hi]
         rw [hgd hq]at hw
         simp only [Bool.and_eq_true,List.contains_iff_mem]at hw
         rw [gset,if_neg]
         rintro rfl
         rw [hr]at hq
         simp only [Option.some.injEq]at hq
         rw [← hq]at hw
         exact c hw.1
end
theorem Z2C {P:Program} {R:Run} {st:St} {Φ:Exit→St→Prop} {id:Nat} {rs:List ROper} (hm:P.follows .mixedOrders=true) (h:RD P R.G rs st [] (Φ .normal)):AR P R (.reg id true rs) st Φ:=by
 intro c hc mm a W hs
 cases c <;> simp only [Z1A,Bool.false_eq_true,Bool.and_eq_true,beq_iff_eq]at hc
 rename_i id' ops draw
 obtain ⟨⟨⟨rfl,rfl⟩,hc⟩,hae⟩:=hc
 simp only [Bool.not_true,Bool.false_or]at hae
 obtain ⟨h1,h2⟩:=Zc hc
 obtain ⟨-,h3⟩:=Zc hae
 obtain ⟨S,rfl,hS,hK,hi⟩:=Z2v rs st [] _ h
 have hl:ops.size=rs.length:=by simpa using h1
 refine wpIn_region_any hm (Z2B hS hl (fun i r hr=>?_) (by simpa using hi) (fun a' w' hs'=>⟨_,hK,hs'⟩) ops.size _ (S 0) a _ (by simpa using hl) (fun j r _ hL=>?_) ?_ (fun m=>?_) (fun k=>?_) ?_)
 · have hlt:i<ops.size:=by have:=(List.getElem?_eq_some_iff.1 hr).1;omega
   exact ⟨ops[i],by simp [hlt],h2 i _ r (by simp [hlt]) hr,by simpa using h3 i ops[i] r (by simp [hlt]) hr⟩
 · simp [Array.getD]at hL
 · simp only [hl]
   exact Nat.le_trans (List.length_filter_le _ _) (by simp)
 · exact (Z2z (v:=fun i=>(S i).tmp m) (L:=fun i=>(Array.replicate ops.size false).getD i false) (fun i=>by simp [Array.getD]) _).symm
 · exact (Z2z (v:=fun i=>(S i).get k) (L:=fun i=>(Array.replicate ops.size false).getD i false) (fun i=>by simp [Array.getD]) _).symm
 · obtain ⟨κ,hκ⟩:=hs
   exact ⟨κ,hκ.grow (Ext.dr (Ext.refl W))⟩
inductive KF where
 |sq (b:RCode)
 |bk (id:Nat)
 |sc
section
variable (P:Program) (R:Run)
def RetP:List KF→(Exit→St→Prop)→Exit→St→Prop
 |[],Φ,e,st=>Φ e st
 |.sq b::ks,Φ,.normal,st=>AR P R b st (RetP ks Φ)
 |.sq _::ks,Φ,e,st=>RetP ks Φ e st
 |.bk id::ks,Φ,.exit j,st=>if j=id then RetP ks Φ .normal st else RetP ks Φ (.exit j) st
 |.bk _::ks,Φ,e,st=>RetP ks Φ e st
 |.sc::_,_,.goto _,_=>False
 |.sc::ks,Φ,e,st=>RetP ks Φ e st
inductive Md where
 |run (c:RCode)
 |out (e:Exit)
def GO:Nat→Md→List KF→(Exit→St→Prop)→St→Prop
 |0,.run c,ks,Φ,st=>AR P R c st (RetP P R ks Φ)
 |0,.out e,ks,Φ,st=>RetP P R ks Φ e st
 |n+1,.run .skip,ks,Φ,st=>GO n (.out .normal) ks Φ st
 |n+1,.run .ret,ks,Φ,st=>GO n (.out .ret) ks Φ st
 |n+1,.run (.exit id),ks,Φ,st=>GO n (.out (.exit id)) ks Φ st
 |n+1,.run (.seq a b),ks,Φ,st=>GO n (.run a) (.sq b::ks) Φ st
 | n+1,.run (.cond c a b),ks,Φ,st=>match evA R.G st c with
   |.bool t=>(t=true→GO n (.run a) ks Φ st)∧(t=false→GO n (.run b) ks Φ st)
   |.abool=>GO n (.run a) ks Φ st∧GO n (.run b) ks Φ st
   |_=>False
 |n+1,.run (.block id a),ks,Φ,st=>GO n (.run a) (.bk id::ks) Φ st
 |n+1,.run (.reg _ false ops),ks,Φ,st=>RW P R.G ops st (fun e st=>GO n (.out e) ks Φ st)
 |n+1,.run (.reg _ true ops),ks,Φ,st=>RD P R.G ops st [] (GO n (.out .normal) ks Φ)
 |_+1,.run (.loop c),ks,Φ,st=>AR P R (.loop c) st (RetP P R ks Φ)
 |_+1,.run (.raw p),ks,Φ,st=>AR P R (.raw p) st (RetP P R ks Φ)
 |_+1,.run (.rngf g ps c b),ks,Φ,st=>AR P R (.rngf g ps c b) st (RetP P R ks Φ)
 |n+1,.run (.scope a),ks,Φ,st=>GO n (.run a) (.sc::ks) Φ st
 |n+1,.run (.label _),ks,Φ,st=>GO n (.out .normal) ks Φ st
 |n+1,.out .normal,.sc::ks,Φ,st=>GO n (.out .normal) ks Φ st
 |n+1,.out .ret,.sc::ks,Φ,st=>GO n (.out .ret) ks Φ st
 |n+1,.out (.exit j),.sc::ks,Φ,st=>GO n (.out (.exit j)) ks Φ st
 |n+1,.out (.panic ch),.sc::ks,Φ,st=>GO n (.out (.panic ch)) ks Φ st
 |_+1,.out e,[],Φ,st=>Φ e st
 |n+1,.out .normal,.sq b::ks,Φ,st=>GO n (.run b) ks Φ st
 |n+1,.out .ret,.sq _::ks,Φ,st=>GO n (.out .ret) ks Φ st
 |n+1,.out (.panic ch),.sq _::ks,Φ,st=>GO n (.out (.panic ch)) ks Φ st
 |n+1,.out (.panic ch),.bk _::ks,Φ,st=>GO n (.out (.panic ch)) ks Φ st
 |n+1,.out (.exit j),.sq _::ks,Φ,st=>GO n (.out (.exit j)) ks Φ st
 |n+1,.out .normal,.bk _::ks,Φ,st=>GO n (.out .normal) ks Φ st
 |n+1,.out .ret,.bk _::ks,Φ,st=>GO n (.out .ret) ks Φ st
 |n+1,.out (.exit j),.bk id::ks,Φ,st=>if j=id then GO n (.out .normal) ks Φ st else GO n (.out (.exit j)) ks Φ st
 |_+1,.out _,_::_,_,_=>False
end
section
variable {P:Program} {R:Run}
theorem Z2D {rc:RCode} {st:St} {Φ Ψ:Exit→St→Prop} (h:AR P R rc st Φ) (hm:∀ e s,Φ e s→Ψ e s):AR P R rc st Ψ:=fun c hc m a W hs =>
 wpIn_mono (h c hc m a W hs) fun _ _ _ ⟨s,h1,h2⟩=>⟨s,hm _ _ h1,h2⟩
theorem Z2E {G:Nat→Option (List AV)} {st:St} {f:FuncId} {args:List AV} {n n':AV→St→Prop} {p p':List PanicEntry→Prop} (h:CallW P G st f args n p) (hn:∀ v s,n v s→n' v s) (hp:∀ c,p c→p' c):CallW P G st f args n' p':=by
 rcases h with ⟨v,h1,h2⟩ | ⟨v,s,h1,h2⟩ | ⟨c,h1,h2⟩
 · exact .inl ⟨v,h1,hn _ _ h2⟩
 · exact .inr (.inl ⟨v,s,h1,hn _ _ h2⟩)
 · exact .inr (.inr ⟨c,h1,hp _ h2⟩)
theorem Z2F {G:Nat→Option (List AV)} {K K':Exit→St→Prop} (hm:∀ e s,K e s→K' e s):∀ {rs:List ROper} {st:St},RW P G rs st K→RW P G rs st K'
 |[],st,h=>hm _ st h
 | r :: rs,st,h=>by
   simp only [RW]at h ⊢
   split at h
   · exact h.elim
   · refine ⟨fun e=>Z2F hm (h.1 e),fun e=>?_⟩
     have h:=h.2 e
     split at h
     · exact Z2E h (fun v s hs=>Z2F hm hs) (fun c hc=>hm _ _ hc)
     · exact h.imp (fun ⟨v,h1,h2⟩=>⟨v,h1,Z2F hm h2⟩) (fun ⟨sz,rows,h1,h2⟩=>⟨sz,rows,h1,Z2F hm h2⟩)
     · split at h <;> try (exact h.elim)
       exact Z2E h (fun v s hs=>Z2F hm hs) (fun c hc=>hm _ _ hc)
     · split at h <;> try (exact h.elim)
       exact Z2F hm h
theorem Z2G {G:Nat→Option (List AV)} {K K':St→Prop} (hm:∀ s,K s→K' s):∀ {rs:List ROper} {st:St} {acc:List Rec},RD P G rs st acc K→RD P G rs st acc K'
 |[],st,acc,h=>⟨h.1,hm st h.2⟩
 | r :: rs,st,acc,h=>by
   simp only [RD]at h ⊢
   split at h
   · exact h.elim
   · refine ⟨fun e=>Z2G hm (h.1 e),fun e=>?_⟩
     have h:=h.2 e
     split at h
     · obtain ⟨v,h1,h2⟩:=h;exact ⟨v,h1,Z2G hm h2⟩
     · exact h.imp (fun ⟨v,h1,h2⟩=>⟨v,h1,Z2G hm h2⟩) (fun ⟨sz,rows,h1,h2⟩=>⟨sz,rows,h1,Z2G hm h2⟩)
     · split at h <;> try (exact h.elim)
       obtain ⟨v,h1,h2⟩:=h;exact ⟨v,h1,Z2G hm h2⟩
     · split at h <;> try (exact h.elim)
       exact Z2G hm h
theorem Z2H {b:RCode} {ks:List KF} {Φ:Exit→St→Prop} {e:Exit} {s:St} (h:RetP P R (.sq b::ks) Φ e s):Thn P R b (RetP P R ks Φ) e s:=by
 cases e <;> exact h
theorem Z2I {id:Nat} {ks:List KF} {Φ:Exit→St→Prop} {e:Exit} {s:St} (h:RetP P R (.bk id::ks) Φ e s):Blk' id (RetP P R ks Φ) e s:=by
 cases e <;> exact h
theorem Z2J {ks:List KF} {Φ:Exit→St→Prop} {e:Exit} {s:St} (h:RetP P R (.sc::ks) Φ e s):Scp (RetP P R ks Φ) e s:=by
 cases e <;> exact h
theorem Z2K (hm:P.follows .mixedOrders=true):∀ (n:Nat) (m:Md) (ks:List KF) (Φ:Exit→St→Prop) (st:St),GO P R n m ks Φ st →
  match m with
  |.run c=>AR P R c st (RetP P R ks Φ)
  |.out e=>RetP P R ks Φ e st:=by
 intro n
 induction n with
 |zero=>intro m ks Φ st h;cases m <;> exact h
 | succ n ih =>
   intro m ks Φ st h
   cases m with
   | run c =>
     simp only
     cases c with
     |skip=>exact Z1H (ih _ _ _ _ h)
     |ret=>exact Z1I (ih _ _ _ _ h)
     |exit id=>exact Z1L (ih _ _ _ _ h)
     |seq a b=>exact Z1M (Z2D (ih _ _ _ _ h) fun _ _=>Z2H)
     | cond c a b =>
       simp only [GO]at h
       split at h <;> try (exact h.elim)
       · exact Z1N _ ‹_› (fun e=>ih _ _ _ _ (h.1 e)) (fun e=>ih _ _ _ _ (h.2 e))
       · exact Z1O ‹_› (ih _ _ _ _ h.1) (ih _ _ _ _ h.2)
     |block id a=>exact Z1P (Z2D (ih _ _ _ _ h) fun _ _=>Z2I)
     | reg id draw ops =>
       cases draw
       · exact Z28 (Z2F (fun e s hs=>ih _ _ _ _ hs) (show RW P R.G ops st _ from h))
       · exact Z2C hm (Z2G (fun s hs=>ih _ _ _ _ hs) (show RD P R.G ops st [] _ from h))
     |loop c=>exact h
     |rngf g ps c b=>exact h
     |raw p=>exact h
     |scope c=>exact Z1K (Z2D (ih _ _ _ _ h) fun _ _=>Z2J)
     |label id=>exact Z1J (ih _ _ _ _ h)
   | out e =>
     simp only
     cases ks with
     |nil=>cases e <;> exact h
     | cons k ks =>
       cases k with
       |sq b=>cases e <;> first|exact ih _ _ _ _ h|exact (h:False).elim
       |sc=>cases e <;> first|exact ih _ _ _ _ h|exact (h:False).elim
       | bk id =>
         cases e <;> try (first|exact ih _ _ _ _ h|exact (h:False).elim)
         simp only [GO]at h
         simp only [RetP]
         split at h
         · rename_i e;rw [if_pos e];exact ih _ _ _ _ h
         · rename_i e;rw [if_neg e];exact ih _ _ _ _ h
theorem GO_AR (hm:P.follows .mixedOrders=true) (n:Nat) {c:RCode} {Φ:Exit→St→Prop} {st:St} (h:GO P R n (.run c) [] Φ st):AR P R c st Φ:=Z2K hm n _ _ _ _ h
theorem Z2L (hm:P.follows .mixedOrders=true) (n:Nat) {c:RCode} {ks:List KF} {Φ:Exit→St→Prop} {st:St} (h:GO P R n (.run c) ks Φ st):AR P R c st (RetP P R ks Φ):=Z2K hm n _ _ _ _ h
theorem Z2M {c:RCode} {st st':St} {Φ:Exit→St→Prop} (hw:Weak st st') (h:AR P R c st' Φ):AR P R c st Φ:=fun k hk m a W hs=>h k hk m a W (hw R a W hs)
theorem Z2N (hm:P.follows .mixedOrders=true) (n:Nat) {e:Exit} {ks:List KF} {Φ:Exit→St→Prop} {st:St} (h:GO P R n (.out e) ks Φ st):RetP P R ks Φ e st:=Z2K hm n _ _ _ _ h
end
section
variable {P:Program} {R:Run} {G:Nat→Option (List AV)} {d:Option Nat} {op:ROp} {g:Option (Nat×Bool)} {aft:List Nat} {rs:List ROper} {st:St} {K:St→Prop} {Kx:Exit→St→Prop} {acc:List Rec}
def CallK (P:Program) (G:Nat→Option (List AV)) (st:St) (f:FuncId) (args:List AV) (d:Option Nat) (rs:List ROper) (K:Exit→St→Prop):Prop:=CallW P G st f args (fun v st1=>RW P G rs (st1.putd d v) K) (fun ch=>K (.panic ch) st)
def CallD (P:Program) (G:Nat→Option (List AV)) (st:St) (f:FuncId) (args:List AV) (d:Option Nat) (rs:List ROper) (acc:List Rec) (K:St→Prop):Prop:=∃ v,CallR P G st f args v∧RD P G rs (st.putd d v) acc K
theorem CallK.of {f:FuncId} {args:List AV} {v:AV} (h:PC P G f args v) (hp:args.all AV.pure=true) (hk:RW P G rs (st.putd d v) Kx):CallK P G st f args d rs Kx:=.inl ⟨v,.inl ⟨hp,h⟩,hk⟩
theorem CallD.of {f:FuncId} {args:List AV} {v:AV} (h:PC P G f args v) (hp:args.all AV.pure=true) (hk:RD P G rs (st.putd d v) acc K):CallD P G st f args d rs acc K:=⟨v,.inl ⟨hp,h⟩,hk⟩
theorem CallK.flat {f:FuncId} {args ys:List AV} {v:AV} (h:PC P G f ys v) (hf:v.flat=true) (hs:snapL (snap st) args=some ys) (hk:RW P G rs (st.putd d v) Kx):CallK P G st f args d rs Kx:=.inl ⟨v,.inr ⟨hf,ys,hs,h⟩,hk⟩
theorem CallK.pan {f:FuncId} {args ys:List AV} {ch:List PanicEntry} (h:PPC P G f ys ch) (hs:snapL (snap st) args=some ys) (hk:Kx (.panic ch) st):CallK P G st f args d rs Kx:=.inr (.inr ⟨ch,⟨ys,hs,h⟩,hk⟩)
theorem CallK.sem {f:FuncId} {args:List AV} {v:AV} {st1:St} (h:Z1B P G st f args v st1) (hk:RW P G rs (st1.putd d v) Kx):CallK P G st f args d rs Kx:=.inr (.inl ⟨v,st1,h,hk⟩)
theorem CallD.flat {f:FuncId} {args ys:List AV} {v:AV} (h:PC P G f ys v) (hf:v.flat=true) (hs:snapL (snap st) args=some ys) (hk:RD P G rs (st.putd d v) acc K):CallD P G st f args d rs acc K:=⟨v,.inr ⟨hf,ys,hs,h⟩,hk⟩
def thenW (P:Program) (G:Nat→Option (List AV)) (d:Option Nat) (rs:List ROper) (K:Exit→St→Prop):Option (AV×St)→Prop
 |some (x,st')=>RW P G rs (st'.putd d x) K
 |none=>False
def thenD (P:Program) (G:Nat→Option (List AV)) (d:Option Nat) (rs:List ROper) (acc:List Rec) (K:St→Prop):Option (AV×St)→Prop
 |some (x,st')=>RD P G rs (st'.putd d x) acc K
 |none=>False
def Z2O (P:Program) (G:Nat→Option (List AV)) (st:St) (f:FuncId) (args:List AV) (d:Option Nat) (rs:List ROper) (K:Exit→St→Prop):Prop :=
 (∃ v,CallR P G st f args v∧RW P G rs (st.putd d v) K)∨∃ sz rows,NewR P G st (d.getD 0) f args sz rows∧RW P G rs ((st.set (d.getD 0) (.row sz rows)).putd d (.osl (d.getD 0) rows.length)) K
def Z2P (P:Program) (G:Nat→Option (List AV)) (st:St) (f:FuncId) (args:List AV) (d:Option Nat) (rs:List ROper) (acc:List Rec) (K:St→Prop):Prop :=
 (∃ v,CallR P G st f args v∧RD P G rs (st.putd d v) acc K)∨∃ sz rows,NewR P G st (d.getD 0) f args sz rows∧RD P G rs ((st.set (d.getD 0) (.row sz rows)).putd d (.osl (d.getD 0) rows.length)) acc K
theorem Z2O.of {f:FuncId} {args:List AV} {v:AV} (h:PC P G f args v) (hp:args.all AV.pure=true) (hk:RW P G rs (st.putd d v) Kx):Z2O P G st f args d rs Kx:=.inl ⟨v,.inl ⟨hp,h⟩,hk⟩
theorem Z2P.of {f:FuncId} {args:List AV} {v:AV} (h:PC P G f args v) (hp:args.all AV.pure=true) (hk:RD P G rs (st.putd d v) acc K):Z2P P G st f args d rs acc K:=.inl ⟨v,.inl ⟨hp,h⟩,hk⟩
theorem Z2O.new {f:FuncId} {args:List AV} {sz:Nat} {rows:List (List AV)} (h:PN P G f args sz rows) (hp:args.all AV.pure=true) (hg:st.get (d.getD 0)=none) (hk:RW P G rs ((st.set (d.getD 0) (.row sz rows)).putd d (.osl (d.getD 0) rows.length)) Kx):Z2O P G st f args d rs Kx:=.inr ⟨sz,rows,⟨hg,hp,h⟩,hk⟩
theorem Z2P.new {f:FuncId} {args:List AV} {sz:Nat} {rows:List (List AV)} (h:PN P G f args sz rows) (hp:args.all AV.pure=true) (hg:st.get (d.getD 0)=none) (hk:RD P G rs ((st.set (d.getD 0) (.row sz rows)).putd d (.osl (d.getD 0) rows.length)) acc K):Z2P P G st f args d rs acc K:=.inr ⟨sz,rows,⟨hg,hp,h⟩,hk⟩
def Z2Q (P:Program) (G:Nat→Option (List AV)) (st:St) (f:AV) (args:List AV) (d:Option Nat) (rs:List ROper) (K:Exit→St→Prop):Prop:=match f with
 |.func (.func g) first caps=>CallK P G st g (first++args++caps) d rs K
 |_=>False
def Z2R (P:Program) (G:Nat→Option (List AV)) (st:St) (f:AV) (args:List AV) (d:Option Nat) (rs:List ROper) (acc:List Rec) (K:St→Prop):Prop:=match f with
 |.func (.func g) first caps=>CallD P G st g (first++args++caps) d rs acc K
 |_=>False
def execW (P:Program) (G:Nat→Option (List AV)) (op:ROp) (d:Option Nat) (rs:List ROper) (st:St) (K:Exit→St→Prop):Prop:=match op with
 |.call f args=>CallK P G st f (args.map (evA G st)) d rs K
 |.calln f args=>Z2O P G st f (args.map (evA G st)) d rs K
 |.callv f args=>Z2Q P G st (evA G st f) (args.map (evA G st)) d rs K
 |op=>thenW P G d rs K (rop G st (d.getD 0) op)
def execD (P:Program) (G:Nat→Option (List AV)) (op:ROp) (d:Option Nat) (rs:List ROper) (st:St) (acc:List Rec) (K:St→Prop):Prop:=match op with
 |.call f args=>CallD P G st f (args.map (evA G st)) d rs acc K
 |.calln f args=>Z2P P G st f (args.map (evA G st)) d rs acc K
 |.callv f args=>Z2R P G st (evA G st f) (args.map (evA G st)) d rs acc K
 |op=>thenD P G d rs acc K (rop G st (d.getD 0) op)
def Z2S (P:Program) (G:Nat→Option (List AV)) (w:Option Bool) (op:ROp) (d:Option Nat) (rs:List ROper) (st:St) (K:Exit→St→Prop):Prop:=match w with
 |none=>False
 |some w=>(w=false→RW P G rs (st.putd d .hole) K)∧(w=true→execW P G op d rs st K)
def Z2T (P:Program) (G:Nat→Option (List AV)) (w:Option Bool) (op:ROp) (d:Option Nat) (rs:List ROper) (st:St) (rc:Rec) (acc:List Rec) (K:St→Prop):Prop:=match w with
 |none=>False
 |some w=>(w=false→RD P G rs (st.putd d .hole) (rc::acc) K)∧(w=true→execD P G op d rs st (rc::acc) K)
theorem Z2U:RW P G [] st Kx=Kx .normal st:=rfl
theorem Z2V:RW P G (⟨d,op,g,aft⟩::rs) st Kx=Z2S P G (wants st g) op d rs st Kx:=by
 simp only [RW,Z2S]
 rcases wants st g with _|w
 · rfl
 · congr 1
theorem Z2W:Z2S P G (some true) op d rs st Kx=execW P G op d rs st Kx:=by simp [Z2S]
theorem Z2X:Z2S P G (some false) op d rs st Kx=RW P G rs (st.putd d .hole) Kx:=by simp [Z2S]
theorem Z2Y {f:FuncId} {args:List RA}:execW P G (.call f args) d rs st Kx=CallK P G st f (args.map (evA G st)) d rs Kx:=rfl
theorem Z2Z {f:FuncId} {args:List RA}:execW P G (.calln f args) d rs st Kx=Z2O P G st f (args.map (evA G st)) d rs Kx:=rfl
theorem Z30 {f:RA} {args:List RA}:execW P G (.callv f args) d rs st Kx=Z2Q P G st (evA G st f) (args.map (evA G st)) d rs Kx:=rfl
theorem Z31 {g0:FuncId} {first caps args:List AV}:Z2Q P G st (.func (.func g0) first caps) args d rs Kx=CallK P G st g0 (first++args++caps) d rs Kx:=rfl
theorem Z32 {x:AV} {st':St}:thenW P G d rs Kx (some (x,st'))=RW P G rs (st'.putd d x) Kx:=rfl
theorem Z33:RD P G [] st acc K=(Z2t acc.reverse=true∧K st):=rfl
theorem Z34:RD P G (⟨d,op,g,aft⟩::rs) st acc K=Z2T P G (wants st g) op d rs st (recOf G ⟨d,op,g,aft⟩ st) acc K:=by
 simp only [RD,Z2T]
 rcases wants st g with _|w
 · rfl
 · congr 1
theorem Z35 {rc:Rec}:Z2T P G (some true) op d rs st rc acc K=execD P G op d rs st (rc::acc) K:=by simp [Z2T]
theorem Z36 {rc:Rec}:Z2T P G (some false) op d rs st rc acc K=RD P G rs (st.putd d .hole) (rc::acc) K:=by simp [Z2T]
theorem Z37 {f:FuncId} {args:List RA}:execD P G (.call f args) d rs st acc K=CallD P G st f (args.map (evA G st)) d rs acc K:=rfl
theorem Z38 {f:FuncId} {args:List RA}:execD P G (.calln f args) d rs st acc K=Z2P P G st f (args.map (evA G st)) d rs acc K:=rfl
theorem Z39 {f:RA} {args:List RA}:execD P G (.callv f args) d rs st acc K=Z2R P G st (evA G st f) (args.map (evA G st)) d rs acc K:=rfl
theorem Z3a {g0:FuncId} {first caps args:List AV}:Z2R P G st (.func (.func g0) first caps) args d rs acc K=CallD P G st g0 (first++args++caps) d rs acc K:=rfl
theorem Z3b {x:AV} {st':St}:thenD P G d rs acc K (some (x,st'))=RD P G rs (st'.putd d x) acc K:=rfl
theorem Z3c {x_:RA}:execW P G (.mov x_) d rs st Kx=thenW P G d rs Kx (rop G st (d.getD 0) (.mov x_)):=rfl
theorem Z3d {x_:RA}:execD P G (.mov x_) d rs st acc K=thenD P G d rs acc K (rop G st (d.getD 0) (.mov x_)):=rfl
theorem Z3e {c_ a_ b_:RA}:execW P G (.pick c_ a_ b_) d rs st Kx=thenW P G d rs Kx (rop G st (d.getD 0) (.pick c_ a_ b_)):=rfl
theorem Z3f {c_ a_ b_:RA}:execD P G (.pick c_ a_ b_) d rs st acc K=thenD P G d rs acc K (rop G st (d.getD 0) (.pick c_ a_ b_)):=rfl
theorem Z3g {x_:RA}:execW P G (.nilck x_) d rs st Kx=thenW P G d rs Kx (rop G st (d.getD 0) (.nilck x_)):=rfl
theorem Z3h {x_:RA}:execD P G (.nilck x_) d rs st acc K=thenD P G d rs acc K (rop G st (d.getD 0) (.nilck x_)):=rfl
theorem Z3i {op_:BinOp} {x_ y_:RA}:execW P G (.bin op_ x_ y_) d rs st Kx=thenW P G d rs Kx (rop G st (d.getD 0) (.bin op_ x_ y_)):=rfl
theorem Z3j {op_:BinOp} {x_ y_:RA}:execD P G (.bin op_ x_ y_) d rs st acc K=thenD P G d rs acc K (rop G st (d.getD 0) (.bin op_ x_ y_)):=rfl
theorem Z3k {neg_:Bool} {ks_:List CK} {x_ y_:RA}:execW P G (.eqs neg_ ks_ x_ y_) d rs st Kx=thenW P G d rs Kx (rop G st (d.getD 0) (.eqs neg_ ks_ x_ y_)):=rfl
theorem Z3l {neg_:Bool} {ks_:List CK} {x_ y_:RA}:execD P G (.eqs neg_ ks_ x_ y_) d rs st acc K=thenD P G d rs acc K (rop G st (d.getD 0) (.eqs neg_ ks_ x_ y_)):=rfl
theorem Z3m {op_:UnOp} {x_:RA}:execW P G (.un op_ x_) d rs st Kx=thenW P G d rs Kx (rop G st (d.getD 0) (.un op_ x_)):=rfl
theorem Z3n {op_:UnOp} {x_:RA}:execD P G (.un op_ x_) d rs st acc K=thenD P G d rs acc K (rop G st (d.getD 0) (.un op_ x_)):=rfl
theorem Z3o {k_:IntKind} {x_:RA}:execW P G (.conv k_ x_) d rs st Kx=thenW P G d rs Kx (rop G st (d.getD 0) (.conv k_ x_)):=rfl
theorem Z3p {k_:IntKind} {x_:RA}:execD P G (.conv k_ x_) d rs st acc K=thenD P G d rs acc K (rop G st (d.getD 0) (.conv k_ x_)):=rfl
theorem Z3q {i_:Nat} {x_:RA}:execW P G (.ext i_ x_) d rs st Kx=thenW P G d rs Kx (rop G st (d.getD 0) (.ext i_ x_)):=rfl
theorem Z3r {i_:Nat} {x_:RA}:execD P G (.ext i_ x_) d rs st acc K=thenD P G d rs acc K (rop G st (d.getD 0) (.ext i_ x_)):=rfl
theorem Z3s {fn_:Fn} {first_ caps_:List RA}:execW P G (.mkf fn_ first_ caps_) d rs st Kx=thenW P G d rs Kx (rop G st (d.getD 0) (.mkf fn_ first_ caps_)):=rfl
theorem Z3t {fn_:Fn} {first_ caps_:List RA}:execD P G (.mkf fn_ first_ caps_) d rs st acc K=thenD P G d rs acc K (rop G st (d.getD 0) (.mkf fn_ first_ caps_)):=rfl
theorem Z3u {agg_:Bool} {off_ n_:Nat} {x_:RA}:execW P G (.field agg_ off_ n_ x_) d rs st Kx=thenW P G d rs Kx (rop G st (d.getD 0) (.field agg_ off_ n_ x_)):=rfl
theorem Z3v {agg_:Bool} {off_ n_:Nat} {x_:RA}:execD P G (.field agg_ off_ n_ x_) d rs st acc K=thenD P G d rs acc K (rop G st (d.getD 0) (.field agg_ off_ n_ x_)):=rfl
theorem Z3w {v_:VOp} {x_:List RA}:execW P G (.vop v_ x_) d rs st Kx=thenW P G d rs Kx (rop G st (d.getD 0) (.vop v_ x_)):=rfl
theorem Z3x {v_:VOp} {x_:List RA}:execD P G (.vop v_ x_) d rs st acc K=thenD P G d rs acc K (rop G st (d.getD 0) (.vop v_ x_)):=rfl
theorem Z3y {off_:Nat} {p_:RA}:execW P G (.faddr off_ p_) d rs st Kx=thenW P G d rs Kx (rop G st (d.getD 0) (.faddr off_ p_)):=rfl
theorem Z3z {off_:Nat} {p_:RA}:execD P G (.faddr off_ p_) d rs st acc K=thenD P G d rs acc K (rop G st (d.getD 0) (.faddr off_ p_)):=rfl
theorem Z3A {sz_:Nat} {s_ i_:RA}:execW P G (.iaddr sz_ s_ i_) d rs st Kx=thenW P G d rs Kx (rop G st (d.getD 0) (.iaddr sz_ s_ i_)):=rfl
theorem Z3B {sz_:Nat} {s_ i_:RA}:execD P G (.iaddr sz_ s_ i_) d rs st acc K=thenD P G d rs acc K (rop G st (d.getD 0) (.iaddr sz_ s_ i_)):=rfl
theorem Z3C {zero_:List AV} {parts_:List (Nat×Nat×RA)}:execW P G (.build zero_ parts_) d rs st Kx=thenW P G d rs Kx (rop G st (d.getD 0) (.build zero_ parts_)):=rfl
theorem Z3D {zero_:List AV} {parts_:List (Nat×Nat×RA)}:execD P G (.build zero_ parts_) d rs st acc K=thenD P G d rs acc K (rop G st (d.getD 0) (.build zero_ parts_)):=rfl
theorem Z3E {x_:RA}:execW P G (.len x_) d rs st Kx=thenW P G d rs Kx (rop G st (d.getD 0) (.len x_)):=rfl
theorem Z3F {x_:RA}:execD P G (.len x_) d rs st acc K=thenD P G d rs acc K (rop G st (d.getD 0) (.len x_)):=rfl
theorem Z3G {x_:RA}:execW P G (.slen x_) d rs st Kx=thenW P G d rs Kx (rop G st (d.getD 0) (.slen x_)):=rfl
theorem Z3H {x_:RA}:execD P G (.slen x_) d rs st acc K=thenD P G d rs acc K (rop G st (d.getD 0) (.slen x_)):=rfl
theorem Z3I {great_:Bool} {x_:RA} {r_:List RA}:execW P G (.mx great_ x_ r_) d rs st Kx=thenW P G d rs Kx (rop G st (d.getD 0) (.mx great_ x_ r_)):=rfl
theorem Z3J {great_:Bool} {x_:RA} {r_:List RA}:execD P G (.mx great_ x_ r_) d rs st acc K=thenD P G d rs acc K (rop G st (d.getD 0) (.mx great_ x_ r_)):=rfl
theorem Z3K {agg_:Bool} {n_:Nat} {p_:RA}:execW P G (.load agg_ n_ p_) d rs st Kx=thenW P G d rs Kx (rop G st (d.getD 0) (.load agg_ n_ p_)):=rfl
theorem Z3L {agg_:Bool} {n_:Nat} {p_:RA}:execD P G (.load agg_ n_ p_) d rs st acc K=thenD P G d rs acc K (rop G st (d.getD 0) (.load agg_ n_ p_)):=rfl
theorem Z3M {n_:Nat} {p_ v_:RA}:execW P G (.store n_ p_ v_) d rs st Kx=thenW P G d rs Kx (rop G st (d.getD 0) (.store n_ p_ v_)):=rfl
theorem Z3N {n_:Nat} {p_ v_:RA}:execD P G (.store n_ p_ v_) d rs st acc K=thenD P G d rs acc K (rop G st (d.getD 0) (.store n_ p_ v_)):=rfl
theorem Z3O {cells_:List AV}:execW P G (.alloc cells_) d rs st Kx=thenW P G d rs Kx (rop G st (d.getD 0) (.alloc cells_)):=rfl
theorem Z3P {cells_:List AV}:execD P G (.alloc cells_) d rs st acc K=thenD P G d rs acc K (rop G st (d.getD 0) (.alloc cells_)):=rfl
theorem Z3Q {x_:RA}:execW P G (.box x_) d rs st Kx=thenW P G d rs Kx (rop G st (d.getD 0) (.box x_)):=rfl
theorem Z3R {x_:RA}:execD P G (.box x_) d rs st acc K=thenD P G d rs acc K (rop G st (d.getD 0) (.box x_)):=rfl
theorem Z3S {own_:Bool} {sz_ len_:Nat} {zero_:List AV} {parts_:List (Nat×RA)}:execW P G (.bsl own_ sz_ len_ zero_ parts_) d rs st Kx=thenW P G d rs Kx (rop G st (d.getD 0) (.bsl own_ sz_ len_ zero_ parts_)):=rfl
theorem Z3T {own_:Bool} {sz_ len_:Nat} {zero_:List AV} {parts_:List (Nat×RA)}:execD P G (.bsl own_ sz_ len_ zero_ parts_) d rs st acc K=thenD P G d rs acc K (rop G st (d.getD 0) (.bsl own_ sz_ len_ zero_ parts_)):=rfl
theorem Z3U {sz_:Nat} {x_:RA} {lo_ hi_:Option RA}:execW P G (.slc sz_ x_ lo_ hi_) d rs st Kx=thenW P G d rs Kx (rop G st (d.getD 0) (.slc sz_ x_ lo_ hi_)):=rfl
theorem Z3V {sz_:Nat} {x_:RA} {lo_ hi_:Option RA}:execD P G (.slc sz_ x_ lo_ hi_) d rs st acc K=thenD P G d rs acc K (rop G st (d.getD 0) (.slc sz_ x_ lo_ hi_)):=rfl
theorem Z3W {x_:RA} {lo_ hi_:Option RA}:execW P G (.sslc x_ lo_ hi_) d rs st Kx=thenW P G d rs Kx (rop G st (d.getD 0) (.sslc x_ lo_ hi_)):=rfl
theorem Z3X {x_:RA} {lo_ hi_:Option RA}:execD P G (.sslc x_ lo_ hi_) d rs st acc K=thenD P G d rs acc K (rop G st (d.getD 0) (.sslc x_ lo_ hi_)):=rfl
theorem Z3Y {sz_ bytes_:Nat} {zero_:List AV} {n_:RA}:execW P G (.mksl sz_ bytes_ zero_ n_) d rs st Kx=thenW P G d rs Kx (rop G st (d.getD 0) (.mksl sz_ bytes_ zero_ n_)):=rfl
theorem Z3Z {sz_ bytes_:Nat} {zero_:List AV} {n_:RA}:execD P G (.mksl sz_ bytes_ zero_ n_) d rs st acc K=thenD P G d rs acc K (rop G st (d.getD 0) (.mksl sz_ bytes_ zero_ n_)):=rfl
theorem Z40 {sz_ bytes_:Nat} {s_ x_:RA}:execW P G (.app sz_ bytes_ s_ x_) d rs st Kx=thenW P G d rs Kx (rop G st (d.getD 0) (.app sz_ bytes_ s_ x_)):=rfl
theorem Z41 {sz_ bytes_:Nat} {s_ x_:RA}:execD P G (.app sz_ bytes_ s_ x_) d rs st acc K=thenD P G d rs acc K (rop G st (d.getD 0) (.app sz_ bytes_ s_ x_)):=rfl
theorem Z42:execW P G .mkmap d rs st Kx=thenW P G d rs Kx (rop G st (d.getD 0) .mkmap):=rfl
theorem Z43:execD P G .mkmap d rs st acc K=thenD P G d rs acc K (rop G st (d.getD 0) .mkmap):=rfl
theorem Z44 {kk_:KK} {zero_:AV} {ok_:Bool} {m_ k_:RA}:execW P G (.look kk_ zero_ ok_ m_ k_) d rs st Kx=thenW P G d rs Kx (rop G st (d.getD 0) (.look kk_ zero_ ok_ m_ k_)):=rfl
theorem Z45 {kk_:KK} {zero_:AV} {ok_:Bool} {m_ k_:RA}:execD P G (.look kk_ zero_ ok_ m_ k_) d rs st acc K=thenD P G d rs acc K (rop G st (d.getD 0) (.look kk_ zero_ ok_ m_ k_)):=rfl
theorem Z46 {kk_:KK} {m_ k_ v_:RA}:execW P G (.mupd kk_ m_ k_ v_) d rs st Kx=thenW P G d rs Kx (rop G st (d.getD 0) (.mupd kk_ m_ k_ v_)):=rfl
theorem Z47 {kk_:KK} {m_ k_ v_:RA}:execD P G (.mupd kk_ m_ k_ v_) d rs st acc K=thenD P G d rs acc K (rop G st (d.getD 0) (.mupd kk_ m_ k_ v_)):=rfl
theorem Z48 {kk_:KK} {m_ k_:RA}:execW P G (.mdel kk_ m_ k_) d rs st Kx=thenW P G d rs Kx (rop G st (d.getD 0) (.mdel kk_ m_ k_)):=rfl
theorem Z49 {kk_:KK} {m_ k_:RA}:execD P G (.mdel kk_ m_ k_) d rs st acc K=thenD P G d rs acc K (rop G st (d.getD 0) (.mdel kk_ m_ k_)):=rfl
theorem Z4a {m_:RA}:execW P G (.mlen m_) d rs st Kx=thenW P G d rs Kx (rop G st (d.getD 0) (.mlen m_)):=rfl
theorem Z4b {sz_:Nat} {zero_:List AV} {x_:RA}:execW P G (.clr sz_ zero_ x_) d rs st Kx=thenW P G d rs Kx (rop G st (d.getD 0) (.clr sz_ zero_ x_)):=rfl
theorem Z4c {sz_:Nat} {zero_:List AV} {x_:RA}:execD P G (.clr sz_ zero_ x_) d rs st acc K=thenD P G d rs acc K (rop G st (d.getD 0) (.clr sz_ zero_ x_)):=rfl
theorem Z4d {m_:RA}:execD P G (.mlen m_) d rs st acc K=thenD P G d rs acc K (rop G st (d.getD 0) (.mlen m_)):=rfl
def condK (P:Program) (R:Run) (c:AV) (n:Nat) (a b:RCode) (ks:List KF) (Φ:Exit→St→Prop) (st:St):Prop:=match c with
 |.bool t=>(t=true→GO P R n (.run a) ks Φ st)∧(t=false→GO P R n (.run b) ks Φ st)
 |.abool=>GO P R n (.run a) ks Φ st∧GO P R n (.run b) ks Φ st
 |_=>False
variable {n id:Nat} {ks:List KF} {Φ:Exit→St→Prop} {a b c0:RCode} {c:RA} {ops:List ROper} {e:Exit}
theorem Z4e:GO P R (n+1) (.run .skip) ks Φ st=GO P R n (.out .normal) ks Φ st:=rfl
theorem GO_rt:GO P R (n+1) (.run .ret) ks Φ st=GO P R n (.out .ret) ks Φ st:=rfl
theorem Z4f:GO P R (n+1) (.run (.exit id)) ks Φ st=GO P R n (.out (.exit id)) ks Φ st:=rfl
theorem Z4g:GO P R (n+1) (.run (.seq a b)) ks Φ st=GO P R n (.run a) (.sq b::ks) Φ st:=rfl
theorem Z4h:GO P R (n+1) (.run (.block id a)) ks Φ st=GO P R n (.run a) (.bk id::ks) Φ st:=rfl
theorem Z4i:GO P R (n+1) (.run (.cond c a b)) ks Φ st=condK P R (evA R.G st c) n a b ks Φ st:=by simp only [GO,condK]
theorem Z4j:condK P R .abool n a b ks Φ st=(GO P R n (.run a) ks Φ st∧GO P R n (.run b) ks Φ st):=rfl
theorem Z4k:condK P R (.bool true) n a b ks Φ st=GO P R n (.run a) ks Φ st:=by simp [condK]
theorem Z4l:condK P R (.bool false) n a b ks Φ st=GO P R n (.run b) ks Φ st:=by simp [condK]
def GOx (P:Program) (R:Run) (n:Nat) (ks:List KF) (Φ:Exit→St→Prop):Exit→St→Prop:=fun e st=>GO P R n (.out e) ks Φ st
theorem Z4m:GOx P R n ks Φ e st=GO P R n (.out e) ks Φ st:=rfl
theorem Z4n:GO P R (n+1) (.run (.reg id false ops)) ks Φ st=RW P R.G ops st (GOx P R n ks Φ):=rfl
theorem Z4o:GO P R (n+1) (.run (.reg id true ops)) ks Φ st=RD P R.G ops st [] (GO P R n (.out .normal) ks Φ):=rfl
theorem Z4p:GO P R (n+1) (.run (.loop c0)) ks Φ st=AR P R (.loop c0) st (RetP P R ks Φ):=rfl
theorem Z4q {p:Nat→Code→Bool}:GO P R (n+1) (.run (.raw p)) ks Φ st=AR P R (.raw p) st (RetP P R ks Φ):=rfl
theorem Z4r {g:RA} {ps:List Nat}:GO P R (n+1) (.run (.rngf g ps c0 b)) ks Φ st=AR P R (.rngf g ps c0 b) st (RetP P R ks Φ):=rfl
theorem Z4s:GO P R (n+1) (.out e) [] Φ st=Φ e st:=by cases e <;> rfl
theorem GO_sq:GO P R (n+1) (.out .normal) (.sq b::ks) Φ st=GO P R n (.run b) ks Φ st:=rfl
theorem Z4t:GO P R (n+1) (.out .ret) (.sq b::ks) Φ st=GO P R n (.out .ret) ks Φ st:=rfl
theorem Z4u:GO P R (n+1) (.run (.scope a)) ks Φ st=GO P R n (.run a) (.sc::ks) Φ st:=rfl
theorem Z4v:GO P R (n+1) (.run (.label id)) ks Φ st=GO P R n (.out .normal) ks Φ st:=rfl
theorem GO_sc:GO P R (n+1) (.out .normal) (.sc::ks) Φ st=GO P R n (.out .normal) ks Φ st:=rfl
theorem Z4w:GO P R (n+1) (.out .ret) (.sc::ks) Φ st=GO P R n (.out .ret) ks Φ st:=rfl
theorem Z4x {j:Nat}:GO P R (n+1) (.out (.exit j)) (.sc::ks) Φ st=GO P R n (.out (.exit j)) ks Φ st:=rfl
theorem Z4y {ch:List PanicEntry}:GO P R (n+1) (.out (.panic ch)) (.sc::ks) Φ st=GO P R n (.out (.panic ch)) ks Φ st:=rfl
theorem Z4z {ch:List PanicEntry}:GO P R (n+1) (.out (.panic ch)) (.sq b::ks) Φ st=GO P R n (.out (.panic ch)) ks Φ st:=rfl
theorem Z4A {ch:List PanicEntry}:GO P R (n+1) (.out (.panic ch)) (.bk id::ks) Φ st=GO P R n (.out (.panic ch)) ks Φ st:=rfl
theorem Z4B:GO P R (n+1) (.out (.exit id)) (.sq b::ks) Φ st=GO P R n (.out (.exit id)) ks Φ st:=rfl
theorem GO_bk:GO P R (n+1) (.out .normal) (.bk id::ks) Φ st=GO P R n (.out .normal) ks Φ st:=rfl
theorem Z4C:GO P R (n+1) (.out .ret) (.bk id::ks) Φ st=GO P R n (.out .ret) ks Φ st:=rfl
theorem Z4D {j:Nat}:GO P R (n+1) (.out (.exit j)) (.bk id::ks) Φ st=if j=id then GO P R n (.out .normal) ks Φ st else GO P R n (.out (.exit j)) ks Φ st:=rfl
end
attribute [simp] Z2U Z2V Z2W Z2X Z2Y Z2Z Z30 Z31 Z32 Z33 Z34 Z35 Z36 Z37 Z38 Z39 Z3a Z3b
 Z42 Z43 Z44 Z45 Z46 Z47 Z48 Z49 Z4a Z4d Z4b Z4c mapOf
 Z3c Z3d Z3e Z3f Z3g Z3h Z3i Z3j Z3k Z3l Z3m Z3n Z3o Z3p Z3q Z3r Z3s Z3t Z3u Z3v Z3w Z3x Z3y Z3z Z3A Z3B Z3C Z3D Z3E Z3F Z3G Z3H Z3I Z3J Z3K Z3L Z3M Z3N Z3O Z3P Z3Q Z3R Z3S Z3T Z3U Z3V Z3W Z3X Z3Y Z3Z Z40 Z41
 Z4u Z4v GO_sc Z4w Z4x Z4y Z4m Z4z Z4A Z4e GO_rt Z4f Z4g Z4h Z4i Z4k Z4l Z4j Z4n Z4o Z4p Z4r Z4q Z4s GO_sq Z4t Z4B GO_bk Z4C Z4D
 wants rop vopF evA aBin aUn aFill Z5 cut AV.cellsL AV.known AV.one Z4 Z8 eqL eq1 aMx aMxs Z9 aLen bnd St.tmp St.get St.put St.putd St.set lk putO Z2a iniT evRes Z29 snapL snap snapF okAll Z2e tupV Fin AV.pure AV.flat chunk
 recOf ROper.rt ROp.args RA.tm ftk wtk AV.keys
theorem Z4E {xs:List AV} {x:AV} (hx:x∈xs) {k:Nat} (hk:k∈x.keys):k∈xs.attach.flatMap (fun ⟨x,_⟩=>x.keys):=by
 simp only [List.mem_flatMap,List.mem_attach,true_and,Subtype.exists]
 exact ⟨x,hx,hk⟩
theorem VR.keep {E E':Env} {W:World} (hM:∀ b,¬E.M b→¬E'.M b) {x:AV} {v:Value} (h:VR E W x v):(∀ k∈x.keys,E'.loc k=E.loc k∧E'.row k=E.row k)→VR E' W x v:=by
 induction h with
 |pv h=>exact fun _=>.pv (h.mono (fun b _ hb=>⟨hM b hb,rfl⟩) (Nat.le_refl _))
 |undef v=>exact fun _=>.undef v
 | ptr k off b s h hr =>
   intro hk
   obtain ⟨h1,h2⟩:=hk k (by simp [AV.keys])
   exact .ptr k off b s (h1.trans h) (h2.trans hr)
 | eptr k n i off sz m p h hn he =>
   intro hk
   obtain ⟨h1,h2⟩:=hk k (by simp [AV.keys])
   exact .eptr k n i off sz m p (h2.trans h) hn (fun e=>by rw [h1];exact he e)
 | osl k n sz m a l c h hn he =>
   intro hk
   obtain ⟨h1,h2⟩:=hk k (by simp [AV.keys])
   exact .osl k n sz m a l c (h2.trans h) hn (fun e=>by rw [h1];exact he e)
 | oss k n lo hi sz m a l c h hn he =>
   intro hk
   obtain ⟨h1,h2⟩:=hk k (by simp [AV.keys])
   exact .oss k n lo hi sz m a l c (h2.trans h) hn (fun e=>by rw [h1];exact he e)
 | func fn xs ys us vs h1 h2 hx hy ihx ihy =>
   intro hk
   refine .func fn xs ys us vs h1 h2 (fun i x u hi hu=>ihx i x u hi hu fun k h=>hk k ?_) (fun i x u hi hu=>ihy i x u hi hu fun k h=>hk k ?_)
   · simp only [AV.keys,List.mem_append];exact .inl (Z4E (List.mem_of_getElem? hi) h)
   · simp only [AV.keys,List.mem_append];exact .inr (Z4E (List.mem_of_getElem? hi) h)
 | agg xs us h1 hx ih =>
   intro hk
   refine .agg xs us h1 (fun i x u hi hu=>ih i x u hi hu fun k h=>hk k ?_)
   simp only [AV.keys];exact Z4E (List.mem_of_getElem? hi) h
 | tup xs us h1 hx ih =>
   intro hk
   refine .tup xs us h1 (fun i x u hi hu=>ih i x u hi hu fun k h=>hk k ?_)
   simp only [AV.keys];exact Z4E (List.mem_of_getElem? hi) h
 | mp k b h hr =>
   intro hk
   obtain ⟨h1,h2⟩:=hk k (by simp [AV.keys])
   exact .mp k b (h1.trans h) (h2.trans hr)
def keptA (o':List (Nat×AObj)) (x:AV):Bool:=x.keys.all fun k=>(lk o' k).isSome
def keptO (o':List (Nat×AObj)):AObj→Bool
 |.box cells=>cells.all (keptA o')
 |.row _ rows=>rows.all fun r=>r.all (keptA o')
 |.mp kvs=>kvs.all fun p=>keptA o' p.1&&keptA o' p.2
theorem Z4F {α:Type} {l:List (Nat×α)} {n:Nat} {x:α} (h:lk l n=some x):(n,x)∈l:=by
 induction l with
 |nil=>simp [lk]at h
 | cons p l ih =>
   obtain ⟨m,y⟩:=p
   simp only [lk]at h
   split at h
   · rename_i e
     simp only [Option.some.injEq]at h
     subst h;subst e
     exact List.mem_cons_self ..
   · exact List.mem_cons_of_mem _ (ih h)
theorem Weak.sub {st:St} {t':List (Nat×AV)} {o':List (Nat×AObj)} (ht:∀ p∈t',lk st.t p.1=some p.2∧keptA o' p.2=true) (ho:∀ p∈o',lk st.o p.1=some p.2∧keptO o' p.2=true)
  (hbig:∀ p∈st.o,1000≤p.1→(lk o' p.1).isSome=true:=by simp [lk]):Weak st ⟨t',o'⟩:=by
 rintro R a W ⟨κ,h⟩
 let κ':Nat→Option (Nat×Nat):=fun k=>if (lk o' k).isSome then κ k else none
 have hobj:∀ k o,lk o' k=some o→lk st.o k=some o:=fun k o hk=>(ho (k,o) (Z4F hk)).1
 have hκ:∀ k p,κ' k=some p→κ k=some p:=fun k p hk=>by
  simp only [κ']at hk
  split at hk
  · exact hk
  · cases hk
 have hM:∀ b,¬(st.env R.M κ).M b→¬((⟨t',o'⟩ : St).env R.M κ').M b:=fun b hb hb'=>by
  rcases hb' with hb' | ⟨k,s,hk⟩
  · exact hb (.inl hb')
  · exact hb (.inr ⟨k,s,hκ k _ hk⟩)
 have hkp:∀ x,keptA o' x=true→∀ k∈x.keys,((⟨t',o'⟩ : St).env R.M κ').loc k=(st.env R.M κ).loc k∧((⟨t',o'⟩ : St).env R.M κ').row k=(st.env R.M κ).row k:=fun x hx k hk=>by
  have h1:(lk o' k).isSome=true:=List.all_eq_true.1 hx k hk
  obtain ⟨o,h2⟩:=Option.isSome_iff_exists.1 h1
  refine ⟨by simp only [St.env,κ',h1,if_true],?_⟩
  simp only [St.env,St.get,h2,hobj k o h2]
 have hv:∀ {x:AV} {v:Value},VR (st.env R.M κ) W x v→keptA o' x=true→VR ((⟨t',o'⟩ : St).env R.M κ') W x v:=fun h1 h2=>h1.keep hM (hkp _ h2)
 refine ⟨κ',⟨h.defers,h.size,?_,?_,?_,?_,h.low,h.apart,h.kp,?_,?_,?_⟩⟩
 · intro n x hn
   obtain ⟨h1,h2⟩:=ht (n,x) (Z4F hn)
   exact hv (h.tm n x h1) h2
 · intro k o hk
   obtain ⟨h1,h2⟩:=ho (k,o) (Z4F hk)
   obtain ⟨b,s,h3,h4,h5,h6⟩:=h.obj k o h1
   refine ⟨b,s,by simp only [κ'];rw [show lk o' k=some o from hk];exact h3,h4,h5,?_⟩
   cases o with
   | box cells =>
     obtain ⟨g0,cs,t,g1,g2,g3⟩:=h6
     refine ⟨g0,cs,t,g1,g2,fun j x hj=>?_⟩
     obtain ⟨v,g4,g5⟩:=g3 j x hj
     exact ⟨v,g4,hv g5 (List.all_eq_true.1 h2 x (List.mem_of_getElem? hj))⟩
   | row sz rows =>
     obtain ⟨g0,cs,t,g1,g2,g3⟩:=h6
     refine ⟨g0,cs,t,g1,g2,fun i j r x hi hj=>?_⟩
     obtain ⟨v,g4,g5⟩:=g3 i j r x hi hj
     exact ⟨v,g4,hv g5 (List.all_eq_true.1 (List.all_eq_true.1 h2 r (List.mem_of_getElem? hi)) x (List.mem_of_getElem? hj))⟩
   | mp kvs =>
     obtain ⟨g0,es,t,g1,g2,g3,g4⟩:=h6
     refine ⟨g0,es,t,g1,g2,g3,fun i x y hi=>?_⟩
     obtain ⟨e,g5,g6,g7⟩:=g4 i x y hi
     have:=List.all_eq_true.1 h2 (x,y) (List.mem_of_getElem? hi)
     simp only [Bool.and_eq_true]at this
     exact ⟨e,g5,hv g6 this.1,hv g7 this.2⟩
 · intro k p hk
   have h1:(lk o' k).isSome=true:=by
    simp only [κ']at hk
    split at hk
    · assumption
    · cases hk
   exact Option.isSome_iff_exists.1 h1
 · intro k k' b s s' h1 h2
   exact h.inj k k' b s s' (hκ _ _ h1) (hκ _ _ h2)
 · exact h.gr.mono (fun b _ hb=>⟨hM b hb,rfl⟩) (Nat.le_refl _)
 · have big:∀ k p,κ k=some p→1000≤k→(lk o' k).isSome=true:=fun k p hk h1=>by
    obtain ⟨o,ho'⟩:=h.dom k p hk
    exact hbig (k,o) (Z4F ho') h1
   have get:∀ k q,(st.env R.M κ).row k=some q→1000≤k→(lk o' k).isSome=true:=fun k q hk h1=>by
    simp only [St.env,Option.bind_eq_some_iff]at hk
    obtain ⟨o,ho',-⟩:=hk
    exact hbig (k,o) (Z4F ho') h1
   have row:∀ k,(lk o' k).isSome=true→((⟨t',o'⟩ : St).env R.M κ').row k=(st.env R.M κ).row k:=fun k h1=>by
    obtain ⟨o,h2⟩:=Option.isSome_iff_exists.1 h1
    simp only [St.env,St.get,h2,hobj k o h2]
   have ge:∀ k,(∃ p,R.E0.loc k=some p)∨(∃ p,R.E0.row k=some p)→1000≤k:=fun k hk=>by
    rcases Nat.lt_or_ge k 1000 with h1|h1
    · obtain ⟨h2,h3⟩:=h.ent k h1
      rcases hk with ⟨p,hk⟩ | ⟨p,hk⟩
      · rw [h2]at hk;cases hk
      · rw [h3]at hk;cases hk
    · exact h1
   refine ⟨h.mono.size,fun b hb hb0=>⟨hM b (h.mono.imm b hb hb0).1,(h.mono.imm b hb hb0).2⟩,fun k p hk hr=>?_,fun k sz m hk=>?_⟩
   · obtain ⟨h1,h2⟩:=h.mono.box k p hk hr
     have h3:=big k p h1 (ge k (.inl ⟨p,hk⟩))
     exact ⟨by simp only [St.env,κ',h3,if_true];exact h1,(row k h3).trans h2⟩
   · obtain ⟨m',h1,h2,h3⟩:=h.mono.row k sz m hk
     have h4:=get k _ h1 (ge k (.inr ⟨_,hk⟩))
     refine ⟨m',(row k h4).trans h1,h2,fun e b s cs t hl=>?_⟩
     obtain ⟨h5,h6⟩:=h3 e b s cs t hl
     exact ⟨by simp only [St.env,κ',h4,if_true];exact h5,h6⟩
 · exact h.ent
def frz (ok:Nat→Bool) (st:St):Nat→AV→Option AV
 | n+1,.func fn xs ys=>match snapL (frz ok st n) xs,snapL (frz ok st n) ys with
   |some a,some b=>some (.func fn a b)
   |_,_=>none
 |n+1,.agg xs=>(snapL (frz ok st n) xs).map .agg
 |n+1,.tup xs=>(snapL (frz ok st n) xs).map .tup
 |n+1,.osl k m=>if ok k=true then snapF ok st (n+1) (.osl k m) else some (.osl k m)
 |n+1,.oss k m lo hi=>if ok k=true then snapF ok st (n+1) (.oss k m lo hi) else some (.oss k m lo hi)
 |n+1,.ptr k off=>if ok k=true then snapF ok st (n+1) (.ptr k off) else some (.ptr k off)
 |n+1,.mp k=>if ok k=true then snapF ok st (n+1) (.mp k) else some (.mp k)
 |_,x=>if x.keys.all (fun k=>!ok k)=true then some x else none
def frzA (ok:Nat→Bool) (st:St) (x:AV):AV:=(frz ok st 6 x).getD .undef
def frzO (ok:Nat→Bool) (st:St):AObj→AObj
 |.box cells=>.box (cells.map (frzA ok st))
 |.row sz rows=>.row sz (rows.map fun r=>r.map (frzA ok st))
 |.mp kvs=>.mp (kvs.map fun p=>(frzA ok st p.1,frzA ok st p.2))
def frzSt (ok:Nat→Bool) (st:St):St:=⟨st.t.map fun p=>(p.1,frzA ok st p.2),(st.o.filter fun p=>!ok p.1).map fun p=>(p.1,frzO ok st p.2)⟩
theorem Z4G {α β:Type} {f:α→β} {l:List (Nat×α)} {n:Nat}:lk (l.map fun p=>(p.1,f p.2)) n=(lk l n).map f:=by
 induction l with
 |nil=>rfl
 | cons p l ih =>
   obtain ⟨m,y⟩:=p
   simp only [List.map_cons,lk]
   split
   · rfl
   · exact ih
theorem Z4H {α:Type} {ok:Nat→Bool} {l:List (Nat×α)} {n:Nat}:lk (l.filter fun p=>!ok p.1) n=if ok n=true then none else lk l n:=by
 induction l with
 |nil=>simp [lk]
 | cons p l ih =>
   obtain ⟨m,y⟩:=p
   rw [List.filter_cons]
   by_cases h:ok m=true
   · simp only [h,Bool.not_true,Bool.false_eq_true,if_false,ih,lk]
     by_cases e:m=n
     · subst e;simp [h]
     · simp [e]
   · simp only [h,Bool.not_false,if_true,lk,ih]
     by_cases e:m=n
     · subst e;simp [h]
     · simp [e]
theorem Weak.frz (ok:Nat→Bool) (st:St) (hok:∀ k,1000≤k→ok k=false:=by intro k hk;simp;omega):Weak st (frzSt ok st):=by
 rintro R a W ⟨κ,h⟩
 let κ':Nat→Option (Nat×Nat):=fun k=>if ok k=true then none else κ k
 have hget:∀ k,(frzSt ok st).get k=if ok k=true then none else (st.get k).map (frzO ok st):=fun k=>by
  simp only [frzSt,St.get,Z4G,Z4H]
  split <;> rfl
 have hκ:∀ k p,κ' k=some p→κ k=some p∧ok k=false:=fun k p hk=>by
  simp only [κ']at hk
  split at hk
  · cases hk
  · rename_i e;exact ⟨hk,by simpa using e⟩
 have hdim:∀ o:AObj,(frzO ok st o).dim=o.dim:=fun o=>by cases o <;> simp [frzO,AObj.dim]
 have hM':∀ b,((frzSt ok st).env R.M κ').M b→(st.env R.M κ).M b:=fun b hb=>by
  rcases hb with hb | ⟨k,s,hk⟩
  · exact .inl hb
  · exact .inr ⟨k,s,(hκ k _ hk).1⟩
 have hN:∀ k b s,κ k=some (b,s)→ok k=true→¬((frzSt ok st).env R.M κ').M b:=fun k b s hk hok hM=>by
  rcases hM with hM | ⟨k2,s2,hk2⟩
  · obtain ⟨o,ho⟩:=h.dom k _ hk
    obtain ⟨b',s',h1,h2,h3,-⟩:=h.obj k o ho
    rw [hk]at h1
    simp only [Option.some.injEq,Prod.mk.injEq]at h1
    obtain ⟨rfl,rfl⟩:=h1
    rcases h3 with h3|h3
    · have:=h.low b hM;omega
    · exact h.apart b hM h3
  · obtain ⟨g1,g2⟩:=hκ k2 _ hk2
    have:=h.inj k k2 b s s2 hk g1
    subst this
    rw [hok]at g2;cases g2
 have keep:∀ {x:AV} {v:Value},VR (st.env R.M κ) W x v→(∀ k∈x.keys,ok k=false)→VR ((frzSt ok st).env R.M κ') W x v:=fun hx hk =>
  hx.keep (fun b hb hb'=>hb (hM' b hb')) fun k hk'=>by
   have e:=hk k hk'
   refine ⟨by simp [St.env,κ',e],?_⟩
   simp only [St.env,hget,e,Bool.false_eq_true,if_false]
   cases st.get k with
   |none=>rfl
   |some o=>exact hdim o
 have leaf:∀ {x y:AV} {v:Value},VR (st.env R.M κ) W x v→(if x.keys.all (fun k=>!ok k)=true then some x else none)=some y→VR ((frzSt ok st).env R.M κ') W y v:=fun {x y v} hx hs=>by
  split at hs <;> simp only [Option.some.injEq,reduceCtorEq]at hs
  rename_i hp
  subst hs
  exact keep hx fun k hk=>by simpa using List.all_eq_true.1 hp k hk
 have fz:∀ (n:Nat) {x y:AV} {v:Value},VR (st.env R.M κ) W x v→Go.Proofs.YtpkfmfkccbnnjaaGreatDoor.frz ok st n x=some y→VR ((frzSt ok st).env R.M κ') W y v:=by
  intro n
  induction n with
  |zero=>intro x y v hx hs;cases x <;> exact leaf hx (by simpa only [Go.Proofs.YtpkfmfkccbnnjaaGreatDoor.frz] using hs)
  | succ n ih =>
    intro x y v hx hs
    cases x
    case func fn xs ys =>
     simp only [Go.Proofs.YtpkfmfkccbnnjaaGreatDoor.frz]at hs
     split at hs <;> simp only [Option.some.injEq,reduceCtorEq]at hs
     rename_i a1 b1 e1 e2
     subst hs
     obtain ⟨us,vs,rfl,h1,h2⟩:=hx.func_inv
     obtain ⟨g1,g2⟩:=Z1R e1
     obtain ⟨g3,g4⟩:=Z1R e2
     refine .func _ a1 b1 us vs (by have:=h1.1;simp at this;omega) (by have:=h2.1;simp at this;omega) (fun i x u hi hu=>?_) (fun i x u hi hu=>?_)
     · obtain ⟨x',h3,h4⟩:=g2 i x hi
       exact ih (h1.2 i x' u h3 (by simpa using hu)) h4
     · obtain ⟨x',h3,h4⟩:=g4 i x hi
       exact ih (h2.2 i x' u h3 (by simpa using hu)) h4
    case agg xs =>
     simp only [Go.Proofs.YtpkfmfkccbnnjaaGreatDoor.frz,Option.map_eq_some_iff]at hs
     obtain ⟨a1,e1,rfl⟩:=hs
     obtain ⟨us,rfl,h1⟩:=hx.agg_inv
     obtain ⟨g1,g2⟩:=Z1R e1
     refine .agg a1 us (by have:=h1.1;simp at this;omega) (fun i x u hi hu=>?_)
     obtain ⟨x',h3,h4⟩:=g2 i x hi
     exact ih (h1.2 i x' u h3 (by simpa using hu)) h4
    case tup xs =>
     simp only [Go.Proofs.YtpkfmfkccbnnjaaGreatDoor.frz,Option.map_eq_some_iff]at hs
     obtain ⟨a1,e1,rfl⟩:=hs
     obtain ⟨us,rfl,h1⟩:=hx.tup_inv
     obtain ⟨g1,g2⟩:=Z1R e1
     refine .tup a1 us (by have:=h1.1;simp at this;omega) (fun i x u hi hu=>?_)
     obtain ⟨x',h3,h4⟩:=g2 i x hi
     exact ih (h1.2 i x' u h3 (by simpa using hu)) h4
    case osl k m =>
     simp only [Go.Proofs.YtpkfmfkccbnnjaaGreatDoor.frz]at hs
     split at hs
     · exact .pv (Z1S h hM' hN _ hx hs)
     · rename_i e
       simp only [Option.some.injEq]at hs
       subst hs
       exact keep hx fun k' hk'=>by simp only [AV.keys,List.mem_singleton]at hk';subst hk';simpa using e
    case oss k m lo hi =>
     simp only [Go.Proofs.YtpkfmfkccbnnjaaGreatDoor.frz]at hs
     split at hs
     · exact .pv (Z1S h hM' hN _ hx hs)
     · rename_i e
       simp only [Option.some.injEq]at hs
       subst hs
       exact keep hx fun k' hk'=>by simp only [AV.keys,List.mem_singleton]at hk';subst hk';simpa using e
    case ptr k off =>
     simp only [Go.Proofs.YtpkfmfkccbnnjaaGreatDoor.frz]at hs
     split at hs
     · exact .pv (Z1S h hM' hN _ hx hs)
     · rename_i e
       simp only [Option.some.injEq]at hs
       subst hs
       exact keep hx fun k' hk'=>by simp only [AV.keys,List.mem_singleton]at hk';subst hk';simpa using e
    case mp k =>
     simp only [Go.Proofs.YtpkfmfkccbnnjaaGreatDoor.frz]at hs
     split at hs
     · exact .pv (Z1S h hM' hN _ hx hs)
     · rename_i e
       simp only [Option.some.injEq]at hs
       subst hs
       exact keep hx fun k' hk'=>by simp only [AV.keys,List.mem_singleton]at hk';subst hk';simpa using e
    all_goals exact leaf hx (by simpa only [Go.Proofs.YtpkfmfkccbnnjaaGreatDoor.frz] using hs)
 have fzA:∀ {x:AV} {v:Value},VR (st.env R.M κ) W x v→VR ((frzSt ok st).env R.M κ') W (frzA ok st x) v:=fun {x v} hx=>by
  unfold frzA
  cases e:Go.Proofs.YtpkfmfkccbnnjaaGreatDoor.frz ok st 6 x with
  |none=>exact .undef v
  |some y=>exact fz 6 hx e
 refine ⟨κ',⟨h.defers,h.size,?_,?_,?_,?_,h.low,h.apart,h.kp,?_,?_,?_⟩⟩
 · intro n x hn
   simp only [frzSt,St.tmp,Z4G,Option.map_eq_some_iff]at hn
   obtain ⟨x0,h1,rfl⟩:=hn
   exact fzA (h.tm n x0 h1)
 · intro k o hk
   rw [hget]at hk
   split at hk
   · cases hk
   · rename_i e
     simp only [Option.map_eq_some_iff]at hk
     obtain ⟨o0,h1,rfl⟩:=hk
     obtain ⟨b,s,h3,h4,h5,h6⟩:=h.obj k o0 h1
     refine ⟨b,s,by simp only [κ',e,Bool.false_eq_true,if_false];exact h3,h4,h5,?_⟩
     cases o0 with
     | box cells =>
       obtain ⟨g0,cs,t,g1,g2,g3⟩:=h6
       refine ⟨g0,cs,t,g1,by simpa [frzO] using g2,fun j x hj=>?_⟩
       simp only [frzO,List.getElem?_map,Option.map_eq_some_iff]at hj
       obtain ⟨x0,h7,rfl⟩:=hj
       obtain ⟨v,g4,g5⟩:=g3 j x0 h7
       exact ⟨v,g4,fzA g5⟩
     | row sz rows =>
       obtain ⟨g0,cs,t,g1,g2,g3⟩:=h6
       refine ⟨fun r hr=>?_,cs,t,g1,by simpa [frzO] using g2,fun i j r x hi hj=>?_⟩
       · simp only [frzO,List.mem_map]at hr
         obtain ⟨r0,h7,rfl⟩:=hr
         simpa using g0 r0 h7
       · simp only [frzO,List.getElem?_map,Option.map_eq_some_iff]at hi
         obtain ⟨r0,h7,rfl⟩:=hi
         simp only [List.getElem?_map,Option.map_eq_some_iff]at hj
         obtain ⟨x0,h8,rfl⟩:=hj
         obtain ⟨v,g4,g5⟩:=g3 i j r0 x0 h7 h8
         exact ⟨v,g4,fzA g5⟩
     | mp kvs =>
       obtain ⟨g0,es,t,g1,g2,g3,g4⟩:=h6
       refine ⟨g0,es,t,g1,g2,by simpa [frzO] using g3,fun i x y hi=>?_⟩
       simp only [frzO,List.getElem?_map,Option.map_eq_some_iff,Prod.mk.injEq]at hi
       obtain ⟨p,h7,rfl,rfl⟩:=hi
       obtain ⟨e,g5,g6,g7⟩:=g4 i p.1 p.2 h7
       exact ⟨e,g5,fzA g6,fzA g7⟩
 · intro k p hk
   obtain ⟨g1,g2⟩:=hκ k p hk
   obtain ⟨o,ho⟩:=h.dom k p g1
   exact ⟨_,by rw [hget,g2,ho];rfl⟩
 · intro k k' b s s' h1 h2
   exact h.inj k k' b s s' (hκ _ _ h1).1 (hκ _ _ h2).1
 · exact h.gr.mono (fun b _ hb=>⟨fun hb'=>hb (hM' b hb'),rfl⟩) (Nat.le_refl _)
 · have ge:∀ k,(∃ p,R.E0.loc k=some p)∨(∃ p,R.E0.row k=some p)→ok k=false:=fun k hk=>by
    rcases Nat.lt_or_ge k 1000 with h1|h1
    · obtain ⟨h2,h3⟩:=h.ent k h1
      rcases hk with ⟨p,hk⟩ | ⟨p,hk⟩
      · rw [h2]at hk;cases hk
      · rw [h3]at hk;cases hk
    · exact hok k h1
   have row:∀ k,ok k=false→((frzSt ok st).env R.M κ').row k=(st.env R.M κ).row k:=fun k e=>by
    simp only [St.env,hget,e,Bool.false_eq_true,if_false]
    cases st.get k with
    |none=>rfl
    |some o=>exact hdim o
   refine ⟨h.mono.size,fun b hb hb0=>⟨fun hb'=>(h.mono.imm b hb hb0).1 (hM' b hb'),(h.mono.imm b hb hb0).2⟩,fun k p hk hr=>?_,fun k sz m hk=>?_⟩
   · obtain ⟨h1,h2⟩:=h.mono.box k p hk hr
     have h3:=ge k (.inl ⟨p,hk⟩)
     exact ⟨by simp only [St.env,κ',h3,Bool.false_eq_true,if_false];exact h1,(row k h3).trans h2⟩
   · obtain ⟨m',h1,h2,h3⟩:=h.mono.row k sz m hk
     have h4:=ge k (.inr ⟨_,hk⟩)
     refine ⟨m',(row k h4).trans h1,h2,fun e b s cs t hl=>?_⟩
     obtain ⟨h5,h6⟩:=h3 e b s cs t hl
     exact ⟨by simp only [St.env,κ',h4,Bool.false_eq_true,if_false];exact h5,h6⟩
 · exact h.ent
theorem Z4I {α:Type} {S:α→St} {I:α→Prop} {μ:α→Nat} {x:α} {Φ:Exit→St→Prop} {st:St}:Rnd S I μ x Φ .ret st=Φ .ret st:=rfl
theorem Z4J {α:Type} {S:α→St} {I:α→Prop} {μ:α→Nat} {x:α} {Φ:Exit→St→Prop} {st:St} {j:Nat}:Rnd S I μ x Φ (.exit j) st=Φ (.exit j) st:=rfl
attribute [simp] Z4I Z4J
theorem Weak.tm {st:St} {t':List (Nat×AV)} (h:∀ p∈t',lk st.t p.1=some p.2):Weak st { st with t:=t' } :=
 Weak.tmps fun _ _ hx=>h _ (Z4F hx)
theorem Weak.of {st:St} {t':List (Nat×AV)} {o':List (Nat×AObj)} (ho:st.o=o') (h:∀ p∈t',lk st.t p.1=some p.2):Weak st ⟨t',o'⟩:=by
 subst ho;exact Weak.tm h
theorem Wkl {α:Type}:(∀ (Q:α→Prop) (x:α) (l:List α),(∀ p∈x::l,Q p)↔(Q x∧∀ p∈l,Q p))∧(∀ Q:α→Prop,(∀ p∈([]:List α),Q p)↔True)∧(∀ (a:α) (s t:List α),(a::s)++t=a::(s++t))∧∀ s:List α,[]++s=s :=
 ⟨fun _ _ _=>List.forall_mem_cons,fun _=>by simp,fun _ _ _=>rfl,fun _=>rfl⟩
end Go.Proofs.YtpkfmfkccbnnjaaGreatDoor

/-! The abstract machine: functions that change what they are handed (contracts by reference). -/
namespace Go.Proofs.YtpkfmfkccbnnjaaGreatDoor
open Go.RowKit
section
variable {P:Program}
def obSt (objs:List (Nat×AObj)):St:=⟨[],objs⟩
def noAct:Act:={ tmps:=#[],defers:=[] }
def PB (P:Program) (G:Nat→Option (List AV)) (f:FuncId) (objs:List (Nat×AObj)) (args:List AV) (r:AV) (objs':List (Nat×AObj)):Prop :=
 entB P f=true∧∀ (R:Run) (W:World) (κ:Nat→Option (Nat×Nat)) (vs:Array Value),R.G=G→R.N=0→R.W0=W→R.X=(fun b=>∃ k s,κ k=some (b,s))→R.E0=(obSt objs).env R.M κ →
  SK R (obSt objs) noAct W κ→vs.size=args.length→(∀ (i:Nat) (x:AV) (u:Value),args[i]? = some x→vs[i]? = some u→VR ((obSt objs).env R.M κ) W x u) →
  Calls P f vs W fun e W'=>∃ v κ',e = .returned v∧SK R (obSt objs') noAct W' κ'∧VR ((obSt objs').env R.M κ') W' r v
def newK:Nat→Bool:=fun k=>decide (k<1000)
def FinB (rs:List RRes) (r:AV) (objs':List (Nat×AObj)):Exit→St→Prop
 |.normal,st | .ret,st=>∃ xs,Z29 (frzSt newK st) rs=some xs∧r=tupV xs∧(frzSt newK st).o=objs'
 |_,_=>False
theorem PB_of {G:Nat→Option (List AV)} {f:FuncId} {fn:Func} {c:Code} {rc:RCode} {rs:List RRes} {objs objs':List (Nat×AObj)} {args:List AV} {r:AV} (hf:P.funcs[f]? = some fn) (hb:fn.body=some c) (he:entB P f=true)
  (hc:Z1A P fn.ntmps c rc=true) (hrs:allB2 (okRes P) fn.results.toList rs=true) (hn:args.length≤fn.ntmps)
  (h:∀ R:Run,R.N=fn.ntmps→R.G=G→R.Top→AR P R rc ⟨iniT 0 args,objs⟩ (FinB rs r objs')):PB P G f objs args r objs':=by
 refine ⟨he,fun R0 W κ vs hG hN hW hX hE hk hsz hvs=>?_⟩
 refine callsIn_wide.1 (callsIn_of_wp_marks (F:=FW none) (n:=1) hf hb trivial ?_)
 let R:Run:={ R0 with N:=fn.ntmps,rd:=none,nm:=false }
 have hD0:R0.D=[]:=by
  obtain ⟨cs,e,-⟩:=hk.defers
  exact (List.append_eq_nil_iff.1 e.symm).2
 have h0:SK R ⟨iniT 0 args,objs⟩ { tmps:=vs++Array.replicate (fn.ntmps-vs.size) Go.undef,defers:=[] } W κ:=by
  refine ⟨hk.defers.weak,by show (vs++_).size=fn.ntmps;simp;omega,fun n x hx=>?_,hk.obj,hk.dom,hk.inj,hk.low,hk.apart,hk.kp,hk.gr,hk.mono,hk.ent⟩
  simp only [St.tmp,Z2b,Nat.zero_le,if_true,Nat.sub_zero]at hx
  show VR _ W x ((vs++Array.replicate (fn.ntmps-vs.size) Go.undef).getD n Go.undef)
  rw [Array.getD_eq_getD_getElem?,Array.getElem?_append]
  have c1:n<args.length:=(List.getElem?_eq_some_iff.1 hx).1
  rw [if_pos (by omega)]
  have:vs[n]? = some vs[n]:=by simp
  rw [this]
  exact hvs n x _ hx this
 refine wpIn_mono (h R rfl hG ⟨rfl,rfl⟩ c hc 1 _ W ⟨_,h0⟩) ?_
 have key:∀ (a':Act) (W':World) (st':St),(∃ xs,Z29 (frzSt newK st') rs=some xs∧r=tupV xs∧(frzSt newK st').o=objs')→SR R st' a' W' →
   ∃ u,(results fn a'.tmps).run P W' = .ok u W'∧∃ v κ',Ending.returned u = .returned v∧SK R0 (obSt objs') noAct W' κ'∧VR ((obSt objs').env R0.M κ') W' r v:=by
  rintro a' W' st' ⟨xs,h1,rfl,h3⟩ hs
  obtain ⟨κ',hk'⟩:=Weak.frz newK st' (fun k hk=>by simp [newK];omega) R a' W' hs
  obtain ⟨us,h4,h5⟩:=Z2d (P:=P) hk' hrs h1
  have henv:(frzSt newK st').env R.M κ'=(obSt objs').env R0.M κ':=by subst h3;rfl
  have hl:us.length=xs.length:=by have:=h5.1;omega
  refine ⟨(if h:us.toArray.size=1 then us.toArray[0] else .tuple us.toArray),?_,_,κ',rfl,?_,?_⟩
  · unfold results
    rw [Sem.run_bind]
    have:(fn.results.mapM fun rv=>(match rv with
     |.tmp t=>pure (a'.tmps.getD t Go.undef)
     |.cell p t=>do loadVar t (← asAddr (a'.tmps.getD p Go.undef)):Sem Value)).run P W' = .ok us.toArray W':=by
     rw [Array.mapM_eq_mapM_toList,Sem.run_map]
     exact congrArg (fun z=>Result.andThen z (fun a w'=>Result.ok a.toArray w')) h4
    erw [this]
    rfl
  · have g:=hk'.sub (t':=[]) (fun n x hx=>by simp [lk]at hx)
    have e:({ frzSt newK st' with t:=[] }:St)=obSt objs':=by subst h3;rfl
    rw [e]at g
    exact ⟨by rw [hD0];exact .nil _ _ _ _,by show (#[]:Array Value).size=R0.N;rw [hN];rfl,fun n x hx=>by simp [obSt,St.tmp,lk]at hx,g.obj,g.dom,g.inj,g.low,g.apart,g.kp,g.gr,g.mono,g.ent⟩
  · rw [← henv]
    match xs,us,hl,h5 with
    |[],[],_,_=>exact .tup [] _ rfl (by simp)
    |[y],[u],_,h5=>exact h5.2 0 y u rfl rfl
    | y::y2::ys,u::u2::us,hl,h5 =>
      rw [dif_neg (by simp)]
      exact .tup _ _ (by simpa using hl) (fun i x w hx hw=>h5.2 i x w hx (by simpa using hw))
 rintro e a' W' ⟨st',h1,κ2,h2⟩
 cases e <;> try (exact h1.elim)
 all_goals
  refine h2.leave (by simp) (show R.D=[] from hD0) fun a2 W2 ht hs2=>?_
  have:=key a2 W2 st' h1 ⟨κ2,hs2⟩
  rw [ht]at this
  exact this
end
def AV.ren (ρ:Nat→Nat):AV→AV
 |.ptr k off=>.ptr (ρ k) off
 |.eptr k n i off=>.eptr (ρ k) n i off
 |.osl k n=>.osl (ρ k) n
 |.oss k n lo hi=>.oss (ρ k) n lo hi
 |.mp k=>.mp (ρ k)
 |.func fn xs ys=>.func fn (xs.attach.map fun ⟨x,_⟩=>x.ren ρ) (ys.attach.map fun ⟨x,_⟩=>x.ren ρ)
 |.agg xs=>.agg (xs.attach.map fun ⟨x,_⟩=>x.ren ρ)
 |.tup xs=>.tup (xs.attach.map fun ⟨x,_⟩=>x.ren ρ)
 |x=>x
def AObj.ren (ρ:Nat→Nat):AObj→AObj
 |.box cells=>.box (cells.map (AV.ren ρ))
 |.row sz rows=>.row sz (rows.map fun r=>r.map (AV.ren ρ))
 |.mp kvs=>.mp (kvs.map fun p=>(p.1.ren ρ,p.2.ren ρ))
theorem Z4K {ρ:Nat→Nat} (xs:List AV):(xs.attach.map fun ⟨x,_⟩=>x.ren ρ)=xs.map (AV.ren ρ):=by
 have h:(xs.attach.map fun ⟨x,_⟩=>x.ren ρ)=(xs.attach.map Subtype.val).map (AV.ren ρ):=by rw [List.map_map];rfl
 rw [h,List.attach_map_subtype_val]
theorem PV.ren_eq {M:Nat→Prop} {W:World} {ρ:Nat→Nat} {x:AV} {v:Value} (h:PV M W x v):x.ren ρ=x:=by
 have all:∀ (xs:List AV) (us:Array Value),us.size=xs.length→(∀ (i:Nat) (x:AV) (u:Value),xs[i]? = some x→us[i]? = some u→x.ren ρ=x)→xs.map (AV.ren ρ)=xs:=fun xs us h1 h2=>by
  conv=>rhs;rw [← List.map_id xs]
  refine List.map_congr_left fun x hx=>?_
  obtain ⟨i,hi⟩:=List.getElem?_of_mem hx
  have hlt:i<us.size:=by rw [h1];exact (List.getElem?_eq_some_iff.1 hi).1
  exact h2 i x us[i] hi (by simp [hlt])
 induction h with
 |func fn xs ys us vs h1 h2 hx hy ihx ihy=>rw [AV.ren,Z4K,Z4K,all xs us h1 ihx,all ys vs h2 ihy]
 |agg xs us h1 hx ih=>rw [AV.ren,Z4K,all xs us h1 ih]
 |tup xs us h1 hx ih=>rw [AV.ren,Z4K,all xs us h1 ih]
 |_=>simp [AV.ren]
theorem AObj.ren_dim {ρ:Nat→Nat} (o:AObj):(o.ren ρ).dim=o.dim:=by cases o <;> simp [AObj.ren,AObj.dim]
theorem VR.toCaller {E E':Env} {W:World} {ρ:Nat→Nat} (hM:∀ b,¬E.M b→¬E'.M b) (hl:∀ k p,E.loc k=some p→E'.loc (ρ k)=some p) (hr:∀ k q,E.row k=some q→E'.row (ρ k)=some q∧E'.loc (ρ k)=E.loc k)
  (hn:∀ k p,E.loc k=some p→E.row k=none→E'.row (ρ k)=none) {x:AV} {v:Value} (h:VR E W x v):VR E' W (x.ren ρ) v:=by
 induction h with
 |pv h=>rw [h.ren_eq];exact .pv (h.mono (fun b _ hb=>⟨hM b hb,rfl⟩) (Nat.le_refl _))
 | undef v =>
   have e:AV.undef.ren ρ = .undef:=by simp [AV.ren]
   rw [e];exact .undef v
 |ptr k off b s h hr'=>rw [AV.ren];exact .ptr _ off b s (hl k _ h) (hn k _ h hr')
 |eptr k n i off sz m p h hn' he=>rw [AV.ren];exact .eptr _ n i off sz m p (hr k _ h).1 hn' (fun e=>by rw [(hr k _ h).2];exact he e)
 |osl k n sz m a l c h hn' he=>rw [AV.ren];exact .osl _ n sz m a l c (hr k _ h).1 hn' (fun e=>by rw [(hr k _ h).2];exact he e)
 |oss k n lo hi sz m a l c h hn' he=>rw [AV.ren];exact .oss _ n lo hi sz m a l c (hr k _ h).1 hn' (fun e=>by rw [(hr k _ h).2];exact he e)
 | func fn xs ys us vs h1 h2 hx hy ihx ihy =>
   rw [AV.ren,Z4K,Z4K]
   refine .func fn _ _ us vs (by simpa using h1) (by simpa using h2) (fun i x u hi hu=>?_) (fun i x u hi hu=>?_)
   · rw [List.getElem?_map,Option.map_eq_some_iff]at hi
     obtain ⟨x0,h3,rfl⟩:=hi
     exact ihx i x0 u h3 hu
   · rw [List.getElem?_map,Option.map_eq_some_iff]at hi
     obtain ⟨x0,h3,rfl⟩:=hi
     exact ihy i x0 u h3 hu
 | agg xs us h1 hx ih =>
   rw [AV.ren,Z4K]
   refine .agg _ us (by simpa using h1) (fun i x u hi hu=>?_)
   rw [List.getElem?_map,Option.map_eq_some_iff]at hi
   obtain ⟨x0,h3,rfl⟩:=hi
   exact ih i x0 u h3 hu
 | tup xs us h1 hx ih =>
   rw [AV.ren,Z4K]
   refine .tup _ us (by simpa using h1) (fun i x u hi hu=>?_)
   rw [List.getElem?_map,Option.map_eq_some_iff]at hi
   obtain ⟨x0,h3,rfl⟩:=hi
   exact ih i x0 u h3 hu
 |mp k b h hr'=>rw [AV.ren];exact .mp _ b (hl k _ h) (hn k _ h hr')
theorem Z4L {ρ:Nat→Nat} {x:AV} {k:Nat} (e:x.ren ρ = .mp k):∃ k0,x = .mp k0∧ρ k0=k:=by
 cases x <;> simp [AV.ren]at e
 exact ⟨_,rfl,e⟩
theorem Z4M {ρ:Nat→Nat} {x:AV} {k off:Nat} (e:x.ren ρ = .ptr k off):∃ k0,x = .ptr k0 off∧ρ k0=k:=by
 cases x <;> simp [AV.ren]at e
 exact ⟨_,by rw [e.2],e.1⟩
theorem Z4N {ρ:Nat→Nat} {x:AV} {k n i off:Nat} (e:x.ren ρ = .eptr k n i off):∃ k0,x = .eptr k0 n i off∧ρ k0=k:=by
 cases x <;> simp [AV.ren]at e
 exact ⟨_,by rw [e.2.1,e.2.2.1,e.2.2.2],e.1⟩
theorem Z4O {ρ:Nat→Nat} {x:AV} {k n:Nat} (e:x.ren ρ = .osl k n):∃ k0,x = .osl k0 n∧ρ k0=k:=by
 cases x <;> simp [AV.ren]at e
 exact ⟨_,by rw [e.2],e.1⟩
theorem Z4P {ρ:Nat→Nat} {x:AV} {k n lo hi:Nat} (e:x.ren ρ = .oss k n lo hi):∃ k0,x = .oss k0 n lo hi∧ρ k0=k:=by
 cases x <;> simp [AV.ren]at e
 exact ⟨_,by rw [e.2.1,e.2.2.1,e.2.2.2],e.1⟩
theorem Z4Q {ρ:Nat→Nat} {x:AV} (e:x.ren ρ = .undef):x = .undef:=by
 cases x <;> simp [AV.ren]at e <;> rfl
theorem Z4R {ρ:Nat→Nat} {x:AV} {ys:List AV} (e:x.ren ρ = .agg ys):∃ xs,x = .agg xs∧xs.map (AV.ren ρ)=ys:=by
 cases x <;> try (simp [AV.ren]at e;done)
 rename_i xs
 rw [AV.ren,Z4K,AV.agg.injEq]at e
 exact ⟨xs,rfl,e⟩
theorem Z4S {ρ:Nat→Nat} {x:AV} {ys:List AV} (e:x.ren ρ = .tup ys):∃ xs,x = .tup xs∧xs.map (AV.ren ρ)=ys:=by
 cases x <;> try (simp [AV.ren]at e;done)
 rename_i xs
 rw [AV.ren,Z4K,AV.tup.injEq]at e
 exact ⟨xs,rfl,e⟩
theorem Z4T {ρ:Nat→Nat} {x:AV} {fn:Fn} {as bs:List AV} (e:x.ren ρ = .func fn as bs):∃ xs ys,x = .func fn xs ys∧xs.map (AV.ren ρ)=as∧ys.map (AV.ren ρ)=bs:=by
 cases x <;> try (simp [AV.ren]at e;done)
 rename_i f xs ys
 rw [AV.ren,Z4K,Z4K,AV.func.injEq]at e
 exact ⟨xs,ys,by rw [e.1],e.2.1,e.2.2⟩
theorem Z4U {ρ:Nat→Nat} {x y:AV} (e:x.ren ρ=y) (hy:match y with | .ptr .. | .eptr .. | .osl .. | .oss .. | .mp _ | .func .. | .agg _ | .tup _=>False|_=>True):x=y:=by
 cases x <;> simp [AV.ren]at e <;> subst e <;> first|rfl|exact hy.elim
theorem PV.ren_back {M:Nat→Prop} {W:World} {ρ:Nat→Nat} {y:AV} {v:Value} (h:PV M W y v):∀ x:AV,x.ren ρ=y→x=y:=by
 have all:∀ (xs ys:List AV) (us:Array Value),xs.map (AV.ren ρ)=ys→us.size=ys.length→(∀ (i:Nat) (y:AV) (u:Value),ys[i]? = some y→us[i]? = some u→∀ x:AV,x.ren ρ=y→x=y)→xs=ys:=fun xs ys us h0 h1 h2=>by
  subst h0
  conv=>lhs;rw [← List.map_id xs]
  refine List.map_congr_left fun x hx=>?_
  obtain ⟨i,hi⟩:=List.getElem?_of_mem hx
  have hlt:i<us.size:=by rw [h1,List.length_map];exact (List.getElem?_eq_some_iff.1 hi).1
  exact h2 i (x.ren ρ) us[i] (by rw [List.getElem?_map,hi];rfl) (by simp [hlt]) x rfl
 induction h with
 | func fn xs ys us vs h1 h2 hx hy ihx ihy =>
   intro x e
   obtain ⟨as,bs,rfl,e1,e2⟩:=Z4T e
   rw [all as xs us e1 h1 ihx,all bs ys vs e2 h2 ihy]
 | agg xs us h1 hx ih =>
   intro x e
   obtain ⟨as,rfl,e1⟩:=Z4R e
   rw [all as xs us e1 h1 ih]
 | tup xs us h1 hx ih =>
   intro x e
   obtain ⟨as,rfl,e1⟩:=Z4S e
   rw [all as xs us e1 h1 ih]
 |_=>exact fun x e=>Z4U e trivial
theorem VR.toCallee {E E':Env} {W:World} {ρ:Nat→Nat} (hM:∀ b,¬E.M b→¬E'.M b) {y:AV} {v:Value} (h:VR E W y v) :
  ∀ x:AV,x.ren ρ=y→(∀ k∈x.keys,E'.loc k=E.loc (ρ k)∧E'.row k=E.row (ρ k))→VR E' W x v:=by
 induction h with
 |pv h=>intro x e _;rw [h.ren_back x e];exact .pv (h.mono (fun b _ hb=>⟨hM b hb,rfl⟩) (Nat.le_refl _))
 |undef v=>intro x e _;rw [Z4Q e];exact .undef v
 | ptr k off b s h hr =>
   intro x e hk
   obtain ⟨k0,rfl,rfl⟩:=Z4M e
   obtain ⟨h1,h2⟩:=hk k0 (by simp [AV.keys])
   exact .ptr k0 off b s (h1.trans h) (h2.trans hr)
 | eptr k n i off sz m p h hn he =>
   intro x e hk
   obtain ⟨k0,rfl,rfl⟩:=Z4N e
   obtain ⟨h1,h2⟩:=hk k0 (by simp [AV.keys])
   exact .eptr k0 n i off sz m p (h2.trans h) hn (fun e=>by rw [h1];exact he e)
 | osl k n sz m a l c h hn he =>
   intro x e hk
   obtain ⟨k0,rfl,rfl⟩:=Z4O e
   obtain ⟨h1,h2⟩:=hk k0 (by simp [AV.keys])
   exact .osl k0 n sz m a l c (h2.trans h) hn (fun e=>by rw [h1];exact he e)
 | oss k n lo hi sz m a l c h hn he =>
   intro x e hk
   obtain ⟨k0,rfl,rfl⟩:=Z4P e
   obtain ⟨h1,h2⟩:=hk k0 (by simp [AV.keys])
   exact .oss k0 n lo hi sz m a l c (h2.trans h) hn (fun e=>by rw [h1];exact he e)
 | func fn xs ys us vs h1 h2 hx hy ihx ihy =>
   intro x e hk
   obtain ⟨as,bs,rfl,rfl,rfl⟩:=Z4T e
   refine .func fn as bs us vs (by simpa using h1) (by simpa using h2) (fun i x u hi hu=>ihx i (x.ren ρ) u (by rw [List.getElem?_map,hi];rfl) hu x rfl fun k h=>hk k ?_) (fun i x u hi hu=>ihy i (x.ren ρ) u (by rw [List.getElem?_map,hi];rfl) hu x rfl fun k h=>hk k ?_)
   · simp only [AV.keys,List.mem_append];exact .inl (Z4E (List.mem_of_getElem? hi) h)
   · simp only [AV.keys,List.mem_append];exact .inr (Z4E (List.mem_of_getElem? hi) h)
 | agg xs us h1 hx ih =>
   intro x e hk
   obtain ⟨as,rfl,rfl⟩:=Z4R e
   refine .agg as us (by simpa using h1) (fun i x u hi hu=>ih i (x.ren ρ) u (by rw [List.getElem?_map,hi];rfl) hu x rfl fun k h=>hk k ?_)
   simp only [AV.keys];exact Z4E (List.mem_of_getElem? hi) h
 | tup xs us h1 hx ih =>
   intro x e hk
   obtain ⟨as,rfl,rfl⟩:=Z4S e
   refine .tup as us (by simpa using h1) (fun i x u hi hu=>ih i (x.ren ρ) u (by rw [List.getElem?_map,hi];rfl) hu x rfl fun k h=>hk k ?_)
   simp only [AV.keys];exact Z4E (List.mem_of_getElem? hi) h
 | mp k b h hr =>
   intro x e hk
   obtain ⟨k0,rfl,rfl⟩:=Z4L e
   obtain ⟨h1,h2⟩:=hk k0 (by simp [AV.keys])
   exact .mp k0 b (h1.trans h) (h2.trans hr)
def isK (objs:List (Nat×AObj)) (k:Nat):Bool:=(lk objs k).isSome
def inK (objs:List (Nat×AObj)) (x:AV):Prop:=∀ k∈x.keys,isK objs k=true
def inKO (objs:List (Nat×AObj)):AObj→Prop
 |.box cells=>∀ x∈cells,inK objs x
 |.row _ rows=>∀ r∈rows,∀ x∈r,inK objs x
 |.mp kvs=>∀ p∈kvs,inK objs p.1∧inK objs p.2
section
variable {P:Program} {R:Run} {st:St} {a:Act} {W:World} {κ:Nat→Option (Nat×Nat)}
def kC (objs:List (Nat×AObj)) (ρ:Nat→Nat) (κ:Nat→Option (Nat×Nat)):Nat→Option (Nat×Nat):=fun k=>if isK objs k=true then κ (ρ k) else none
def mC (objs:List (Nat×AObj)) (ρ:Nat→Nat) (R:Run) (st:St) (κ:Nat→Option (Nat×Nat)):Nat→Prop:=fun b=>(st.env R.M κ).M b∧¬ ∃ k s,kC objs ρ κ k=some (b,s)
def rC (objs:List (Nat×AObj)) (ρ:Nat→Nat) (R:Run) (st:St) (κ:Nat→Option (Nat×Nat)) (W:World):Run :=
 { G:=R.G,M:=mC objs ρ R st κ,X:=fun b=>∃ k s,kC objs ρ κ k=some (b,s),W0:=W,N:=0,E0:=(obSt objs).env (mC objs ρ R st κ) (kC objs ρ κ) }
theorem Z4V (h:SK R st a W κ) {objs:List (Nat×AObj)} {ρ:Nat→Nat} (hK:∀ k,isK objs k=true→1000≤k) (hinj:∀ k k',isK objs k=true→isK objs k'=true→ρ k=ρ k'→k=k')
  (ho:∀ k o,lk objs k=some o→st.get (ρ k)=some (o.ren ρ)) (hin:∀ k o,lk objs k=some o→inKO objs o) :
  SK (rC objs ρ R st κ W) (obSt objs) noAct W (kC objs ρ κ)∧∀ (x:AV) (v:Value),inK objs x→VR (st.env R.M κ) W (x.ren ρ) v→VR ((obSt objs).env (mC objs ρ R st κ) (kC objs ρ κ)) W x v:=by
 have hM:∀ b,((obSt objs).env (mC objs ρ R st κ) (kC objs ρ κ)).M b→(st.env R.M κ).M b:=fun b hb=>by
  rcases hb with hb | ⟨k,s,hk⟩
  · exact hb.1
  · simp only [kC]at hk
    split at hk
    · exact .inr ⟨ρ k,s,hk⟩
    · cases hk
 have hrow:∀ k,isK objs k=true→((obSt objs).env (mC objs ρ R st κ) (kC objs ρ κ)).row k=(st.env R.M κ).row (ρ k):=fun k hk=>by
  obtain ⟨o,h1⟩:=Option.isSome_iff_exists.1 hk
  show (lk objs k).bind AObj.dim=(st.get (ρ k)).bind AObj.dim
  rw [h1,ho k o h1]
  exact (AObj.ren_dim o).symm
 have conv:∀ (x:AV) (v:Value),inK objs x→VR (st.env R.M κ) W (x.ren ρ) v→VR ((obSt objs).env (mC objs ρ R st κ) (kC objs ρ κ)) W x v:=fun x v hx hv =>
  VR.toCallee (fun b hb hb'=>hb (hM b hb')) hv x rfl fun k hk=>⟨by show kC objs ρ κ k=κ (ρ k);simp only [kC,hx k hk,if_true],hrow k (hx k hk)⟩
 refine ⟨⟨.nil _ _ _ _,rfl,fun n x hx=>by simp [obSt,St.tmp,lk]at hx,fun k o hk=>?_,fun k p hk=>?_,fun k k' b s s' h1 h2=>?_,fun b hb=>h.owned_lt hb.1,fun b hb hx=>hb.2 hx,Kp.refl _ _,?_,?_,fun k hk=>?_⟩,conv⟩
 · have hk':lk objs k=some o:=hk
   have hi:isK objs k=true:=by simp [isK,hk']
   obtain ⟨b,s,h1,h2,-,h4⟩:=h.obj (ρ k) _ (ho k o hk')
   refine ⟨b,s,by simp only [kC,hi,if_true];exact h1,h2,.inr ⟨k,s,by simp only [kC,hi,if_true];exact h1⟩,?_⟩
   cases o with
   | box cells =>
     obtain ⟨g0,cs,t,g1,g2,g3⟩:=h4
     refine ⟨g0,cs,t,g1,by simpa using g2,fun j x hj=>?_⟩
     obtain ⟨v,g4,g5⟩:=g3 j (x.ren ρ) (by rw [List.getElem?_map,hj];rfl)
     exact ⟨v,g4,conv x v (hin k _ hk' x (List.mem_of_getElem? hj)) g5⟩
   | row sz rows =>
     obtain ⟨g0,cs,t,g1,g2,g3⟩:=h4
     refine ⟨fun r hr=>?_,cs,t,g1,by simpa using g2,fun i j r x hi' hj=>?_⟩
     · have:=g0 (r.map (AV.ren ρ)) (List.mem_map.2 ⟨r,hr,rfl⟩)
       simpa using this
     · obtain ⟨v,g4,g5⟩:=g3 i j (r.map (AV.ren ρ)) (x.ren ρ) (by rw [List.getElem?_map,hi'];rfl) (by rw [List.getElem?_map,hj];rfl)
       exact ⟨v,g4,conv x v (hin k _ hk' r (List.mem_of_getElem? hi') x (List.mem_of_getElem? hj)) g5⟩
   | mp kvs =>
     obtain ⟨g0,es,t,g1,g2,g3,g4⟩:=h4
     refine ⟨g0,es,t,g1,g2,by simpa using g3,fun i x y hi'=>?_⟩
     obtain ⟨e,g5,g6,g7⟩:=g4 i (x.ren ρ) (y.ren ρ) (by rw [List.getElem?_map,hi'];rfl)
     have h5:=hin k _ hk' (x,y) (List.mem_of_getElem? hi')
     exact ⟨e,g5,conv x _ h5.1 g6,conv y _ h5.2 g7⟩
 · simp only [kC]at hk
   split at hk
   · rename_i e;exact Option.isSome_iff_exists.1 e
   · cases hk
 · simp only [kC]at h1 h2
   split at h1
   · rename_i e1
     split at h2
     · rename_i e2;exact hinj k k' e1 e2 (h.inj _ _ b s s' h1 h2)
     · cases h2
   · cases h1
 · exact h.gr.mono (fun b _ hb=>⟨fun hb'=>hb (hM b hb'),rfl⟩) (Nat.le_refl _)
 · exact ⟨Nat.le_refl _,fun b _ hb=>⟨hb,rfl⟩,fun k p h1 h2=>⟨h1,h2⟩,fun k sz m h1=>⟨m,h1,Nat.le_refl _,fun _ b s cs t hl=>⟨hl,fun hw=>⟨cs,hw,rfl⟩⟩⟩⟩
 · have e:isK objs k=false:=by
    cases e:isK objs k
    · rfl
    · have:=hK k e;omega
   refine ⟨by show kC objs ρ κ k=none;simp [kC,e],?_⟩
   show (lk objs k).bind AObj.dim=none
   have:lk objs k=none:=by simpa [isK] using e
   rw [this];rfl
theorem Z4W (h:SK R st a W κ) {objs objs':List (Nat×AObj)} {ρ:Nat→Nat} (hinj:∀ k k',isK objs k=true→isK objs k'=true→ρ k=ρ k'→k=k')
  (ho:∀ k o,lk objs k=some o→st.get (ρ k)=some (o.ren ρ)) (hd:∀ k,isK objs' k=isK objs k) {κ':Nat→Option (Nat×Nat)} {W':World} (hc:SK (rC objs ρ R st κ W) (obSt objs') noAct W' κ')
  {st1:St} (ht:st1.t=st.t) (hs1:∀ k o,lk objs' k=some o→st1.get (ρ k)=some (o.ren ρ)) (hs2:∀ j,(∀ k,isK objs k=true→ρ k≠j)→st1.get j=st.get j) :
  ∃ κ1,SK R st1 a W' κ1∧Mono (st.env R.M κ) W (st1.env R.M κ1) W'∧∀ (x:AV) (v:Value),VR ((obSt objs').env (mC objs ρ R st κ) κ') W' x v→VR (st1.env R.M κ1) W' (x.ren ρ) v:=by
 classical
 let κ1:Nat→Option (Nat×Nat):=fun j=>if e:∃ k,isK objs k=true∧ρ k=j then κ' (Classical.choose e) else κ j
 have hκ1:∀ k,isK objs k=true→κ1 (ρ k)=κ' k:=fun k hk=>by
  have e:∃ k',isK objs k'=true∧ρ k'=ρ k:=⟨k,hk,rfl⟩
  simp only [κ1,dif_pos e]
  rw [hinj _ _ (Classical.choose_spec e).1 hk (Classical.choose_spec e).2]
 have hκ2:∀ j,(∀ k,isK objs k=true→ρ k≠j)→κ1 j=κ j:=fun j hj=>by
  have e:¬ ∃ k,isK objs k=true∧ρ k=j:=fun ⟨k,h1,h2⟩=>hj k h1 h2
  simp only [κ1,dif_neg e]
 have split:∀ j,(∃ k,isK objs k=true∧ρ k=j)∨(∀ k,isK objs k=true→ρ k≠j):=fun j=>by
  by_cases e:∃ k,isK objs k=true∧ρ k=j
  · exact .inl e
  · exact .inr fun k h1 h2=>e ⟨k,h1,h2⟩
 have kc:∀ k,isK objs k=true→kC objs ρ κ k=κ (ρ k):=fun k hk=>by simp only [kC,hk,if_true]
 have kcK:∀ k p,kC objs ρ κ k=some p→isK objs k=true∧κ (ρ k)=some p:=fun k p hk=>by
  simp only [kC]at hk
  split at hk
  · rename_i e;exact ⟨e,hk⟩
  · cases hk
 have domK:∀ k p,κ' k=some p→isK objs k=true:=fun k p hk=>by
  rw [← hd];exact Option.isSome_iff_exists.2 (hc.dom k p hk)
 have xE:∀ b,(∃ k s,kC objs ρ κ k=some (b,s))→(st.env R.M κ).M b:=fun b ⟨k,s,hk⟩=>.inr ⟨ρ k,s,(kcK k _ hk).2⟩
 have range:∀ b,(∃ k s,kC objs ρ κ k=some (b,s))→R.W0.heap.size≤b∨R.X b:=fun b ⟨k,s,hk⟩=>by
  obtain ⟨-,h2⟩:=kcK k _ hk
  obtain ⟨o,h3⟩:=h.dom _ _ h2
  obtain ⟨b',s',g1,g2,g3,-⟩:=h.obj _ _ h3
  rw [h2]at g1
  simp only [Option.some.injEq,Prod.mk.injEq]at g1
  obtain ⟨rfl,rfl⟩:=g1
  exact g3
 have F1:∀ b,(st1.env R.M κ1).M b→((obSt objs').env (mC objs ρ R st κ) κ').M b:=fun b hb=>by
  rcases hb with hb | ⟨j,s,hj⟩
  · refine .inl ⟨.inl hb,fun hx=>?_⟩
    rcases range b hx with h1|h1
    · have:=h.low b hb;omega
    · exact h.apart b hb h1
  · rcases split j with ⟨k,hk,rfl⟩|hj2
    · rw [hκ1 k hk]at hj;exact .inr ⟨k,s,hj⟩
    · rw [hκ2 j hj2]at hj
      refine .inl ⟨.inr ⟨j,s,hj⟩,fun ⟨k,s2,hk⟩=>?_⟩
      obtain ⟨h1,h2⟩:=kcK k _ hk
      exact hj2 k h1 (h.inj _ _ b s2 s h2 hj)
 have row1:∀ k,isK objs k=true→(st1.env R.M κ1).row (ρ k)=((obSt objs').env (mC objs ρ R st κ) κ').row k:=fun k hk=>by
  rw [← hd]at hk
  obtain ⟨o,h1⟩:=Option.isSome_iff_exists.1 hk
  show (st1.get (ρ k)).bind AObj.dim=(lk objs' k).bind AObj.dim
  rw [h1,hs1 k o h1]
  exact AObj.ren_dim o
 have row0:∀ k,isK objs k=true→(st.env R.M κ).row (ρ k)=((obSt objs).env (mC objs ρ R st κ) (kC objs ρ κ)).row k:=fun k hk=>by
  obtain ⟨o,h1⟩:=Option.isSome_iff_exists.1 hk
  show (st.get (ρ k)).bind AObj.dim=(lk objs k).bind AObj.dim
  rw [h1,ho k o h1]
  exact AObj.ren_dim o
 have rowK:∀ k q,((obSt objs').env (mC objs ρ R st κ) κ').row k=some q→isK objs k=true:=fun k q hk=>by
  rw [← hd]
  have hk:(lk objs' k).bind AObj.dim=some q:=hk
  cases e:lk objs' k with
  |none=>rw [e]at hk;cases hk
  |some o=>simp [isK,e]
 have conv:∀ (x:AV) (v:Value),VR ((obSt objs').env (mC objs ρ R st κ) κ') W' x v→VR (st1.env R.M κ1) W' (x.ren ρ) v:=fun x v hv =>
  VR.toCaller (fun b hb hb'=>hb (F1 b hb')) (fun k p hk=>(hκ1 k (domK k p hk)).trans hk) (fun k q hk=>⟨(row1 k (rowK k q hk)).trans hk,hκ1 k (rowK k q hk)⟩) (fun k p hk hr=>(row1 k (domK k p hk)).trans hr) hv
 have same:∀ b,b<W.heap.size→¬(∃ k s,kC objs ρ κ k=some (b,s))→W'.heap[b]? = W.heap[b]?:=fun b hb hx=>hc.kp.block b hb hx
 have apartK:∀ j b s,(∀ k,isK objs k=true→ρ k≠j)→κ j=some (b,s)→¬(∃ k s,kC objs ρ κ k=some (b,s)):=fun j b s hj hb ⟨k,s2,hk⟩=>by
  obtain ⟨h1,h2⟩:=kcK k _ hk
  exact hj k h1 (h.inj _ _ b s2 s h2 hb)
 have m:Mono (st.env R.M κ) W (st1.env R.M κ1) W':=by
  refine ⟨hc.kp.size,fun b hb hM=>⟨fun hM1=>?_,same b hb fun hx=>hM (xE b hx)⟩,fun j p hj hr=>?_,fun j sz m hj=>?_⟩
  · rcases F1 b hM1 with h1 | ⟨k,s,h1⟩
    · exact hM h1.1
    · obtain ⟨o,h2⟩:=hc.dom k _ h1
      obtain ⟨b',s',g1,g2,g3,-⟩:=hc.obj k o h2
      rw [h1]at g1
      simp only [Option.some.injEq,Prod.mk.injEq]at g1
      obtain ⟨rfl,rfl⟩:=g1
      rcases g3 with g3|g3
      · have g3:W.heap.size≤b:=g3;omega
      · exact hM (xE b g3)
  · rcases split j with ⟨k,hk,rfl⟩|hj2
    · obtain ⟨g1,g2⟩:=hc.mono.box k p ((kc k hk).trans hj) ((row0 k hk).symm.trans hr)
      exact ⟨(hκ1 k hk).trans g1,(row1 k hk).trans g2⟩
    · exact ⟨(hκ2 j hj2).trans hj,by show (st1.get j).bind AObj.dim=none;rw [hs2 j hj2];exact hr⟩
  · rcases split j with ⟨k,hk,rfl⟩|hj2
    · obtain ⟨m',g1,g2,g3⟩:=hc.mono.row k sz m ((row0 k hk).symm.trans hj)
      refine ⟨m',(row1 k hk).trans g1,g2,fun e b s cs t hl=>?_⟩
      obtain ⟨g4,g5⟩:=g3 e b s cs t ((kc k hk).trans hl)
      exact ⟨(hκ1 k hk).trans g4,g5⟩
    · refine ⟨m,by show (st1.get j).bind AObj.dim=some (sz,m);rw [hs2 j hj2];exact hj,Nat.le_refl _,fun _ b s cs t hl=>⟨(hκ2 j hj2).trans hl,fun hw=>⟨cs,(same b (h.loc_lt hl) (apartK j b s hj2 hl)).trans hw,rfl⟩⟩⟩
 refine ⟨κ1,⟨h.defers.of fun c hc'=>(same c (Array.getElem?_eq_some_iff.1 hc').1 fun ⟨k,s,hk⟩=>h.notdf (kcK k _ hk).2 hc').trans hc',h.size,fun n x hx=>(h.tm n x (by simp only [St.tmp,← ht];exact hx)).mono m,fun j o hj=>?_,fun j p hj=>?_,fun j j' b s s' hj hj'=>?_,h.low,h.apart,?_,h.gr.mono m.imm m.size,h.mono.trans m,h.ent⟩,m,conv⟩
 · rcases split j with ⟨k,hk,rfl⟩|hj2
   · rw [← hd]at hk
     obtain ⟨o0,e0⟩:=Option.isSome_iff_exists.1 hk
     rw [hd]at hk
     rw [hs1 k o0 e0]at hj
     simp only [Option.some.injEq]at hj
     subst hj
     obtain ⟨b,s,g1,g2,g3,g4⟩:=hc.obj k o0 e0
     refine ⟨b,s,(hκ1 k hk).trans g1,g2,?_,?_⟩
     · rcases g3 with g3|g3
       · exact .inl (Nat.le_trans h.kp.size g3)
       · exact range b g3
     · cases o0 with
       | box cells =>
         obtain ⟨g0,cs,t,g5,g6,g7⟩:=g4
         refine ⟨g0,cs,t,g5,by simpa [AObj.ren] using g6,fun j x hj=>?_⟩
         rw [List.getElem?_map,Option.map_eq_some_iff]at hj
         obtain ⟨x0,g8,rfl⟩:=hj
         obtain ⟨v,g9,g10⟩:=g7 j x0 g8
         exact ⟨v,g9,conv _ _ g10⟩
       | row sz rows =>
         obtain ⟨g0,cs,t,g5,g6,g7⟩:=g4
         refine ⟨fun r hr=>?_,cs,t,g5,by simpa [AObj.ren] using g6,fun i j r x hi hj=>?_⟩
         · obtain ⟨r0,g8,rfl⟩:=List.mem_map.1 hr
           simpa using g0 r0 g8
         · rw [List.getElem?_map,Option.map_eq_some_iff]at hi
           obtain ⟨r0,g8,rfl⟩:=hi
           rw [List.getElem?_map,Option.map_eq_some_iff]at hj
           obtain ⟨x0,g9,rfl⟩:=hj
           obtain ⟨v,g10,g11⟩:=g7 i j r0 x0 g8 g9
           exact ⟨v,g10,conv _ _ g11⟩
       | mp kvs =>
         obtain ⟨g0,es,t,g5,g6,g7,g8⟩:=g4
         refine ⟨g0,es,t,g5,g6,by simpa [AObj.ren] using g7,fun i x y hi=>?_⟩
         rw [List.getElem?_map,Option.map_eq_some_iff]at hi
         obtain ⟨p,g9,g10⟩:=hi
         cases g10
         obtain ⟨e,g11,g12,g13⟩:=g8 i p.1 p.2 g9
         exact ⟨e,g11,conv _ _ g12,conv _ _ g13⟩
   · rw [hs2 j hj2]at hj
     obtain ⟨b,s,g1,g2,g3,g4⟩:=h.obj j o hj
     exact ⟨b,s,(hκ2 j hj2).trans g1,Nat.lt_of_lt_of_le g2 m.size,g3,g4.mono m (same b g2 (apartK j b s hj2 g1))⟩
 · rcases split j with ⟨k,hk,rfl⟩|hj2
   · rw [hκ1 k hk]at hj
     obtain ⟨o,g1⟩:=hc.dom k p hj
     exact ⟨_,hs1 k o g1⟩
   · rw [hκ2 j hj2]at hj
     rw [hs2 j hj2]
     exact h.dom j p hj
 · have cross:∀ k j' s s',isK objs k=true→(∀ k,isK objs k=true→ρ k≠j')→κ' k=some (b,s)→κ j'=some (b,s')→False:=fun k j' s s' hk hj2 g1 g2=>by
    obtain ⟨o,g3⟩:=hc.dom k _ g1
    obtain ⟨b',s2,g4,g5,g6,-⟩:=hc.obj k o g3
    rw [g1]at g4
    simp only [Option.some.injEq,Prod.mk.injEq]at g4
    obtain ⟨rfl,rfl⟩:=g4
    rcases g6 with g6|g6
    · have g6:W.heap.size≤b:=g6
      have:=h.loc_lt g2;omega
    · exact apartK j' b s' hj2 g2 g6
   rcases split j with ⟨k,hk,rfl⟩|hj2 <;> rcases split j' with ⟨k',hk',rfl⟩|hj2'
   · rw [hκ1 k hk]at hj
     rw [hκ1 k' hk']at hj'
     rw [hc.inj k k' b s s' hj hj']
   · rw [hκ1 k hk]at hj
     rw [hκ2 j' hj2']at hj'
     exact (cross k j' s s' hk hj2' hj hj').elim
   · rw [hκ2 j hj2]at hj
     rw [hκ1 k' hk']at hj'
     exact (cross k' j s' s hk' hj2 hj' hj).elim
   · rw [hκ2 j hj2]at hj
     rw [hκ2 j' hj2']at hj'
     exact h.inj j j' b s s' hj hj'
 · refine ⟨hc.kp.os.trans h.kp.os,hc.kp.tape.trans h.kp.tape,hc.kp.output.trans h.kp.output,Nat.le_trans h.kp.size hc.kp.size,fun i hi hx=>?_⟩
   refine (same i (Nat.lt_of_lt_of_le hi h.kp.size) fun hx2=>?_).trans (h.kp.block i hi hx)
   rcases range i hx2 with g|g
   · omega
   · exact hx g
theorem Z4X (h:SK R st a W κ) {f:FuncId} {objs objs':List (Nat×AObj)} {ρ:Nat→Nat} {args:List AV} {r:AV} (hp:PB P R.G f objs args r objs')
  (hK:∀ k,isK objs k=true→1000≤k) (hinj:∀ k k',isK objs k=true→isK objs k'=true→ρ k=ρ k'→k=k')
  (ho:∀ k o,lk objs k=some o→st.get (ρ k)=some (o.ren ρ)) (hin:∀ k o,lk objs k=some o→inKO objs o) (hargs:∀ x∈args,inK objs x) (hd:∀ k,isK objs' k=isK objs k)
  {st1:St} (ht:st1.t=st.t) (hs1:∀ k o,lk objs' k=some o→st1.get (ρ k)=some (o.ren ρ)) (hs2:∀ j,(∀ k,isK objs k=true→ρ k≠j)→st1.get j=st.get j)
  {vs:Array Value} (ha:CR (st.env R.M κ) W (args.map (AV.ren ρ)) vs.toList) :
  entB P f=true∧Calls P f vs W fun e W'=>∃ u κ1,e = .returned u∧SK R st1 a W' κ1∧VR (st1.env R.M κ1) W' (r.ren ρ) u:=by
 obtain ⟨he,hc⟩:=hp
 obtain ⟨h0,conv⟩:=Z4V h hK hinj ho hin
 have hsz:vs.size=args.length:=by have:=ha.1;simp at this;omega
 refine ⟨he,(hc (rC objs ρ R st κ W) W (kC objs ρ κ) vs rfl rfl rfl rfl rfl h0 hsz (fun i x u hx hu=>conv x u (hargs x (List.mem_of_getElem? hx)) (ha.2 i (x.ren ρ) u (by rw [List.getElem?_map,hx];rfl) (by simpa using hu)))).mono ?_⟩
 rintro e W' ⟨v,κ',rfl,h1,h2⟩
 obtain ⟨κ1,h3,-,h4⟩:=Z4W h hinj ho hd h1 ht hs1 hs2
 exact ⟨v,κ1,rfl,h3,h4 r v h2⟩
end
theorem AV.ren_pure {ρ:Nat→Nat}:∀ x:AV,x.pure=true→x.ren ρ=x
 | .func fn xs ys,h=>by
   simp only [AV.pure,Bool.and_eq_true,List.all_eq_true,List.mem_attach,forall_const,Subtype.forall]at h
   rw [AV.ren,Z4K,Z4K]
   congr 1
   · exact (List.map_congr_left fun x hx=>by rw [id];exact AV.ren_pure x (h.1 x hx)).trans (List.map_id xs)
   · exact (List.map_congr_left fun x hx=>by rw [id];exact AV.ren_pure x (h.2 x hx)).trans (List.map_id ys)
 | .agg xs,h=>by
   simp only [AV.pure,List.all_eq_true,List.mem_attach,forall_const,Subtype.forall]at h
   rw [AV.ren,Z4K]
   congr 1
   exact (List.map_congr_left fun x hx=>by rw [id];exact AV.ren_pure x (h x hx)).trans (List.map_id xs)
 | .tup xs,h=>by
   simp only [AV.pure,List.all_eq_true,List.mem_attach,forall_const,Subtype.forall]at h
   rw [AV.ren,Z4K]
   congr 1
   exact (List.map_congr_left fun x hx=>by rw [id];exact AV.ren_pure x (h x hx)).trans (List.map_id xs)
 |.hole,_ | .int ..,_ | .bool _,_ | .str _,_ | .nilp,_ | .nils,_ | .nilm,_ | .nilf,_ | .vptr ..,_ | .vsl _,_ | .vmap _,_ | .abool,_=>by simp [AV.ren]
 |.undef,h | .ptr ..,h | .eptr ..,h | .osl ..,h | .oss ..,h | .mp _,h=>by simp [AV.pure]at h
theorem AObj.ren_pure {ρ:Nat→Nat} {sz:Nat} {rows:List (List AV)} (h:rows.all (fun r=>r.all AV.pure)=true):AObj.ren ρ (.row sz rows) = .row sz rows:=by
 rw [AObj.ren]
 congr 1
 refine (List.map_congr_left fun r hr=>?_).trans (List.map_id rows)
 rw [id]
 exact (List.map_congr_left fun x hx=>by rw [id];exact AV.ren_pure x (List.all_eq_true.1 (List.all_eq_true.1 h r hr) x hx)).trans (List.map_id r)
def setsB (ρ:Nat→Nat):List (Nat×AObj)→St→St
 |[],st=>st
 |(k,o)::r,st=>setsB ρ r (st.set (ρ k) (o.ren ρ))
theorem Z4Y (ρ:Nat→Nat):∀ (l:List (Nat×AObj)) (st:St),(setsB ρ l st).t=st.t
 |[],_=>rfl
 |(k,o)::r,st=>by rw [setsB,Z4Y ρ r];rfl
theorem Z4Z (ρ:Nat→Nat) (j:Nat):∀ (l:List (Nat×AObj)) (st:St),(∀ p∈l,ρ p.1≠j)→(setsB ρ l st).get j=st.get j
 |[],_,_=>rfl
 | (k,o)::r,st,h=>by
   rw [setsB,Z4Z ρ j r _ (fun p hp=>h p (List.mem_cons_of_mem _ hp)),St.get_set,if_neg (h (k,o) (List.mem_cons_self ..))]
theorem Z50 (ρ:Nat→Nat):∀ (l:List (Nat×AObj)) (st:St) (k:Nat) (o:AObj),(l.map fun p=>ρ p.1).Nodup→lk l k=some o→(setsB ρ l st).get (ρ k)=some (o.ren ρ)
 |[],_,_,_,_,h=>by simp [lk]at h
 | (k',o')::r,st,k,o,hn,h=>by
   simp only [List.map_cons,List.nodup_cons]at hn
   simp only [lk]at h
   rw [setsB]
   split at h
   · rename_i e
     simp only [Option.some.injEq]at h
     subst e;subst h
     rw [Z4Z ρ (ρ k') r _ (fun p hp e=>hn.1 (by rw [← e];exact List.mem_map.2 ⟨p,hp,rfl⟩)),St.get_set,if_pos rfl]
   · exact Z50 ρ r _ k o hn.2 h
theorem Z51 {α:Type} {l:List (Nat×α)} {k:Nat}:(lk l k).isSome=true↔k∈l.map (·.1):=by
 induction l with
 |nil=>simp [lk]
 | cons p r ih =>
   obtain ⟨m,y⟩:=p
   simp only [lk,List.map_cons,List.mem_cons]
   split
   · rename_i e;simp [e]
   · rename_i e
     rw [ih]
     constructor
     · exact fun h=>.inr h
     · rintro (h|h)
       · exact absurd h.symm e
       · exact h
theorem Z52 {α β:Type} {f:α→β} {l:List α} (h:(l.map f).Nodup) {a b:α} (ha:a∈l) (hb:b∈l) (e:f a=f b):a=b:=by
 induction l with
 |nil=>cases ha
 | cons x r ih =>
   simp only [List.map_cons,List.nodup_cons]at h
   obtain ⟨h1,h2⟩:=h
   rcases List.mem_cons.1 ha with e1|ha1
   · rcases List.mem_cons.1 hb with e2|hb1
     · rw [e1,e2]
     · exact (h1 (List.mem_map.2 ⟨b,hb1,by rw [← e,e1]⟩)).elim
   · rcases List.mem_cons.1 hb with e2|hb1
     · exact (h1 (List.mem_map.2 ⟨a,ha1,by rw [e,e2]⟩)).elim
     · exact ih h2 ha1 hb1
section
variable {P:Program} {G:Nat→Option (List AV)} {st:St}
theorem Z1B.byref {f:FuncId} {objs objs':List (Nat×AObj)} {args:List AV} {r:AV} (h:PB P G f objs args r objs') (ρ:Nat→Nat) (hK:∀ p∈objs,1000≤p.1)
  (hinj:(objs.map fun p=>ρ p.1).Nodup) (ho:∀ p∈objs,st.get (ρ p.1)=some (p.2.ren ρ)) (hin:∀ p∈objs,keptO objs p.2=true) (hargs:args.all (keptA objs)=true) (hd:objs'.map (·.1)=objs.map (·.1))
  {args':List AV} {r':AV} {st1:St} (ha:args'=args.map (AV.ren ρ)) (hr:r'=r.ren ρ) (hs:st1=setsB ρ objs' st):Z1B P G st f args' r' st1:=by
 subst ha;subst hr;subst hs
 intro R a W κ vs hG hk ha
 subst hG
 have mem:∀ k o,lk objs k=some o→(k,o)∈objs:=fun k o h=>Z4F h
 have dK:∀ k,isK objs' k=isK objs k:=fun k=>by
  have h1:isK objs' k=true↔isK objs k=true:=by unfold isK;rw [Z51,Z51,hd]
  cases e1:isK objs' k <;> cases e2:isK objs k <;> simp_all
 have kept:∀ x,keptA objs x=true→inK objs x:=fun x hx k hk=>List.all_eq_true.1 hx k hk
 have dm:objs'.map (fun p=>ρ p.1)=objs.map (fun p=>ρ p.1):=by
  have:=congrArg (List.map ρ) hd
  simpa [List.map_map,Function.comp_def] using this
 refine Z4X hk h (fun k hk=>?_) (fun k k' h1 h2 e=>?_) (fun k o ho'=>ho (k,o) (mem k o ho')) (fun k o ho'=>?_) (fun x hx=>kept x (List.all_eq_true.1 hargs x hx)) dK (Z4Y ρ _ _)
  (fun k o ho'=>Z50 ρ _ _ k o (by rw [dm];exact hinj) ho') (fun j hj=>Z4Z ρ j _ _ fun p hp=>?_) ha
 · obtain ⟨o,h1⟩:=Option.isSome_iff_exists.1 hk
   exact hK (k,o) (mem k o h1)
 · have m1:=Z51.1 h1
   have m2:=Z51.1 h2
   have:(objs.map (·.1)).map ρ=objs.map (fun p=>ρ p.1):=by simp [List.map_map,Function.comp_def]
   rw [← this]at hinj
   exact Z52 hinj m1 m2 e
 · have h2:=hin (k,o) (mem k o ho')
   cases o with
   |box cells=>exact fun x hx=>kept x (List.all_eq_true.1 h2 x hx)
   |row sz rows=>exact fun r hr x hx=>kept x (List.all_eq_true.1 (List.all_eq_true.1 h2 r hr) x hx)
   | mp kvs =>
     intro p hp
     have:=List.all_eq_true.1 h2 p hp
     simp only [Bool.and_eq_true]at this
     exact ⟨kept _ this.1,kept _ this.2⟩
 · refine hj p.1 ?_
   have:p.1∈objs'.map (·.1):=List.mem_map.2 ⟨p,hp,rfl⟩
   rw [hd]at this
   exact Z51.2 this
end
section
variable {P:Program}
end
def CP (M:Nat→Prop) (W:World) (xs:List AV) (us:Array Value):Prop:=us.size=xs.length∧∀ (i:Nat) (x:AV) (u:Value),xs[i]? = some x→us[i]? = some u→PV M W x u
def Since (M:Nat→Prop) (W:World) (M':Nat→Prop) (W':World):Prop:=W.heap.size≤W'.heap.size∧∀ b,b<W.heap.size→¬M b→¬M' b∧W'.heap[b]? = W.heap[b]?
theorem CP.since {M M':Nat→Prop} {W W':World} {xs:List AV} {us:Array Value} (h:CP M W xs us) (s:Since M W M' W'):CP M' W' xs us:=⟨h.1,fun i x u hx hu=>(h.2 i x u hx hu).mono s.2 s.1⟩
def IterP (P:Program) (gf:Nat) (caps els:List AV):Prop :=
 entB P gf=true∧∀ (n l:Nat) (lb:Array Value) (J:Nat→(Nat→Prop)→World→Prop) (K:World→Prop) (M:Nat→Prop) (W:World),2≤n→(∀ k M A B,J k M A→Ext A B→J k M B)→(∀ A B,K A→Ext A B→K B) →
  (∀ k M A,J k M A→∀ b,M b→b<A.heap.size)→CP M W caps lb →
  (∀ (k:Nat) (x:AV) (u:Value) (M:Nat→Prop) (A:World),J k M A→els[k]? = some x→PV M A x u →
   YieldAt Fence.wide (n-1) P l #[u] A fun e A'=>(e = .returned (.bool true)∧∃ M',J (k+1) M' A'∧Since M A M' A')∨(e = .returned (.bool false)∧K A')) →
  J 0 M W→CallsIn Fence.wide n P gf (#[.func (.yield l) #[] #[]]++lb) W fun e W'=>(∃ v,e = .returned v)∧((∃ M,J els.length M W')∨K W')
theorem Z53 {n:Nat} {P:Program} {g:Operand} {p:Nat} {assign body:Code} {Q:Exit→Act→World→Prop} {a:Act} {w:World}
  {gf:Nat} {lb:Array Value} {caps els:List AV} (hg:a.eval g = .func (.func gf) #[] lb) (hit:IterP P gf caps els) (hn:3≤n)
  (I:Nat→(Nat→Prop)→World→Prop) (K:World→Prop) (M0:Nat→Prop) (hIe:∀ k M A B,I k M A→Ext A B→I k M B) (hKe:∀ A B,K A→Ext A B→K B)
  (hIo:∀ (k l:Nat) (M:Nat→Prop) (W:World) (r r':Loop),w.heap.size≤l→I k M W→W.heap[l]? = some (.loop r)→I k M (W.putObj l (.loop r')))
  (hKo:∀ (l:Nat) (W:World) (r r':Loop),w.heap.size≤l→K W→W.heap[l]? = some (.loop r)→K (W.putObj l (.loop r')))
  (hIM:∀ k M A,I k M A→(∀ b,M b→b<A.heap.size)∧∀ (b:Nat) (o:Obj),w.heap.size≤b→A.heap[b]? = some o→Odd o→¬M b)
  (hcaps:CP M0 w caps lb) (h0:I 0 M0 w)
  (hround:∀ (l k m:Nat) (x:AV) (u:Value) (M:Nat→Prop) (W:World) (lr:Loop),w.heap.size≤l→I k M W→W.heap[l]? = some (.loop lr)→els[k]? = some x→PV M W x u →
   assign.wpIn (FW (some l)) m P (Exit.then (fun a1 W1=>(∀ (b:Nat) (o:Obj),W.heap[b]? = some o→Odd o→W1.heap[b]? = some o) ∧
     body.wpIn (FW (some l)) m P (fun e _ W'=>((∀ (b:Nat) (o:Obj),W.heap[b]? = some o→Odd o→b≠l→W'.heap[b]? = some o)∧W'.heap[l]? = some (.loop { lr with state:=.busy })) ∧
      ((e = .normal∧∃ M',I (k+1) M' W'∧W.heap.size≤W'.heap.size∧∀ b,b<W.heap.size→¬M b→¬M' b∧(b≠l→W'.heap[b]? = W.heap[b]?))∨(e = .ret∧K W'))) a1 (W1.putObj l (.loop { lr with state:=.busy }))) (fun _ _ _=>False))
    { tmps:=a.tmps.setIfInBounds p u,defers:=[] } W)
  (hdone:∀ (D:Nat) (M:Nat→Prop) (W:World),w.heap.size≤D→I els.length M W→W.heap[D]? = some (.deferred (some []))→Q .normal { a with defers:=coll D::a.defers } W)
  (hstop:∀ (D:Nat) (W:World),w.heap.size≤D→K W→W.heap[D]? = some (.deferred (some []))→Q .ret { a with defers:=coll D::a.defers } W) :
  (Code.rangeFunc g #[p] assign body).wpIn (FW none) n P Q a w:=by
 refine wpIn_rangeFunc ?_
 intro fn hfn
 obtain ⟨rec,hrec⟩ : ∃ rec:LoopState→Option Code→Loop,rec=fun st pe=>{ state:=st,pending:=pe,fn,tmps:=a.tmps,params:=#[p],assign,body,defers:=w.heap.size }:=⟨_,rfl⟩
 obtain ⟨W1,hW1⟩ : ∃ W1,(w.alloc (.deferred (some []))).alloc (.loop (rec .ready none))=W1:=⟨_,rfl⟩
 have hE1:Ext w W1:=by rw [← hW1];exact (Ext.refl w).al.al
 have hL1:W1.heap[w.heap.size+1]? = some (.loop (rec .ready none)):=by
  rw [← hW1];have:=World.alloc_heap_new (w.alloc (.deferred (some []))) (.loop (rec .ready none));rwa [World.size_alloc]at this
 have hK1:W1.heap[w.heap.size]? = some (.deferred (some [])):=by
  rw [← hW1];exact (Below.heap_alloc _ _ _ (by simp)).trans (World.alloc_heap_new w _)
 have hI1:I 0 M0 W1:=hIe _ _ _ _ h0 hE1
 have hC1:CP M0 W1 caps lb:=⟨hcaps.1,fun i x u hx hu=>(hcaps.2 i x u hx hu).mono (fun b hb hM=>⟨hM,hE1.block b hb⟩) hE1.size⟩
 refine ⟨w.heap.size+1,[{ target:=.collected w.heap.size,args:=#[] }],W1,{ target:=.fn (.func gf) lb,args:=#[.func (.yield (w.heap.size+1)) #[] #[]] },W1,gf,
  #[.func (.yield (w.heap.size+1)) #[] #[]]++lb,W1,?_,?_,fun _ _=>trivial,?_,Z24,?_⟩
 · rw [← hW1,hrec];exact run_enterLoop_outer _ _ _ _ _
 · simp only [resolve,hg]
   simp [go_sem]
 · simp [invoke,go_sem,Z1W hit.1]
 · have stay : ∀ {A B:World} {b:Nat} {o:Obj},Ext A B→A.heap[b]? = some o→B.heap[b]? = some o:=fun h hb=>(h.block _ (Array.getElem?_eq_some_iff.1 hb).1).trans hb
   refine (hit.2 (n-1) (w.heap.size+1) lb
    (fun k M W=>I k M W∧W.heap[w.heap.size+1]? = some (.loop (rec .ready none))∧W.heap[w.heap.size]? = some (.deferred (some [])))
    (fun W=>K W∧W.heap[w.heap.size+1]? = some (.loop (rec .done (some .ret)))∧W.heap[w.heap.size]? = some (.deferred (some [])))
    M0 W1 (by omega) (fun k M A B h e=>⟨hIe k M A B h.1 e,stay e h.2.1,stay e h.2.2⟩) (fun A B h e=>⟨hKe A B h.1 e,stay e h.2.1,stay e h.2.2⟩) (fun k M A h=>(hIM k M A h.1).1) hC1 ?_ ⟨hI1,hL1,hK1⟩).mono ?_
   · rintro k x u M W ⟨hi,hl,hk⟩ hr hus
     have hls:w.heap.size+1<W.heap.size:=(Array.getElem?_eq_some_iff.1 hl).1
     have hy:=run_yield (P:=P) (args:=#[u]) hl (by rw [hrec];rfl)
     rw [hrec]at hy
     have hfold:(#[p].zip #[u]).foldl (fun t (x:Nat×Value)=>match x with|(p,v)=>t.setIfInBounds p v) a.tmps=a.tmps.setIfInBounds p u:=by
      rw [← Array.foldl_toList,Array.toList_zip];rfl
     have hy:(Instr.yield (w.heap.size+1) #[u]).run P W = .ok (.round (w.heap.size+1) fn (a.tmps.setIfInBounds p u) assign body) W:=by rw [← hfold];exact hy
     refine ⟨fn,_,assign,body,hy,roundIn_of_wpIn hfn (wpIn_mono (hround (w.heap.size+1) k _ x u M W _ (by omega) hi hl hr hus) ?_)⟩
     rintro e a1 W2 hp
     cases e with
     | normal =>
       obtain ⟨hodd0,hp⟩:=hp
       have hl2:=hodd0 _ _ hl trivial
       have hk2:=hodd0 _ _ hk trivial
       have hls2:w.heap.size+1<W2.heap.size:=(Array.getElem?_eq_some_iff.1 hl2).1
       refine ⟨_,run_beginRound hl2 (by rw [hrec]),wpIn_mono hp ?_⟩
       rintro e a3 W3 ⟨⟨hodd,hl3⟩,hp3⟩
       have hd3:=hodd _ _ hk trivial (by omega)
       have hls3:=(Array.getElem?_eq_some_iff.1 hl3).1
       have fin:∀ jump:Option Code,(W3.putObj (w.heap.size+1) (.loop (rec (if jump.isNone then .ready else .done) jump))).heap[w.heap.size+1]? = some (.loop (rec (if jump.isNone then .ready else .done) jump)) ∧
         (W3.putObj (w.heap.size+1) (.loop (rec (if jump.isNone then .ready else .done) jump))).heap[w.heap.size]? = some (.deferred (some [])):=fun jump =>
        ⟨World.putObj_heap_same hls3,(World.putObj_heap_other (by omega)).trans hd3⟩
       rcases hp3 with ⟨rfl,M',hi3,hsz3,hs3⟩ | ⟨rfl,hk3⟩
       · have hr3:=run_endRound (P:=P) none hl3
         have f1:=fin none
         rw [hrec]at hr3 f1
         refine ⟨_,_,hr3,.inl ⟨rfl,M',⟨hIo _ _ _ _ _ _ (by omega) hi3 hl3,?_,f1.2⟩,by simpa using hsz3,fun b hb hM=>⟨(hs3 b hb hM).1,?_⟩⟩⟩
         · rw [hrec];exact f1.1
         · by_cases e:b=w.heap.size+1
           · subst e
             rw [hl,hrec];exact f1.1
           · rw [World.putObj_heap_other e];exact (hs3 b hb hM).2 e
       · have hr3:=run_endRound (P:=P) (some .ret) hl3
         have f1:=fin (some .ret)
         rw [hrec]at hr3 f1
         refine ⟨_,_,hr3,.inr ⟨rfl,hKo _ _ _ _ (by omega) hk3 hl3,?_,f1.2⟩⟩
         rw [hrec];exact f1.1
     |_=>exact hp.elim
   · rintro e W2 ⟨⟨v,rfl⟩,⟨M,hi,hl,hk⟩ | ⟨hi,hl,hk⟩⟩
     · exact ⟨none,_,by have:=run_endLoop (P:=P) hl (by rw [hrec];simp);rw [hrec]at this;exact this,hdone _ M _ (Nat.le_refl _) (hIo _ _ _ _ _ _ (by omega) hi hl) ((World.putObj_heap_other (by omega)).trans hk)⟩
     · exact ⟨some .ret,_,by have:=run_endLoop (P:=P) hl (by rw [hrec];simp);rw [hrec]at this;exact this,wpIn_ret (hstop _ _ (Nat.le_refl _) (hKo _ _ _ _ (by omega) hi hl) ((World.putObj_heap_other (by omega)).trans hk))⟩
section
variable {P:Program} {R:Run} {st:St} {a:Act} {W:World} {κ:Nat→Option (Nat×Nat)}
theorem SK.both {W0:World} (hR:R.W0=W0) (h:SK R st a W κ) {l:Nat} {r r0:Loop} {o':Obj} (hl:W.heap[l]? = some (.loop r)) (hl0:W0.heap[l]? = some (.loop r0)):SK { R with W0:=W0.putObj l o' } st a (W.putObj l o') κ:=by
 subst hR
 have hd:Dfr W (W.putObj l o'):=.put hl trivial
 have hlt:l<W.heap.size:=(Array.getElem?_eq_some_iff.1 hl).1
 have hlt0:l<R.W0.heap.size:=(Array.getElem?_eq_some_iff.1 hl0).1
 have same:∀ b,(W.heap[b]? = R.W0.heap[b]? ∨ b=l)→(W.putObj l o').heap[b]? = (R.W0.putObj l o').heap[b]?:=fun b hb=>by
  by_cases e:b=l
  · subst e;rw [World.putObj_heap_same hlt,World.putObj_heap_same hlt0]
  · rw [World.putObj_heap_other e,World.putObj_heap_other e];exact hb.resolve_right e
 refine ⟨?_,h.size,fun n x hx=>(h.tm n x hx).dfr hd,fun k o hk=>?_,h.dom,h.inj,fun b hb=>by simpa using h.low b hb,h.apart,?_,fun g cs hg=>(h.gr g cs hg).dfr hd,?_,h.ent⟩
 · obtain ⟨cs,e,nd,hc,hz⟩:=h.defers
   refine ⟨cs,e,nd,fun c hm=>⟨by simpa using (hc c hm).1,?_⟩,hz⟩
   rw [World.putObj_heap_other (by rintro rfl;have:=(hc _ hm).2;rw [hl]at this;cases this)]
   exact (hc c hm).2
 · obtain ⟨b,s,h1,h2,h3,h4⟩:=h.obj k o hk
   refine ⟨b,s,h1,by simpa using h2,by simpa using h3,?_⟩
   cases o with
   | box cells =>
     obtain ⟨h0,cs,t,h5,h6,h7⟩:=h4
     exact ⟨h0,cs,t,hd.same h5 (fun e=>e),h6,fun j x hj=>(h7 j x hj).imp fun v hv=>⟨hv.1,hv.2.dfr hd⟩⟩
   | row sz rows =>
     obtain ⟨h0,cs,t,h5,h6,h7⟩:=h4
     exact ⟨h0,cs,t,hd.same h5 (fun e=>e),h6,fun i j r x hi hj=>(h7 i j r x hi hj).imp fun v hv=>⟨hv.1,hv.2.dfr hd⟩⟩
   | mp kvs =>
     obtain ⟨h0,es,t,h5,h6,h7,h8⟩:=h4
     exact ⟨h0,es,t,hd.same h5 (fun e=>e),h6,h7,fun i x y hi=>(h8 i x y hi).imp fun e he=>⟨he.1,he.2.1.dfr hd,he.2.2.dfr hd⟩⟩
 · exact ⟨h.kp.os,h.kp.tape,h.kp.output,by simpa using h.kp.size,fun i hi hx=>same i (.inl (h.kp.block i (by simpa using hi) hx))⟩
 · refine ⟨by simpa using h.mono.size,fun b hb hM=>⟨(h.mono.imm b (by simpa using hb) hM).1,same b (.inl (h.mono.imm b (by simpa using hb) hM).2)⟩,h.mono.box,fun k sz m hk=>?_⟩
   obtain ⟨m',g1,g2,g3⟩:=h.mono.row k sz m hk
   refine ⟨m',g1,g2,fun e b s cs t hl=>⟨(g3 e b s cs t hl).1,fun hw=>?_⟩⟩
   have hne:b≠l∨∃ cs' t',o' = .cells cs' t' (0,0):=by
    by_cases e:b=l
    · subst e
      have hw:(R.W0.putObj b o').heap[b]? = _:=hw
      rw [World.putObj_heap_same hlt0]at hw
      exact .inr ⟨_,_,Option.some.inj hw⟩
    · exact .inl e
   by_cases e:b=l
   · subst e
     have hw:(R.W0.putObj b o').heap[b]? = _:=hw
     rw [World.putObj_heap_same hlt0]at hw
     exact ⟨cs,(World.putObj_heap_same hlt).trans hw,rfl⟩
   · have hw:(R.W0.putObj l o').heap[b]? = _:=hw
     rw [World.putObj_heap_other e]at hw
     obtain ⟨cs',g4,g5⟩:=(g3 (by assumption) b s cs t (by assumption)).2 hw
     exact ⟨cs',hd.same g4 (fun e=>e),g5⟩
theorem SK.keepOdd (h:SK R st a W κ) (hX:∀ b,R.X b→∀ o,R.W0.heap[b]? = some o→¬Odd o) {b:Nat} {o:Obj} (hb:R.W0.heap[b]? = some o) (ho:Odd o):W.heap[b]? = some o :=
 (h.kp.block b (Array.getElem?_eq_some_iff.1 hb).1 fun hx=>hX b hx o hb ho).trans hb
theorem SK.notOdd (h:SK R st a W κ) {k b s:Nat} (hk:κ k=some (b,s)) {o:Obj} (hb:W.heap[b]? = some o):¬Odd o:=by
 intro hodd
 obtain ⟨ob,h2⟩:=h.dom _ _ hk
 obtain ⟨b',s',h3,h4,h5,h6⟩:=h.obj _ _ h2
 rw [hk]at h3
 simp only [Option.some.injEq,Prod.mk.injEq]at h3
 obtain ⟨rfl,rfl⟩:=h3
 cases ob with
 |box cells=>obtain ⟨-,cs,t,q,-⟩:=h6;rw [q]at hb;cases hb;exact hodd
 |row sz rows=>obtain ⟨-,cs,t,q,-⟩:=h6;rw [q]at hb;cases hb;exact hodd
 |mp kvs=>obtain ⟨-,cs,t,q,-⟩:=h6;rw [q]at hb;cases hb;exact hodd
theorem Z54 {cs cs':List Nat} (h:cs.map coll=cs'.map coll):cs=cs':=by
 induction cs generalizing cs' with
 |nil=>cases cs' <;> simp_all
 | cons c cs ih=>cases cs' with
   |nil=>simp at h
   | cons c' cs' =>
     simp only [List.map_cons,List.cons.injEq]at h
     obtain ⟨h1,h2⟩:=h
     simp only [coll,Deferred.mk.injEq,Target.collected.injEq,and_true]at h1
     rw [h1,ih h2]
def RndB (ok:List (Nat×AObj)→Prop) (ret:List (Nat×AObj)→Prop):Exit→St→Prop
 |.normal,s=>ok (frzSt newK s).o
 |.ret,s=>ret (frzSt newK s).o
 |_,_=>False
theorem Z55 {g:RA} {p gf:Nat} {assign body:RCode} {Φ:Exit→St→Prop} {caps els:List AV} (hrd:R.Top) (hit:IterP P gf caps els) (hg:evA R.G st g = .func (.func gf) [] caps) (hp:caps.all AV.pure=true)
  (ρ:Nat→Nat) (t0:List (Nat×AV)) (objs:Nat→List (Nat×AObj)) (keys:List Nat) (Iv:Nat→Prop) (hI0:Iv 0) (hkeys:∀ k,(objs k).map (·.1)=keys) (hK:∀ k∈keys,1000≤k) (hinj:(keys.map ρ).Nodup)
  (h0:setsB ρ (objs 0) st=st) (hin:∀ k,∀ q∈objs k,keptO (objs k) q.2=true)
  (ht0:∀ q∈t0,lk st.t q.1=some (q.2.ren ρ)∧q.1≠p∧∀ k∈q.2.keys,k∈keys)
  (hround:∀ (k:Nat) (x:AV),els[k]? = some x→Iv k→∀ R':Run,R'.G=R.G→R'.N=R.N→AR P R' assign ⟨(p,x)::t0,objs k⟩ fun e s1=>e = .normal∧∀ R'':Run,R''.G=R.G→R''.N=R.N →
   AR P R'' body s1 (RndB (fun o=>o=objs (k+1)∧Iv (k+1)) fun o=>o.map (·.1)=keys∧Φ .ret (setsB ρ o st)))
  (hdone:Iv els.length→Φ .normal (setsB ρ (objs els.length) st)):AR P R (.rngf g [p] assign body) st Φ:=by
 intro c hc m a W hs
 cases c <;> simp only [Z1A,Bool.false_eq_true,Bool.and_eq_true,beq_iff_eq]at hc
 rename_i g' ps' ca cb
 obtain ⟨⟨⟨⟨hcg,hps⟩,hpn⟩,hca⟩,hcb⟩:=hc
 have hpn:p<R.N:=by simpa using hpn
 obtain rfl:ps' = #[p]:=by rw [← Array.toList_inj];exact hps
 rw [hrd.1]
 refine wpFW.2 ((wpFW (n:=3)).1 ?_)
 obtain ⟨κ0,hs⟩:=hs
 obtain ⟨S,hS⟩ : ∃ S:Nat→St,S=fun k=>setsB ρ (objs k) st:=⟨_,rfl⟩
 have hSt:∀ k,(S k).t=st.t:=fun k=>by rw [hS];exact Z4Y ρ _ _
 have nod:∀ {o:List (Nat×AObj)},o.map (·.1)=keys→(o.map fun p=>ρ p.1).Nodup:=fun {o} ho=>by
  have:o.map (fun p=>ρ p.1)=(o.map (·.1)).map ρ:=by simp [List.map_map,Function.comp_def]
  rw [this,ho];exact hinj
 have isk:∀ {o:List (Nat×AObj)},o.map (·.1)=keys→∀ k,isK o k=true↔k∈keys:=fun {o} ho k=>by rw [isK,Z51,ho]
 have hevg:∀ k,evA R.G (S k) g = .func (.func gf) [] caps:=fun k=>by
  rw [← hg]
  cases g <;> simp only [evA,St.tmp,hSt]
 have hv0:=hs.ev hcg
 rw [hg]at hv0
 obtain ⟨us0,lb,hav,hus0,hlb0⟩:=hv0.func_inv
 obtain rfl:us0 = #[]:=by
  have:=hus0.1
  rw [← Array.toList_inj]
  exact List.length_eq_zero_iff.1 (by simpa using this)
 have hcaps:∀ k W κ,SK R (S k) a W κ→CP ((S k).env R.M κ).M W caps lb:=fun k W κ h=>by
  have h1:=h.ev hcg
  rw [hevg,hav]at h1
  obtain ⟨us1,lb1,h2,-,h3⟩:=h1.func_inv
  simp only [Value.func.injEq]at h2
  obtain ⟨-,-,rfl⟩:=h2
  exact ⟨by simpa using h3.1,fun i x u hx hu=>(h3.2 i x u hx (by simpa using hu)).toPV (List.all_eq_true.1 hp x (List.mem_of_getElem? hx))⟩
 obtain ⟨cs0,e0,nd0,hc0,-⟩:=hs.defers
 have marks:∀ (D:Nat) (st1:St) (W1:World) (κ1:Nat→Option (Nat×Nat)),W.heap.size≤D→SK R st1 a W1 κ1→W1.heap[D]? = some (.deferred (some []))→SK R st1 { a with defers:=coll D::a.defers } W1 κ1:=fun D st1 W1 κ1 hD h hd=>by
  obtain ⟨cs1,e1,nd1,hc1,-⟩:=h.defers
  obtain rfl:cs1=cs0:=Z54 (List.append_cancel_right (e1.symm.trans e0))
  refine h.odd ⟨rfl,fun b=>.inl rfl⟩ rfl rfl rfl (fun b _=>rfl) rfl ⟨D::cs1,by simp [e1],List.nodup_cons.2 ⟨fun hm=>?_,nd1⟩,fun c hm=>?_,fun e=>by rw [hrd.2]at e;cases e⟩
  · have:=(Array.getElem?_eq_some_iff.1 (hc0 D hm).2).1;omega
  · rcases List.mem_cons.1 hm with rfl|hm
    · exact ⟨Nat.le_trans hs.kp.size hD,hd⟩
    · exact hc1 c hm
 have put:∀ (l:Nat) (st1:St) (W1:World) (κ1:Nat→Option (Nat×Nat)) (r r':Loop),W.heap.size≤l→SK R st1 a W1 κ1→W1.heap[l]? = some (.loop r)→SK R st1 a (W1.putObj l (.loop r')) κ1:=fun l st1 W1 κ1 r r' hl h hr=>by
  obtain ⟨cs1,e1,nd1,hc1,hz1⟩:=h.defers
  have:=hs.kp.size
  refine h.odd (.put hr trivial) rfl rfl rfl (fun b hb=>World.putObj_heap_other (by omega)) rfl ⟨cs1,e1,nd1,fun c hm=>⟨(hc1 c hm).1,?_⟩,hz1⟩
  rw [World.putObj_heap_other (by rintro rfl;have:=(hc1 _ hm).2;rw [hr]at this;cases this)]
  exact (hc1 c hm).2
 have hs0:SK R (S 0) a W κ0:=by rw [hS];show SK R (setsB ρ (objs 0) st) a W κ0;rw [h0];exact hs
 refine Z53 (I:=fun k M W'=>∃ κ,(M=((S k).env R.M κ).M∧Iv k)∧SK R (S k) a W' κ) (K:=fun W'=>∃ s κ,Φ .ret s∧SK R s a W' κ) (M0:=((S 0).env R.M κ0).M) (caps:=caps) (els:=els) hav hit (by omega) (fun k M A B h e=>h.imp fun κ h=>⟨h.1,h.2.grow e⟩) (fun A B ⟨s,κ,h1,h2⟩ e=>⟨s,κ,h1,h2.grow e⟩)
  (fun k l M W' r r' hl ⟨κ,hM,h⟩ hr=>⟨κ,hM,put l _ _ _ r r' hl h hr⟩) (fun l W' r r' hl ⟨s,κ,h1,h⟩ hr=>⟨s,κ,h1,put l _ _ _ r r' hl h hr⟩) (fun k M A ⟨κ,⟨hM,_⟩,h⟩=>?_) (hcaps 0 W κ0 hs0) ⟨κ0,⟨rfl,hI0⟩,hs0⟩ ?_ ?_ ?_
 · subst hM
   refine ⟨fun b hb=>h.owned_lt hb,fun b o hb ho hodd hM=>?_⟩
   rcases hM with hM | ⟨q,s,hq⟩
   · have:=h.low b hM
     have:=hs.kp.size
     omega
   · exact h.notOdd hq ho hodd
 · intro l k m x u M W1 lr hl hI hlr hx hxu
   obtain ⟨κ,⟨rfl,hIk⟩,h⟩:=hI
   have hkk:∀ q,isK (objs k) q=true→q∈keys:=fun q hq=>(isk (hkeys k) q).1 hq
   have enterAt:∀ W',SK R (S k) a W' κ→SK (rC (objs k) ρ R (S k) κ W') (obSt (objs k)) noAct W' (kC (objs k) ρ κ)∧∀ (x:AV) (v:Value),inK (objs k) x→VR ((S k).env R.M κ) W' (x.ren ρ) v→VR ((obSt (objs k)).env (mC (objs k) ρ R (S k) κ) (kC (objs k) ρ κ)) W' x v:=fun W' h =>
    Z4V h (fun q hq=>hK q (hkk q hq)) (fun q q' h1 h2 e=>Z52 hinj (hkk q h1) (hkk q' h2) e) (fun q o hq=>by rw [hS];exact Z50 ρ _ _ q o (nod (hkeys k)) hq)
     (fun q o hq=>by
      have h2:=hin k (q,o) (Z4F hq)
      have kept:∀ x,keptA (objs k) x=true→inK (objs k) x:=fun x hx k' hk'=>List.all_eq_true.1 hx k' hk'
      cases o with
      |box cells=>exact fun x hx=>kept x (List.all_eq_true.1 h2 x hx)
      |row sz rows=>exact fun r hr x hx=>kept x (List.all_eq_true.1 (List.all_eq_true.1 h2 r hr) x hx)
      | mp kvs =>
        intro p hp
        have:=List.all_eq_true.1 h2 p hp
        simp only [Bool.and_eq_true]at this
        exact ⟨kept _ this.1,kept _ this.2⟩)
   obtain ⟨h1,conv⟩:=enterAt W1 h
   have hXo:∀ W',SK R (S k) a W' κ→∀ b,(rC (objs k) ρ R (S k) κ W').X b→∀ o,W'.heap[b]? = some o→¬Odd o:=fun W' h b ⟨q,s,hq⟩ o ho hodd=>by
    simp only [kC]at hq
    split at hq
    · exact h.notOdd hq ho hodd
    · cases hq
   have hMM:∀ b,((obSt (objs k)).env (mC (objs k) ρ R (S k) κ) (kC (objs k) ρ κ)).M b→((S k).env R.M κ).M b:=fun b hb=>by
    rcases hb with hb | ⟨q,s,hq⟩
    · exact hb.1
    · simp only [kC]at hq
      split at hq
      · exact .inr ⟨ρ q,s,hq⟩
      · cases hq
   let R1:Run:={ rC (objs k) ρ R (S k) κ W1 with N:=R.N,rd:=some l }
   have hN:R.N=a.tmps.size:=h.size.symm
   have start:SK R1 ⟨(p,x)::t0,objs k⟩ { tmps:=a.tmps.setIfInBounds p u,defers:=[] } W1 (kC (objs k) ρ κ):=by
    refine ⟨.nil _ _ _ _,by show (a.tmps.setIfInBounds p u).size=R.N;simp [hN],fun n y hy=>?_,h1.obj,h1.dom,h1.inj,h1.low,h1.apart,h1.kp,h1.gr,h1.mono,h1.ent⟩
    have hy:lk ((p,x)::t0) n=some y:=hy
    show VR ((obSt (objs k)).env (mC (objs k) ρ R (S k) κ) (kC (objs k) ρ κ)) W1 y ((a.tmps.setIfInBounds p u).getD n Go.undef)
    simp only [lk]at hy
    split at hy
    · rename_i e
      subst e
      obtain rfl:x=y:=by simpa using hy
      have hlt:p<a.tmps.size:=by rw [← hN];exact hpn
      have e:(a.tmps.setIfInBounds p u).getD p Go.undef=u:=by simp [Array.getD,hlt]
      rw [e]
      exact .pv (hxu.mono (fun b _ hb=>⟨fun hb'=>hb (hMM b hb'),rfl⟩) (Nat.le_refl _))
    · rename_i e
      have e2:(a.tmps.setIfInBounds p u).getD n Go.undef=a.tmps.getD n Go.undef:=by
       simp only [Array.getD_eq_getD_getElem?,Array.getElem?_setIfInBounds,if_neg e]
      rw [e2]
      obtain ⟨g1,g2,g3⟩:=ht0 (n,y) (Z4F hy)
      have g4:=h.tm n (y.ren ρ) (by show lk (S k).t n=_;rw [hSt];exact g1)
      exact conv y _ (fun q hq=>(isk (hkeys k) q).2 (g3 q hq)) g4
   refine wpIn_mono (hround k x hx hIk R1 rfl rfl ca hca m _ W1 ⟨_,start⟩) ?_
   rintro e a1 W2 ⟨s1,⟨rfl,hbody⟩,κ1,h2⟩
   refine ⟨fun b o hb ho=>h2.keepOdd (hXo W1 h) hb ho,?_⟩
   have hl2:W2.heap[l]? = some (.loop lr):=h2.keepOdd (hXo W1 h) hlr trivial
   have h3:=SK.both rfl h2 (o':=.loop { lr with state:=.busy }) hl2 hlr
   have hb:=put l _ W1 κ lr { lr with state:=.busy } hl h hlr
   refine wpIn_mono (hbody { R1 with W0:=W1.putObj l (.loop { lr with state:=.busy }) } rfl rfl cb hcb m _ _ ⟨_,h3⟩) ?_
   rintro e a2 W3 ⟨s2,hrnd,hs2⟩
   have hodd:∀ κ2,SK { R1 with W0:=W1.putObj l (.loop { lr with state:=.busy }) } s2 a2 W3 κ2→(∀ (b:Nat) (o:Obj),W1.heap[b]? = some o→Odd o→b≠l→W3.heap[b]? = some o)∧W3.heap[l]? = some (.loop { lr with state:=.busy }):=fun κ2 h4 =>
    ⟨fun b o hb1 ho hne=>h4.keepOdd (hXo _ hb) ((World.putObj_heap_other hne).trans hb1) ho,
     h4.keepOdd (hXo _ hb) (o:=.loop { lr with state:=.busy }) (World.putObj_heap_same (Array.getElem?_eq_some_iff.1 hlr).1) trivial⟩
   have leave:∀ o':List (Nat×AObj),o'.map (·.1)=keys→(frzSt newK s2).o=o'→∃ κ3,SK R (setsB ρ o' st) a W3 κ3∧Mono ((S k).env R.M κ) (W1.putObj l (.loop { lr with state:=.busy })) ((setsB ρ o' st).env R.M κ3) W3:=fun o' hk' he=>by
    obtain ⟨κ2,h4⟩:=Weak.frz newK s2 (fun k hk=>by simp [newK];omega) _ a2 W3 hs2
    have g:=h4.sub (t':=[]) (fun n x hx=>by simp [lk]at hx)
    have e:({ frzSt newK s2 with t:=[] }:St)=obSt o':=by subst he;rfl
    rw [e]at g
    have g2:SK (rC (objs k) ρ R (S k) κ (W1.putObj l (.loop { lr with state:=.busy }))) (obSt o') noAct W3 κ2 :=
     ⟨.nil _ _ _ _,rfl,fun n x hx=>by simp [obSt,St.tmp,lk]at hx,g.obj,g.dom,g.inj,g.low,g.apart,g.kp,g.gr,g.mono,g.ent⟩
    obtain ⟨κ3,h5,h6,-⟩:=Z4W hb (st1:=setsB ρ o' st) (fun q q' h1 h2 e=>Z52 hinj (hkk q h1) (hkk q' h2) e) (fun q o hq=>by rw [hS];exact Z50 ρ _ _ q o (nod (hkeys k)) hq)
     (fun q=>by
      have h1:=isk hk' q
      have h2:=isk (hkeys k) q
      cases e1:isK o' q <;> cases e2:isK (objs k) q <;> simp_all) g2 ((Z4Y ρ _ _).trans (hSt k).symm) (fun q o hq=>Z50 ρ _ _ q o (nod hk') hq)
     (fun j hj=>by
      have out:∀ {o:List (Nat×AObj)},o.map (·.1)=keys→(setsB ρ o st).get j=st.get j:=fun {o} ho=>Z4Z ρ j _ _ fun q hq=>hj q.1 ((isk (hkeys k) q.1).2 (by rw [← ho];exact List.mem_map.2 ⟨q,hq,rfl⟩))
      rw [hS]
      exact (out hk').trans (out (hkeys k)).symm)
    exact ⟨κ3,h5,h6⟩
   obtain ⟨κ2,h4⟩:=id hs2
   refine ⟨hodd κ2 h4,?_⟩
   cases e with
   | normal =>
     obtain ⟨κ3,h5,h6⟩:=leave (objs (k+1)) (hkeys _) hrnd.1
     refine .inl ⟨rfl,_,⟨κ3,⟨rfl,hrnd.2⟩,by rw [hS];exact h5⟩,by have:=h6.size;simpa using this,fun b hb1 hM=>?_⟩
     obtain ⟨g1,g2⟩:=h6.imm b (by simpa using hb1) hM
     exact ⟨by rw [hS];exact g1,fun hne=>g2.trans (World.putObj_heap_other hne)⟩
   | ret =>
     obtain ⟨hk',hΦ⟩:=hrnd
     obtain ⟨κ3,h5,-⟩:=leave _ hk' rfl
     exact .inr ⟨rfl,_,κ3,hΦ,h5⟩
   |_=>exact hrnd.elim
 · rintro D M W1 hD ⟨κ,⟨-,hIk⟩,h⟩ hd
   refine ⟨_,?_,κ,marks D _ _ _ hD h hd⟩
   rw [hS]
   exact hdone hIk
 · rintro D W1 hD ⟨s,κ,h1,h⟩ hd
   exact ⟨s,h1,κ,marks D _ _ _ hD h hd⟩
end
def isO (o:Oper) (d:Nat) (f:Op→Bool):Bool:=decide (o.dst=some d)&&o.guard.isNone&&f o.op
def tmpB (n:Nat):Operand→Bool
 |.tmp m=>m == n
 |_=>false
def Z56:RCode:=.seq (.reg 39 false [{ d:=some 2,op:=.mov (.c .nilp) },{ d:=some 3,op:=.mov (.c (.int .i64 20)) }]) .ret
def opnR (P:Program) (N:Nat):Code→Bool
 | .seq (.region _ ops1 false) (.block b1 (.loop (.seq (.region _ ops2 false) (.seq (.cond t1 .skip (.exit b2)) (.block _ (.seq (.region _ ops3 false) (.seq (.region _ ops4 false) (.cond t2 c5 .skip)))))))) =>
   b1 == b2&&tmpB 116 t1&&tmpB 120 t2&&decide (120<N)&&Z1A P N c5 Z56&&(match ops1.toList,ops2.toList,ops3.toList,ops4.toList with
   | [o1,o2],[o3,o4],[o5,o6,o7],[o8,o9] =>
     isO o1 113 (fun o=>match o with | .move x | .assign x=>tmpB 12 x|_=>false)&&isO o2 114 (fun o=>match o with | .range t x=>tmpB 113 x&&(match P.underlying t with|some (.map ..)=>true|_=>false)|_=>false) &&
     isO o3 115 (fun o=>match o with | .next x false=>tmpB 114 x|_=>false)&&isO o4 116 (fun o=>match o with | .extract x 0=>tmpB 115 x|_=>false) &&
     isO o5 117 (fun o=>match o with | .entry x=>tmpB 114 x|_=>false)&&isO o6 118 (fun o=>match o with | .extract x 1=>tmpB 117 x|_=>false)&&isO o7 15 (fun o=>match o with | .move x | .assign x=>tmpB 118 x|_=>false) &&
     isO o8 119 (fun o=>match o with | .move x | .assign x=>tmpB 15 x|_=>false)&&isO o9 120 (fun o=>match o with | .binOp .gtr t x (.const (.int .i64 6)) _=>tmpB 119 x&&Za P t|_=>false)
   |_,_,_,_=>false)
 |_=>false
def opnT:List Nat:=[15,113,114,115,116,117,118,119,120]
section
variable {P:Program} {R:Run} {st:St} {a:Act} {W:World} {κ:Nat→Option (Nat×Nat)}
theorem SK.retmp (h:SK R st a W κ) {a':Act} (hs:a'.tmps.size=a.tmps.size) (hd:a'.defers=a.defers) (ht:∀ n x,st.tmp n=some x→a'.tmps.getD n Go.undef=a.tmps.getD n Go.undef):SK R st a' W κ :=
 ⟨by rw [hd];exact h.defers,hs.trans h.size,fun n x hx=>by rw [ht n x hx];exact h.tm n x hx,h.obj,h.dom,h.inj,h.low,h.apart,h.kp,h.gr,h.mono,h.ent⟩
theorem Z57 {a:Act} {d n:Nat} {v:Value} (hd:d<a.tmps.size):(a.put (some d) v).tmps.getD n Go.undef=if d=n then v else a.tmps.getD n Go.undef:=by
 show (a.tmps.setIfInBounds d v).getD n Go.undef=_
 by_cases e:d=n
 · subst e;simp [Array.getD,hd]
 · simp only [Array.getD_eq_getD_getElem?,Array.getElem?_setIfInBounds,if_neg e]
theorem Z58 {a:Act} {d:Nat} {v:Value}:(a.put (some d) v).tmps.size=a.tmps.size:=by simp [Act.put]
theorem Z59 {rd:Option Nat} {m:Nat} {ops:Array Oper} {j d:Nat} {o:Oper} {f:Op→Bool} {K:Act→World→Prop} {Q:Exit→Act→World→Prop} {v:Value} {W':World} (ho:ops[j]? = some o) (hk:isO o d f=true) (hnd:∀ c,o.op≠.defer c)
  (hr:(execOp a.eval o).run P W = .ok (.value v) W') (hK:K (a.put (some d) v) W'):wpOpIn (FW rd) m P ops Q j K a W:=by
 simp only [isO,Bool.and_eq_true,decide_eq_true_eq,Option.isNone_iff_eq_none]at hk
 unfold wpOpIn
 simp only [ho]
 have hw:Region.wanted o (yielded ops a.tmps)=true:=by unfold Region.wanted;rw [hk.1.2]
 rw [if_pos hw]
 refine ⟨fun _ _=>trivial,?_⟩
 rw [Oper.semAt_eq _ _ _ hnd,hr]
 show K (a.put o.dst v) W'
 rw [hk.1.1];exact hK
theorem Z5a {n:Nat} {x:Operand} (h:tmpB n x=true):x = .tmp n:=by
 cases x <;> simp [tmpB]at h
 rw [h]
theorem Z5b (a:Act) (n:Nat):a.eval (.tmp n)=a.tmps.getD n Go.undef:=rfl
theorem Z5c {o:Oper} {d:Nat} {f:Op→Bool} (h:isO o d f=true):f o.op=true:=by
 simp only [isO,Bool.and_eq_true]at h;exact h.2
def KeptT (a a':Act):Prop:=a'.tmps.size=a.tmps.size∧a'.defers=a.defers∧∀ n,n ∉ opnT→a'.tmps.getD n Go.undef=a.tmps.getD n Go.undef
theorem KeptT.put {a a':Act} (h:KeptT a a') {d:Nat} (hd:d∈opnT) (v:Value):KeptT a (a'.put (some d) v):=by
 refine ⟨Z58.trans h.1,h.2.1,fun n hn=>?_⟩
 rw [← h.2.2 n hn]
 show (a'.tmps.setIfInBounds d v).getD n Go.undef=_
 have e:d≠n:=by rintro rfl;exact hn hd
 simp only [Array.getD_eq_getD_getElem?,Array.getElem?_setIfInBounds,if_neg e]
theorem SK.iter (h:SK R st a W κ) {r bm since c c':Nat} {seen seen':Array Nat} (hr:W.heap[r]? = some (.mapIter (some bm) since seen c)) (hr0:R.W0.heap.size≤r):SK R st a (W.putObj r (.mapIter (some bm) since seen' c')) κ:=by
 refine h.odd (.put hr trivial) rfl rfl rfl (fun b hb=>World.putObj_heap_other (by omega)) rfl (h.defers.of fun x hx=>?_)
 rw [World.putObj_heap_other (by rintro rfl;rw [hr]at hx;cases hx)]
 exact hx
set_option maxRecDepth 4000 in
theorem Z5d {Φ:Exit→St→Prop} {kvs:List (Int×Int)} (h12:st.tmp 12=some (.vmap (kvs.map fun p=>(.int .i64 p.1,.int .i64 p.2)))) (hfree:∀ n∈opnT,st.tmp n=none)
  (hok:(∀ p∈kvs,p.2≤6)→Φ .normal st) (hbad:(∃ p∈kvs,6<p.2)→AR P R Z56 st fun e s=>e = .ret∧Φ .ret s):AR P R (.raw (opnR P)) st Φ:=by
 intro c hc m a W hs
 have hc:opnR P R.N c=true:=by cases c <;> exact hc
 unfold opnR at hc
 split at hc <;> try (simp at hc;done)
 rename_i i1 ops1 b1 i2 ops2 t1 b2 b3 i3 ops3 i4 ops4 t2 c5 hcS
 simp only [Bool.and_eq_true,beq_iff_eq,decide_eq_true_eq]at hc
 obtain ⟨⟨⟨⟨⟨rfl,ht1⟩,ht2⟩,hN⟩,hc5⟩,hc⟩:=hc
 obtain rfl:=Z5a ht1
 obtain rfl:=Z5a ht2
 split at hc <;> try (simp at hc;done)
 rename_i o1 o2 o3 o4 o5 o6 o7 o8 o9 e1 e2 e3 e4
 obtain rfl:ops1 = #[o1,o2]:=by rw [← Array.toList_inj];exact e1
 obtain rfl:ops2 = #[o3,o4]:=by rw [← Array.toList_inj];exact e2
 obtain rfl:ops3 = #[o5,o6,o7]:=by rw [← Array.toList_inj];exact e3
 obtain rfl:ops4 = #[o8,o9]:=by rw [← Array.toList_inj];exact e4
 simp only [Bool.and_eq_true]at hc
 obtain ⟨⟨⟨⟨⟨⟨⟨⟨k1,k2⟩,k3⟩,k4⟩,k5⟩,k6⟩,k7⟩,k8⟩,k9⟩:=hc
 obtain ⟨κ,hk⟩:=hs
 have hsz:a.tmps.size=R.N:=hk.size
 have hv:=hk.tm 12 _ h12
 obtain ⟨b,es,clock,hmap,ho,hst,hn,hvals⟩ : ∃ b es clock,a.tmps.getD 12 Go.undef = .map (some b)∧W.heap[b]? = some (.map es clock)∧MapKept.Stamped es clock∧es.size=kvs.length∧∀ (i:Nat) (p:Int×Int) (e:MapEntry),kvs[i]? = some p→es[i]? = some e→e.val = .int .i64 p.2:=by
  generalize hvv:a.tmps.getD 12 Go.undef=v at hv
  cases hv with
  | pv hv =>
    cases hv with
    | vmap _ b es clock hb hM ho hs hn hk' hv' =>
      refine ⟨b,es,clock,rfl,ho,hs,by simpa using hn,fun i p e hi he=>?_⟩
      have:=hv' i (.int .i64 p.1) (.int .i64 p.2) e (by rw [List.getElem?_map,hi];rfl) he
      generalize e.val=w at this
      cases this;rfl
 have hval:∀ e∈es.toList,∃ p∈kvs,e.val = .int .i64 p.2:=fun e he=>by
  obtain ⟨i,hi,rfl⟩:=List.getElem_of_mem he
  simp only [Array.length_toList]at hi
  have hi2:i<kvs.length:=by omega
  exact ⟨kvs[i],List.getElem_mem _,hvals i _ _ (List.getElem?_eq_getElem hi2) (by simp [hi])⟩
 have hval2:∀ p∈kvs,∃ e∈es.toList,e.val = .int .i64 p.2:=fun p hp=>by
  obtain ⟨i,hi,rfl⟩:=List.getElem_of_mem hp
  have hi2:i<es.size:=by omega
  exact ⟨es[i],by simp,hvals i _ _ (List.getElem?_eq_getElem hi) (by simp [hi2])⟩
 have e1o:=Z5c k1
 have e2o:=Z5c k2
 have run1:(execOp a.eval o1).run P W = .ok (.value (.map (some b))) W:=by
  split at e1o <;> try (simp at e1o;done)
  all_goals
   rename_i x hx
   obtain rfl:=Z5a e1o
   simp only [execOp,hx,Sem.run_bind,Sem.run_pure,Result.andThen_ok,Z5b,hmap]
 have nd1:∀ c,o1.op≠.defer c:=fun c e=>by rw [e]at e1o;simp at e1o
 have nd2:∀ c,o2.op≠.defer c:=fun c e=>by rw [e]at e2o;simp at e2o
 refine wpIn_seq (wpIn_region ?_)
 show wpOpsIn (FW R.rd) m P #[o1,o2] _ [0,1] a W
 rw [wpOpsIn_cons]
 refine Z59 rfl k1 nd1 run1 ?_
 rw [wpOpsIn_cons]
 have run2:∃ W1,W1=W.alloc (.mapIter (some b) clock #[] clock)∧(execOp (a.put (some 113) (.map (some b))).eval o2).run P W = .ok (.value (.pointer (some ⟨W.heap.size,0,none⟩))) W1:=by
  split at e2o <;> try (simp at e2o;done)
  rename_i t x hx
  simp only [Bool.and_eq_true]at e2o
  obtain rfl:=Z5a e2o.1
  have e2p:=e2o.2
  split at e2p <;> try (simp at e2p;done)
  rename_i kt et hu
  refine ⟨_,rfl,?_⟩
  have hr:=run_range_map (P:=P) W t kt et b es clock hu ho
  simp only [execOp,hx,Sem.run_bind,Z5b,Z57 (show 113<a.tmps.size by omega),if_true,hr,Result.andThen_ok,Sem.run_pure]
 obtain ⟨W1,hW1,run2⟩:=run2
 refine Z59 rfl k2 nd2 run2 ?_
 have hbW:b<W.heap.size:=(Array.getElem?_eq_some_iff.1 ho).1
 have hk1:SK R st a W1 κ:=by rw [hW1];exact hk.grow (Ext.al (Ext.refl W))
 have ho1:W1.heap[b]? = some (.map es clock):=by rw [hW1];exact (heap_alloc_old W _ hbW).trans ho
 have hr1:W1.heap[W.heap.size]? = some (.mapIter (some b) clock #[] clock):=by rw [hW1];exact heap_alloc_new W _
 have hr0:R.W0.heap.size≤W.heap.size:=hk.kp.size
 obtain ⟨r,hr⟩ : ∃ r,r=W.heap.size:=⟨_,rfl⟩
 rw [← hr]at hr1 hr0
 have hK0:KeptT a ((a.put (some 113) (.map (some b))).put (some 114) (.pointer (some ⟨W.heap.size,0,none⟩))):=.put (.put ⟨rfl,rfl,fun _ _=>rfl⟩ (by decide) _) (by decide) _
 have hp0:((a.put (some 113) (.map (some b))).put (some 114) (.pointer (some ⟨W.heap.size,0,none⟩))).tmps.getD 114 Go.undef = .pointer (some ⟨r,0,none⟩):=by
  rw [Z57 (by rw [Z58];omega),hr];rfl
 generalize (a.put (some 113) (.map (some b))).put (some 114) (.pointer (some ⟨W.heap.size,0,none⟩))=a1 at hK0 hp0 ⊢
 have hne:∀ {n:Nat} {x:AV},st.tmp n=some x→n ∉ opnT:=fun hx hn=>by rw [hfree _ hn]at hx;cases hx
 have back:∀ {a':Act} {W':World},KeptT a a'→SK R st a W' κ→SK R st a' W' κ:=fun hK h=>h.retmp hK.1 hK.2.1 fun n x hx=>hK.2.2 n (hne hx)
 have hsz':∀ {a':Act},KeptT a a'→a'.tmps.size=R.N:=fun hK=>hK.1.trans hsz
 show (Code.block _ _).wpIn _ _ _ _ _ _
 refine wpIn_block (wpIn_loop_ghost (fun n a' W'=>∃ seen c0,n=(leftOf es seen).size∧KeptT a a'∧a'.tmps.getD 114 Go.undef = .pointer (some ⟨r,0,none⟩)∧SK R st a W' κ ∧
  W'.heap[r]? = some (.mapIter (some b) clock seen c0)∧W'.heap[b]? = some (.map es clock)∧clock≤c0∧∀ e∈es.toList,seen.contains e.born=true→∃ i,e.val = .int .i64 i∧i≤6) _ ⟨#[],clock,rfl,hK0,hp0,hk1,hr1,ho1,Nat.le_refl _,by simp⟩ ?_)
 rintro n a2 W2 ⟨seen,c0,rfl,hK,hp,hk2,hri,hmb,hcl,hseen⟩
 have hN2:=hsz' hK
 refine wpIn_seq (wpIn_region ?_)
 show wpOpsIn (FW R.rd) m P #[o3,o4] _ [0,1] a2 W2
 have e3o:=Z5c k3
 have e4o:=Z5c k4
 have e5o:=Z5c k5
 have e6o:=Z5c k6
 have e7o:=Z5c k7
 have e8o:=Z5c k8
 have e9o:=Z5c k9
 have nd3:∀ c,o3.op≠.defer c:=fun c e=>by rw [e]at e3o;simp at e3o
 have nd4:∀ c,o4.op≠.defer c:=fun c e=>by rw [e]at e4o;simp at e4o
 have nd5:∀ c,o5.op≠.defer c:=fun c e=>by rw [e]at e5o;simp at e5o
 have nd6:∀ c,o6.op≠.defer c:=fun c e=>by rw [e]at e6o;simp at e6o
 have nd7:∀ c,o7.op≠.defer c:=fun c e=>by rw [e]at e7o;simp at e7o
 have nd8:∀ c,o8.op≠.defer c:=fun c e=>by rw [e]at e8o;simp at e8o
 have nd9:∀ c,o9.op≠.defer c:=fun c e=>by rw [e]at e9o;simp at e9o
 have step:((leftOf es seen).size=0∧(execOp a2.eval o3).run P W2 = .ok (.value (.tuple #[.bool false])) W2) ∨
   ∃ e∈(leftOf es seen).toList,∃ W3,(W3=W2∨W3=W2.drew)∧(execOp a2.eval o3).run P W2 = .ok (.value (.tuple #[.bool true,e.key,e.val])) (W3.putObj r (.mapIter (some b) clock (seen.push e.born) clock)):=by
  split at e3o <;> try (simp at e3o;done)
  rename_i x hx
  obtain rfl:=Z5a e3o
  rcases run_next_at (P:=P) W2 o3.type r b clock c0 seen es clock hri hmb (fun x hx=>hst.1 x hx) hcl with ⟨h0,hrun⟩ | ⟨e,he,W3,hW3,hrun⟩
  · refine .inl ⟨h0,?_⟩
    simp only [execOp,hx,Sem.run_bind,Z5b,hp,hrun,Result.andThen_ok,Sem.run_pure]
  · refine .inr ⟨e,he,W3,hW3,?_⟩
    simp only [execOp,hx,Sem.run_bind,Z5b,hp,hrun,Result.andThen_ok,Sem.run_pure]
    rfl
 have run4:∀ (a':Act) (W':World) (t:Bool) (vs:List Value),a'.tmps.getD 115 Go.undef = .tuple (.bool t::vs).toArray→(execOp a'.eval o4).run P W' = .ok (.value (.bool t)) W':=by
  intro a' W' t vs h
  split at e4o <;> try (simp at e4o;done)
  rename_i x hx
  obtain rfl:=Z5a e4o
  simp [execOp,hx,Sem.run_bind,Z5b,h,Instr.extract]
 rcases step with ⟨h0,run3⟩ | ⟨e,he,W3,hW3,run3⟩
 · -- nothing is left
   rw [wpOpsIn_cons]
   refine Z59 rfl k3 nd3 run3 ?_
   rw [wpOpsIn_cons]
   refine Z59 rfl k4 nd4 (run4 _ _ false [] (by rw [Z57 (by omega)];rfl)) ?_
   have hK4:KeptT a ((a2.put (some 115) (.tuple #[.bool false])).put (some 116) (.bool false)):=.put (.put hK (by decide) _) (by decide) _
   have hc4:((a2.put (some 115) (.tuple #[.bool false])).put (some 116) (.bool false)).tmps.getD 116 Go.undef = .bool false:=by rw [Z57 (by rw [Z58];omega)];rfl
   generalize (a2.put (some 115) (.tuple #[.bool false])).put (some 116) (.bool false)=a4 at hK4 hc4 ⊢
   show (Code.seq _ _).wpIn _ _ _ _ _ _
   refine wpIn_seq (wpIn_cond_false (by rw [Z5b];exact hc4) (wpIn_exit ?_))
   show if b1=b1 then _ else _
   rw [if_pos rfl]
   refine ⟨st,hok fun p hp'=>?_,κ,back hK4 hk2⟩
   obtain ⟨e,he,hv'⟩:=hval2 p hp'
   obtain ⟨i,hi,hle⟩:=hseen e he (all_seen es seen h0 e he)
   rw [hv']at hi
   simp only [Value.int.injEq,true_and]at hi
   omega
 · -- an entry
   have hrS:W3.heap[r]? = some (.mapIter (some b) clock seen c0):=by rcases hW3 with rfl|rfl <;> exact hri
   have hbS:W3.heap[b]? = some (.map es clock):=by rcases hW3 with rfl|rfl <;> exact hmb
   have hkS:SK R st a W3 κ:=by rcases hW3 with rfl|rfl;exact hk2;exact hk2.grow (Ext.dr (Ext.refl _))
   have hkI:=hkS.iter (seen':=seen.push e.born) (c':=clock) hrS hr0
   have hrl:r<W3.heap.size:=(Array.getElem?_eq_some_iff.1 hrS).1
   have hrI:(W3.putObj r (.mapIter (some b) clock (seen.push e.born) clock)).heap[r]? = some (.mapIter (some b) clock (seen.push e.born) clock):=World.putObj_heap_same hrl
   have hbI:(W3.putObj r (.mapIter (some b) clock (seen.push e.born) clock)).heap[b]? = some (.map es clock):=(World.putObj_heap_other (by omega)).trans hbS
   generalize W3.putObj r (.mapIter (some b) clock (seen.push e.born) clock)=W4 at hkI hrI hbI run3
   have hee:=mem_left he
   rw [wpOpsIn_cons]
   refine Z59 rfl k3 nd3 run3 ?_
   rw [wpOpsIn_cons]
   refine Z59 rfl k4 nd4 (run4 _ _ true [e.key,e.val] (by rw [Z57 (by omega)];rfl)) ?_
   have hK4:KeptT a ((a2.put (some 115) (.tuple #[.bool true,e.key,e.val])).put (some 116) (.bool true)):=.put (.put hK (by decide) _) (by decide) _
   have hc4:((a2.put (some 115) (.tuple #[.bool true,e.key,e.val])).put (some 116) (.bool true)).tmps.getD 116 Go.undef = .bool true:=by rw [Z57 (by rw [Z58];omega)];rfl
   have hp4:((a2.put (some 115) (.tuple #[.bool true,e.key,e.val])).put (some 116) (.bool true)).tmps.getD 114 Go.undef = .pointer (some ⟨r,0,none⟩):=by
    rw [Z57 (by rw [Z58];omega),if_neg (by decide),Z57 (by omega),if_neg (by decide),hp]
   generalize (a2.put (some 115) (.tuple #[.bool true,e.key,e.val])).put (some 116) (.bool true)=a4 at hK4 hc4 hp4 ⊢
   show (Code.seq _ _).wpIn _ _ _ _ _ _
   refine wpIn_seq (wpIn_cond_true (by rw [Z5b];exact hc4) (wpIn_skip ?_))
   show (Code.block _ _).wpIn _ _ _ _ _ _
   refine wpIn_block (wpIn_seq (wpIn_region ?_))
   show wpOpsIn (FW R.rd) m P #[o5,o6,o7] _ [0,1,2] a4 W4
   have hN4:=hsz' hK4
   have run5:(execOp a4.eval o5).run P W4 = .ok (.value (.tuple #[e.key,e.val])) W4:=by
    split at e5o <;> try (simp at e5o;done)
    rename_i x hx
    obtain rfl:=Z5a e5o
    simp only [execOp,hx,Sem.run_bind,Z5b,hp4,run_entry_at (P:=P) W4 r b clock seen es clock e hrI hbI hee.1 hst.2.1,Result.andThen_ok,Sem.run_pure]
   rw [wpOpsIn_cons]
   refine Z59 rfl k5 nd5 run5 ?_
   rw [wpOpsIn_cons]
   have hg5:(a4.put (some 117) (.tuple #[e.key,e.val])).tmps.getD 117 Go.undef = .tuple #[e.key,e.val]:=by rw [Z57 (by omega)];rfl
   have hp5:(a4.put (some 117) (.tuple #[e.key,e.val])).tmps.getD 114 Go.undef = .pointer (some ⟨r,0,none⟩):=by rw [Z57 (by omega),if_neg (by decide),hp4]
   have hK5:KeptT a (a4.put (some 117) (.tuple #[e.key,e.val])):=.put hK4 (by decide) _
   generalize a4.put (some 117) (.tuple #[e.key,e.val])=a5 at hg5 hp5 hK5 ⊢
   have hN5:=hsz' hK5
   have run6:(execOp a5.eval o6).run P W4 = .ok (.value e.val) W4:=by
    split at e6o <;> try (simp at e6o;done)
    rename_i x hx
    obtain rfl:=Z5a e6o
    simp [execOp,hx,Sem.run_bind,Z5b,hg5,Instr.extract]
   refine Z59 rfl k6 nd6 run6 ?_
   rw [wpOpsIn_cons]
   have hg6:(a5.put (some 118) e.val).tmps.getD 118 Go.undef=e.val:=by rw [Z57 (by omega)];rfl
   have hp6:(a5.put (some 118) e.val).tmps.getD 114 Go.undef = .pointer (some ⟨r,0,none⟩):=by rw [Z57 (by omega),if_neg (by decide),hp5]
   have hK6:KeptT a (a5.put (some 118) e.val):=.put hK5 (by decide) _
   generalize a5.put (some 118) e.val=a6 at hg6 hp6 hK6 ⊢
   have hN6:=hsz' hK6
   have run7:(execOp a6.eval o7).run P W4 = .ok (.value e.val) W4:=by
    split at e7o <;> try (simp at e7o;done)
    all_goals
     rename_i x hx
     obtain rfl:=Z5a e7o
     simp only [execOp,hx,Sem.run_bind,Sem.run_pure,Result.andThen_ok,Z5b,hg6]
   refine Z59 rfl k7 nd7 run7 ?_
   have hg7:(a6.put (some 15) e.val).tmps.getD 15 Go.undef=e.val:=by rw [Z57 (by omega)];rfl
   have hp7:(a6.put (some 15) e.val).tmps.getD 114 Go.undef = .pointer (some ⟨r,0,none⟩):=by rw [Z57 (by omega),if_neg (by decide),hp6]
   have hK7:KeptT a (a6.put (some 15) e.val):=.put hK6 (by decide) _
   generalize a6.put (some 15) e.val=a7 at hg7 hp7 hK7 ⊢
   have hN7:=hsz' hK7
   show (Code.seq _ _).wpIn _ _ _ _ _ _
   refine wpIn_seq (wpIn_region ?_)
   show wpOpsIn (FW R.rd) m P #[o8,o9] _ [0,1] a7 W4
   have run8:(execOp a7.eval o8).run P W4 = .ok (.value e.val) W4:=by
    split at e8o <;> try (simp at e8o;done)
    all_goals
     rename_i x hx
     obtain rfl:=Z5a e8o
     simp only [execOp,hx,Sem.run_bind,Sem.run_pure,Result.andThen_ok,Z5b,hg7]
   rw [wpOpsIn_cons]
   refine Z59 rfl k8 nd8 run8 ?_
   rw [wpOpsIn_cons]
   have hg8:(a7.put (some 119) e.val).tmps.getD 119 Go.undef=e.val:=by rw [Z57 (by omega)];rfl
   have hp8:(a7.put (some 119) e.val).tmps.getD 114 Go.undef = .pointer (some ⟨r,0,none⟩):=by rw [Z57 (by omega),if_neg (by decide),hp7]
   have hK8:KeptT a (a7.put (some 119) e.val):=.put hK7 (by decide) _
   generalize a7.put (some 119) e.val=a8 at hg8 hp8 hK8 ⊢
   have hN8:=hsz' hK8
   obtain ⟨p,hpk,hpv⟩:=hval e hee.1
   have run9:(execOp a8.eval o9).run P W4 = .ok (.value (.bool (decide (6<p.2)))) W4:=by
    split at e9o <;> try (simp at e9o;done)
    rename_i t x u hx
    simp only [Bool.and_eq_true]at e9o
    obtain rfl:=Z5a e9o.1
    obtain ⟨rv,hrun,hrv⟩:=Zk (P:=P) (op:=.gtr) (t:=t) (x':=.tmp 119) (y':=.const (.int .i64 6)) (E:=st.env R.M κ) (W:=W4) (x:=.int .i64 p.2) (y:=.int .i64 6) e9o.2 (.pv (.int _ _)) (.pv (.int _ _)) rfl
    have hrv:=hrv.bool_inv
    subst hrv
    have hc:a8.eval (.const (.int .i64 6)) = .int .i64 6:=rfl
    have ht:a8.eval (.tmp 119) = .int .i64 p.2:=by rw [Z5b,hg8,hpv]
    simp only [execOp,hx,Sem.run_bind]
    rw [Sem.run_bind]at hrun
    rw [hc,ht,hrun]
    rfl
   refine Z59 rfl k9 nd9 run9 ?_
   have hg9:(a8.put (some 120) (.bool (decide (6<p.2)))).tmps.getD 120 Go.undef = .bool (decide (6<p.2)):=by rw [Z57 (by omega)];rfl
   have hp9:(a8.put (some 120) (.bool (decide (6<p.2)))).tmps.getD 114 Go.undef = .pointer (some ⟨r,0,none⟩):=by rw [Z57 (by omega),if_neg (by decide),hp8]
   have hK9:KeptT a (a8.put (some 120) (.bool (decide (6<p.2)))):=.put hK8 (by decide) _
   generalize a8.put (some 120) (.bool (decide (6<p.2)))=a9 at hg9 hp9 hK9 ⊢
   show (Code.cond _ _ _).wpIn _ _ _ _ _ _
   refine wpIn_cond (by rw [Z5b];exact hg9) ?_
   by_cases h6:6<p.2
   · simp only [h6,decide_true,if_true]
     refine wpIn_mono (hbad ⟨p,hpk,h6⟩ c5 hc5 m a9 W4 ⟨κ,back hK9 hkI⟩) ?_
     rintro ex a' W' ⟨st',⟨rfl,hΦ⟩,hs'⟩
     exact ⟨st',hΦ,hs'⟩
   · simp only [h6,decide_false,Bool.false_eq_true,if_false]
     refine wpIn_skip ?_
     refine ⟨_,left_shrinks es seen e he,seen.push e.born,clock,rfl,hK9,hp9,hkI,hrI,hbI,Nat.le_refl _,fun x hx hxs=>?_⟩
     rw [contains_push]at hxs
     simp only [Bool.or_eq_true,beq_iff_eq]at hxs
     rcases hxs with hxs|hxs
     · exact hseen x hx hxs
     · obtain rfl:x=e:=born_inj hst.2.1 hx hee.1 hxs
       exact ⟨p.2,hpv,by omega⟩
end
end Go.Proofs.YtpkfmfkccbnnjaaGreatDoor
