/-
  The abstract machine: an operation depends on few things; regions whose order is drawn.
-/
import Derived.Test.YtdpmioiamcgfkaaDoorAmG
namespace Go.Proofs.YtdpmioiamcgfkaaDoor
open Go.RowKit

def AV.keys : AV → List Nat
  | .ptr k _ | .eptr k _ _ _ | .osl k _ | .mp k => [k]
  | .func _ xs ys => (xs.attach.flatMap fun ⟨x, _⟩ => x.keys) ++ (ys.attach.flatMap fun ⟨x, _⟩ => x.keys)
  | .agg xs | .tup xs => xs.attach.flatMap fun ⟨x, _⟩ => x.keys
  | _ => []

def RA.tm : RA → List Nat
  | .t n => [n]
  | _ => []

def ROp.args : ROp → List RA
  | .mov x | .nilck x | .un _ x | .conv _ x | .ext _ x | .field _ _ _ x | .faddr _ x | .len x | .slen x | .load _ _ x | .box x | .mksl _ _ _ x => [x]
  | .pick a b c => [a, b, c]
  | .bin _ x y | .eqs _ _ x y | .iaddr _ x y | .store _ x y | .app _ _ x y => [x, y]
  | .mkf _ xs ys => xs ++ ys
  | .vop _ xs => xs
  | .build _ ps => ps.map fun p => p.2.2
  | .mx _ x r => x :: r
  | .alloc _ => []
  | .bsl _ _ _ _ ps => ps.map fun p => p.2
  | .slc _ x lo hi | .sslc x lo hi => x :: (lo.toList ++ hi.toList)
  | .call _ xs => xs
  | .calln _ xs => xs
  | .callv f xs => f :: xs
  | .mkmap => []
  | .look _ _ _ m k => [m, k]
  | .mupd _ m k v => [m, k, v]
  | .mdel _ m k => [m, k]
  | .mlen m => [m]

/-- The objects that a tree reaches. -/
def reachF (st : St) : Nat → AV → List Nat
  | 0, _ => []
  | n + 1, x => x.keys.flatMap fun k => k :: match st.get k with
    | some (.box cells) => cells.flatMap (reachF st n)
    | some (.row _ rows) => rows.flatMap fun r => r.flatMap (reachF st n)
    | some (.mp kvs) => kvs.flatMap fun p => reachF st n p.1 ++ reachF st n p.2
    | none => []

section
variable (G : Nat → Option (List AV))
/-- The objects that an operation looks at, and those that it changes. -/
def ftk (st : St) (d : Nat) : ROp → List Nat
  | .load _ _ p | .len p | .slc _ p _ _ | .look _ _ _ p _ | .mupd _ p _ _ | .mdel _ p _ | .mlen p => (evA G st p).keys
  | .faddr _ p => match evA G st p with
    | .eptr k _ _ _ => [k]
    | _ => []
  | .store _ p _ => (evA G st p).keys
  | .iaddr _ s _ => (evA G st s).keys
  | .app _ _ s x => d :: ((evA G st s).keys ++ (evA G st x).keys)
  | .alloc _ | .box _ | .bsl true _ _ _ _ | .mksl .. | .mkmap => [d]
  | .call _ xs => xs.flatMap fun x => reachF st 6 (evA G st x)
  | .calln _ xs => d :: xs.flatMap fun x => reachF st 6 (evA G st x)
  | .callv f xs => reachF st 6 (evA G st f) ++ xs.flatMap fun x => reachF st 6 (evA G st x)
  | _ => []
def wtk (st : St) (d : Nat) : ROp → List Nat
  | .store _ p _ | .mupd _ p _ _ | .mdel _ p _ => (evA G st p).keys
  | .app _ _ s _ => d :: (evA G st s).keys
  | .alloc _ | .box _ | .bsl true _ _ _ _ | .mksl .. | .mkmap | .calln .. => [d]
  | _ => []
end

section
variable {G : Nat → Option (List AV)} {st st2 : St}

theorem cellsAt_congr {p : AV} (h : ∀ k ∈ p.keys, st2.get k = st.get k) : cellsAt st2 p = cellsAt st p := by
  cases p <;> simp only [cellsAt]
  · rw [h _ (by simp [AV.keys])]
  · rw [h _ (by simp [AV.keys])]
theorem aLen_congr {p : AV} (h : ∀ k ∈ p.keys, st2.get k = st.get k) : aLen st2 p = aLen st p := by
  cases p <;> simp only [aLen]
  rw [h _ (by simp [AV.keys])]
theorem rowsOf_congr {sz : Nat} {p : AV} (h : ∀ k ∈ p.keys, st2.get k = st.get k) : rowsOf st2 sz p = rowsOf st sz p := by
  cases p <;> simp only [rowsOf]
  rw [h _ (by simp [AV.keys])]

theorem mapOf_congr {p : AV} (h : ∀ k ∈ p.keys, st2.get k = st.get k) : mapOf st2 p = mapOf st p := by
  cases p <;> simp only [mapOf]
  rw [h _ (by simp [AV.keys])]

theorem snapL_congr {α β : Type} {f g : α → Option β} : ∀ {xs : List α}, (∀ x ∈ xs, f x = g x) → snapL f xs = snapL g xs
  | [], _ => rfl
  | x :: xs, h => by simp only [snapL]; rw [h x (by simp), snapL_congr (fun y hy => h y (by simp [hy]))]

theorem reachF_of {n : Nat} {x : AV} {k : Nat} (h : k ∈ x.keys) : k ∈ reachF st (n + 1) x := by
  simp only [reachF, List.mem_flatMap]
  exact ⟨k, h, List.mem_cons_self ..⟩
theorem reachF_step {n : Nat} {x y : AV} {k : Nat} {o : AObj} (hk : k ∈ x.keys) (ho : st.get k = some o) (hy : match o with | .box cells => y ∈ cells | .row _ rows => ∃ r ∈ rows, y ∈ r | .mp kvs => ∃ p ∈ kvs, y = p.1 ∨ y = p.2) {j : Nat} (hj : j ∈ reachF st n y) : j ∈ reachF st (n + 1) x := by
  simp only [reachF, List.mem_flatMap]
  refine ⟨k, hk, List.mem_cons_of_mem _ ?_⟩
  rw [ho]
  cases o with
  | box cells => exact List.mem_flatMap.2 ⟨y, hy, hj⟩
  | row sz rows => obtain ⟨r, h1, h2⟩ := hy; exact List.mem_flatMap.2 ⟨r, h1, List.mem_flatMap.2 ⟨y, h2, hj⟩⟩
  | mp kvs =>
    obtain ⟨p, h1, h2⟩ := hy
    refine List.mem_flatMap.2 ⟨p, h1, List.mem_append.2 ?_⟩
    rcases h2 with rfl | rfl
    · exact .inl hj
    · exact .inr hj
theorem reachF_mono : ∀ (n : Nat) {x : AV} {k : Nat}, k ∈ reachF st n x → k ∈ reachF st (n + 1) x := by
  intro n
  induction n with
  | zero => intro x k h; simp [reachF] at h
  | succ n ih =>
    intro x k h
    rw [reachF, List.mem_flatMap] at h
    obtain ⟨k0, h1, h2⟩ := h
    rw [reachF, List.mem_flatMap]
    refine ⟨k0, h1, ?_⟩
    rcases List.mem_cons.1 h2 with h2 | h2
    · rw [h2]; exact List.mem_cons_self ..
    · refine List.mem_cons_of_mem _ ?_
      split at h2
      · obtain ⟨y, h3, h4⟩ := List.mem_flatMap.1 h2
        exact List.mem_flatMap.2 ⟨y, h3, ih h4⟩
      · obtain ⟨r, h3, h4⟩ := List.mem_flatMap.1 h2
        obtain ⟨y, h5, h6⟩ := List.mem_flatMap.1 h4
        exact List.mem_flatMap.2 ⟨r, h3, List.mem_flatMap.2 ⟨y, h5, ih h6⟩⟩
      · obtain ⟨p, h3, h4⟩ := List.mem_flatMap.1 h2
        refine List.mem_flatMap.2 ⟨p, h3, List.mem_append.2 ?_⟩
        rcases List.mem_append.1 h4 with h4 | h4
        · exact .inl (ih h4)
        · exact .inr (ih h4)
      · simp at h2
/-- What a part of a tree reaches, the tree reaches. -/
theorem reachF_part {n : Nat} {x y : AV} (hp : ∀ k ∈ y.keys, k ∈ x.keys) {k : Nat} (h : k ∈ reachF st n y) : k ∈ reachF st n x := by
  cases n with
  | zero => simp [reachF] at h
  | succ n =>
    rw [reachF, List.mem_flatMap] at h ⊢
    obtain ⟨k0, h1, h2⟩ := h
    exact ⟨k0, hp k0 h1, h2⟩
theorem snapF_congr {ok : Nat → Bool} : ∀ (n : Nat) {x : AV}, (∀ k ∈ reachF st n x, st2.get k = st.get k) → snapF ok st2 n x = snapF ok st n x := by
  intro n
  induction n with
  | zero => intro x h; cases x <;> simp only [snapF]
  | succ n ih =>
    intro x h
    have part : ∀ {y : AV}, (∀ k ∈ y.keys, k ∈ x.keys) → snapF ok st2 n y = snapF ok st n y := fun hp => ih fun k hk => h k (reachF_mono n (reachF_part hp hk))
    cases x
    case func fn xs ys =>
      simp only [snapF]
      rw [snapL_congr (fun x hx => part fun k hk => ?_), snapL_congr (fun x hx => part fun k hk => ?_)]
      · simp only [AV.keys, List.mem_append, List.mem_flatMap, List.mem_attach, true_and, Subtype.exists]; exact .inr ⟨x, hx, hk⟩
      · simp only [AV.keys, List.mem_append, List.mem_flatMap, List.mem_attach, true_and, Subtype.exists]; exact .inl ⟨x, hx, hk⟩
    case agg xs =>
      simp only [snapF]
      rw [snapL_congr (fun x hx => part fun k hk => ?_)]
      simp only [AV.keys, List.mem_flatMap, List.mem_attach, true_and, Subtype.exists]; exact ⟨x, hx, hk⟩
    case tup xs =>
      simp only [snapF]
      rw [snapL_congr (fun x hx => part fun k hk => ?_)]
      simp only [AV.keys, List.mem_flatMap, List.mem_attach, true_and, Subtype.exists]; exact ⟨x, hx, hk⟩
    case osl k m =>
      have e := h k (reachF_of (by simp [AV.keys]))
      simp only [snapF, e]
      cases ho : st.get k with
      | none => rfl
      | some o =>
        cases o with
        | box cells => rfl
        | mp kvs => rfl
        | row sz rows =>
          simp only
          rw [snapL_congr (fun r hr => snapL_congr fun y hy => ih fun j hj => h j (reachF_step (by simp [AV.keys]) ho ⟨r, hr, hy⟩ hj))]
    case ptr k off =>
      have e := h k (reachF_of (by simp [AV.keys]))
      simp only [snapF, e]
      cases ho : st.get k with
      | none => rfl
      | some o =>
        cases o with
        | row sz rows => rfl
        | mp kvs => rfl
        | box cells =>
          simp only
          rw [snapL_congr (fun y hy => ih fun j hj => h j (reachF_step (by simp [AV.keys]) ho hy hj))]
    case mp k =>
      have e := h k (reachF_of (by simp [AV.keys]))
      simp only [snapF, e]
      cases ho : st.get k with
      | none => rfl
      | some o =>
        cases o with
        | row sz rows => rfl
        | box cells => rfl
        | mp kvs =>
          simp only
          rw [snapL_congr (xs := kvs.map (·.1)) (fun y hy => ih fun j hj => ?_), snapL_congr (xs := kvs.map (·.2)) (fun y hy => ih fun j hj => ?_)]
          · obtain ⟨p, h1, rfl⟩ := List.mem_map.1 hy
            exact h j (reachF_step (by simp [AV.keys]) ho ⟨p, h1, .inr rfl⟩ hj)
          · obtain ⟨p, h1, rfl⟩ := List.mem_map.1 hy
            exact h j (reachF_step (by simp [AV.keys]) ho ⟨p, h1, .inl rfl⟩ hj)
    all_goals simp only [snapF]

theorem CallR_congr {P : Program} {f : FuncId} {args : List AV} {v : AV} (h : CallR P G st f args v) (hk : ∀ x ∈ args, ∀ k ∈ reachF st 6 x, st2.get k = st.get k) : CallR P G st2 f args v := by
  rcases h with h | ⟨h1, ys, h2, h3⟩
  · exact .inl h
  · exact .inr ⟨h1, ys, by rw [← h2]; exact snapL_congr fun x hx => snapF_congr 6 (hk x hx), h3⟩

/-- What an operation depends on, and what it changes. -/
structure Loc (G : Nat → Option (List AV)) (st st2 : St) (d : Nat) (r : ROp) (x : AV) (st' st2' : St) : Prop where
  run : rop G st2 d r = some (x, st2')
  t2 : st2'.t = st2.t
  t1 : st'.t = st.t
  inn : ∀ k ∈ wtk G st d r, st2'.get k = st'.get k
  out : ∀ k, k ∉ wtk G st d r → st2'.get k = st2.get k ∧ st'.get k = st.get k

theorem Loc.pure {d : Nat} {r : ROp} {x : AV} (hr : rop G st2 d r = some (x, st2)) (hw : wtk G st d r = []) : Loc G st st2 d r x st st2 :=
  ⟨hr, rfl, rfl, by simp [hw], fun k _ => ⟨rfl, rfl⟩⟩

theorem Loc.set {d k : Nat} {o : AObj} {r : ROp} {x : AV} (hr : rop G st2 d r = some (x, st2.set k o)) (hw : k ∈ wtk G st d r) (hs : ∀ j ∈ wtk G st d r, st2.get j = st.get j) : Loc G st st2 d r x (st.set k o) (st2.set k o) := by
  refine ⟨hr, rfl, rfl, fun j hj => ?_, fun j hj => ?_⟩
  · rw [St.get_set, St.get_set]
    split
    · rfl
    · exact hs j hj
  · have : ¬ k = j := by rintro rfl; exact hj hw
    simp only [St.get_set, if_neg this, and_self]

theorem storeAt_local {us : List AV} {p : AV} {st' : St} (h : storeAt st us p = some st') (hk : ∀ k ∈ p.keys, st2.get k = st.get k) :
    ∃ k o, k ∈ p.keys ∧ st' = st.set k o ∧ storeAt st2 us p = some (st2.set k o) := by
  unfold storeAt at h
  split at h <;> try (simp at h; done)
  · rename_i k off
    have e := hk k (by simp [AV.keys])
    split at h <;> try (simp at h; done)
    rename_i cs hg
    split at h <;> simp only [Option.some.injEq, reduceCtorEq] at h
    rename_i hle
    exact ⟨k, _, by simp [AV.keys], h.symm, by simp only [storeAt, e, hg, if_pos hle]⟩
  · rename_i k n i off
    have e := hk k (by simp [AV.keys])
    split at h <;> try (simp at h; done)
    rename_i sz rows hg
    split at h <;> try (simp at h; done)
    rename_i hn
    split at h <;> try (simp at h; done)
    rename_i r hr
    split at h <;> simp only [Option.some.injEq, reduceCtorEq] at h
    rename_i hle
    exact ⟨k, _, by simp [AV.keys], h.symm, by simp only [storeAt, e, hg, if_pos hn, hr, if_pos hle]⟩

theorem rop_local {d : Nat} {r : ROp} {x : AV} {st' : St} (hr : rop G st d r = some (x, st')) (ha : ∀ y ∈ r.args, evA G st2 y = evA G st y) (hk : ∀ k ∈ ftk G st d r, st2.get k = st.get k) :
    ∃ st2', Loc G st st2 d r x st' st2' := by
  have evs : ∀ (xs : List RA), (∀ y ∈ xs, y ∈ r.args) → xs.map (evA G st2) = xs.map (evA G st) := fun xs h => List.map_congr_left fun y hy => ha y (h y hy)
  cases r
  case mov y =>
    have e := ha y (by simp [ROp.args])
    simp only [rop, Option.some.injEq, Prod.mk.injEq] at hr
    obtain ⟨rfl, rfl⟩ := hr
    exact ⟨st2, .pure (by simp only [rop, e]) rfl⟩
  case pick a b c =>
    have e1 := ha a (by simp [ROp.args])
    have e2 := ha b (by simp [ROp.args])
    have e3 := ha c (by simp [ROp.args])
    simp only [rop] at hr
    split at hr <;> simp only [Option.some.injEq, Prod.mk.injEq, reduceCtorEq] at hr
    all_goals
      rename_i e
      obtain ⟨rfl, rfl⟩ := hr
      exact ⟨st2, .pure (by simp only [rop, e1, e2, e3, e]) rfl⟩
  case nilck y =>
    have e := ha y (by simp [ROp.args])
    simp only [rop] at hr
    split at hr <;> simp only [Option.some.injEq, Prod.mk.injEq, reduceCtorEq] at hr
    all_goals
      rename_i e2
      obtain ⟨rfl, rfl⟩ := hr
      exact ⟨st2, .pure (by simp only [rop, e, e2]) rfl⟩
  case bin op a b =>
    have e1 := ha a (by simp [ROp.args])
    have e2 := ha b (by simp [ROp.args])
    simp only [rop, Option.map_eq_some_iff, Prod.mk.injEq] at hr
    obtain ⟨u, hu, rfl, rfl⟩ := hr
    exact ⟨st2, .pure (by simp only [rop, e1, e2, hu, Option.map_some]) rfl⟩
  case eqs neg ks a b =>
    have e1 := ha a (by simp [ROp.args])
    have e2 := ha b (by simp [ROp.args])
    simp only [rop] at hr
    split at hr <;> simp only [Option.map_eq_some_iff, Prod.mk.injEq, reduceCtorEq] at hr
    rename_i f1 f2
    obtain ⟨u, hu, rfl, rfl⟩ := hr
    exact ⟨st2, .pure (by simp only [rop, e1, e2, f1, f2, hu, Option.map_some]) rfl⟩
  case un op a =>
    have e1 := ha a (by simp [ROp.args])
    simp only [rop, Option.map_eq_some_iff, Prod.mk.injEq] at hr
    obtain ⟨u, hu, rfl, rfl⟩ := hr
    exact ⟨st2, .pure (by simp only [rop, e1, hu, Option.map_some]) rfl⟩
  case conv k y =>
    have e := ha y (by simp [ROp.args])
    simp only [rop] at hr
    split at hr <;> simp only [Option.some.injEq, Prod.mk.injEq, reduceCtorEq] at hr
    rename_i e2
    obtain ⟨rfl, rfl⟩ := hr
    exact ⟨st2, .pure (by simp only [rop, e, e2]) rfl⟩
  case ext i y =>
    have e := ha y (by simp [ROp.args])
    simp only [rop] at hr
    split at hr <;> simp only [Option.map_eq_some_iff, Prod.mk.injEq, reduceCtorEq] at hr
    rename_i e2
    obtain ⟨u, hu, rfl, rfl⟩ := hr
    exact ⟨st2, .pure (by simp only [rop, e, e2, hu, Option.map_some]) rfl⟩
  case mkf fn xs ys =>
    simp only [rop, Option.some.injEq, Prod.mk.injEq] at hr
    obtain ⟨rfl, rfl⟩ := hr
    exact ⟨st2, .pure (by simp only [rop, evs xs (fun y hy => by simp [ROp.args, hy]), evs ys (fun y hy => by simp [ROp.args, hy])]) rfl⟩
  case field agg off n y =>
    have e := ha y (by simp [ROp.args])
    simp only [rop] at hr
    split at hr <;> simp only [Option.map_eq_some_iff, Prod.mk.injEq, reduceCtorEq] at hr
    rename_i e2
    obtain ⟨u, hu, rfl, rfl⟩ := hr
    exact ⟨st2, .pure (by simp only [rop, e, e2, hu, Option.map_some]) rfl⟩
  case vop v xs =>
    simp only [rop, Option.map_eq_some_iff, Prod.mk.injEq] at hr
    obtain ⟨u, hu, rfl, rfl⟩ := hr
    exact ⟨st2, .pure (by simp only [rop, evs xs (fun y hy => by simp [ROp.args, hy]), hu, Option.map_some]) rfl⟩
  case faddr off y =>
    have e := ha y (by simp [ROp.args])
    simp only [rop] at hr
    split at hr <;> try (simp at hr; done)
    · rename_i e2
      simp only [Option.some.injEq, Prod.mk.injEq] at hr
      obtain ⟨rfl, rfl⟩ := hr
      exact ⟨st2, .pure (by simp only [rop, e, e2]) rfl⟩
    · rename_i k n i o e2
      have e3 := hk k (by simp [ftk, e2])
      split at hr <;> try (simp at hr; done)
      rename_i hg
      split at hr <;> simp only [Option.some.injEq, Prod.mk.injEq, reduceCtorEq] at hr
      rename_i hn
      obtain ⟨rfl, rfl⟩ := hr
      exact ⟨st2, .pure (by simp only [rop, e, e2, e3, hg, if_pos hn]) rfl⟩
    · rename_i e2
      simp only [Option.some.injEq, Prod.mk.injEq] at hr
      obtain ⟨rfl, rfl⟩ := hr
      exact ⟨st2, .pure (by simp only [rop, e, e2]) rfl⟩
  case iaddr sz s i =>
    have e1 := ha s (by simp [ROp.args])
    have e2 := ha i (by simp [ROp.args])
    simp only [rop] at hr
    split at hr <;> try (simp at hr; done)
    rename_i f1
    split at hr <;> try (simp at hr; done)
    rename_i f2
    split at hr <;> try (simp at hr; done)
    · rename_i f3
      split at hr <;> try (simp at hr; done)
      rename_i f4
      split at hr <;> simp only [Option.some.injEq, Prod.mk.injEq, reduceCtorEq] at hr
      rename_i f5
      obtain ⟨rfl, rfl⟩ := hr
      exact ⟨st2, .pure (by simp only [rop, e1, e2, f1, if_pos f2, f3, f4, if_pos f5]) rfl⟩
    · rename_i k m f3
      have e3 := hk k (by simp [ftk, f3, AV.keys])
      split at hr <;> try (simp at hr; done)
      rename_i f4
      split at hr <;> simp only [Option.some.injEq, Prod.mk.injEq, reduceCtorEq] at hr
      rename_i f5
      obtain ⟨rfl, rfl⟩ := hr
      exact ⟨st2, .pure (by simp only [rop, e1, e2, f1, if_pos f2, f3, e3, f4]; rw [if_pos f5]) rfl⟩
  case build zero ps =>
    have e : ps.map (fun p => (p.1, p.2.1, evA G st2 p.2.2)) = ps.map (fun p => (p.1, p.2.1, evA G st p.2.2)) := List.map_congr_left fun p hp => by
      rw [ha p.2.2 (by simp only [ROp.args, List.mem_map]; exact ⟨p, hp, rfl⟩)]
    simp only [rop, Option.map_eq_some_iff, Prod.mk.injEq] at hr
    obtain ⟨u, hu, rfl, rfl⟩ := hr
    exact ⟨st2, .pure (by simp only [rop, e, hu, Option.map_some]) rfl⟩
  case len y =>
    have e := ha y (by simp [ROp.args])
    simp only [rop, Option.map_eq_some_iff, Prod.mk.injEq] at hr
    obtain ⟨u, hu, rfl, rfl⟩ := hr
    exact ⟨st2, .pure (by simp only [rop, e, aLen_congr (p := evA G st y) (fun k h => hk k (by simpa [ftk] using h)), hu, Option.map_some]) rfl⟩
  case slen y =>
    have e := ha y (by simp [ROp.args])
    simp only [rop] at hr
    split at hr <;> simp only [Option.some.injEq, Prod.mk.injEq, reduceCtorEq] at hr
    rename_i e2
    obtain ⟨rfl, rfl⟩ := hr
    exact ⟨st2, .pure (by simp only [rop, e, e2]) rfl⟩
  case mx great y ys =>
    have e := ha y (by simp [ROp.args])
    simp only [rop, Option.map_eq_some_iff, Prod.mk.injEq] at hr
    obtain ⟨u, hu, rfl, rfl⟩ := hr
    exact ⟨st2, .pure (by simp only [rop, e, evs ys (fun y hy => by simp [ROp.args, hy]), hu, Option.map_some]) rfl⟩
  case load agg n y =>
    have e := ha y (by simp [ROp.args])
    simp only [rop] at hr
    split at hr <;> simp only [Option.map_eq_some_iff, Prod.mk.injEq, reduceCtorEq] at hr
    rename_i e2
    obtain ⟨u, hu, rfl, rfl⟩ := hr
    exact ⟨st2, .pure (by simp only [rop, e, cellsAt_congr (p := evA G st y) (fun k h => hk k (by simpa [ftk] using h)), e2, hu, Option.map_some]) rfl⟩
  case store n y u =>
    have e1 := ha y (by simp [ROp.args])
    have e2 := ha u (by simp [ROp.args])
    simp only [rop] at hr
    split at hr <;> simp only [Option.map_eq_some_iff, Prod.mk.injEq, reduceCtorEq] at hr
    rename_i f1
    obtain ⟨st3, hs, rfl, rfl⟩ := hr
    obtain ⟨k, o, h1, rfl, h3⟩ := storeAt_local (st2 := st2) hs (fun k h => hk k (by simpa [ftk] using h))
    exact ⟨_, .set (by simp only [rop, e1, e2, if_pos f1, h3, Option.map_some]) (by simpa [wtk] using h1) (fun j hj => hk j (by simpa [ftk, wtk] using hj))⟩
  case alloc cells =>
    have e := hk d (by simp [ftk])
    simp only [rop] at hr
    split at hr <;> simp only [Option.some.injEq, Prod.mk.injEq, reduceCtorEq] at hr
    rename_i f1
    obtain ⟨rfl, rfl⟩ := hr
    exact ⟨_, .set (by simp only [rop, e, f1]) (by simp [wtk]) (fun j hj => hk j (by simpa [ftk, wtk] using hj))⟩
  case box y =>
    have e := hk d (by simp [ftk])
    have e1 := ha y (by simp [ROp.args])
    simp only [rop] at hr
    split at hr <;> try (simp at hr; done)
    rename_i f1
    split at hr <;> simp only [Option.some.injEq, Prod.mk.injEq, reduceCtorEq] at hr
    rename_i f2
    obtain ⟨rfl, rfl⟩ := hr
    exact ⟨_, .set (by simp only [rop, e, e1, f1, if_pos f2]) (by simp [wtk]) (fun j hj => hk j (by simpa [ftk, wtk] using hj))⟩
  case bsl own sz n zero ps =>
    have e : ps.map (fun p => (p.1 * sz, sz, evA G st2 p.2)) = ps.map (fun p => (p.1 * sz, sz, evA G st p.2)) := List.map_congr_left fun p hp => by
      rw [ha p.2 (by simp only [ROp.args, List.mem_map]; exact ⟨p, hp, rfl⟩)]
    simp only [rop] at hr
    split at hr <;> try (simp at hr; done)
    rename_i f1
    cases own
    · simp only [Bool.false_eq_true, if_false] at hr
      split at hr <;> simp only [Option.some.injEq, Prod.mk.injEq, reduceCtorEq] at hr
      rename_i f2
      obtain ⟨rfl, rfl⟩ := hr
      exact ⟨st2, .pure (by simp only [rop, e, f1, Bool.false_eq_true, if_false, if_pos f2]) rfl⟩
    · simp only [if_true] at hr
      have e3 := hk d (by simp [ftk])
      split at hr <;> simp only [Option.some.injEq, Prod.mk.injEq, reduceCtorEq] at hr
      rename_i f2
      obtain ⟨rfl, rfl⟩ := hr
      exact ⟨_, .set (by simp only [rop, e, f1, if_true, e3, f2]) (by simp [wtk]) (fun j hj => hk j (by simpa [ftk, wtk] using hj))⟩
  case slc sz y lo hi =>
    have e := ha y (by simp [ROp.args])
    have e1 : lo.map (evA G st2) = lo.map (evA G st) := by cases lo with | none => rfl | some l => simp [ha l (by simp [ROp.args])]
    have e2 : hi.map (evA G st2) = hi.map (evA G st) := by cases hi with | none => rfl | some l => simp [ha l (by simp [ROp.args])]
    simp only [rop] at hr
    split at hr <;> try (simp at hr; done)
    rename_i f1
    split at hr <;> try (simp at hr; done)
    rename_i f2 f3
    split at hr <;> simp only [Option.some.injEq, Prod.mk.injEq, reduceCtorEq] at hr
    rename_i f4
    obtain ⟨rfl, rfl⟩ := hr
    exact ⟨st2, .pure (by simp only [rop, e, e1, e2, f1, f2, f3, if_pos f4]) rfl⟩
  case sslc y lo hi =>
    have e := ha y (by simp [ROp.args])
    have e1 : lo.map (evA G st2) = lo.map (evA G st) := by cases lo with | none => rfl | some l => simp [ha l (by simp [ROp.args])]
    have e2 : hi.map (evA G st2) = hi.map (evA G st) := by cases hi with | none => rfl | some l => simp [ha l (by simp [ROp.args])]
    simp only [rop] at hr
    split at hr <;> try (simp at hr; done)
    rename_i f1
    split at hr <;> try (simp at hr; done)
    rename_i f2 f3
    split at hr <;> simp only [Option.some.injEq, Prod.mk.injEq, reduceCtorEq] at hr
    rename_i f4
    obtain ⟨rfl, rfl⟩ := hr
    exact ⟨st2, .pure (by simp only [rop, e, e1, e2, f1, f2, f3, if_pos f4]) rfl⟩
  case mksl sz bytes zero y =>
    have e := ha y (by simp [ROp.args])
    have e3 := hk d (by simp [ftk])
    simp only [rop] at hr
    split at hr <;> try (simp at hr; done)
    rename_i f1
    split at hr <;> try (simp at hr; done)
    rename_i f2
    split at hr <;> simp only [Option.some.injEq, Prod.mk.injEq, reduceCtorEq] at hr
    rename_i f3
    obtain ⟨rfl, rfl⟩ := hr
    exact ⟨_, .set (by simp only [rop, e, f1, if_pos f2, e3, f3]) (by simp [wtk]) (fun j hj => hk j (by simpa [ftk, wtk] using hj))⟩
  case app sz bytes s y =>
    have e1 := ha s (by simp [ROp.args])
    have e2 := ha y (by simp [ROp.args])
    have e3 := hk d (by simp [ftk])
    have e4 : rowsOf st2 sz (evA G st y) = rowsOf st sz (evA G st y) := rowsOf_congr fun k h => hk k (by simp [ftk, h])
    simp only [rop] at hr
    split at hr <;> try (simp at hr; done)
    rename_i ys f1
    split at hr <;> try (simp at hr; done)
    rename_i f0
    split at hr <;> try (simp at hr; done)
    · rename_i f2
      split at hr
      · rename_i f3
        simp only [Option.some.injEq, Prod.mk.injEq] at hr
        obtain ⟨rfl, rfl⟩ := hr
        exact ⟨st2, by simp only [rop, e1, e2, e4, f1, if_pos f0, f2, if_pos f3], rfl, rfl, fun k h => hk k (by simp only [wtk, ftk, List.mem_cons, List.mem_append] at h ⊢; rcases h with h | h; exact .inl h; exact .inr (.inl h)), fun k _ => ⟨rfl, rfl⟩⟩
      · rename_i f3
        split at hr <;> try (simp at hr; done)
        rename_i f5
        split at hr <;> simp only [Option.some.injEq, Prod.mk.injEq, reduceCtorEq] at hr
        rename_i f4
        obtain ⟨rfl, rfl⟩ := hr
        exact ⟨_, .set (by simp only [rop, e1, e2, e4, f1, if_pos f0, f2, if_neg f3, if_pos f5, e3, f4]) (by simp [wtk]) (fun j hj => hk j (by simp only [wtk, ftk, List.mem_cons, List.mem_append] at hj ⊢; rcases hj with h | h; exact .inl h; exact .inr (.inl h)))⟩
    · rename_i k n f2
      have e5 := hk k (by simp [ftk, f2, AV.keys])
      split at hr <;> try (simp at hr; done)
      rename_i f3
      split at hr <;> try (simp at hr; done)
      rename_i f4
      split at hr
      · rename_i f6
        simp only [Option.some.injEq, Prod.mk.injEq] at hr
        obtain ⟨rfl, rfl⟩ := hr
        exact ⟨st2, by simp only [rop, e1, e2, e4, f1, if_pos f0, f2, e5, f3]; rw [if_pos f4, if_pos f6], rfl, rfl, fun k h => hk k (by simp only [wtk, ftk, List.mem_cons, List.mem_append] at h ⊢; rcases h with h | h; exact .inl h; exact .inr (.inl h)), fun k _ => ⟨rfl, rfl⟩⟩
      rename_i f6
      simp only [Option.some.injEq, Prod.mk.injEq] at hr
      obtain ⟨rfl, rfl⟩ := hr
      exact ⟨_, .set (by simp only [rop, e1, e2, e4, f1, if_pos f0, f2, e5, f3]; rw [if_pos f4, if_neg f6]) (by simp [wtk, f2, AV.keys]) (fun j hj => hk j (by simp only [wtk, ftk, List.mem_cons, List.mem_append] at hj ⊢; rcases hj with h | h; exact .inl h; exact .inr (.inl h)))⟩
  case call f xs => simp [rop] at hr
  case callv f xs => simp [rop] at hr
  case calln f xs => simp [rop] at hr
  case mkmap =>
    have e3 := hk d (by simp [ftk])
    simp only [rop] at hr
    split at hr <;> simp only [Option.some.injEq, Prod.mk.injEq, reduceCtorEq] at hr
    rename_i f1
    obtain ⟨rfl, rfl⟩ := hr
    exact ⟨_, .set (by simp only [rop, e3, f1]) (by simp [wtk]) (fun j hj => hk j (by simpa [wtk, ftk] using hj))⟩
  case mlen y =>
    have e := ha y (by simp [ROp.args])
    simp only [rop, Option.map_eq_some_iff, Prod.mk.injEq] at hr
    obtain ⟨u, hu, rfl, rfl⟩ := hr
    exact ⟨st2, .pure (by simp only [rop, e, mapOf_congr (p := evA G st y) (fun k h => hk k (by simpa [ftk] using h)), hu, Option.map_some]) rfl⟩
  case look kk zero ok m k =>
    have e1 := ha m (by simp [ROp.args])
    have e2 := ha k (by simp [ROp.args])
    simp only [rop] at hr
    split at hr <;> try (simp at hr; done)
    rename_i f1
    have e3 := (mapOf_congr (p := evA G st m) (fun k h => hk k (by simpa [ftk] using h))).trans f1
    split at hr <;> simp only [Option.some.injEq, Prod.mk.injEq, reduceCtorEq] at hr
    all_goals
      rename_i f2
      obtain ⟨rfl, rfl⟩ := hr
      exact ⟨st2, .pure (by simp only [rop, e1, e2, e3, f2]) rfl⟩
  case mupd kk m k v =>
    have e1 := ha m (by simp [ROp.args])
    have e2 := ha k (by simp [ROp.args])
    have e4 := ha v (by simp [ROp.args])
    simp only [rop] at hr
    split at hr <;> try (simp at hr; done)
    rename_i n f1
    have e3 := hk n (by simp [ftk, f1, AV.keys])
    split at hr <;> try (simp at hr; done)
    rename_i f2
    split at hr <;> simp only [Option.some.injEq, Prod.mk.injEq, reduceCtorEq] at hr
    rename_i f3
    obtain ⟨rfl, rfl⟩ := hr
    exact ⟨_, .set (by simp only [rop, e1, e2, e3, e4, f1, f2, f3]) (by simp [wtk, f1, AV.keys]) (fun j hj => hk j (by simpa [wtk, ftk] using hj))⟩
  case mdel kk m k =>
    have e1 := ha m (by simp [ROp.args])
    have e2 := ha k (by simp [ROp.args])
    simp only [rop] at hr
    split at hr <;> try (simp at hr; done)
    rename_i n f1
    have e3 := hk n (by simp [ftk, f1, AV.keys])
    split at hr <;> try (simp at hr; done)
    rename_i f2
    split at hr <;> simp only [Option.some.injEq, Prod.mk.injEq, reduceCtorEq] at hr
    rename_i f3
    obtain ⟨rfl, rfl⟩ := hr
    exact ⟨_, .set (by simp only [rop, e1, e2, e3, f1, f2, f3]) (by simp [wtk, f1, AV.keys]) (fun j hj => hk j (by simpa [wtk, ftk] using hj))⟩

end

end Go.Proofs.YtdpmioiamcgfkaaDoor
