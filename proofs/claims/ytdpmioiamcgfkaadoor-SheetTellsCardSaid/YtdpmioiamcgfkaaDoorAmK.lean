/-
  The abstract machine: a state may forget temporaries and objects.
-/
import Derived.Test.YtdpmioiamcgfkaaDoorAmJ
namespace Go.Proofs.YtdpmioiamcgfkaaDoor
open Go.RowKit

theorem mem_keys {xs : List AV} {x : AV} (hx : x ∈ xs) {k : Nat} (hk : k ∈ x.keys) : k ∈ xs.attach.flatMap (fun ⟨x, _⟩ => x.keys) := by
  simp only [List.mem_flatMap, List.mem_attach, true_and, Subtype.exists]
  exact ⟨x, hx, hk⟩

theorem VR.keep {E E' : Env} {W : World} (hM : ∀ b, ¬ E.M b → ¬ E'.M b) {x : AV} {v : Value} (h : VR E W x v) : (∀ k ∈ x.keys, E'.loc k = E.loc k ∧ E'.row k = E.row k) → VR E' W x v := by
  induction h with
  | pv h => exact fun _ => .pv (h.mono (fun b _ hb => ⟨hM b hb, rfl⟩) (Nat.le_refl _))
  | undef v => exact fun _ => .undef v
  | ptr k off b s h hr =>
    intro hk
    obtain ⟨h1, h2⟩ := hk k (by simp [AV.keys])
    exact .ptr k off b s (h1.trans h) (h2.trans hr)
  | eptr k n i off sz m p h hn he =>
    intro hk
    obtain ⟨h1, h2⟩ := hk k (by simp [AV.keys])
    exact .eptr k n i off sz m p (h2.trans h) hn (fun e => by rw [h1]; exact he e)
  | osl k n sz m a l c h hn he =>
    intro hk
    obtain ⟨h1, h2⟩ := hk k (by simp [AV.keys])
    exact .osl k n sz m a l c (h2.trans h) hn (fun e => by rw [h1]; exact he e)
  | func fn xs ys us vs h1 h2 hx hy ihx ihy =>
    intro hk
    refine .func fn xs ys us vs h1 h2 (fun i x u hi hu => ihx i x u hi hu fun k h => hk k ?_) (fun i x u hi hu => ihy i x u hi hu fun k h => hk k ?_)
    · simp only [AV.keys, List.mem_append]; exact .inl (mem_keys (List.mem_of_getElem? hi) h)
    · simp only [AV.keys, List.mem_append]; exact .inr (mem_keys (List.mem_of_getElem? hi) h)
  | agg xs us h1 hx ih =>
    intro hk
    refine .agg xs us h1 (fun i x u hi hu => ih i x u hi hu fun k h => hk k ?_)
    simp only [AV.keys]; exact mem_keys (List.mem_of_getElem? hi) h
  | tup xs us h1 hx ih =>
    intro hk
    refine .tup xs us h1 (fun i x u hi hu => ih i x u hi hu fun k h => hk k ?_)
    simp only [AV.keys]; exact mem_keys (List.mem_of_getElem? hi) h
  | mp k b h hr =>
    intro hk
    obtain ⟨h1, h2⟩ := hk k (by simp [AV.keys])
    exact .mp k b (h1.trans h) (h2.trans hr)

/-- All names of a tree are of objects that are kept. -/
def keptA (o' : List (Nat × AObj)) (x : AV) : Bool := x.keys.all fun k => (lk o' k).isSome
def keptO (o' : List (Nat × AObj)) : AObj → Bool
  | .box cells => cells.all (keptA o')
  | .row _ rows => rows.all fun r => r.all (keptA o')
  | .mp kvs => kvs.all fun p => keptA o' p.1 && keptA o' p.2

theorem lk_mem {α : Type} {l : List (Nat × α)} {n : Nat} {x : α} (h : lk l n = some x) : (n, x) ∈ l := by
  induction l with
  | nil => simp [lk] at h
  | cons p l ih =>
    obtain ⟨m, y⟩ := p
    simp only [lk] at h
    split at h
    · rename_i e
      simp only [Option.some.injEq] at h
      subst h; subst e
      exact List.mem_cons_self ..
    · exact List.mem_cons_of_mem _ (ih h)

theorem Weak.sub {st : St} {t' : List (Nat × AV)} {o' : List (Nat × AObj)} (ht : ∀ p ∈ t', lk st.t p.1 = some p.2 ∧ keptA o' p.2 = true) (ho : ∀ p ∈ o', lk st.o p.1 = some p.2 ∧ keptO o' p.2 = true)
    (hbig : ∀ p ∈ st.o, 1000 ≤ p.1 → (lk o' p.1).isSome = true := by simp [lk]) : Weak st ⟨t', o'⟩ := by
  rintro R a W ⟨κ, h⟩
  let κ' : Nat → Option (Nat × Nat) := fun k => if (lk o' k).isSome then κ k else none
  have hobj : ∀ k o, lk o' k = some o → lk st.o k = some o := fun k o hk => (ho (k, o) (lk_mem hk)).1
  have hκ : ∀ k p, κ' k = some p → κ k = some p := fun k p hk => by
    simp only [κ'] at hk
    split at hk
    · exact hk
    · cases hk
  have hM : ∀ b, ¬ (st.env R.M κ).M b → ¬ ((⟨t', o'⟩ : St).env R.M κ').M b := fun b hb hb' => by
    rcases hb' with hb' | ⟨k, s, hk⟩
    · exact hb (.inl hb')
    · exact hb (.inr ⟨k, s, hκ k _ hk⟩)
  have hkp : ∀ x, keptA o' x = true → ∀ k ∈ x.keys, ((⟨t', o'⟩ : St).env R.M κ').loc k = (st.env R.M κ).loc k ∧ ((⟨t', o'⟩ : St).env R.M κ').row k = (st.env R.M κ).row k := fun x hx k hk => by
    have h1 : (lk o' k).isSome = true := List.all_eq_true.1 hx k hk
    obtain ⟨o, h2⟩ := Option.isSome_iff_exists.1 h1
    refine ⟨by simp only [St.env, κ', h1, if_true], ?_⟩
    simp only [St.env, St.get, h2, hobj k o h2]
  have hv : ∀ {x : AV} {v : Value}, VR (st.env R.M κ) W x v → keptA o' x = true → VR ((⟨t', o'⟩ : St).env R.M κ') W x v := fun h1 h2 => h1.keep hM (hkp _ h2)
  refine ⟨κ', ⟨h.defers, h.size, ?_, ?_, ?_, ?_, h.low, h.apart, h.kp, ?_, ?_, ?_⟩⟩
  · intro n x hn
    obtain ⟨h1, h2⟩ := ht (n, x) (lk_mem hn)
    exact hv (h.tm n x h1) h2
  · intro k o hk
    obtain ⟨h1, h2⟩ := ho (k, o) (lk_mem hk)
    obtain ⟨b, s, h3, h4, h5, h6⟩ := h.obj k o h1
    refine ⟨b, s, by simp only [κ']; rw [show lk o' k = some o from hk]; exact h3, h4, h5, ?_⟩
    cases o with
    | box cells =>
      obtain ⟨g0, cs, t, g1, g2, g3⟩ := h6
      refine ⟨g0, cs, t, g1, g2, fun j x hj => ?_⟩
      obtain ⟨v, g4, g5⟩ := g3 j x hj
      exact ⟨v, g4, hv g5 (List.all_eq_true.1 h2 x (List.mem_of_getElem? hj))⟩
    | row sz rows =>
      obtain ⟨g0, cs, t, g1, g2, g3⟩ := h6
      refine ⟨g0, cs, t, g1, g2, fun i j r x hi hj => ?_⟩
      obtain ⟨v, g4, g5⟩ := g3 i j r x hi hj
      exact ⟨v, g4, hv g5 (List.all_eq_true.1 (List.all_eq_true.1 h2 r (List.mem_of_getElem? hi)) x (List.mem_of_getElem? hj))⟩
    | mp kvs =>
      obtain ⟨g0, es, t, g1, g2, g3, g4⟩ := h6
      refine ⟨g0, es, t, g1, g2, g3, fun i x y hi => ?_⟩
      obtain ⟨e, g5, g6, g7⟩ := g4 i x y hi
      have := List.all_eq_true.1 h2 (x, y) (List.mem_of_getElem? hi)
      simp only [Bool.and_eq_true] at this
      exact ⟨e, g5, hv g6 this.1, hv g7 this.2⟩
  · intro k p hk
    have h1 : (lk o' k).isSome = true := by
      simp only [κ'] at hk
      split at hk
      · assumption
      · cases hk
    exact Option.isSome_iff_exists.1 h1
  · intro k k' b s s' h1 h2
    exact h.inj k k' b s s' (hκ _ _ h1) (hκ _ _ h2)
  · exact h.gr.mono (fun b _ hb => ⟨hM b hb, rfl⟩) (Nat.le_refl _)
  · have big : ∀ k p, κ k = some p → 1000 ≤ k → (lk o' k).isSome = true := fun k p hk h1 => by
      obtain ⟨o, ho'⟩ := h.dom k p hk
      exact hbig (k, o) (lk_mem ho') h1
    have get : ∀ k q, (st.env R.M κ).row k = some q → 1000 ≤ k → (lk o' k).isSome = true := fun k q hk h1 => by
      simp only [St.env, Option.bind_eq_some_iff] at hk
      obtain ⟨o, ho', -⟩ := hk
      exact hbig (k, o) (lk_mem ho') h1
    have row : ∀ k, (lk o' k).isSome = true → ((⟨t', o'⟩ : St).env R.M κ').row k = (st.env R.M κ).row k := fun k h1 => by
      obtain ⟨o, h2⟩ := Option.isSome_iff_exists.1 h1
      simp only [St.env, St.get, h2, hobj k o h2]
    have ge : ∀ k, (∃ p, R.E0.loc k = some p) ∨ (∃ p, R.E0.row k = some p) → 1000 ≤ k := fun k hk => by
      rcases Nat.lt_or_ge k 1000 with h1 | h1
      · obtain ⟨h2, h3⟩ := h.ent k h1
        rcases hk with ⟨p, hk⟩ | ⟨p, hk⟩
        · rw [h2] at hk; cases hk
        · rw [h3] at hk; cases hk
      · exact h1
    refine ⟨h.mono.size, fun b hb hb0 => ⟨hM b (h.mono.imm b hb hb0).1, (h.mono.imm b hb hb0).2⟩, fun k p hk hr => ?_, fun k sz m hk => ?_⟩
    · obtain ⟨h1, h2⟩ := h.mono.box k p hk hr
      have h3 := big k p h1 (ge k (.inl ⟨p, hk⟩))
      exact ⟨by simp only [St.env, κ', h3, if_true]; exact h1, (row k h3).trans h2⟩
    · obtain ⟨m', h1, h2, h3⟩ := h.mono.row k sz m hk
      have h4 := get k _ h1 (ge k (.inr ⟨_, hk⟩))
      refine ⟨m', (row k h4).trans h1, h2, fun e b s cs t hl => ?_⟩
      obtain ⟨h5, h6⟩ := h3 e b s cs t hl
      exact ⟨by simp only [St.env, κ', h4, if_true]; exact h5, h6⟩
  · exact h.ent

/-- A tree, where the objects that 'ok' names have become trees. -/
def frz (ok : Nat → Bool) (st : St) : Nat → AV → Option AV
  | n + 1, .func fn xs ys => match snapL (frz ok st n) xs, snapL (frz ok st n) ys with
    | some a, some b => some (.func fn a b)
    | _, _ => none
  | n + 1, .agg xs => (snapL (frz ok st n) xs).map .agg
  | n + 1, .tup xs => (snapL (frz ok st n) xs).map .tup
  | n + 1, .osl k m => if ok k = true then snapF ok st (n + 1) (.osl k m) else some (.osl k m)
  | n + 1, .ptr k off => if ok k = true then snapF ok st (n + 1) (.ptr k off) else some (.ptr k off)
  | n + 1, .mp k => if ok k = true then snapF ok st (n + 1) (.mp k) else some (.mp k)
  | _, x => if x.keys.all (fun k => !ok k) = true then some x else none
def frzA (ok : Nat → Bool) (st : St) (x : AV) : AV := (frz ok st 6 x).getD .undef
def frzO (ok : Nat → Bool) (st : St) : AObj → AObj
  | .box cells => .box (cells.map (frzA ok st))
  | .row sz rows => .row sz (rows.map fun r => r.map (frzA ok st))
  | .mp kvs => .mp (kvs.map fun p => (frzA ok st p.1, frzA ok st p.2))
def frzSt (ok : Nat → Bool) (st : St) : St := ⟨st.t.map fun p => (p.1, frzA ok st p.2), (st.o.filter fun p => !ok p.1).map fun p => (p.1, frzO ok st p.2)⟩

theorem lk_map {α β : Type} {f : α → β} {l : List (Nat × α)} {n : Nat} : lk (l.map fun p => (p.1, f p.2)) n = (lk l n).map f := by
  induction l with
  | nil => rfl
  | cons p l ih =>
    obtain ⟨m, y⟩ := p
    simp only [List.map_cons, lk]
    split
    · rfl
    · exact ih
theorem lk_filter {α : Type} {ok : Nat → Bool} {l : List (Nat × α)} {n : Nat} : lk (l.filter fun p => !ok p.1) n = if ok n = true then none else lk l n := by
  induction l with
  | nil => simp [lk]
  | cons p l ih =>
    obtain ⟨m, y⟩ := p
    rw [List.filter_cons]
    by_cases h : ok m = true
    · simp only [h, Bool.not_true, Bool.false_eq_true, if_false, ih, lk]
      by_cases e : m = n
      · subst e; simp [h]
      · simp [e]
    · simp only [h, Bool.not_false, if_true, lk, ih]
      by_cases e : m = n
      · subst e; simp [h]
      · simp [e]

theorem Weak.frz (ok : Nat → Bool) (st : St) (hok : ∀ k, 1000 ≤ k → ok k = false := by intro k hk; simp; omega) : Weak st (frzSt ok st) := by
  rintro R a W ⟨κ, h⟩
  let κ' : Nat → Option (Nat × Nat) := fun k => if ok k = true then none else κ k
  have hget : ∀ k, (frzSt ok st).get k = if ok k = true then none else (st.get k).map (frzO ok st) := fun k => by
    simp only [frzSt, St.get, lk_map, lk_filter]
    split <;> rfl
  have hκ : ∀ k p, κ' k = some p → κ k = some p ∧ ok k = false := fun k p hk => by
    simp only [κ'] at hk
    split at hk
    · cases hk
    · rename_i e; exact ⟨hk, by simpa using e⟩
  have hdim : ∀ o : AObj, (frzO ok st o).dim = o.dim := fun o => by cases o <;> simp [frzO, AObj.dim]
  have hM' : ∀ b, ((frzSt ok st).env R.M κ').M b → (st.env R.M κ).M b := fun b hb => by
    rcases hb with hb | ⟨k, s, hk⟩
    · exact .inl hb
    · exact .inr ⟨k, s, (hκ k _ hk).1⟩
  have hN : ∀ k b s, κ k = some (b, s) → ok k = true → ¬ ((frzSt ok st).env R.M κ').M b := fun k b s hk hok hM => by
    rcases hM with hM | ⟨k2, s2, hk2⟩
    · obtain ⟨o, ho⟩ := h.dom k _ hk
      obtain ⟨b', s', h1, h2, h3, -⟩ := h.obj k o ho
      rw [hk] at h1
      simp only [Option.some.injEq, Prod.mk.injEq] at h1
      obtain ⟨rfl, rfl⟩ := h1
      rcases h3 with h3 | h3
      · have := h.low b hM; omega
      · exact h.apart b hM h3
    · obtain ⟨g1, g2⟩ := hκ k2 _ hk2
      have := h.inj k k2 b s s2 hk g1
      subst this
      rw [hok] at g2; cases g2
  have keep : ∀ {x : AV} {v : Value}, VR (st.env R.M κ) W x v → (∀ k ∈ x.keys, ok k = false) → VR ((frzSt ok st).env R.M κ') W x v := fun hx hk =>
    hx.keep (fun b hb hb' => hb (hM' b hb')) fun k hk' => by
      have e := hk k hk'
      refine ⟨by simp [St.env, κ', e], ?_⟩
      simp only [St.env, hget, e, Bool.false_eq_true, if_false]
      cases st.get k with
      | none => rfl
      | some o => exact hdim o
  have leaf : ∀ {x y : AV} {v : Value}, VR (st.env R.M κ) W x v → (if x.keys.all (fun k => !ok k) = true then some x else none) = some y → VR ((frzSt ok st).env R.M κ') W y v := fun {x y v} hx hs => by
    split at hs <;> simp only [Option.some.injEq, reduceCtorEq] at hs
    rename_i hp
    subst hs
    exact keep hx fun k hk => by simpa using List.all_eq_true.1 hp k hk
  have fz : ∀ (n : Nat) {x y : AV} {v : Value}, VR (st.env R.M κ) W x v → Go.Proofs.YtdpmioiamcgfkaaDoor.frz ok st n x = some y → VR ((frzSt ok st).env R.M κ') W y v := by
    intro n
    induction n with
    | zero => intro x y v hx hs; cases x <;> exact leaf hx (by simpa only [Go.Proofs.YtdpmioiamcgfkaaDoor.frz] using hs)
    | succ n ih =>
      intro x y v hx hs
      cases x
      case func fn xs ys =>
        simp only [Go.Proofs.YtdpmioiamcgfkaaDoor.frz] at hs
        split at hs <;> simp only [Option.some.injEq, reduceCtorEq] at hs
        rename_i a1 b1 e1 e2
        subst hs
        obtain ⟨us, vs, rfl, h1, h2⟩ := hx.func_inv
        obtain ⟨g1, g2⟩ := snapL_spec e1
        obtain ⟨g3, g4⟩ := snapL_spec e2
        refine .func _ a1 b1 us vs (by have := h1.1; simp at this; omega) (by have := h2.1; simp at this; omega) (fun i x u hi hu => ?_) (fun i x u hi hu => ?_)
        · obtain ⟨x', h3, h4⟩ := g2 i x hi
          exact ih (h1.2 i x' u h3 (by simpa using hu)) h4
        · obtain ⟨x', h3, h4⟩ := g4 i x hi
          exact ih (h2.2 i x' u h3 (by simpa using hu)) h4
      case agg xs =>
        simp only [Go.Proofs.YtdpmioiamcgfkaaDoor.frz, Option.map_eq_some_iff] at hs
        obtain ⟨a1, e1, rfl⟩ := hs
        obtain ⟨us, rfl, h1⟩ := hx.agg_inv
        obtain ⟨g1, g2⟩ := snapL_spec e1
        refine .agg a1 us (by have := h1.1; simp at this; omega) (fun i x u hi hu => ?_)
        obtain ⟨x', h3, h4⟩ := g2 i x hi
        exact ih (h1.2 i x' u h3 (by simpa using hu)) h4
      case tup xs =>
        simp only [Go.Proofs.YtdpmioiamcgfkaaDoor.frz, Option.map_eq_some_iff] at hs
        obtain ⟨a1, e1, rfl⟩ := hs
        obtain ⟨us, rfl, h1⟩ := hx.tup_inv
        obtain ⟨g1, g2⟩ := snapL_spec e1
        refine .tup a1 us (by have := h1.1; simp at this; omega) (fun i x u hi hu => ?_)
        obtain ⟨x', h3, h4⟩ := g2 i x hi
        exact ih (h1.2 i x' u h3 (by simpa using hu)) h4
      case osl k m =>
        simp only [Go.Proofs.YtdpmioiamcgfkaaDoor.frz] at hs
        split at hs
        · exact .pv (snapF_sim h hM' hN _ hx hs)
        · rename_i e
          simp only [Option.some.injEq] at hs
          subst hs
          exact keep hx fun k' hk' => by simp only [AV.keys, List.mem_singleton] at hk'; subst hk'; simpa using e
      case ptr k off =>
        simp only [Go.Proofs.YtdpmioiamcgfkaaDoor.frz] at hs
        split at hs
        · exact .pv (snapF_sim h hM' hN _ hx hs)
        · rename_i e
          simp only [Option.some.injEq] at hs
          subst hs
          exact keep hx fun k' hk' => by simp only [AV.keys, List.mem_singleton] at hk'; subst hk'; simpa using e
      case mp k =>
        simp only [Go.Proofs.YtdpmioiamcgfkaaDoor.frz] at hs
        split at hs
        · exact .pv (snapF_sim h hM' hN _ hx hs)
        · rename_i e
          simp only [Option.some.injEq] at hs
          subst hs
          exact keep hx fun k' hk' => by simp only [AV.keys, List.mem_singleton] at hk'; subst hk'; simpa using e
      all_goals exact leaf hx (by simpa only [Go.Proofs.YtdpmioiamcgfkaaDoor.frz] using hs)
  have fzA : ∀ {x : AV} {v : Value}, VR (st.env R.M κ) W x v → VR ((frzSt ok st).env R.M κ') W (frzA ok st x) v := fun {x v} hx => by
    unfold frzA
    cases e : Go.Proofs.YtdpmioiamcgfkaaDoor.frz ok st 6 x with
    | none => exact .undef v
    | some y => exact fz 6 hx e
  refine ⟨κ', ⟨h.defers, h.size, ?_, ?_, ?_, ?_, h.low, h.apart, h.kp, ?_, ?_, ?_⟩⟩
  · intro n x hn
    simp only [frzSt, St.tmp, lk_map, Option.map_eq_some_iff] at hn
    obtain ⟨x0, h1, rfl⟩ := hn
    exact fzA (h.tm n x0 h1)
  · intro k o hk
    rw [hget] at hk
    split at hk
    · cases hk
    · rename_i e
      simp only [Option.map_eq_some_iff] at hk
      obtain ⟨o0, h1, rfl⟩ := hk
      obtain ⟨b, s, h3, h4, h5, h6⟩ := h.obj k o0 h1
      refine ⟨b, s, by simp only [κ', e, Bool.false_eq_true, if_false]; exact h3, h4, h5, ?_⟩
      cases o0 with
      | box cells =>
        obtain ⟨g0, cs, t, g1, g2, g3⟩ := h6
        refine ⟨g0, cs, t, g1, by simpa [frzO] using g2, fun j x hj => ?_⟩
        simp only [frzO, List.getElem?_map, Option.map_eq_some_iff] at hj
        obtain ⟨x0, h7, rfl⟩ := hj
        obtain ⟨v, g4, g5⟩ := g3 j x0 h7
        exact ⟨v, g4, fzA g5⟩
      | row sz rows =>
        obtain ⟨g0, cs, t, g1, g2, g3⟩ := h6
        refine ⟨fun r hr => ?_, cs, t, g1, by simpa [frzO] using g2, fun i j r x hi hj => ?_⟩
        · simp only [frzO, List.mem_map] at hr
          obtain ⟨r0, h7, rfl⟩ := hr
          simpa using g0 r0 h7
        · simp only [frzO, List.getElem?_map, Option.map_eq_some_iff] at hi
          obtain ⟨r0, h7, rfl⟩ := hi
          simp only [List.getElem?_map, Option.map_eq_some_iff] at hj
          obtain ⟨x0, h8, rfl⟩ := hj
          obtain ⟨v, g4, g5⟩ := g3 i j r0 x0 h7 h8
          exact ⟨v, g4, fzA g5⟩
      | mp kvs =>
        obtain ⟨g0, es, t, g1, g2, g3, g4⟩ := h6
        refine ⟨g0, es, t, g1, g2, by simpa [frzO] using g3, fun i x y hi => ?_⟩
        simp only [frzO, List.getElem?_map, Option.map_eq_some_iff, Prod.mk.injEq] at hi
        obtain ⟨p, h7, rfl, rfl⟩ := hi
        obtain ⟨e, g5, g6, g7⟩ := g4 i p.1 p.2 h7
        exact ⟨e, g5, fzA g6, fzA g7⟩
  · intro k p hk
    obtain ⟨g1, g2⟩ := hκ k p hk
    obtain ⟨o, ho⟩ := h.dom k p g1
    exact ⟨_, by rw [hget, g2, ho]; rfl⟩
  · intro k k' b s s' h1 h2
    exact h.inj k k' b s s' (hκ _ _ h1).1 (hκ _ _ h2).1
  · exact h.gr.mono (fun b _ hb => ⟨fun hb' => hb (hM' b hb'), rfl⟩) (Nat.le_refl _)
  · have ge : ∀ k, (∃ p, R.E0.loc k = some p) ∨ (∃ p, R.E0.row k = some p) → ok k = false := fun k hk => by
      rcases Nat.lt_or_ge k 1000 with h1 | h1
      · obtain ⟨h2, h3⟩ := h.ent k h1
        rcases hk with ⟨p, hk⟩ | ⟨p, hk⟩
        · rw [h2] at hk; cases hk
        · rw [h3] at hk; cases hk
      · exact hok k h1
    have row : ∀ k, ok k = false → ((frzSt ok st).env R.M κ').row k = (st.env R.M κ).row k := fun k e => by
      simp only [St.env, hget, e, Bool.false_eq_true, if_false]
      cases st.get k with
      | none => rfl
      | some o => exact hdim o
    refine ⟨h.mono.size, fun b hb hb0 => ⟨fun hb' => (h.mono.imm b hb hb0).1 (hM' b hb'), (h.mono.imm b hb hb0).2⟩, fun k p hk hr => ?_, fun k sz m hk => ?_⟩
    · obtain ⟨h1, h2⟩ := h.mono.box k p hk hr
      have h3 := ge k (.inl ⟨p, hk⟩)
      exact ⟨by simp only [St.env, κ', h3, Bool.false_eq_true, if_false]; exact h1, (row k h3).trans h2⟩
    · obtain ⟨m', h1, h2, h3⟩ := h.mono.row k sz m hk
      have h4 := ge k (.inr ⟨_, hk⟩)
      refine ⟨m', (row k h4).trans h1, h2, fun e b s cs t hl => ?_⟩
      obtain ⟨h5, h6⟩ := h3 e b s cs t hl
      exact ⟨by simp only [St.env, κ', h4, Bool.false_eq_true, if_false]; exact h5, h6⟩
  · exact h.ent

theorem Rnd_ret {α : Type} {S : α → St} {I : α → Prop} {μ : α → Nat} {x : α} {Φ : Exit → St → Prop} {st : St} : Rnd S I μ x Φ .ret st = Φ .ret st := rfl
theorem Rnd_exit {α : Type} {S : α → St} {I : α → Prop} {μ : α → Nat} {x : α} {Φ : Exit → St → Prop} {st : St} {j : Nat} : Rnd S I μ x Φ (.exit j) st = Φ (.exit j) st := rfl
attribute [simp] Rnd_ret Rnd_exit

theorem Weak.tm {st : St} {t' : List (Nat × AV)} (h : ∀ p ∈ t', lk st.t p.1 = some p.2) : Weak st { st with t := t' } :=
  Weak.tmps fun _ _ hx => h _ (lk_mem hx)
theorem Weak.of {st : St} {t' : List (Nat × AV)} {o' : List (Nat × AObj)} (ho : st.o = o') (h : ∀ p ∈ t', lk st.t p.1 = some p.2) : Weak st ⟨t', o'⟩ := by
  subst ho; exact Weak.tm h
end Go.Proofs.YtdpmioiamcgfkaaDoor
