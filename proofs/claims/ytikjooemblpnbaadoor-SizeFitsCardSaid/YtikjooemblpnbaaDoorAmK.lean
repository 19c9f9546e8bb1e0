/-
  The abstract machine: a state may forget temporaries and objects.
-/
import Derived.Test.YtikjooemblpnbaaDoorAmJ
namespace Go.Proofs.YtikjooemblpnbaaDoor
open Go.RowKit

theorem mem_keys {xs : List AV} {x : AV} (hx : x ∈ xs) {k : Nat} (hk : k ∈ x.keys) : k ∈ xs.attach.flatMap (fun ⟨x, _⟩ => x.keys) := by
  simp only [List.mem_flatMap, List.mem_attach, true_and, Subtype.exists]
  exact ⟨x, hx, hk⟩

theorem VR.keep {E E' : Env} {W : World} (hM : ∀ b, ¬ E.M b → ¬ E'.M b) {x : AV} {v : Value} (h : VR E W x v) : (∀ k ∈ x.keys, E'.loc k = E.loc k ∧ E'.row k = E.row k) → VR E' W x v := by
  induction h with
  | pv h => exact fun _ => .pv (h.mono (fun b _ hb => ⟨hM b hb, rfl⟩) (Nat.le_refl _))
  | undef v => exact fun _ => .undef v
  | ptr k off b s h hr =>
    intro hk
    obtain ⟨h1, h2⟩ := hk k (by simp [AV.keys])
    exact .ptr k off b s (h1.trans h) (h2.trans hr)
  | eptr k n i off sz m p h hn he =>
    intro hk
    obtain ⟨h1, h2⟩ := hk k (by simp [AV.keys])
    exact .eptr k n i off sz m p (h2.trans h) hn (fun e => by rw [h1]; exact he e)
  | osl k n sz m a l c h hn he =>
    intro hk
    obtain ⟨h1, h2⟩ := hk k (by simp [AV.keys])
    exact .osl k n sz m a l c (h2.trans h) hn (fun e => by rw [h1]; exact he e)
  | func fn xs ys us vs h1 h2 hx hy ihx ihy =>
    intro hk
    refine .func fn xs ys us vs h1 h2 (fun i x u hi hu => ihx i x u hi hu fun k h => hk k ?_) (fun i x u hi hu => ihy i x u hi hu fun k h => hk k ?_)
    · simp only [AV.keys, List.mem_append]; exact .inl (mem_keys (List.mem_of_getElem? hi) h)
    · simp only [AV.keys, List.mem_append]; exact .inr (mem_keys (List.mem_of_getElem? hi) h)
  | agg xs us h1 hx ih =>
    intro hk
    refine .agg xs us h1 (fun i x u hi hu => ih i x u hi hu fun k h => hk k ?_)
    simp only [AV.keys]; exact mem_keys (List.mem_of_getElem? hi) h
  | tup xs us h1 hx ih =>
    intro hk
    refine .tup xs us h1 (fun i x u hi hu => ih i x u hi hu fun k h => hk k ?_)
    simp only [AV.keys]; exact mem_keys (List.mem_of_getElem? hi) h

/-- All names of a tree are of objects that are kept. -/
def keptA (o' : List (Nat × AObj)) (x : AV) : Bool := x.keys.all fun k => (lk o' k).isSome
def keptO (o' : List (Nat × AObj)) : AObj → Bool
  | .box cells => cells.all (keptA o')
  | .row _ rows => rows.all fun r => r.all (keptA o')

theorem lk_mem {α : Type} {l : List (Nat × α)} {n : Nat} {x : α} (h : lk l n = some x) : (n, x) ∈ l := by
  induction l with
  | nil => simp [lk] at h
  | cons p l ih =>
    obtain ⟨m, y⟩ := p
    simp only [lk] at h
    split at h
    · rename_i e
      simp only [Option.some.injEq] at h
      subst h; subst e
      exact List.mem_cons_self ..
    · exact List.mem_cons_of_mem _ (ih h)

theorem Weak.sub {st : St} {t' : List (Nat × AV)} {o' : List (Nat × AObj)} (ht : ∀ p ∈ t', lk st.t p.1 = some p.2 ∧ keptA o' p.2 = true) (ho : ∀ p ∈ o', lk st.o p.1 = some p.2 ∧ keptO o' p.2 = true) : Weak st ⟨t', o'⟩ := by
  rintro R a W ⟨κ, h⟩
  let κ' : Nat → Option (Nat × Nat) := fun k => if (lk o' k).isSome then κ k else none
  have hobj : ∀ k o, lk o' k = some o → lk st.o k = some o := fun k o hk => (ho (k, o) (lk_mem hk)).1
  have hκ : ∀ k p, κ' k = some p → κ k = some p := fun k p hk => by
    simp only [κ'] at hk
    split at hk
    · exact hk
    · cases hk
  have hM : ∀ b, ¬ (st.env R.M κ).M b → ¬ ((⟨t', o'⟩ : St).env R.M κ').M b := fun b hb hb' => by
    rcases hb' with hb' | ⟨k, s, hk⟩
    · exact hb (.inl hb')
    · exact hb (.inr ⟨k, s, hκ k _ hk⟩)
  have hkp : ∀ x, keptA o' x = true → ∀ k ∈ x.keys, ((⟨t', o'⟩ : St).env R.M κ').loc k = (st.env R.M κ).loc k ∧ ((⟨t', o'⟩ : St).env R.M κ').row k = (st.env R.M κ).row k := fun x hx k hk => by
    have h1 : (lk o' k).isSome = true := List.all_eq_true.1 hx k hk
    obtain ⟨o, h2⟩ := Option.isSome_iff_exists.1 h1
    refine ⟨by simp only [St.env, κ', h1, if_true], ?_⟩
    simp only [St.env, St.get, h2, hobj k o h2]
  have hv : ∀ {x : AV} {v : Value}, VR (st.env R.M κ) W x v → keptA o' x = true → VR ((⟨t', o'⟩ : St).env R.M κ') W x v := fun h1 h2 => h1.keep hM (hkp _ h2)
  refine ⟨κ', ⟨h.defers, h.size, ?_, ?_, ?_, ?_, h.low, h.apart, h.kp, ?_⟩⟩
  · intro n x hn
    obtain ⟨h1, h2⟩ := ht (n, x) (lk_mem hn)
    exact hv (h.tm n x h1) h2
  · intro k o hk
    obtain ⟨h1, h2⟩ := ho (k, o) (lk_mem hk)
    obtain ⟨b, s, h3, h4, h5, h6⟩ := h.obj k o h1
    refine ⟨b, s, by simp only [κ']; rw [show lk o' k = some o from hk]; exact h3, h4, h5, ?_⟩
    cases o with
    | box cells =>
      obtain ⟨g0, cs, t, g1, g2, g3⟩ := h6
      refine ⟨g0, cs, t, g1, g2, fun j x hj => ?_⟩
      obtain ⟨v, g4, g5⟩ := g3 j x hj
      exact ⟨v, g4, hv g5 (List.all_eq_true.1 h2 x (List.mem_of_getElem? hj))⟩
    | row sz rows =>
      obtain ⟨g0, cs, t, g1, g2, g3⟩ := h6
      refine ⟨g0, cs, t, g1, g2, fun i j r x hi hj => ?_⟩
      obtain ⟨v, g4, g5⟩ := g3 i j r x hi hj
      exact ⟨v, g4, hv g5 (List.all_eq_true.1 (List.all_eq_true.1 h2 r (List.mem_of_getElem? hi)) x (List.mem_of_getElem? hj))⟩
  · intro k p hk
    have h1 : (lk o' k).isSome = true := by
      simp only [κ'] at hk
      split at hk
      · assumption
      · cases hk
    exact Option.isSome_iff_exists.1 h1
  · intro k k' b s s' h1 h2
    exact h.inj k k' b s s' (hκ _ _ h1) (hκ _ _ h2)
  · exact h.gr.mono (fun b _ hb => ⟨hM b hb, rfl⟩) (Nat.le_refl _)

theorem Rnd_ret {α : Type} {S : α → St} {I : α → Prop} {μ : α → Nat} {x : α} {Φ : Exit → St → Prop} {st : St} : Rnd S I μ x Φ .ret st = Φ .ret st := rfl
theorem Rnd_exit {α : Type} {S : α → St} {I : α → Prop} {μ : α → Nat} {x : α} {Φ : Exit → St → Prop} {st : St} {j : Nat} : Rnd S I μ x Φ (.exit j) st = Φ (.exit j) st := rfl
attribute [simp] Rnd_ret Rnd_exit

theorem Weak.tm {st : St} {t' : List (Nat × AV)} (h : ∀ p ∈ t', lk st.t p.1 = some p.2) : Weak st { st with t := t' } :=
  Weak.tmps fun _ _ hx => h _ (lk_mem hx)
theorem Weak.of {st : St} {t' : List (Nat × AV)} {o' : List (Nat × AObj)} (ho : st.o = o') (h : ∀ p ∈ t', lk st.t p.1 = some p.2) : Weak st ⟨t', o'⟩ := by
  subst ho; exact Weak.tm h
end Go.Proofs.YtikjooemblpnbaaDoor
