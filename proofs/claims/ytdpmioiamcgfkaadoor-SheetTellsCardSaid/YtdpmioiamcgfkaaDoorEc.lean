/-
  The issues of a drawing, one by one: what the iterator yields.
-/
import Derived.Test.YtdpmioiamcgfkaaDoorEb
import Derived.Test.YtdpmioiamcgfkaaDoorRcC
namespace Go.Proofs.YtdpmioiamcgfkaaDoor
open Go.RowKit

/-! Code by its form. -/
section
variable {P : Program} {N : Nat} {c : Code}
theorem okC_seq {a b : RCode} (h : okCode P N c (.seq a b) = true) : ∃ c1 c2, c = .seq c1 c2 ∧ okCode P N c1 a = true ∧ okCode P N c2 b = true := by
  cases c <;> simp only [okCode, Bool.false_eq_true, Bool.and_eq_true] at h
  exact ⟨_, _, rfl, h.1, h.2⟩
theorem okC_block {id : Nat} {a : RCode} (h : okCode P N c (.block id a) = true) : ∃ c1, c = .block id c1 ∧ okCode P N c1 a = true := by
  cases c <;> simp only [okCode, Bool.false_eq_true, Bool.and_eq_true, beq_iff_eq] at h
  obtain ⟨rfl, h⟩ := h
  exact ⟨_, rfl, h⟩
theorem okC_loop {a : RCode} (h : okCode P N c (.loop a) = true) : ∃ c1, c = .loop c1 ∧ okCode P N c1 a = true := by
  cases c <;> simp only [okCode, Bool.false_eq_true] at h
  exact ⟨_, rfl, h⟩
theorem okC_cond {x : RA} {a b : RCode} (h : okCode P N c (.cond x a b) = true) : ∃ x' c1 c2, c = .cond x' c1 c2 ∧ okA x' x = true ∧ okCode P N c1 a = true ∧ okCode P N c2 b = true := by
  cases c <;> simp only [okCode, Bool.false_eq_true, Bool.and_eq_true] at h
  exact ⟨_, _, _, rfl, h.1.1, h.1.2, h.2⟩
theorem okC_reg {id : Nat} {rs : List ROper} (h : okCode P N c (.reg id false rs) = true) : ∃ ops, c = .region id ops false ∧ allB2 (okOper P N ops) ops.toList rs = true := by
  cases c <;> simp only [okCode, Bool.false_eq_true, Bool.and_eq_true, beq_iff_eq] at h
  obtain ⟨⟨⟨rfl, rfl⟩, h⟩, -⟩ := h
  exact ⟨_, rfl, h⟩
end

/-! A region's first operations. -/
section
variable {P : Program} {R : Run} {rd : Option Nat} {m : Nat} {ops : Array Oper} {Q : Exit → Act → World → Prop}
theorem reg_simK (l2 : List Nat) : ∀ (l : List Nat) (rs' : List ROper) (st : St) (K : St → Prop) (a : Act) (W : World),
    (∀ (i : Nat) (r : ROper), rs'[i]? = some r → ∃ (j : Nat) (o : Oper), l[i]? = some j ∧ ops[j]? = some o ∧ okOper P R.N ops o r = true) → l.length = rs'.length → (∀ st' a' W', K st' → SR R st' a' W' → wpOpsIn (FW rd) m P ops Q l2 a' W') →
    RW P R.G rs' st (fun e s => e = .normal ∧ K s) → SR R st a W → wpOpsIn (FW rd) m P ops Q (l ++ l2) a W := by
  intro l
  induction l with
  | nil =>
    intro rs' st K a W hok hl hK hr hs
    cases rs' with
    | nil => exact hK st a W hr.2 hs
    | cons r rs' => simp at hl
  | cons j l ih =>
    intro rs' st K a W hok hl hK hr hs
    cases rs' with
    | nil => simp at hl
    | cons r rs' =>
      obtain ⟨j', o, hj, ho, hk⟩ := hok 0 r rfl
      simp at hj
      subst hj
      have go : ∀ (st' : St) (a' : Act) (W' : World), RW P R.G rs' st' (fun e s => e = .normal ∧ K s) → SR R st' a' W' → wpOpsIn (FW rd) m P ops Q (l ++ l2) a' W' := fun st' a' W' h2 hs' =>
        ih rs' st' K a' W' (fun i r hi => by simpa using hok (i + 1) r (by simpa using hi)) (by simpa using hl) hK h2 hs'
      rw [List.cons_append, wpOpsIn_cons]
      rcases RW_cons hr with ⟨st', h1, h2⟩ | ⟨hw, g, args, hi, hc⟩
      · exact stp_sim h1 ho hk hs fun a' W' hs' => go st' a' W' h2 hs'
      · obtain ⟨κ, hκ⟩ := hs
        have hk0 := hk
        simp only [okOper, Bool.and_eq_true, decide_eq_true_eq] at hk
        obtain ⟨⟨⟨hd, hdn⟩, -⟩, -⟩ := hk
        have hdn' : ∀ n, r.d = some n → n < R.N := fun n e => by rw [e] at hdn; simpa using hdn
        refine iscall_sim hi hw ho hk0 hκ fun vs ha => ?_
        rcases hc with ⟨v, st1, hc, hn⟩ | ⟨ch, hc, hn⟩
        · obtain ⟨h1, h2⟩ := hc R a W κ vs rfl hκ ha
          refine ⟨h1, h2.mono ?_⟩
          rintro e W' ⟨u, κ1, rfl, h3, h4⟩
          refine go _ _ _ hn ⟨κ1, ?_⟩
          rw [hd]
          exact h3.putd hdn' h4
        · exact absurd hn.1 (by simp)
end

/-! A run that begins anew where nothing is owned. -/
def freshR (M : Nat → Prop) (W : World) (N : Nat) (rd : Option Nat) : Run :=
  { G := fun _ => none, M := M, X := fun _ => False, W0 := W, N := N, E0 := { M := M, loc := fun _ => none, row := fun _ => none }, rd := rd, nm := true }
/-- All temporaries are trees. -/
def TT' (M : Nat → Prop) (W : World) (t : List (Nat × AV)) (a : Act) : Prop := ∀ n x, lk t n = some x → PV M W x (a.tmps.getD n Go.undef)

theorem fresh_start {M : Nat → Prop} {W : World} {N : Nat} {rd : Option Nat} {t : List (Nat × AV)} {a : Act} (hM : ∀ b, M b → b < W.heap.size) (hd : a.defers = []) (hN : a.tmps.size = N) (ht : TT' M W t a) : SR (freshR M W N rd) ⟨t, []⟩ a W := by
  have hGM : ∀ b, b < W.heap.size → ¬ M b → ¬ ((⟨t, []⟩ : St).env M (fun _ => none)).M b ∧ W.heap[b]? = W.heap[b]? := fun b _ h1 => ⟨(by rintro (h2 | ⟨k, s, h2⟩) <;> first | exact h1 h2 | cases h2), rfl⟩
  refine ⟨fun _ => none, ⟨[], by simp [hd, freshR], .nil, by simp, fun _ => rfl⟩, hN, fun n x hx => .pv ((ht n x hx).mono hGM (Nat.le_refl _)), (fun k o ho => by simp [St.get, lk] at ho), (fun k p hk => by cases hk), (fun k k' b s s' hk => by cases hk), hM, fun _ _ h => h, Kp.refl _ _, (fun g cs hg => by cases hg), ⟨Nat.le_refl _, hGM, fun k p hk => (by cases hk), fun k sz m hk => (by cases hk)⟩, fun _ _ => ⟨rfl, rfl⟩⟩

theorem fresh_end {M : Nat → Prop} {W W' : World} {N : Nat} {rd : Option Nat} {st : St} {a : Act} (h : SR (freshR M W N rd) st a W') {t : List (Nat × AV)} (hw : Weak st ⟨t, []⟩) (hp : ∀ q ∈ t, q.2.pure = true) :
    a.defers = [] ∧ a.tmps.size = N ∧ TT' M W' t a ∧ Ext W W' := by
  obtain ⟨κ, hk⟩ := hw _ _ _ h
  obtain ⟨cs, e, -, -, hz⟩ := hk.defers
  have hκ : ∀ k, κ k = none := fun k => by
    cases e : κ k with
    | none => rfl
    | some p => obtain ⟨o, ho⟩ := hk.dom k p e; simp [St.get, lk] at ho
  refine ⟨by rw [e, hz rfl]; rfl, hk.size, fun n x hx => ?_, ⟨hk.kp.os, hk.kp.tape, hk.kp.output, hk.kp.size, fun i hi => hk.kp.block i hi (fun h => h)⟩⟩
  refine ((hk.tm n x hx).toPV (hp (n, x) (lk_mem hx))).mono (fun b _ hb => ⟨fun h => hb (.inl h), rfl⟩) (Nat.le_refl _)

end Go.Proofs.YtdpmioiamcgfkaaDoor
