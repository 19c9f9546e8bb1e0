/-
  A region whose order is drawn from the tape, walked in one order: operations that only look at memory which no store of the region touches, and calls that leave all old memory alone, may be taken first; between the others the world may have grown.
  Plain theorems over any program; no condition on the tape.
-/
import Derived.Orders
import Derived.Below
import Derived.Tactics
import Derived.Tactics2
import Derived.RangeFuncRecord
namespace Go.Proofs.YtdpmioiamcgfkaaDoor
open Go.RowKit

/-- All that was there is as it was; more may have come. -/
def Ext (w w' : World) : Prop := Below w.heap.size w w'
theorem Ext.refl (w : World) : Ext w w := Below.refl _ _
theorem Ext.trans {a b c : World} (h : Ext a b) (k : Ext b c) : Ext a c := Below.trans h (Below.mono k h.size)
theorem Ext.drew (w : World) : Ext w w.drew := (Below.refl _ _).drew
theorem Ext.of {w w' : World} (h : Below w.heap.size w w') : Ext w w' := h

theorem Ext.al {w a : World} {o : Obj} (h : Ext w a) : Ext w (a.alloc o) := Below.alloc h h.size o
theorem Ext.dr {w a : World} (h : Ext w a) : Ext w a.drew := Below.drew h
theorem Ext.sc {w a : World} {p : Addr} {u : Value} (hp : w.heap.size ≤ p.block) (h : Ext w a) : Ext w (a.setCell p u) := Below.setCell h hp u

/-- All that was there is as it was, but for the blocks of X. -/
structure Kp (X : Nat → Prop) (w w' : World) : Prop where
  os : w'.os = w.os
  tape : w'.tape = w.tape
  output : w'.output = w.output
  size : w.heap.size ≤ w'.heap.size
  block : ∀ k, k < w.heap.size → ¬ X k → w'.heap[k]? = w.heap[k]?

theorem Kp.refl (X : Nat → Prop) (w : World) : Kp X w w := ⟨rfl, rfl, rfl, Nat.le_refl _, fun _ _ _ => rfl⟩
theorem Kp.trans {X : Nat → Prop} {a b c : World} (h : Kp X a b) (k : Kp X b c) : Kp X a c :=
  ⟨k.os.trans h.os, k.tape.trans h.tape, k.output.trans h.output, Nat.le_trans h.size k.size, fun i hi hx => (k.block i (Nat.lt_of_lt_of_le hi h.size) hx).trans (h.block i hi hx)⟩
theorem Ext.kp {X : Nat → Prop} {w w' : World} (h : Ext w w') : Kp X w w' := ⟨h.os, h.tape, h.output, h.size, fun i hi _ => h.block i hi⟩
theorem Kp.cell {X : Nat → Prop} {w w' : World} (h : Kp X w w') {p : Addr} (hp : p.block < w.heap.size) (hx : ¬ X p.block) : w'.cell? p = w.cell? p := World.cell?_of_block (w := w) (h.block p.block hp hx)
theorem Kp.frozen {X : Nat → Prop} {w w' : World} (h : Kp X w w') {p : Addr} (hp : p.block < w.heap.size) (hx : ¬ X p.block) : w'.frozen? p = w.frozen? p := World.frozen?_of_block (w := w) (h.block p.block hp hx)
theorem Kp.alloc {X : Nat → Prop} (w : World) (o : Obj) : Kp X w (w.alloc o) := Ext.kp ((Below.refl _ w).alloc (Nat.le_refl _) o)
theorem Kp.drew {X : Nat → Prop} {w w' : World} (h : Kp X w w') : Kp X w w'.drew := ⟨h.os, h.tape, h.output, h.size, h.block⟩
theorem Kp.setCell {X : Nat → Prop} {w w' : World} (h : Kp X w w') {p : Addr} (hp : X p.block) (u : Value) : Kp X w (w'.setCell p u) :=
  ⟨h.os, h.tape, h.output, by simpa [World.setCell] using h.size, fun k hk hx => by rw [Below.heap_setCell _ _ _ _ (fun e => hx (by rw [e]; exact hp))]; exact h.block k hk hx⟩

section
variable {P : Program} {ops : Array Oper} {Q : Exit → Act → World → Prop} {X : Nat → Prop}

/-- One operation has yielded v, and all memory that was there is as it was. -/
def softUpon (P : Program) (w : World) (v : Value) : Result Next → Prop
  | .ok (.value u) w' => Ext w w' ∧ u = v
  | .ok .skip w' => Ext w w' ∧ v = undef
  | .ok (.enter f args) w' => Calls P f args w' (fun e w'' => e = .returned v ∧ Ext w w'')
  | .ok (.row row args) w' => Rows P row args w' fun u w'' => u = v ∧ Ext w w''
  | _ => False

/-- In state 'a', in every world that has come of w by stores to X alone, operation o yields v. -/
def Soft (P : Program) (ops : Array Oper) (X : Nat → Prop) (o : Oper) (v : Value) (a : Act) (w : World) : Prop :=
  (Region.wanted o (yielded ops a.tmps) = true ∧ ∀ w1, Kp X w w1 → softUpon P w1 v ((execOp a.eval o).run P w1)) ∨
  (Region.wanted o (yielded ops a.tmps) = false ∧ v = undef)

theorem Soft.of_same {o : Oper} {v : Value} {a a' : Act} {w : World} (hy : Soft P ops X o v a w) (he : execOp a'.eval o = execOp a.eval o)
    (hw : Region.wanted o (yielded ops a'.tmps) = Region.wanted o (yielded ops a.tmps)) : Soft P ops X o v a' w := by
  unfold Soft at *
  rw [he, hw]
  exact hy

theorem Soft.later {o : Oper} {v : Value} {a : Act} {w w' : World} (hy : Soft P ops X o v a w) (hk : Kp X w w') : Soft P ops X o v a w' :=
  hy.imp (fun ⟨h1, h2⟩ => ⟨h1, fun w1 h => h2 w1 (hk.trans h)⟩) id

theorem Soft.wpOp {i : Nat} {o : Oper} {v : Value} {a : Act} {w w1 : World} (hi : ops[i]? = some o) (hy : Soft P ops X o v a w)
    {K : Act → World → Prop} (hk : Kp X w w1) (h : ∀ w', Ext w1 w' → K (a.put o.dst v) w') : wpOp P ops Q i K a w1 := by
  unfold Go.wpOp
  simp only [hi]
  rcases hy with ⟨hw, hv⟩ | ⟨hw, rfl⟩
  · simp only [hw, if_true]
    refine .inl ?_
    have h3 := hv w1 hk
    unfold Oper.wp
    generalize (execOp a.eval o).run P w1 = r at *
    cases r with
    | ok n w' =>
      cases n <;> simp only [softUpon] at h3 <;> simp only [Oper.upon]
      case value u => obtain ⟨e1, e2⟩ := h3; rw [e2]; exact h _ e1
      case skip => obtain ⟨e1, e2⟩ := h3; rw [← e2]; exact h _ e1
      case enter f args => exact h3.mono fun e w'' ⟨he, hw''⟩ => by subst he; exact h _ hw''
      case row row args => exact h3.mono fun u w'' ⟨he, hw''⟩ => by subst he; exact h _ hw''
    | halt x w' => simp only [softUpon] at h3
  · simp only [hw, Bool.false_eq_true, if_false]; exact h _ (Ext.refl _)

theorem wpOp_putSoft {j : Nat} {oi oj : Oper} {v : Value} {w : World} (hj : ops[j]? = some oj) (hap : oi.apart ops oj = true)
    (hsi : ∀ cs b, oi.op ≠ .select cs b) (hsj : ∀ cs b, oj.op ≠ .select cs b)
    (hQ : ∀ c a w, Q (.panic c) (a.put oi.dst v) w → Q (.panic c) a w) {K : Act → World → Prop} {a : Act} {w1 : World}
    (hy : Soft P ops X oi v a w) (h : wpOp P ops Q j K (a.put oi.dst v) w1) :
    wpOp P ops Q j (fun a' w' => Soft P ops X oi v a' w ∧ K (a'.put oi.dst v) w') a w1 := by
  obtain ⟨h1, h2, h3⟩ := Oper.apart_spec hap
  have keep : ∀ (a : Act), Soft P ops X oi v a w → ∀ u, Soft P ops X oi v (a.put oj.dst u) w := fun a hy u =>
    hy.of_same (execOp_put oi hsi a oj.dst u h3) (wanted_put oi a oj.dst u h3)
  have keepD : ∀ d, Soft P ops X oi v { a with defers := d :: a.defers } w := fun d => hy.of_same rfl rfl
  unfold wpOp at *
  simp only [hj] at *
  rw [wanted_put oj a oi.dst v h1] at h
  split
  · rename_i hw
    simp only [hw, if_true] at h
    rcases h with h | ⟨hasks, hlets⟩
    case inr => exact .inr ⟨by unfold Oper.asks at *; rw [execOp_put oj hsj a oi.dst v h1] at hasks; exact hasks, hlets⟩
    refine .inl ?_
    unfold Oper.wp at *
    rw [execOp_put oj hsj a oi.dst v h1] at h
    generalize (execOp a.eval oj).run P w1 = r at *
    cases r with
    | ok n w' =>
      cases n <;> simp only [Oper.upon] at h ⊢
      case value u => exact ⟨keep a hy u, by rw [← Act.put_comm a v u h2]; exact h⟩
      case skip => exact ⟨keep a hy _, by rw [← Act.put_comm a v undef h2]; exact h⟩
      case defer d =>
        refine ⟨keep _ (keepD d) _, ?_⟩
        rw [← Act.put_comm _ v undef h2, ← Act.put_defers]
        exact h
      case enter f args =>
        refine Calls.mono h fun e w'' he => ?_
        cases e with
        | returned u => exact ⟨keep a hy u, by rw [← Act.put_comm a v u h2]; exact he⟩
        | panicked c => exact hQ _ _ _ he
        | outgrown => exact he
      case row row args => exact Rows.mono h fun u w'' he => ⟨keep a hy u, by rw [← Act.put_comm a v u h2]; exact he⟩
    | halt x w' =>
      cases x <;> simp only [Oper.upon] at h ⊢
      case panic u => exact hQ _ _ _ h
  · rename_i hw
    simp only [hw] at h
    exact ⟨keep a hy _, by rw [← Act.put_comm a v undef h2]; exact h⟩

/-- Whatever order is picked from here on; ahead of each operation the world may have grown; an operation changes blocks of X alone. -/
def wpGrow (P : Program) (ops : Array Oper) (Q : Exit → Act → World → Prop) (X : Nat → Prop) : Nat → Array Bool → Act → World → Prop
  | 0, listed, a, w => Region.ready .any ops listed = [] ∧ ∀ w1, Ext w w1 → Q .normal a w1
  | fuel + 1, listed, a, w => ∀ w1, Ext w w1 → (Region.ready .any ops listed = [] → Q .normal a w1) ∧
    ∀ i ∈ Region.ready .any ops listed, wpOp P ops Q i (fun a' w' => Kp X w1 w' ∧ wpGrow P ops Q X fuel (listed.setIfInBounds i true) a' w') a w1

theorem wpGrow_any : ∀ (fuel : Nat) (listed : Array Bool) (a : Act) (w : World), wpGrow P ops Q X fuel listed a w → wpAny P .any ops Q fuel listed a w
  | 0, _, _, w, h => ⟨h.1, h.2 w (Ext.refl w)⟩
  | _ + 1, _, _, w, h => ⟨(h w (Ext.refl w)).1, fun i hi => wpOp_mono (fun _ _ h' => wpGrow_any _ _ _ _ h'.2) ((h w (Ext.refl w)).2 i hi)⟩

theorem wpGrow_later {fuel : Nat} {listed : Array Bool} {a : Act} {w w' : World} (h : wpGrow P ops Q X fuel listed a w) (hx : Ext w w') : wpGrow P ops Q X fuel listed a w' := by
  cases fuel with
  | zero => exact ⟨h.1, fun w1 h1 => h.2 w1 (hx.trans h1)⟩
  | succ n => exact fun w1 h1 => h w1 (hx.trans h1)

theorem wpGrow_first {i : Nat} {oi : Oper} {v : Value} (hi : ops[i]? = some oi) (hsel : ∀ (j : Nat) (o : Oper) cs b, ops[j]? = some o → o.op ≠ .select cs b)
    (hQ : ∀ c a w, Q (.panic c) (a.put oi.dst v) w → Q (.panic c) a w) :
    ∀ (fuel : Nat) (listed : Array Bool) (a : Act) (w : World),
      (∀ j oj, ops[j]? = some oj → j ≠ i → listed.getD j true = false → (∀ e ∈ oj.after, Region.binds .any e = true → e.on ≠ i) → oi.apart ops oj = true) →
      i ∈ Region.ready .any ops listed → Soft P ops X oi v a w →
      wpGrow P ops Q X fuel (listed.setIfInBounds i true) (a.put oi.dst v) w → wpGrow P ops Q X (fuel + 1) listed a w := by
  intro fuel
  induction fuel with
  | zero =>
    intro listed a w _ hr hy H w1 hw1
    refine ⟨fun h => (by rw [h] at hr; cases hr), fun j hj => ?_⟩
    by_cases hji : j = i
    · subst hji; exact hy.wpOp hi hw1.kp fun w' hw' => ⟨hw'.kp, wpGrow_later H (hw1.trans hw')⟩
    · have := ready_mono hj hji
      rw [H.1] at this
      cases this
  | succ fuel ih =>
    intro listed a w hfree hr hy H w1 hw1
    refine ⟨fun h => (by rw [h] at hr; cases hr), fun j hj => ?_⟩
    by_cases hji : j = i
    · subst hji; exact hy.wpOp hi hw1.kp fun w' hw' => ⟨hw'.kp, wpGrow_later H (hw1.trans hw')⟩
    · have h1 := (H w1 hw1).2 j (ready_mono hj hji)
      obtain ⟨hjun, oj, hoj, hall⟩ := mem_ready.1 hj
      have hnot : ∀ e ∈ oj.after, Region.binds .any e = true → e.on ≠ i := fun e he hb heq => by
        have h1 := hall e he hb
        have h0 := (mem_ready.1 hr).1
        rw [heq] at h1
        rcases Nat.lt_or_ge i listed.size with h' | h'
        · simp [h'] at h0 h1; rw [h0] at h1; cases h1
        · simp [Array.getElem?_eq_none h'] at h1
      have h2 := wpOp_putSoft hoj (hfree j oj hoj hji hjun hnot) (fun cs b => hsel i oi cs b hi) (fun cs b => hsel j oj cs b hoj) hQ hy h1
      have hfree' : ∀ k ok, ops[k]? = some ok → k ≠ i → (listed.setIfInBounds j true).getD k true = false →
          (∀ e ∈ ok.after, Region.binds .any e = true → e.on ≠ i) → oi.apart ops ok = true := fun k ok hk hki hun hno => by
        refine hfree k ok hk hki ?_ hno
        by_cases hjk : j = k
        · subst hjk; exact hjun
        · rw [getD_set_ne true hjk] at hun; exact hun
      refine wpOp_mono (fun a' w' h3 => ⟨h3.2.1, ih (listed.setIfInBounds j true) a' w' hfree' (ready_mono hr (Ne.symm hji)) (h3.1.later (hw1.kp.trans h3.2.1)) ?_⟩) h2
      rw [Array.setIfInBounds_comm _ _ hji]
      exact h3.2.2

/-- The post of one operation that is taken first. -/
def EPost (a1 : Act) (w1 : World) : Exit → Act → World → Prop
  | .normal, a, w => a = a1 ∧ Ext w1 w
  | _, _, _ => False

theorem EPost.intro {a1 a : Act} {w1 w : World} (h : Ext w1 w) (e : a = a1) : EPost a1 w1 .normal a w := ⟨e, h⟩

theorem put_inj {a : Act} {d : Tmp} (hd : d < a.tmps.size) {u v : Value} (h : a.put (some d) u = a.put (some d) v) : u = v := by
  have h1 : (a.put (some d) u).tmps[d]? = (a.put (some d) v).tmps[d]? := by rw [h]
  simpa [Act.put, hd] using h1

/-- An operation that is walked by itself from every such world. -/
theorem Soft.mk {o : Oper} {v : Value} {a : Act} {w : World} {d : Tmp} (ho : o.dst = some d) (hd : d < a.tmps.size)
    (h : ∀ w1, Kp X w w1 → wpList P ops (EPost (a.put o.dst v) w1) [o] a w1) : Soft P ops X o v a w := by
  unfold Soft
  by_cases hw : Region.wanted o (yielded ops a.tmps) = true
  · refine .inl ⟨hw, fun w1 hk => ?_⟩
    have h1 := h w1 hk
    unfold wpList at h1
    simp only [hw, if_true] at h1
    rcases h1 with h1 | ⟨_, a', w', h1⟩
    case inr => exact (h1 : False).elim
    unfold Oper.wp at h1
    generalize (execOp a.eval o).run P w1 = r at *
    cases r with
    | ok n w' =>
      cases n <;> simp only [Oper.upon] at h1 <;> simp only [softUpon]
      case value u =>
        obtain ⟨e1, e2⟩ := (h1 : _ ∧ _)
        rw [ho] at e1
        exact ⟨e2, put_inj hd e1⟩
      case skip =>
        obtain ⟨e1, e2⟩ := (h1 : _ ∧ _)
        rw [ho] at e1
        exact ⟨e2, (put_inj hd e1).symm⟩
      case enter f args =>
        refine h1.mono fun e w'' he => ?_
        cases e with
        | returned u =>
          obtain ⟨e1, e2⟩ := (he : _ ∧ _)
          rw [ho] at e1
          exact ⟨by rw [put_inj hd e1], e2⟩
        | panicked c => exact (he : False).elim
        | outgrown => obtain ⟨_, _, he⟩ := he; exact (he : False).elim
      case defer dd =>
        obtain ⟨e1, e2⟩ := (h1 : _ ∧ _)
        have := congrArg Act.defers e1
        rw [ho] at this
        simp [Act.put] at this
      case row row args =>
        refine h1.mono fun u w'' he => ?_
        obtain ⟨e1, e2⟩ := (he : _ ∧ _)
        rw [ho] at e1
        exact ⟨put_inj hd e1, e2⟩
    | halt x w' =>
      cases x <;> simp only [Oper.upon] at h1
      case panic u => exact (h1 : False).elim
  · refine .inr ⟨by simpa using hw, ?_⟩
    have h1 := h w (Kp.refl X w)
    unfold wpList at h1
    simp only [hw] at h1
    obtain ⟨e1, e2⟩ := (h1 : _ ∧ _)
    rw [ho] at e1
    exact (put_inj hd e1).symm

/-- The operations that are taken first, by their numbers. -/
def walkE (P : Program) (ops : Array Oper) (X : Nat → Prop) (w : World) (R : Act → Prop) : List Nat → Act → Prop
  | [], a => R a
  | i :: is, a => ∃ o v, ops[i]? = some o ∧ Soft P ops X o v a w ∧ walkE P ops X w R is (a.put o.dst v)

/-- The others, one behind the other; the world may grow between them. -/
def walkT (P : Program) (ops : Array Oper) (Q : Exit → Act → World → Prop) (X : Nat → Prop) (w0 : World) : List Nat → Act → World → Prop
  | [], a, w => ∀ w1, Ext w w1 → Kp X w0 w1 → Q .normal a w1
  | i :: is, a, w => ∀ w1, Ext w w1 → wpOp P ops Q i (fun a' w' => Kp X w1 w' ∧ walkT P ops Q X w0 is a' w') a w1

theorem walkE_nil {R : Act → Prop} {a : Act} {w : World} (h : R a) : walkE P ops X w R [] a := h
theorem walkE_cons {R : Act → Prop} {a : Act} {w : World} {i : Nat} {is : List Nat} {o : Oper} {d : Tmp} (ho : ops[i]? = some o) (hd : o.dst = some d) (hs : d < a.tmps.size) (v : Value)
    (h : ∀ w1, Kp X w w1 → wpList P ops (EPost (a.put o.dst v) w1) [o] a w1) (hr : walkE P ops X w R is (a.put o.dst v)) : walkE P ops X w R (i :: is) a :=
  ⟨o, v, ho, Soft.mk hd hs h, hr⟩

theorem walkE_step {R : Act → Prop} {a : Act} {w : World} {i : Nat} {is : List Nat} {o : Oper} {d : Tmp} (ho : ops[i]? = some o) (hd : o.dst = some d) (hs : Nat.blt d a.tmps.size = true)
    (h : ∃ a', (∀ w1, Kp X w w1 → wpList P ops (EPost a' w1) [o] a w1) ∧ (∃ v, a' = a.put (some d) v) ∧ walkE P ops X w R is a') : walkE P ops X w R (i :: is) a :=
  let ⟨a', h1, ⟨v, hv⟩, h2⟩ := h
  walkE_cons ho hd (Nat.lt_of_succ_le (by simpa [Nat.blt] using hs)) v (by rw [hd, ← hv]; exact h1) (by rw [hd, ← hv]; exact h2)

/-- The post of one of the others. -/
def TPost (N : Act → World → Prop) (Q : Exit → Act → World → Prop) : Exit → Act → World → Prop
  | .normal, a, w => N a w
  | e, a, w => Q e a w

theorem walkT_nil {a : Act} {w0 w : World} (h : ∀ w1, Ext w w1 → Kp X w0 w1 → Q .normal a w1) : walkT P ops Q X w0 [] a w := h
theorem walkT_cons {a : Act} {w0 w : World} {i : Nat} {is : List Nat} {o : Oper} (ho : ops[i]? = some o)
    (h : ∀ w1, Ext w w1 → wpList P ops (TPost (fun a' w' => Kp X w1 w' ∧ walkT P ops Q X w0 is a' w') Q) [o] a w1) : walkT P ops Q X w0 (i :: is) a w := by
  intro w1 h1
  have h2 := h w1 h1
  unfold wpOp
  simp only [ho]
  unfold wpList at h2
  split
  · rename_i hw
    simp only [hw, if_true] at h2
    rcases h2 with h2 | ⟨h2, a', w', h3⟩
    · refine .inl ?_
      unfold Oper.wp at *
      generalize (execOp a.eval o).run P w1 = r at *
      cases r with
      | ok n w' =>
        cases n <;> simp only [Oper.upon] at h2 ⊢
        case enter f args =>
          refine h2.mono fun e w'' he => ?_
          cases e with
          | returned u => exact he
          | panicked c => exact he
          | outgrown => exact he
        case row row args => exact h2.mono fun u w'' he => he
        all_goals exact h2
      | halt x w' =>
        cases x <;> simp only [Oper.upon] at h2 ⊢
        case panic u => exact h2
    · exact .inr ⟨h2, a', w', h3⟩
  · rename_i hw
    simp only [hw] at h2
    exact h2

/-- May the operations come up in this order: those that are taken first may be so taken; then each of the others is the only one that may come up. -/
def orderE (ops : Array Oper) : List Nat → Array Bool → Option (Array Bool)
  | [], listed => some listed
  | i :: is, listed => if (Region.ready .any ops listed).contains i && Region.free .any ops listed i then orderE ops is (listed.setIfInBounds i true) else none
def orderT (ops : Array Oper) : List Nat → Array Bool → Bool
  | [], listed => (Region.ready .any ops listed).isEmpty
  | i :: is, listed => (Region.ready .any ops listed) == [i] && orderT ops is (listed.setIfInBounds i true)
def orderB (ops : Array Oper) (es ts : List Nat) : Bool :=
  Region.noSelect ops && (es.length + ts.length == ops.size) && match orderE ops es (Array.replicate ops.size false) with
    | some l => orderT ops ts l
    | none => false

theorem wpGrow_T {w0 : World} (is : List Nat) : ∀ (listed : Array Bool) (a : Act) (w : World), Kp X w0 w → orderT ops is listed = true → walkT P ops Q X w0 is a w → wpGrow P ops Q X is.length listed a w := by
  induction is with
  | nil => intro listed a w hk hB h; exact ⟨by simpa [orderT] using hB, fun w1 h1 => h w1 h1 (hk.trans h1.kp)⟩
  | cons i is ih =>
    intro listed a w hk hB h w1 h1
    simp only [orderT, Bool.and_eq_true, beq_iff_eq] at hB
    refine ⟨fun h0 => (by rw [hB.1] at h0; cases h0), fun j hj => ?_⟩
    rw [hB.1] at hj
    simp only [List.mem_singleton] at hj
    subst hj
    exact wpOp_mono (fun a' w' h' => ⟨h'.1, ih _ _ _ (hk.trans (h1.kp.trans h'.1)) hB.2 h'.2⟩) (h w1 h1)

theorem wpGrow_E (hs : Region.noSelect ops = true) (hQ : ∀ c a d v w, Q (.panic c) (Act.put a d v) w → Q (.panic c) a w) {n : Nat} (w : World) (is : List Nat) : ∀ (listed l : Array Bool) (a : Act), orderE ops is listed = some l →
    walkE P ops X w (fun a' => wpGrow P ops Q X n l a' w) is a → wpGrow P ops Q X (is.length + n) listed a w := by
  induction is with
  | nil => intro listed l a hB h; simp only [orderE, Option.some.injEq] at hB; subst hB; simpa [walkE] using h
  | cons i is ih =>
    intro listed l a hB h
    obtain ⟨o, v, ho, hsoft, hr⟩ := h
    simp only [orderE] at hB
    split at hB
    · rename_i hc
      simp only [Bool.and_eq_true] at hc
      have := wpGrow_first ho (Region.noSelect_spec hs) (fun c a w h => hQ c _ _ _ _ h) (is.length + n) listed a w (Region.free_spec ho hc.2) (by simpa using hc.1) hsoft (ih _ _ _ hB hr)
      simpa [Nat.add_right_comm] using this
    · cases hB

/-- **A region whose order is drawn, in one order.** -/
theorem wp_region_grow {id : Nat} {a : Act} {w : World} {l : List Oper} (es ts : List Nat) (X : Nat → Prop) (hm : P.follows .mixedOrders = true) (hB : orderB l.toArray es ts = true)
    (hQ : ∀ c a d v w, Q (.panic c) (Act.put a d v) w → Q (.panic c) a w)
    (h : walkE P l.toArray X w.drew (fun a' => walkT P l.toArray Q X w.drew ts a' w.drew) es a) : (Code.region id l.toArray true).wp P Q a w := by
  simp only [orderB, Bool.and_eq_true, beq_iff_eq] at hB
  obtain ⟨⟨hs, hn⟩, hB⟩ := hB
  split at hB
  · rename_i l' hl
    refine wp_region_any hm (wpGrow_any (X := X) _ _ _ _ ?_)
    have h2 := wpGrow_E (P := P) (Q := Q) (X := X) hs hQ (n := ts.length) w.drew es (Array.replicate l.toArray.size false) l' a hl ?_
    · rw [hn] at h2; exact h2
    · have hmono : ∀ (is : List Nat) (a : Act), walkE P l.toArray X w.drew (fun a' => walkT P l.toArray Q X w.drew ts a' w.drew) is a → walkE P l.toArray X w.drew (fun a' => wpGrow P l.toArray Q X ts.length l' a' w.drew) is a := by
        intro is
        induction is with
        | nil => intro a h; exact wpGrow_T ts _ _ _ (Kp.refl _ _) hB h
        | cons i is ih => intro a h; obtain ⟨o, v, h1, h2, h3⟩ := h; exact ⟨o, v, h1, h2, ih _ h3⟩
      exact hmono es a h
  · cases hB

/-- The post, but 'False' at a panic. -/
def Calm (Q : Exit → Act → World → Prop) : Exit → Act → World → Prop
  | .panic _, _, _ => False
  | e, a, w => Q e a w

/-- The same where no operation panics. -/
theorem wp_region_calm {id : Nat} {a : Act} {w : World} {l : List Oper} (es ts : List Nat) (X : Nat → Prop) (hm : P.follows .mixedOrders = true) (hB : orderB l.toArray es ts = true)
    (h : walkE P l.toArray X w.drew (fun a' => walkT P l.toArray (Calm Q) X w.drew ts a' w.drew) es a) : (Code.region id l.toArray true).wp P Q a w :=
  Code.wp_mono (fun e a w h => by cases e <;> first | exact h | exact (h : False).elim) (wp_region_grow es ts X hm hB (fun _ _ _ _ _ h => h) h)

theorem walkT_end {a : Act} {w0 w : World} (h : ∀ w1, Ext w w1 → Kp X w0 w1 → Q .normal a w1) : walkT P ops (Calm Q) X w0 [] a w := h

end

/-- Block b holds these cells, and may be written. -/
def Blk (W : World) (b : Nat) (vs : List Value) (t : TypeId) : Prop := W.heap[b]? = some (.cells vs.toArray t (0, 0))

theorem Blk.cell {W : World} {b : Nat} {vs : List Value} {t : TypeId} (h : Blk W b vs t) (i : Nat) : W.cell? ⟨b, i, none⟩ = vs[i]? := by
  unfold Blk at h; simp [World.cell?, h]
theorem Blk.free {W : World} {b : Nat} {vs : List Value} {t : TypeId} (h : Blk W b vs t) (i : Nat) : W.frozen? ⟨b, i, none⟩ = false := by
  unfold Blk at h; simp [World.frozen?, h]
theorem Blk.lt {W : World} {b : Nat} {vs : List Value} {t : TypeId} (h : Blk W b vs t) : b < W.heap.size := (Array.getElem?_eq_some_iff.1 h).1
theorem Blk.below {W W' : World} {B b : Nat} {vs : List Value} {t : TypeId} (h : Blk W b vs t) (hb : Below B W W') (hB : b < B) : Blk W' b vs t := (hb.block b hB).trans h
theorem Blk.ext {W W' : World} {b : Nat} {vs : List Value} {t : TypeId} (h : Blk W b vs t) (hb : Ext W W') : Blk W' b vs t := (hb.block b h.lt).trans h
theorem Blk.kp {X : Nat → Prop} {W W' : World} {b : Nat} {vs : List Value} {t : TypeId} (h : Blk W b vs t) (hb : Kp X W W') (hx : ¬ X b) : Blk W' b vs t := (hb.block b h.lt hx).trans h
theorem Blk.new (W : World) (vs : List Value) (t : TypeId) : Blk (W.alloc (.cells vs.toArray t)) W.heap.size vs t := World.alloc_heap_new W _
theorem Blk.new' (W : World) (vs : List Value) (t : TypeId) {b : Nat} (h : b = W.heap.size) : Blk (W.alloc (.cells vs.toArray t)) b vs t := by subst h; exact Blk.new W vs t
theorem Blk.alloc {W : World} {b : Nat} {vs : List Value} {t : TypeId} (h : Blk W b vs t) (o : Obj) : Blk (W.alloc o) b vs t := (Below.heap_alloc W o b h.lt).trans h
theorem Blk.drew {W : World} {b : Nat} {vs : List Value} {t : TypeId} (h : Blk W b vs t) : Blk W.drew b vs t := h
theorem Blk.set {W : World} {b : Nat} {vs : List Value} {t : TypeId} (h : Blk W b vs t) (i : Nat) (v : Value) : Blk (W.setCell ⟨b, i, none⟩ v) b (vs.set i v) t := by
  have hlt := h.lt
  unfold Blk at h
  have h' : W.heap[b] = .cells vs.toArray t (0, 0) := by simpa [Array.getElem?_eq_getElem hlt] using h
  show (W.heap.modify b _)[b]? = _
  rw [Array.getElem?_eq_getElem (by simpa using hlt), Array.getElem_modify_self, h']
  simp
theorem Blk.set_other {W : World} {b : Nat} {vs : List Value} {t : TypeId} (h : Blk W b vs t) {p : Addr} (hp : p.block ≠ b) (v : Value) : Blk (W.setCell p v) b vs t :=
  (Below.heap_setCell W p v b (Ne.symm hp)).trans h
/-- What lies below B is as it was. -/
theorem below_kp {X : Nat → Prop} {B : Nat} {w a b : World} (h : Below B w a) (k : Kp X a b) (hB : B ≤ a.heap.size) (hX : ∀ j, X j → B ≤ j) : Below B w b :=
  ⟨k.os.trans h.os, k.tape.trans h.tape, k.output.trans h.output, Nat.le_trans h.size k.size, fun i hi => (k.block i (Nat.lt_of_lt_of_le hi hB) (fun hx => by have := hX i hx; omega)).trans (h.block i hi)⟩
theorem below_ext {B : Nat} {w a b : World} (h : Below B w a) (k : Ext a b) (hB : B ≤ a.heap.size) : Below B w b := h.trans (Below.mono k hB)

theorem Ext.thn {X : Nat → Prop} {w a b : World} (h : Ext w a) (k : Kp X a b) (hX : ∀ j, X j → w.heap.size ≤ j) : Ext w b := below_kp h k h.size hX

/-- One cell, two, three: what is read, and that they may be written. -/
theorem Blk.one {W : World} {b : Nat} {x : Value} {t : TypeId} (h : Blk W b [x] t) :
    W.cell? ⟨b, 0, none⟩ = some x ∧ W.frozen? ⟨b, 0, none⟩ = false ∧ b < W.heap.size := ⟨h.cell 0, h.free 0, h.lt⟩
theorem Blk.two {W : World} {b : Nat} {x y : Value} {t : TypeId} (h : Blk W b [x, y] t) :
    W.cell? ⟨b, 0, none⟩ = some x ∧ W.cell? ⟨b, 1, none⟩ = some y ∧ W.frozen? ⟨b, 0, none⟩ = false ∧ W.frozen? ⟨b, 1, none⟩ = false ∧ b < W.heap.size :=
  ⟨h.cell 0, h.cell 1, h.free 0, h.free 1, h.lt⟩
theorem Blk.three {W : World} {b : Nat} {x y z : Value} {t : TypeId} (h : Blk W b [x, y, z] t) :
    W.cell? ⟨b, 0, none⟩ = some x ∧ W.cell? ⟨b, 1, none⟩ = some y ∧ W.cell? ⟨b, 2, none⟩ = some z ∧ W.frozen? ⟨b, 0, none⟩ = false ∧ W.frozen? ⟨b, 1, none⟩ = false ∧ W.frozen? ⟨b, 2, none⟩ = false ∧ b < W.heap.size :=
  ⟨h.cell 0, h.cell 1, h.cell 2, h.free 0, h.free 1, h.free 2, h.lt⟩

theorem Blk.four {W : World} {b : Nat} {x y z u : Value} {t : TypeId} (h : Blk W b [x, y, z, u] t) :
    W.cell? ⟨b, 0, none⟩ = some x ∧ W.cell? ⟨b, 1, none⟩ = some y ∧ W.cell? ⟨b, 2, none⟩ = some z ∧ W.cell? ⟨b, 3, none⟩ = some u ∧
      W.frozen? ⟨b, 0, none⟩ = false ∧ W.frozen? ⟨b, 1, none⟩ = false ∧ W.frozen? ⟨b, 2, none⟩ = false ∧ W.frozen? ⟨b, 3, none⟩ = false ∧ b < W.heap.size :=
  ⟨h.cell 0, h.cell 1, h.cell 2, h.cell 3, h.free 0, h.free 1, h.free 2, h.free 3, h.lt⟩

end Go.Proofs.YtdpmioiamcgfkaaDoor
