/-
  The abstract machine: a region whose order is drawn, and in which a call panics.
-/
import Derived.Test.YtikjooemblpnbaaDoorAmL
namespace Go.Proofs.YtikjooemblpnbaaDoor
open Go.RowKit

/-- One operation of such a region: it does what it does; or it is never reached; or it panics. -/
def PSt (P : Program) (G : Nat → Option (List AV)) (ch : List PanicEntry) (D : Nat → Bool) (r : ROper) (st st' : St) (dead : Bool) : Prop :=
  (dead = false ∧ Stp P G r st st') ∨ (dead = true ∧ st' = st.putd r.d .hole ∧ ((∃ e ∈ r.aft, D e = true) ∨ (wants st r.guard = some true ∧ ∃ g as, r.op = .call g as ∧ CallPan P G st g (as.map (evA G st)) ch)))

/-- Operations in the text's order, of which one panics at least. -/
def CallDP (P : Program) (G : Nat → Option (List AV)) (ch : List PanicEntry) (st : St) (f : FuncId) (args : List AV) (A : AV → Prop) (B : Prop) : Prop :=
  (∃ v, CallR P G st f args v ∧ A v) ∨ (CallPan P G st f args ch ∧ B)
def RP (P : Program) (G : Nat → Option (List AV)) (ch : List PanicEntry) (K : List Rec → List Nat → Prop) : List ROper → St → List Rec → List Nat → Prop
  | [], _, acc, dead => indepB acc.reverse = true ∧ dead ≠ [] ∧ K acc.reverse dead
  | r :: rs, st, acc, dead => if r.aft.any (fun e => dead.contains e) = true then RP P G ch K rs (st.putd r.d .hole) (recOf G r st :: acc) (acc.length :: dead)
    else match wants st r.guard with
    | none => False
    | some w => (w = false → RP P G ch K rs (st.putd r.d .hole) (recOf G r st :: acc) dead) ∧ (w = true → match r.op with
      | .call f args => CallDP P G ch st f (args.map (evA G st)) (fun v => RP P G ch K rs (st.putd r.d v) (recOf G r st :: acc) dead) (RP P G ch K rs (st.putd r.d .hole) (recOf G r st :: acc) (acc.length :: dead))
      | .callv .. => False
      | op => match rop G st (r.d.getD 0) op with
        | some (x, st') => RP P G ch K rs (st'.putd r.d x) (recOf G r st :: acc) dead
        | none => False)

section
variable {P : Program} {G : Nat → Option (List AV)} {ch : List PanicEntry} {K : List Rec → List Nat → Prop}

theorem CallDP.of {st : St} {f : FuncId} {args ys : List AV} {v : AV} {A : AV → Prop} {B : Prop} (h : PC P G f ys v) (hf : v.flat = true) (hs : snapL (snap st) args = some ys) (hk : A v) : CallDP P G ch st f args A B := .inl ⟨v, .inr ⟨hf, ys, hs, h⟩, hk⟩
theorem CallDP.pan {st : St} {f : FuncId} {args ys : List AV} {A : AV → Prop} {B : Prop} (h : PPC P G f ys ch) (hs : snapL (snap st) args = some ys) (hk : B) : CallDP P G ch st f args A B := .inr ⟨⟨ys, hs, h⟩, hk⟩

/-- One step. -/
theorem RP_cons {r : ROper} {rs : List ROper} {st : St} {acc : List Rec} {dead : List Nat} (h : RP P G ch K (r :: rs) st acc dead) :
    ∃ st' d', ((d' = false ∧ Stp P G r st st') ∨ (d' = true ∧ st' = st.putd r.d .hole ∧ ((∃ e ∈ r.aft, e ∈ dead) ∨ (wants st r.guard = some true ∧ ∃ g as, r.op = .call g as ∧ CallPan P G st g (as.map (evA G st)) ch)))) ∧
      RP P G ch K rs st' (recOf G r st :: acc) (if d' = true then acc.length :: dead else dead) := by
  simp only [RP] at h
  split at h
  · rename_i hd
    obtain ⟨e, he, hc⟩ := List.any_eq_true.1 hd
    exact ⟨_, true, .inr ⟨rfl, rfl, .inl ⟨e, he, by simpa using hc⟩⟩, h⟩
  · split at h
    · exact h.elim
    · rename_i w hw
      cases w
      · exact ⟨_, false, .inl ⟨rfl, .skip hw⟩, h.1 rfl⟩
      · have h := h.2 rfl
        split at h
        · rename_i f args ho
          rcases h with ⟨v, hc, hv⟩ | ⟨hc, hv⟩
          · exact ⟨_, false, .inl ⟨rfl, .call hw _ _ v ho hc⟩, hv⟩
          · exact ⟨_, true, .inr ⟨rfl, rfl, .inr ⟨hw, _, _, ho, hc⟩⟩, hv⟩
        · exact h.elim
        · rename_i hn1 hn2
          split at h <;> try (exact h.elim)
          refine ⟨_, false, .inl ⟨rfl, .op hw _ _ ?_ ‹_›⟩, h⟩
          cases e : r.op <;> first | rfl | exact absurd e (hn1 _ _) | exact absurd e (hn2 _ _)

theorem RP_states : ∀ (rs : List ROper) (st : St) (acc : List Rec) (dead : List Nat), RP P G ch K rs st acc dead → (∀ e ∈ dead, e < acc.length) →
    ∃ (S : Nat → St) (D : Nat → Bool) (dl : List Nat), S 0 = st ∧ (∀ e, e < acc.length → (D e = true ↔ e ∈ dead)) ∧
      (∀ (i : Nat) (r : ROper), rs[i]? = some r → PSt P G ch D r (S i) (S (i + 1)) (D (acc.length + i))) ∧ (∃ e, D e = true ∧ e < acc.length + rs.length) ∧
      (K (acc.reverse ++ (List.range rs.length).map fun i => recOf G (rs.getD i default) (S i)) dl ∧ ∀ e, e ∈ dl → D e = true) ∧ indepB (acc.reverse ++ (List.range rs.length).map fun i => recOf G (rs.getD i default) (S i)) = true
  | [], st, acc, dead, h, hd => by
    obtain ⟨h1, h2, h3⟩ := h
    obtain ⟨e, he⟩ := List.exists_mem_of_ne_nil _ h2
    exact ⟨fun _ => st, fun e => dead.contains e, dead, rfl, fun e _ => by simp, by simp, ⟨e, by simpa using he, by simpa using hd e he⟩, ⟨by simpa using h3, fun e he => by simpa using he⟩, by simpa using h1⟩
  | r :: rs, st, acc, dead, h, hd => by
    obtain ⟨st', d', h1, h2⟩ := RP_cons h
    obtain ⟨S, D, dl, g1, g2, g3, ⟨e0, g4, g5⟩, ⟨g6, g8⟩, g7⟩ := RP_states rs st' _ _ h2 (fun e he => by
      simp only [List.length_cons]
      cases d'
      · exact Nat.lt_succ_of_lt (hd e (by simpa using he))
      · simp only [if_true, List.mem_cons] at he
        rcases he with rfl | he
        · exact Nat.lt_succ_self _
        · exact Nat.lt_succ_of_lt (hd e he))
    simp only [List.length_cons] at g2 g3 g5
    have gd : ∀ e, e < acc.length → (D e = true ↔ e ∈ dead) := fun e he => by
      rw [g2 e (by omega)]
      cases d'
      · simp
      · simp only [if_true, List.mem_cons]
        exact ⟨fun h => h.resolve_left (by omega), .inr⟩
    have gl : D acc.length = d' := by
      have := g2 acc.length (by omega)
      cases d'
      · simp only [Bool.false_eq_true, if_false] at this
        cases hD : D acc.length
        · rfl
        · exact absurd (hd _ (this.1 hD)) (by omega)
      · exact this.2 (by simp)
    refine ⟨fun i => match i with | 0 => st | i + 1 => S i, D, dl, rfl, gd, fun i r' hi => ?_, ⟨e0, g4, by simp only [List.length_cons]; omega⟩, ⟨?_, g8⟩, ?_⟩
    · cases i with
      | zero =>
        simp at hi; subst hi
        simp only [Nat.add_zero, gl, g1]
        rcases h1 with h1 | ⟨e1, e2, e3 | e3⟩
        · exact .inl h1
        · obtain ⟨e, he, hm⟩ := e3
          exact .inr ⟨e1, e2, .inl ⟨e, he, (gd e (hd e hm)).2 hm⟩⟩
        · exact .inr ⟨e1, e2, .inr e3⟩
      | succ i =>
        have := g3 i r' (by simpa using hi)
        rwa [show acc.length + 1 + i = acc.length + (i + 1) by omega] at this
    · rw [List.length_cons, List.range_succ_eq_map]
      simp only [List.map_cons, List.map_map]
      simpa [Function.comp_def] using g6
    · rw [List.length_cons, List.range_succ_eq_map]
      simp only [List.map_cons, List.map_map]
      simpa [Function.comp_def] using g7
end

section
variable {P : Program} {R : Run} {rs : List ROper} {S : Nat → St}

theorem TT_nw {β : Type} {L w : Nat → Bool} {v : Nat → β} : ∀ {n : Nat}, (∀ i, i < n → L i = true → w i = false) → TT L w v n = v 0
  | 0, _ => rfl
  | n + 1, h => by
    simp only [TT]
    rw [if_neg (fun e => by have := h n (by omega) e.1; rw [e.2] at this; cases this)]
    exact TT_nw fun i hi => h i (by omega)

theorem any_order_pan {ops : Array Oper} {D : Nat → Bool} {ch : List PanicEntry} {Q : Exit → Act → World → Prop} (hS : ∀ (i : Nat) (r : ROper), rs[i]? = some r → PSt P R.G ch D r (S i) (S (i + 1)) (D i)) (hl : ops.size = rs.length) (hD : ∃ j, j < rs.length ∧ D j = true)
    (hok : ∀ (i : Nat) (r : ROper), rs[i]? = some r → ∃ o, ops[i]? = some o ∧ okOper P R.N ops o r = true ∧ (o.after.toList.filter (Region.binds .any ·)).map (·.on) = r.aft)
    (hi : indepB ((List.range rs.length).map fun i => recOf R.G (rs.getD i default) (S i)) = true) (hQ : ∀ st2 a w, (∀ m, (∀ (i : Nat) (r : ROper), rs[i]? = some r → D i = false → r.d ≠ some m) → st2.tmp m = (S 0).tmp m) → (∀ k, (∀ (i : Nat) (r : ROper), rs[i]? = some r → D i = false → k ∉ wtk R.G (S i) (r.d.getD 0) r.op) → st2.get k = (S 0).get k) → SR R st2 a w → Q (.panic ch) a w) :
    ∀ (fuel : Nat) (listed : Array Bool) (st2 : St) (a : Act) (w : World), listed.size = rs.length →
      (∀ (j : Nat) (r : ROper), rs[j]? = some r → listed.getD j false = true → ∀ e ∈ r.aft, listed.getD e false = true) → (∀ j, listed.getD j false = true → D j = false) →
      ((List.range rs.length).filter (fun i => !listed.getD i false)).length ≤ fuel →
      (∀ m, st2.tmp m = TT (fun i => listed.getD i false) (fun i => (rs.getD i default).d == some m && decide (i < rs.length)) (fun i => (S i).tmp m) rs.length) →
      (∀ k, st2.get k = TT (fun i => listed.getD i false) (fun i => (wtk R.G (S i) ((rs.getD i default).d.getD 0) (rs.getD i default).op).contains k && decide (i < rs.length)) (fun i => (S i).get k) rs.length) →
      SR R st2 a w → wpAny P .any ops Q fuel listed a w := by
  have hgd : ∀ {i : Nat} {r : ROper}, rs[i]? = some r → rs.getD i default = r := fun {i r} h => by simp [List.getD, h]
  have hrec : ∀ {i : Nat} {r : ROper}, rs[i]? = some r → ((List.range rs.length).map fun i => recOf R.G (rs.getD i default) (S i))[i]? = some (recOf R.G r (S i)) := fun {i r} h => by
    have hlt : i < rs.length := (List.getElem?_eq_some_iff.1 h).1
    rw [List.getElem?_map, List.getElem?_range hlt, Option.map_some, hgd h]
  have hlen : ((List.range rs.length).map fun i => recOf R.G (rs.getD i default) (S i)).length = rs.length := by simp
  have hind : ∀ (j : Nat) (r : ROper), rs[j]? = some r → (∀ e ∈ r.aft, e < j) ∧ ∀ (i : Nat) (q : ROper), i < j → rs[i]? = some q → conf (recOf R.G q (S i)) (recOf R.G r (S j)) = true → reach ((List.range rs.length).map fun i => recOf R.G (rs.getD i default) (S i)) rs.length j i = true := by
    intro j r hj
    have hlt : j < rs.length := (List.getElem?_eq_some_iff.1 hj).1
    have h1 := List.all_eq_true.1 hi j (by simp [hlt])
    rw [hrec hj] at h1
    simp only [Bool.and_eq_true, List.all_eq_true, decide_eq_true_eq] at h1
    refine ⟨h1.1, fun i q hij hq hc => ?_⟩
    have h2 := List.all_eq_true.1 h1.2 i (by simp [hij])
    rw [hrec hq] at h2
    simp only [hc, Bool.not_true, Bool.false_or, hlen] at h2
    exact h2
  -- frames
  have fr : ∀ (i : Nat) (r : ROper), rs[i]? = some r → (∀ n, r.d ≠ some n → (S (i + 1)).tmp n = (S i).tmp n) ∧ (∀ k, k ∉ wtk R.G (S i) (r.d.getD 0) r.op → (S (i + 1)).get k = (S i).get k) := fun i r h => by
    rcases hS i r h with ⟨-, h⟩ | ⟨-, h, -⟩
    · obtain ⟨st3, -, -, h2, -, h4⟩ := stp_local h (fun _ _ => rfl) (fun _ _ => rfl)
      exact ⟨fun n hn => (h2 n hn).2, fun k hk => (h4 k hk).2⟩
    · rw [h]
      refine ⟨fun n hn => ?_, fun k _ => ?_⟩
      · cases e2 : r.d with
        | none => rfl
        | some m => simp only [St.putd, St.tmp_put]; rw [if_neg (by rintro rfl; exact hn e2)]
      · cases e2 : r.d <;> rfl
  intro fuel
  -- what the state shows where an operation may come up
  have view : ∀ {listed : Array Bool} {st2 : St} {j : Nat} {r : ROper}, rs[j]? = some r → listed.getD j false = false →
      (∀ (j : Nat) (r : ROper), rs[j]? = some r → listed.getD j false = true → ∀ e ∈ r.aft, listed.getD e false = true) → (∀ e ∈ r.aft, listed.getD e false = true) →
      (∀ (i : Nat) (q : ROper), rs[i]? = some q → conf (recOf R.G q (S i)) (recOf R.G r (S j)) = true → i < j → listed.getD i false = true) ∧
      (∀ (i : Nat) (q : ROper), rs[i]? = some q → conf (recOf R.G r (S j)) (recOf R.G q (S i)) = true → j < i → listed.getD i false = false) := by
    intro listed st2 j r hj hun hdc haf
    have hdc' : ∀ (j : Nat) (r : Rec), ((List.range rs.length).map fun i => recOf R.G (rs.getD i default) (S i))[j]? = some r → listed.getD j false = true → ∀ e ∈ r.aft, listed.getD e false = true := by
      intro j r hr hL e he
      have hlt : j < rs.length := by have := (List.getElem?_eq_some_iff.1 hr).1; simpa using this
      have hq : rs[j]? = some rs[j] := by simp [hlt]
      rw [hrec hq] at hr
      simp only [Option.some.injEq] at hr
      subst hr
      exact hdc j _ hq hL e he
    refine ⟨fun i q hq hc hij => ?_, fun i q hq hc hji => ?_⟩
    · refine reach_listed hdc' _ j i ((hind j r hj).2 i q hij hq hc) (fun r' hr' e he => ?_)
      rw [hrec hj] at hr'
      simp only [Option.some.injEq] at hr'
      subst hr'
      exact haf e he
    · cases hL : listed.getD i false with
      | false => rfl
      | true =>
        have := reach_listed hdc' _ i j ((hind i q hq).2 j r hji hj hc) (fun r' hr' e he => hdc' i r' hr' hL e he)
        rw [hun] at this; cases this
  have frT : ∀ m i, i < rs.length → ((rs.getD i default).d == some m && decide (i < rs.length)) = false → (S (i + 1)).tmp m = (S i).tmp m := fun m i hlt h => by
    have hq : rs[i]? = some rs[i] := by simp [hlt]
    refine (fr i _ hq).1 m (fun e => ?_)
    rw [hgd hq] at h
    simp [e, hlt] at h
  have frK : ∀ k i, i < rs.length → ((wtk R.G (S i) ((rs.getD i default).d.getD 0) (rs.getD i default).op).contains k && decide (i < rs.length)) = false → (S (i + 1)).get k = (S i).get k := fun k i hlt h => by
    have hq : rs[i]? = some rs[i] := by simp [hlt]
    refine (fr i _ hq).2 k (fun e => ?_)
    rw [hgd hq, Bool.and_eq_false_iff] at h
    rcases h with h | h
    · rw [← Bool.not_eq_true, List.contains_iff_mem] at h; exact h e
    · exact absurd hlt (of_decide_eq_false h)
  have cT : ∀ {i j : Nat} {q r : ROper} {t : Nat}, q.d = some t → (t ∈ r.rt ∨ r.d = some t) → conf (recOf R.G q (S i)) (recOf R.G r (S j)) = true := fun {i j q r t} h1 h2 => by
    simp only [conf, recOf, h1, Bool.or_eq_true, List.contains_iff_mem, beq_iff_eq]
    exact .inl (.inl (.inl (.inl h2)))
  have cT' : ∀ {i j : Nat} {q r : ROper} {t : Nat}, q.d = some t → (t ∈ r.rt ∨ r.d = some t) → conf (recOf R.G r (S j)) (recOf R.G q (S i)) = true := fun {i j q r t} h1 h2 => by
    simp only [conf, recOf, h1, Bool.or_eq_true, List.contains_iff_mem, beq_iff_eq]
    rcases h2 with h2 | h2
    · exact .inl (.inl (.inl (.inr h2)))
    · exact .inl (.inl (.inl (.inl (by simp [h2]))))
  have cutI : ∀ {xs ys : List Nat} {k : Nat}, k ∈ xs → k ∈ ys → cuts xs ys = true := fun {xs ys k} h1 h2 => List.any_eq_true.2 ⟨k, h1, by simpa using h2⟩
  have cK : ∀ {i j : Nat} {q r : ROper} {k : Nat}, k ∈ wtk R.G (S i) (q.d.getD 0) q.op → (k ∈ ftk R.G (S j) (r.d.getD 0) r.op ∨ k ∈ wtk R.G (S j) (r.d.getD 0) r.op) → conf (recOf R.G q (S i)) (recOf R.G r (S j)) = true ∧ conf (recOf R.G r (S j)) (recOf R.G q (S i)) = true := fun {i j q r k} h1 h2 => by
    simp only [conf, recOf, Bool.or_eq_true]
    rcases h2 with h2 | h2
    · exact ⟨.inl (.inl (.inr (cutI h1 h2))), .inl (.inr (cutI h1 h2))⟩
    · exact ⟨.inr (cutI h1 h2), .inr (cutI h2 h1)⟩
  have done : ∀ {listed : Array Bool}, (∀ i, i < rs.length → listed.getD i false = true) → (∀ j, listed.getD j false = true → D j = false) → False := by
    intro listed hall hdd
    obtain ⟨j, hj, hd⟩ := hD
    have := hdd j (hall j hj)
    rw [hd] at this; cases this
  have aftL : ∀ {listed : Array Bool} {j : Nat} {o : Oper} {r : ROper}, (o.after.toList.filter (Region.binds .any ·)).map (·.on) = r.aft → ((∀ e ∈ o.after, Region.binds .any e = true → listed.getD e.on false = true) ↔ ∀ e ∈ r.aft, listed.getD e false = true) := by
    intro listed j o r h
    rw [← h]
    constructor
    · intro h1 e he
      obtain ⟨x, hx, rfl⟩ := List.mem_map.1 he
      obtain ⟨h2, h3⟩ := List.mem_filter.1 hx
      exact h1 x (by simpa using h2) h3
    · intro h1 e he hb
      exact h1 _ (List.mem_map.2 ⟨e, List.mem_filter.2 ⟨by simpa using he, hb⟩, rfl⟩)
  induction fuel with
  | zero =>
    intro listed st2 a w hsz hdc hdd hcnt hT hK hs
    have hall : ∀ i, i < rs.length → listed.getD i false = true := fun i hi => by
      cases hL : listed.getD i false with
      | true => rfl
      | false =>
        have hm : i ∈ (List.range rs.length).filter (fun i => !listed.getD i false) := List.mem_filter.2 ⟨by simpa using hi, by rw [hL]; rfl⟩
        have h0 := List.length_eq_zero_iff.1 (Nat.le_zero.1 hcnt)
        rw [h0] at hm
        cases hm
    refine ⟨?_, (done hall hdd).elim⟩
    apply List.eq_nil_iff_forall_not_mem.2
    intro j hj
    obtain ⟨h1, oj, h2, -⟩ := mem_ready.1 hj
    have hjl : j < rs.length := by rw [← hl]; exact (Array.getElem?_eq_some_iff.1 h2).1
    have h3 := hall j hjl
    simp only [Array.getD_eq_getD_getElem?] at h1 h3
    rw [Array.getElem?_eq_getElem (by omega)] at h1 h3
    simp at h1 h3
    rw [h1] at h3; cases h3
  | succ fuel ih =>
    intro listed st2 a w hsz hdc hdd hcnt hT hK hs
    refine ⟨fun hnil => ?_, fun j hj => ?_⟩
    · refine (done (fun i hi => ?_) hdd).elim
      induction i using Nat.strongRecOn with
      | _ i ihi =>
        cases hL : listed.getD i false with
        | true => rfl
        | false =>
          have hr : rs[i]? = some rs[i] := by simp [hi]
          obtain ⟨o, ho, -, hae⟩ := hok i _ hr
          have : i ∈ Region.ready .any ops listed := mem_ready.2 ⟨by
            simp only [Array.getD_eq_getD_getElem?] at hL ⊢
            rw [Array.getElem?_eq_getElem (by omega)] at hL ⊢
            simpa using hL, o, ho, (aftL (j := i) hae).2 (fun e he => ihi e ((hind i _ hr).1 e he) (Nat.lt_trans ((hind i _ hr).1 e he) hi))⟩
          rw [hnil] at this; cases this
    · obtain ⟨h1, oj, h2, h3⟩ := mem_ready.1 hj
      have hjl : j < rs.length := by rw [← hl]; exact (Array.getElem?_eq_some_iff.1 h2).1
      have hr : rs[j]? = some rs[j] := by simp [hjl]
      generalize rs[j] = r at hr
      obtain ⟨o, ho, hko, hae⟩ := hok j _ hr
      rw [h2] at ho
      simp only [Option.some.injEq] at ho
      subst ho
      have hun : listed.getD j false = false := by
        simp only [Array.getD_eq_getD_getElem?] at h1 ⊢
        rw [Array.getElem?_eq_getElem (by omega)] at h1 ⊢
        simpa using h1
      have haf := (aftL (j := j) hae).1 h3
      obtain ⟨v1, v2⟩ := view (st2 := st2) hr hun hdc haf
      -- what this operation reads
      have eqT : ∀ t, (t ∈ r.rt ∨ r.d = some t) → st2.tmp t = (S j).tmp t := fun t ht => by
        rw [hT t, TT_same (L' := fun i => decide (i < j)) (fun i hi hw => ?_), TT_upto (frT t) (by omega)]
        have hq : rs[i]? = some rs[i] := by simp [hi]
        rw [hgd hq] at hw
        simp only [Bool.and_eq_true, beq_iff_eq] at hw
        rcases Nat.lt_trichotomy i j with c | c | c
        · simp only [v1 i _ hq (cT hw.1 ht) c, c, decide_true]
        · subst c; simp [hun]
        · rw [v2 i _ hq (cT' hw.1 ht) c]; symm; simp; omega
      have eqK : ∀ k, (k ∈ ftk R.G (S j) (r.d.getD 0) r.op ∨ k ∈ wtk R.G (S j) (r.d.getD 0) r.op) → st2.get k = (S j).get k := fun k hk => by
        rw [hK k, TT_same (L' := fun i => decide (i < j)) (fun i hi hw => ?_), TT_upto (frK k) (by omega)]
        have hq : rs[i]? = some rs[i] := by simp [hi]
        rw [hgd hq] at hw
        simp only [Bool.and_eq_true, List.contains_iff_mem] at hw
        rcases Nat.lt_trichotomy i j with c | c | c
        · simp only [v1 i _ hq (cK hw.1 hk).1 c, c, decide_true]
        · subst c; simp [hun]
        · rw [v2 i _ hq (cK hw.1 hk).2 c]; symm; simp; omega
      rcases hS j r hr with ⟨hDj, hst0⟩ | ⟨hDj, -, hdead | ⟨hw, g, as, hop, hcp⟩⟩
      rotate_left
      · obtain ⟨e, he, hde⟩ := hdead
        have := hdd e (haf e he)
        rw [hde] at this; cases this
      · have ha : ∀ y ∈ as, evA R.G st2 y = evA R.G (S j) y := fun y hy => by
          cases y <;> simp only [evA]
          rename_i t
          rw [eqT t (.inl (by simp only [ROper.rt, hop, List.mem_append, List.mem_flatMap]; exact .inl ⟨_, by simpa [ROp.args] using hy, by simp [RA.tm]⟩))]
        have hw2 : wants st2 r.guard = some true := by
          rw [← hw]
          cases e : r.guard with
          | none => rfl
          | some p => obtain ⟨t, b⟩ := p; simp only [wants]; rw [eqT t (.inl (by simp [ROper.rt, e]))]
        obtain ⟨ys, hy, hpp⟩ := hcp
        have hcp2 : CallPan P R.G st2 g (as.map (evA R.G st2)) ch := by
          refine ⟨ys, ?_, hpp⟩
          rw [List.map_congr_left ha, ← hy]
          refine snapL_congr fun x hx => snapF_congr 6 fun k hk => eqK k (.inl ?_)
          obtain ⟨y, hy, rfl⟩ := List.mem_map.1 hx
          simp only [hop, ftk, List.mem_flatMap]
          exact ⟨y, hy, hk⟩
        have hs' := hs
        obtain ⟨κ, hκ⟩ := hs
        refine iscall_sim (.inl ⟨as, hop, rfl⟩) hw2 h2 hko hκ fun vs ha => ?_
        obtain ⟨q1, q2⟩ := callP_sim hκ hcp2 ha
        refine ⟨q1, q2.mono ?_⟩
        rintro e W' ⟨rfl, q3⟩
        refine hQ st2 _ _ (fun m hm => ?_) (fun k hk => ?_) ⟨κ, q3⟩
        · rw [hT m]
          refine TT_nw fun i hi hL => ?_
          have hq : rs[i]? = some rs[i] := by simp [hi]
          rw [hgd hq]
          exact Bool.and_eq_false_iff.2 (.inl (by rw [← Bool.not_eq_true, beq_iff_eq]; exact hm i _ hq (hdd i hL)))
        · rw [hK k]
          refine TT_nw fun i hi hL => ?_
          have hq : rs[i]? = some rs[i] := by simp [hi]
          rw [hgd hq]
          exact Bool.and_eq_false_iff.2 (.inl (by rw [← Bool.not_eq_true, List.contains_iff_mem]; exact hk i _ hq (hdd i hL)))
      obtain ⟨st3, hst, u1, u2, u3, u4⟩ := stp_local hst0 (fun t ht => eqT t (.inl ht)) (fun k hk => eqK k (.inl hk))
      have gset : ∀ i, (listed.setIfInBounds j true).getD i false = if i = j then true else listed.getD i false := fun i => by
        simp only [Array.getD_eq_getD_getElem?, Array.getElem?_setIfInBounds]
        by_cases c : j = i
        · subst c; rw [if_pos rfl, if_pos (by omega), if_pos rfl]; rfl
        · rw [if_neg c, if_neg (fun e => c e.symm)]
      refine stp_sim hst h2 hko hs fun a' w' hs' => ih (listed.setIfInBounds j true) st3 a' w' (by simpa using hsz) (fun i q hq hL e he => ?_) (fun i hL => ?_) ?_ (fun m => ?_) (fun k => ?_) hs'
      · rw [gset] at hL ⊢
        split
        · rfl
        · split at hL
          · rename_i e2
            subst e2
            rw [hr] at hq
            simp only [Option.some.injEq] at hq
            subst hq
            exact haf e he
          · exact hdc i q hq hL e he
      · rw [gset] at hL
        split at hL
        · rename_i e2; rw [e2]; exact hDj
        · exact hdd i hL
      · have hsub : ((List.range rs.length).filter (fun i => !(listed.setIfInBounds j true).getD i false)).length < ((List.range rs.length).filter (fun i => !listed.getD i false)).length := by
          rw [← List.countP_eq_length_filter, ← List.countP_eq_length_filter]
          have e1 : (List.range rs.length).countP (fun i => !listed.getD i false) = (List.range rs.length).countP (fun i => !(listed.setIfInBounds j true).getD i false) + (List.range rs.length).countP (fun i => i == j) := by
            generalize List.range rs.length = l
            induction l with
            | nil => rfl
            | cons x l ihl =>
              simp only [List.countP_cons, ihl, gset]
              by_cases c : x = j
              · subst c; simp [hun]; omega
              · simp [c]; omega
          have e2 : 0 < (List.range rs.length).countP (fun i => i == j) := List.countP_pos_iff.2 ⟨j, by simp [hjl], by simp⟩
          omega
        omega
      · by_cases c : r.d = some m
        · rw [u1 m c, TT_same (L' := fun i => decide (i < j + 1)) (fun i hi hw => ?_), TT_upto (frT m) (by omega)]
          have hq : rs[i]? = some rs[i] := by simp [hi]
          rw [hgd hq] at hw
          simp only [Bool.and_eq_true, beq_iff_eq] at hw
          rw [gset]
          rcases Nat.lt_trichotomy i j with c2 | c2 | c2
          · rw [if_neg (by omega), v1 i _ hq (cT hw.1 (.inr c)) c2]; symm; simp; omega
          · subst c2; simp
          · rw [if_neg (by omega), v2 i _ hq (cT' hw.1 (.inr c)) c2]; symm; simp; omega
        · rw [(u2 m c).1, hT m]
          refine TT_same fun i hi hw => ?_
          have hq : rs[i]? = some rs[i] := by simp [hi]
          rw [hgd hq] at hw
          simp only [Bool.and_eq_true, beq_iff_eq] at hw
          rw [gset, if_neg]
          rintro rfl
          rw [hr] at hq
          simp only [Option.some.injEq] at hq
          rw [← hq] at hw
          exact c hw.1
      · by_cases c : k ∈ wtk R.G (S j) (r.d.getD 0) r.op
        · rw [u3 k c, TT_same (L' := fun i => decide (i < j + 1)) (fun i hi hw => ?_), TT_upto (frK k) (by omega)]
          have hq : rs[i]? = some rs[i] := by simp [hi]
          rw [hgd hq] at hw
          simp only [Bool.and_eq_true, List.contains_iff_mem] at hw
          rw [gset]
          rcases Nat.lt_trichotomy i j with c2 | c2 | c2
          · rw [if_neg (by omega), v1 i _ hq (cK hw.1 (.inr c)).1 c2]; symm; simp; omega
          · subst c2; simp
          · rw [if_neg (by omega), v2 i _ hq (cK hw.1 (.inr c)).2 c2]; symm; simp; omega
        · rw [(u4 k c).1, hK k]
          refine TT_same fun i hi hw => ?_
          have hq : rs[i]? = some rs[i] := by simp [hi]
          rw [hgd hq] at hw
          simp only [Bool.and_eq_true, List.contains_iff_mem] at hw
          rw [gset, if_neg]
          rintro rfl
          rw [hr] at hq
          simp only [Option.some.injEq] at hq
          rw [← hq] at hw
          exact c hw.1
end

/-- No operation that is reached writes what is kept. -/
def okRecs (t' : List (Nat × AV)) (o' : List (Nat × AObj)) : Nat → List Rec → List Nat → Bool
  | _, [], _ => true
  | i, r :: rs, dl => (dl.contains i || (t'.all (fun p => r.d != some p.1) && o'.all (fun p => !r.wk.contains p.1) && r.wk.all (fun k => decide (k < 1000)))) && okRecs t' o' (i + 1) rs dl
theorem okRecs_at {t' : List (Nat × AV)} {o' : List (Nat × AObj)} {dl : List Nat} : ∀ {rs : List Rec} {j : Nat}, okRecs t' o' j rs dl = true → ∀ (i : Nat) (r : Rec), rs[i]? = some r → j + i ∉ dl →
    (t'.all (fun p => r.d != some p.1) && o'.all (fun p => !r.wk.contains p.1) && r.wk.all (fun k => decide (k < 1000))) = true
  | r0 :: rs, j, h, i, r, hr, hn => by
    simp only [okRecs, Bool.and_eq_true, Bool.or_eq_true] at h
    cases i with
    | zero =>
      simp only [List.getElem?_cons_zero, Option.some.injEq] at hr
      subst hr
      rcases h.1 with h | h
      · exact absurd (by simpa using h) hn
      · simpa only [Bool.and_eq_true] using h
    | succ i => exact okRecs_at h.2 i r (by simpa using hr) (by rwa [show j + 1 + i = j + (i + 1) by omega])

/-- A region whose order is drawn, and in which a call panics. -/
theorem AR_regp {P : Program} {R : Run} {st : St} {Φ : Exit → St → Prop} {id : Nat} {rs : List ROper} {ch : List PanicEntry} (t' : List (Nat × AV)) (o' : List (Nat × AObj)) (hm : P.follows .mixedOrders = true)
    (h : RP P R.G ch (fun recs dl => okRecs t' o' 0 recs dl = true) rs st [] [])
    (ht : ∀ p ∈ t', lk st.t p.1 = some p.2 ∧ keptA o' p.2 = true) (ho : ∀ p ∈ o', lk st.o p.1 = some p.2 ∧ keptO o' p.2 = true) (hbig : ∀ k, 1000 ≤ k → (lk st.o k).isSome = true → (lk o' k).isSome = true)
    (hΦ : Φ (.panic ch) ⟨t', o'⟩) : AR P R (.reg id true rs) st Φ := by
  intro c hc a W hs
  cases c <;> simp only [okCode, Bool.false_eq_true, Bool.and_eq_true, beq_iff_eq] at hc
  rename_i id' ops draw
  obtain ⟨⟨⟨rfl, rfl⟩, hc⟩, hae⟩ := hc
  simp only [Bool.not_true, Bool.false_or] at hae
  obtain ⟨h1, h2⟩ := allB2_spec hc
  obtain ⟨-, h3⟩ := allB2_spec hae
  obtain ⟨S, D, dl, rfl, -, hS, ⟨e0, hD, he0⟩, ⟨hK, hdl⟩, hi⟩ := RP_states rs st [] [] h (by simp)
  simp only [List.length_nil, Nat.zero_add, List.reverse_nil, List.nil_append] at hS he0 hK hi
  have hl : ops.size = rs.length := by simpa using h1
  have hrec : ∀ (i : Nat) (r : ROper), rs[i]? = some r → D i = false → (t'.all (fun p => r.d != some p.1) && o'.all (fun p => !(recOf R.G r (S i)).wk.contains p.1) && (recOf R.G r (S i)).wk.all (fun k => decide (k < 1000))) = true := fun i r hr hd => by
    have hlt : i < rs.length := (List.getElem?_eq_some_iff.1 hr).1
    refine okRecs_at hK i (recOf R.G r (S i)) ?_ (fun hm => ?_)
    · rw [List.getElem?_map, List.getElem?_range hlt, Option.map_some]
      simp [List.getD, hr]
    · rw [Nat.zero_add] at hm
      have := hdl i hm
      rw [hd] at this; cases this
  have hQ : ∀ (st2 : St) (a : Act) (w : World), (∀ m, (∀ (i : Nat) (r : ROper), rs[i]? = some r → D i = false → r.d ≠ some m) → st2.tmp m = (S 0).tmp m) → (∀ k, (∀ (i : Nat) (r : ROper), rs[i]? = some r → D i = false → k ∉ wtk R.G (S i) (r.d.getD 0) r.op) → st2.get k = (S 0).get k) →
      SR R st2 a w → ∃ st', Φ (.panic ch) st' ∧ SR R st' a w := fun st2 a w q1 q2 q3 => by
    refine ⟨_, hΦ, Weak.sub (st := st2) (fun p hp => ⟨?_, (ht p hp).2⟩) (fun p hp => ⟨?_, (ho p hp).2⟩) (fun p hp hb => ?_) R a w q3⟩
    · rw [← (ht p hp).1]
      refine q1 p.1 fun i r hr hd e => ?_
      have := hrec i r hr hd
      simp only [Bool.and_eq_true] at this
      have := List.all_eq_true.1 this.1.1 p hp
      rw [e] at this
      simp at this
    · rw [← (ho p hp).1]
      refine q2 p.1 fun i r hr hd e => ?_
      have := hrec i r hr hd
      simp only [Bool.and_eq_true] at this
      have := List.all_eq_true.1 this.1.2 p hp
      rw [Bool.not_eq_true', ← Bool.not_eq_true, List.contains_iff_mem] at this
      exact this e
    · refine hbig p.1 hb ?_
      have e2 : st2.get p.1 = (S 0).get p.1 := q2 p.1 fun i r hr hd e => by
        have := hrec i r hr hd
        simp only [Bool.and_eq_true] at this
        have := of_decide_eq_true (List.all_eq_true.1 this.2 p.1 e)
        omega
      have : (lk st2.o p.1).isSome = true := by rw [lk_isSome]; exact List.mem_map.2 ⟨p, hp, rfl⟩
      have e3 : lk st2.o p.1 = lk (S 0).o p.1 := e2
      rwa [e3] at this
  refine wp_region_any hm (any_order_pan hS hl ⟨e0, by omega, hD⟩ (fun i r hr => ?_) hi hQ ops.size _ (S 0) a _ (by simpa using hl) (fun j r _ hL => ?_) (fun j hL => ?_) ?_ (fun m => ?_) (fun k => ?_) ?_)
  · have hlt : i < ops.size := by have := (List.getElem?_eq_some_iff.1 hr).1; omega
    exact ⟨ops[i], by simp [hlt], h2 i _ r (by simp [hlt]) hr, by simpa using h3 i ops[i] r (by simp [hlt]) hr⟩
  · simp [Array.getD] at hL
  · simp [Array.getD] at hL
  · simp only [hl]
    exact Nat.le_trans (List.length_filter_le _ _) (by simp)
  · exact (TT_none (v := fun i => (S i).tmp m) (L := fun i => (Array.replicate ops.size false).getD i false) (fun i => by simp [Array.getD]) _).symm
  · exact (TT_none (v := fun i => (S i).get k) (L := fun i => (Array.replicate ops.size false).getD i false) (fun i => by simp [Array.getD]) _).symm
  · obtain ⟨κ, hκ⟩ := hs
    exact ⟨κ, hκ.grow (Ext.dr (Ext.refl W))⟩


/-! ### Rules for 'simp'. -/
def thenP (P : Program) (G : Nat → Option (List AV)) (ch : List PanicEntry) (K : List Rec → List Nat → Prop) (d : Option Nat) (rs : List ROper) (rc : Rec) (acc : List Rec) (dead : List Nat) : Option (AV × St) → Prop
  | some (x, st') => RP P G ch K rs (st'.putd d x) (rc :: acc) dead
  | none => False
def callP (P : Program) (G : Nat → Option (List AV)) (ch : List PanicEntry) (K : List Rec → List Nat → Prop) (st : St) (f : FuncId) (args : List AV) (d : Option Nat) (rs : List ROper) (rc : Rec) (acc : List Rec) (dead : List Nat) : Prop :=
  CallDP P G ch st f args (fun v => RP P G ch K rs (st.putd d v) (rc :: acc) dead) (RP P G ch K rs (st.putd d .hole) (rc :: acc) (acc.length :: dead))
def execP (P : Program) (G : Nat → Option (List AV)) (ch : List PanicEntry) (K : List Rec → List Nat → Prop) (op : ROp) (d : Option Nat) (rs : List ROper) (st : St) (rc : Rec) (acc : List Rec) (dead : List Nat) : Prop := match op with
  | .call f args => callP P G ch K st f (args.map (evA G st)) d rs rc acc dead
  | .callv .. => False
  | op => thenP P G ch K d rs rc acc dead (rop G st (d.getD 0) op)
def guardP (P : Program) (G : Nat → Option (List AV)) (ch : List PanicEntry) (K : List Rec → List Nat → Prop) (w : Option Bool) (op : ROp) (d : Option Nat) (rs : List ROper) (st : St) (rc : Rec) (acc : List Rec) (dead : List Nat) : Prop := match w with
  | none => False
  | some w => (w = false → RP P G ch K rs (st.putd d .hole) (rc :: acc) dead) ∧ (w = true → execP P G ch K op d rs st rc acc dead)

section
variable {P : Program} {G : Nat → Option (List AV)} {ch : List PanicEntry} {Kp : List Rec → List Nat → Prop} {d : Option Nat} {op : ROp} {g : Option (Nat × Bool)} {aft : List Nat} {rs : List ROper} {st : St} {acc : List Rec} {dead : List Nat} {rc : Rec}
theorem RP_nil : RP P G ch Kp [] st acc dead = (indepB acc.reverse = true ∧ dead ≠ [] ∧ Kp acc.reverse dead) := rfl
theorem RP_con : RP P G ch Kp (⟨d, op, g, aft⟩ :: rs) st acc dead = if aft.any (fun e => dead.contains e) = true then RP P G ch Kp rs (st.putd d .hole) (recOf G ⟨d, op, g, aft⟩ st :: acc) (acc.length :: dead) else guardP P G ch Kp (wants st g) op d rs st (recOf G ⟨d, op, g, aft⟩ st) acc dead := by
  simp only [RP, guardP]
  congr 1
theorem guardP_true : guardP P G ch Kp (some true) op d rs st rc acc dead = execP P G ch Kp op d rs st rc acc dead := by simp [guardP]
theorem guardP_false : guardP P G ch Kp (some false) op d rs st rc acc dead = RP P G ch Kp rs (st.putd d .hole) (rc :: acc) dead := by simp [guardP]
theorem execP_call {f : FuncId} {args : List RA} : execP P G ch Kp (.call f args) d rs st rc acc dead = callP P G ch Kp st f (args.map (evA G st)) d rs rc acc dead := rfl
theorem thenP_some {x : AV} {st' : St} : thenP P G ch Kp d rs rc acc dead (some (x, st')) = RP P G ch Kp rs (st'.putd d x) (rc :: acc) dead := rfl
theorem callP.of {f : FuncId} {args ys : List AV} {v : AV} (h : PC P G f ys v) (hf : v.flat = true) (hs : snapL (snap st) args = some ys) (hk : RP P G ch Kp rs (st.putd d v) (rc :: acc) dead) : callP P G ch Kp st f args d rs rc acc dead := CallDP.of h hf hs hk
theorem callP.pan {f : FuncId} {args ys : List AV} (h : PPC P G f ys ch) (hs : snapL (snap st) args = some ys) (hk : RP P G ch Kp rs (st.putd d .hole) (rc :: acc) (acc.length :: dead)) : callP P G ch Kp st f args d rs rc acc dead := CallDP.pan h hs hk
theorem execP_mov {x_ : RA} : execP P G ch Kp (.mov x_) d rs st rc acc dead = thenP P G ch Kp d rs rc acc dead (rop G st (d.getD 0) (.mov x_)) := rfl
theorem execP_pick {c_ a_ b_ : RA} : execP P G ch Kp (.pick c_ a_ b_) d rs st rc acc dead = thenP P G ch Kp d rs rc acc dead (rop G st (d.getD 0) (.pick c_ a_ b_)) := rfl
theorem execP_bin {op_ : BinOp} {x_ y_ : RA} : execP P G ch Kp (.bin op_ x_ y_) d rs st rc acc dead = thenP P G ch Kp d rs rc acc dead (rop G st (d.getD 0) (.bin op_ x_ y_)) := rfl
theorem execP_un {op_ : UnOp} {x_ : RA} : execP P G ch Kp (.un op_ x_) d rs st rc acc dead = thenP P G ch Kp d rs rc acc dead (rop G st (d.getD 0) (.un op_ x_)) := rfl
theorem execP_conv {k_ : IntKind} {x_ : RA} : execP P G ch Kp (.conv k_ x_) d rs st rc acc dead = thenP P G ch Kp d rs rc acc dead (rop G st (d.getD 0) (.conv k_ x_)) := rfl
theorem execP_vop {v_ : VOp} {x_ : List RA} : execP P G ch Kp (.vop v_ x_) d rs st rc acc dead = thenP P G ch Kp d rs rc acc dead (rop G st (d.getD 0) (.vop v_ x_)) := rfl
theorem execP_faddr {off_ : Nat} {p_ : RA} : execP P G ch Kp (.faddr off_ p_) d rs st rc acc dead = thenP P G ch Kp d rs rc acc dead (rop G st (d.getD 0) (.faddr off_ p_)) := rfl
theorem execP_iaddr {sz_ : Nat} {s_ i_ : RA} : execP P G ch Kp (.iaddr sz_ s_ i_) d rs st rc acc dead = thenP P G ch Kp d rs rc acc dead (rop G st (d.getD 0) (.iaddr sz_ s_ i_)) := rfl
theorem execP_build {zero_ : List AV} {parts_ : List (Nat × Nat × RA)} : execP P G ch Kp (.build zero_ parts_) d rs st rc acc dead = thenP P G ch Kp d rs rc acc dead (rop G st (d.getD 0) (.build zero_ parts_)) := rfl
theorem execP_len {x_ : RA} : execP P G ch Kp (.len x_) d rs st rc acc dead = thenP P G ch Kp d rs rc acc dead (rop G st (d.getD 0) (.len x_)) := rfl
theorem execP_slen {x_ : RA} : execP P G ch Kp (.slen x_) d rs st rc acc dead = thenP P G ch Kp d rs rc acc dead (rop G st (d.getD 0) (.slen x_)) := rfl
theorem execP_load {agg_ : Bool} {n_ : Nat} {p_ : RA} : execP P G ch Kp (.load agg_ n_ p_) d rs st rc acc dead = thenP P G ch Kp d rs rc acc dead (rop G st (d.getD 0) (.load agg_ n_ p_)) := rfl
theorem execP_store {n_ : Nat} {p_ v_ : RA} : execP P G ch Kp (.store n_ p_ v_) d rs st rc acc dead = thenP P G ch Kp d rs rc acc dead (rop G st (d.getD 0) (.store n_ p_ v_)) := rfl
theorem execP_sslc {x_ : RA} {lo_ hi_ : Option RA} : execP P G ch Kp (.sslc x_ lo_ hi_) d rs st rc acc dead = thenP P G ch Kp d rs rc acc dead (rop G st (d.getD 0) (.sslc x_ lo_ hi_)) := rfl
end
attribute [simp] RP_nil RP_con guardP_true guardP_false execP_call thenP_some execP_mov execP_pick execP_bin execP_un execP_conv execP_vop execP_faddr execP_iaddr execP_build execP_len execP_slen execP_load execP_store execP_sslc
end Go.Proofs.YtikjooemblpnbaaDoor
