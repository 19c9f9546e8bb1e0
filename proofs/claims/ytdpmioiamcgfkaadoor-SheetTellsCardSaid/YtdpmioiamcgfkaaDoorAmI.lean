/-
  The abstract machine: a region whose order is drawn: in any order the same.
-/
import Derived.Test.YtdpmioiamcgfkaaDoorAmH
namespace Go.Proofs.YtdpmioiamcgfkaaDoor
open Go.RowKit

/-- What an operation of a region reads and writes. -/
structure Rec where
  d : Option Nat
  rt : List Nat
  fk : List Nat
  wk : List Nat
  aft : List Nat

def ROper.rt (r : ROper) : List Nat := r.op.args.flatMap RA.tm ++ (match r.guard with | some (t, _) => [t] | none => [])
def recOf (G : Nat → Option (List AV)) (r : ROper) (st : St) : Rec := ⟨r.d, r.rt, ftk G st (r.d.getD 0) r.op, wtk G st (r.d.getD 0) r.op, r.aft⟩

def cuts (xs ys : List Nat) : Bool := xs.any fun x => ys.contains x
/-- Two operations whose order matters. -/
def conf (a b : Rec) : Bool := (match a.d with | some n => b.rt.contains n || b.d == some n | none => false) || (match b.d with | some n => a.rt.contains n | none => false) || cuts a.wk b.fk || cuts b.wk a.fk || cuts a.wk b.wk
def reach (rs : List Rec) : Nat → Nat → Nat → Bool
  | 0, _, _ => false
  | f + 1, j, i => match rs[j]? with
    | some r => r.aft.any fun e => e == i || reach rs f e i
    | none => false
def pairsB (rs : List Rec) (j : Nat) (b : Rec) : Bool := (List.range j).all fun i => match rs[i]? with
  | some a => !conf a b || reach rs rs.length j i
  | none => false
def indepB (rs : List Rec) : Bool := (List.range rs.length).all fun j => match rs[j]? with
  | some b => b.aft.all (fun e => decide (e < j)) && pairsB rs j b
  | none => false

/-- Operations in the text's order, with what each read and wrote. -/
def RD (P : Program) (G : Nat → Option (List AV)) : List ROper → St → List Rec → (St → Prop) → Prop
  | [], st, acc, K => indepB acc.reverse = true ∧ K st
  | r :: rs, st, acc, K => match wants st r.guard with
    | none => False
    | some w => (w = false → RD P G rs (st.putd r.d .hole) (recOf G r st :: acc) K) ∧ (w = true → match r.op with
      | .call f args => ∃ v, CallR P G st f (args.map (evA G st)) v ∧ RD P G rs (st.putd r.d v) (recOf G r st :: acc) K
      | .calln f args => (∃ v, CallR P G st f (args.map (evA G st)) v ∧ RD P G rs (st.putd r.d v) (recOf G r st :: acc) K) ∨ ∃ sz rows, NewR P G st (r.d.getD 0) f (args.map (evA G st)) sz rows ∧ RD P G rs ((st.set (r.d.getD 0) (.row sz rows)).putd r.d (.osl (r.d.getD 0) rows.length)) (recOf G r st :: acc) K
      | .callv f args => match evA G st f with
        | .func (.func g) first caps => ∃ v, CallR P G st g (first ++ args.map (evA G st) ++ caps) v ∧ RD P G rs (st.putd r.d v) (recOf G r st :: acc) K
        | _ => False
      | op => match rop G st (r.d.getD 0) op with
        | some (x, st') => RD P G rs (st'.putd r.d x) (recOf G r st :: acc) K
        | none => False)

section
variable {P : Program} {G : Nat → Option (List AV)}

theorem RD_cons {r : ROper} {rs : List ROper} {st : St} {acc : List Rec} {K : St → Prop} (h : RD P G (r :: rs) st acc K) : ∃ st', Stp P G r st st' ∧ RD P G rs st' (recOf G r st :: acc) K := by
  simp only [RD] at h
  split at h
  · exact h.elim
  · rename_i w hw
    cases w
    · exact ⟨_, .skip hw, h.1 rfl⟩
    · have h := h.2 rfl
      split at h
      · obtain ⟨v, hc, hv⟩ := h
        exact ⟨_, .call hw _ _ v ‹_› hc, hv⟩
      · rcases h with ⟨v, hc, hv⟩ | ⟨sz, rows, hc, hv⟩
        · exact ⟨_, .callp hw _ _ v ‹_› hc, hv⟩
        · exact ⟨_, .calln hw _ _ sz rows ‹_› hc, hv⟩
      · split at h <;> try (exact h.elim)
        obtain ⟨v, hc, hv⟩ := h
        exact ⟨_, .callv hw _ _ _ _ _ v ‹_› ‹_› hc, hv⟩
      · rename_i hn1 hn2
        split at h <;> try (exact h.elim)
        refine ⟨_, .op hw _ _ ?_ ‹_›, h⟩
        cases e : r.op <;> simp_all [isCall]

theorem RD_states : ∀ (rs : List ROper) (st : St) (acc : List Rec) (K : St → Prop), RD P G rs st acc K →
    ∃ S : Nat → St, S 0 = st ∧ (∀ (i : Nat) (r : ROper), rs[i]? = some r → Stp P G r (S i) (S (i + 1))) ∧ K (S rs.length) ∧ indepB (acc.reverse ++ (List.range rs.length).map fun i => recOf G (rs.getD i default) (S i)) = true
  | [], st, acc, K, h => ⟨fun _ => st, rfl, by simp, h.2, by simpa using h.1⟩
  | r :: rs, st, acc, K, h => by
    obtain ⟨st', h1, h2⟩ := RD_cons h
    obtain ⟨S, h3, h4, h5, h6⟩ := RD_states rs st' _ K h2
    refine ⟨fun i => match i with | 0 => st | i + 1 => S i, rfl, fun i r' hi => ?_, h5, ?_⟩
    · cases i with
      | zero => simp at hi; subst hi; rw [← h3] at h1; exact h1
      | succ i => exact h4 i r' (by simpa using hi)
    · rw [List.length_cons, List.range_succ_eq_map]
      simp only [List.map_cons, List.map_map]
      simpa [Function.comp_def] using h6

theorem stp_local {r : ROper} {st st' st2 : St} (h : Stp P G r st st') (ht : ∀ t ∈ r.rt, st2.tmp t = st.tmp t) (hk : ∀ k ∈ ftk G st (r.d.getD 0) r.op, st2.get k = st.get k) :
    ∃ st2', Stp P G r st2 st2' ∧ (∀ n, r.d = some n → st2'.tmp n = st'.tmp n) ∧ (∀ n, r.d ≠ some n → st2'.tmp n = st2.tmp n ∧ st'.tmp n = st.tmp n) ∧
      (∀ k ∈ wtk G st (r.d.getD 0) r.op, st2'.get k = st'.get k) ∧ (∀ k, k ∉ wtk G st (r.d.getD 0) r.op → st2'.get k = st2.get k ∧ st'.get k = st.get k) := by
  have hw : wants st2 r.guard = wants st r.guard := by
    cases e : r.guard with
    | none => rfl
    | some p => obtain ⟨t, b⟩ := p; simp only [wants]; rw [ht t (by simp [ROper.rt, e])]
  have ha : ∀ y ∈ r.op.args, evA G st2 y = evA G st y := fun y hy => by
    cases y <;> simp only [evA]
    rename_i t
    rw [ht t (by simp only [ROper.rt, List.mem_append, List.mem_flatMap]; exact .inl ⟨_, hy, by simp [RA.tm]⟩)]
  have puts : ∀ (a b : St) (x : AV), (∀ n, r.d = some n → (a.putd r.d x).tmp n = (b.putd r.d x).tmp n) := fun a b x n e => by simp [e, St.putd, St.tmp_put]
  have putn : ∀ (a : St) (x : AV) (n : Nat), r.d ≠ some n → (a.putd r.d x).tmp n = a.tmp n := fun a x n e => by
    cases e2 : r.d with
    | none => rfl
    | some m => simp only [St.putd, St.tmp_put]; rw [if_neg (by rintro rfl; exact e e2)]
  have putg : ∀ (a : St) (x : AV) (k : Nat), (a.putd r.d x).get k = a.get k := fun a x k => by cases e2 : r.d <;> rfl
  have nowr : ∀ {v : AV}, wtk G st (r.d.getD 0) r.op = [] ∨ (∀ k ∈ wtk G st (r.d.getD 0) r.op, st2.get k = st.get k) → (∀ n, r.d = some n → (st2.putd r.d v).tmp n = (st.putd r.d v).tmp n) ∧ (∀ n, r.d ≠ some n → (st2.putd r.d v).tmp n = st2.tmp n ∧ (st.putd r.d v).tmp n = st.tmp n) ∧
      (∀ k ∈ wtk G st (r.d.getD 0) r.op, (st2.putd r.d v).get k = (st.putd r.d v).get k) ∧ (∀ k, k ∉ wtk G st (r.d.getD 0) r.op → (st2.putd r.d v).get k = st2.get k ∧ (st.putd r.d v).get k = st.get k) := fun {v} e =>
    ⟨puts st2 st v, fun n hn => ⟨putn _ _ n hn, putn _ _ n hn⟩, fun k hk => by
      rw [putg, putg]
      rcases e with e | e
      · rw [e] at hk; cases hk
      · exact e k hk, fun k _ => ⟨putg _ _ _, putg _ _ _⟩⟩
  have wsub : ∀ k ∈ wtk G st (r.d.getD 0) r.op, k ∈ ftk G st (r.d.getD 0) r.op := fun k hk => by
    cases e : r.op <;> simp only [e, wtk, ftk] at hk ⊢ <;> first
      | exact hk
      | (simp_all; done)
      | (cases hk; done)
      | (rename_i own _ _ _ _; cases own <;> simp_all; done)
      | (simp only [List.mem_cons, List.mem_append] at hk ⊢; rcases hk with hk | hk
         · exact .inl hk
         · exact .inr (.inl hk))
  cases h with
  | skip h => exact ⟨_, .skip (hw.trans h), nowr (.inr fun k h => hk k (wsub k h))⟩
  | call h f args v ho hc =>
    refine ⟨_, .call (hw.trans h) f args v ho ?_, nowr (.inl (by rw [ho]; rfl))⟩
    rw [List.map_congr_left (fun y hy => ha y (by rw [ho]; exact hy))]
    refine CallR_congr hc fun x hx k hxk => hk k ?_
    obtain ⟨y, hy, rfl⟩ := List.mem_map.1 hx
    simp only [ho, ftk, List.mem_flatMap]
    exact ⟨y, hy, hxk⟩
  | callp h f args v ho hc =>
    have hd : r.d.getD 0 ∈ wtk G st (r.d.getD 0) r.op := by rw [ho]; simp [wtk]
    refine ⟨_, .callp (hw.trans h) f args v ho ?_, nowr (.inr fun k hk' => hk k (wsub k hk'))⟩
    rw [List.map_congr_left (fun y hy => ha y (by rw [ho]; exact hy))]
    refine CallR_congr hc fun x hx k hxk => hk k ?_
    obtain ⟨y, hy, rfl⟩ := List.mem_map.1 hx
    simp only [ho, ftk, List.mem_cons, List.mem_flatMap]
    exact .inr ⟨y, hy, hxk⟩
  | calln h f args sz rows ho hc =>
    have hd : r.d.getD 0 ∈ ftk G st (r.d.getD 0) r.op := by rw [ho]; simp [ftk]
    have hwt : wtk G st (r.d.getD 0) r.op = [r.d.getD 0] := by rw [ho]; rfl
    refine ⟨_, .calln (hw.trans h) f args sz rows ho ?_, puts _ _ _, fun n hn => ⟨?_, ?_⟩, fun k hk' => ?_, fun k hk' => ⟨?_, ?_⟩⟩
    · rw [List.map_congr_left (fun y hy => ha y (by rw [ho]; exact hy))]
      exact ⟨(hk _ hd).trans hc.1, hc.2⟩
    · rw [putn _ _ n hn]; rfl
    · rw [putn _ _ n hn]; rfl
    · rw [hwt, List.mem_singleton] at hk'
      rw [putg, putg, St.get_set, St.get_set, if_pos hk'.symm, if_pos hk'.symm]
    · rw [hwt, List.mem_singleton] at hk'
      rw [putg, St.get_set, if_neg (fun e => hk' e.symm)]
    · rw [hwt, List.mem_singleton] at hk'
      rw [putg, St.get_set, if_neg (fun e => hk' e.symm)]
  | callv h f g first caps args v ho hf hc =>
    refine ⟨_, .callv (hw.trans h) f g first caps args v ho (by rw [ha f (by rw [ho]; simp [ROp.args]), hf]) ?_, nowr (.inl (by rw [ho]; rfl))⟩
    rw [List.map_congr_left (fun y hy => ha y (by rw [ho]; simp [ROp.args, hy]))]
    refine CallR_congr hc fun x hx k hxk => hk k ?_
    simp only [ho, ftk, List.mem_append, List.mem_flatMap, hf]
    simp only [List.mem_append, List.mem_map] at hx
    rcases hx with (hx | ⟨y, hy, rfl⟩) | hx
    · left; refine reachF_part (fun k hk => ?_) hxk; simp only [AV.keys, List.mem_append, List.mem_flatMap, List.mem_attach, true_and, Subtype.exists]; exact .inl ⟨x, hx, hk⟩
    · right; exact ⟨y, hy, hxk⟩
    · left; refine reachF_part (fun k hk => ?_) hxk; simp only [AV.keys, List.mem_append, List.mem_flatMap, List.mem_attach, true_and, Subtype.exists]; exact .inr ⟨x, hx, hk⟩
  | op h x st1 hn hr =>
    obtain ⟨st3, l⟩ := rop_local hr ha hk
    refine ⟨_, .op (hw.trans h) x st3 hn l.run, puts _ _ _, fun n hn => ⟨?_, ?_⟩, fun k hk => ?_, fun k hk => ⟨?_, ?_⟩⟩
    · rw [putn _ _ n hn]; unfold St.tmp; rw [l.t2]
    · rw [putn _ _ n hn]; unfold St.tmp; rw [l.t1]
    · rw [putg, putg]; exact l.inn k hk
    · rw [putg]; exact (l.out k hk).1
    · rw [putg]; exact (l.out k hk).2

end

theorem SR.congr {R : Run} {st st2 : St} {a : Act} {W : World} (ht : ∀ n, st2.tmp n = st.tmp n) (hg : ∀ k, st2.get k = st.get k) (h : SR R st2 a W) : SR R st a W := by
  obtain ⟨κ, h⟩ := h
  have he : st.env R.M κ = st2.env R.M κ := by unfold St.env; simp only [hg]
  refine ⟨κ, h.defers, h.size, fun n x hx => by rw [he]; exact h.tm n x (by rw [ht]; exact hx), fun k o ho => by rw [he]; exact h.obj k o (by rw [hg]; exact ho), fun k p hk => by rw [← hg]; exact h.dom k p hk, h.inj, h.low, h.apart, h.kp, by rw [he]; exact h.gr, by rw [he]; exact h.mono, h.ent⟩

section
variable {P : Program} {R : Run} {rs : List ROper} {S : Nat → St}

/-- The last of the operations that L lists and that write it. -/
def TT {β : Type} (L : Nat → Bool) (w : Nat → Bool) (v : Nat → β) : Nat → β
  | 0 => v 0
  | i + 1 => if L i = true ∧ w i = true then v (i + 1) else TT L w v i

theorem TT_same {β : Type} {L L' w : Nat → Bool} {v : Nat → β} {n : Nat} (h : ∀ i, i < n → w i = true → L i = L' i) : TT L w v n = TT L' w v n := by
  induction n with
  | zero => rfl
  | succ n ih =>
    simp only [TT]
    rw [ih (fun i hi => h i (by omega))]
    by_cases hw : w n = true
    · rw [h n (by omega) hw]
    · simp [hw]
theorem TT_upto {β : Type} {w : Nat → Bool} {v : Nat → β} {n : Nat} (hv : ∀ i, i < n → w i = false → v (i + 1) = v i) {j : Nat} (hj : j ≤ n) : TT (fun i => decide (i < j)) w v n = v j := by
  have low : ∀ m, m ≤ j → TT (fun i => decide (i < j)) w v m = v m := by
    intro m
    induction m with
    | zero => intro _; rfl
    | succ m ihm =>
      intro hm
      simp only [TT]
      by_cases hw : w m = true
      · rw [if_pos ⟨by simp; omega, hw⟩]
      · rw [if_neg (by simp [hw]), ihm (by omega), hv m (by omega) (by simpa using hw)]
  have high : ∀ d, j + d ≤ n → TT (fun i => decide (i < j)) w v (j + d) = v j := by
    intro d
    induction d with
    | zero => intro _; exact low j (Nat.le_refl _)
    | succ d ihd =>
      intro hd
      rw [← Nat.add_assoc]
      simp only [TT]
      rw [if_neg (fun h => by have h2 := of_decide_eq_true h.1; omega), ihd (by omega)]
  have := high (n - j) (by omega)
  rwa [show j + (n - j) = n by omega] at this

theorem TT_none {β : Type} {L w : Nat → Bool} {v : Nat → β} (hL : ∀ i, L i = false) (n : Nat) : TT L w v n = v 0 := by
  induction n with
  | zero => rfl
  | succ n ih => simp [TT, hL, ih]

theorem reach_listed {recs : List Rec} {L : Nat → Bool} (hd : ∀ (j : Nat) (r : Rec), recs[j]? = some r → L j = true → ∀ e ∈ r.aft, L e = true) : ∀ (f j i : Nat), reach recs f j i = true → (∀ r, recs[j]? = some r → ∀ e ∈ r.aft, L e = true) → L i = true := by
  intro f
  induction f with
  | zero => intro j i h; simp [reach] at h
  | succ f ih =>
    intro j i h hj
    simp only [reach] at h
    split at h <;> try (simp at h; done)
    rename_i r hr
    obtain ⟨e, he, h2⟩ := List.any_eq_true.1 h
    simp only [Bool.or_eq_true, beq_iff_eq] at h2
    have hle := hj r hr e he
    rcases h2 with rfl | h2
    · exact hle
    · exact ih e i h2 (fun r' hr' e' he' => hd e r' hr' hle e' he')

theorem any_order {rd : Option Nat} {mm : Nat} {ops : Array Oper} {Q : Exit → Act → World → Prop} (hS : ∀ (i : Nat) (r : ROper), rs[i]? = some r → Stp P R.G r (S i) (S (i + 1))) (hl : ops.size = rs.length)
    (hok : ∀ (i : Nat) (r : ROper), rs[i]? = some r → ∃ o, ops[i]? = some o ∧ okOper P R.N ops o r = true ∧ (o.after.toList.filter (Region.binds .any ·)).map (·.on) = r.aft)
    (hi : indepB ((List.range rs.length).map fun i => recOf R.G (rs.getD i default) (S i)) = true) (hQ : ∀ a w, SR R (S rs.length) a w → Q .normal a w) :
    ∀ (fuel : Nat) (listed : Array Bool) (st2 : St) (a : Act) (w : World), listed.size = rs.length →
      (∀ (j : Nat) (r : ROper), rs[j]? = some r → listed.getD j false = true → ∀ e ∈ r.aft, listed.getD e false = true) →
      ((List.range rs.length).filter (fun i => !listed.getD i false)).length ≤ fuel →
      (∀ m, st2.tmp m = TT (fun i => listed.getD i false) (fun i => (rs.getD i default).d == some m && decide (i < rs.length)) (fun i => (S i).tmp m) rs.length) →
      (∀ k, st2.get k = TT (fun i => listed.getD i false) (fun i => (wtk R.G (S i) ((rs.getD i default).d.getD 0) (rs.getD i default).op).contains k && decide (i < rs.length)) (fun i => (S i).get k) rs.length) →
      SR R st2 a w → wpAnyIn (FW rd) mm P .any ops Q fuel listed a w := by
  have hgd : ∀ {i : Nat} {r : ROper}, rs[i]? = some r → rs.getD i default = r := fun {i r} h => by simp [List.getD, h]
  have hrec : ∀ {i : Nat} {r : ROper}, rs[i]? = some r → ((List.range rs.length).map fun i => recOf R.G (rs.getD i default) (S i))[i]? = some (recOf R.G r (S i)) := fun {i r} h => by
    have hlt : i < rs.length := (List.getElem?_eq_some_iff.1 h).1
    rw [List.getElem?_map, List.getElem?_range hlt, Option.map_some, hgd h]
  have hlen : ((List.range rs.length).map fun i => recOf R.G (rs.getD i default) (S i)).length = rs.length := by simp
  have hind : ∀ (j : Nat) (r : ROper), rs[j]? = some r → (∀ e ∈ r.aft, e < j) ∧ ∀ (i : Nat) (q : ROper), i < j → rs[i]? = some q → conf (recOf R.G q (S i)) (recOf R.G r (S j)) = true → reach ((List.range rs.length).map fun i => recOf R.G (rs.getD i default) (S i)) rs.length j i = true := by
    intro j r hj
    have hlt : j < rs.length := (List.getElem?_eq_some_iff.1 hj).1
    have h1 := List.all_eq_true.1 hi j (by simp [hlt])
    rw [hrec hj] at h1
    simp only [Bool.and_eq_true, List.all_eq_true, decide_eq_true_eq] at h1
    refine ⟨h1.1, fun i q hij hq hc => ?_⟩
    have h2 := List.all_eq_true.1 h1.2 i (by simp [hij])
    rw [hrec hq] at h2
    simp only [hc, Bool.not_true, Bool.false_or, hlen] at h2
    exact h2
  -- frames
  have fr : ∀ (i : Nat) (r : ROper), rs[i]? = some r → (∀ n, r.d ≠ some n → (S (i + 1)).tmp n = (S i).tmp n) ∧ (∀ k, k ∉ wtk R.G (S i) (r.d.getD 0) r.op → (S (i + 1)).get k = (S i).get k) := fun i r h => by
    obtain ⟨st3, -, -, h2, -, h4⟩ := stp_local (hS i r h) (fun _ _ => rfl) (fun _ _ => rfl)
    exact ⟨fun n hn => (h2 n hn).2, fun k hk => (h4 k hk).2⟩
  intro fuel
  -- what the state shows where an operation may come up
  have view : ∀ {listed : Array Bool} {st2 : St} {j : Nat} {r : ROper}, rs[j]? = some r → listed.getD j false = false →
      (∀ (j : Nat) (r : ROper), rs[j]? = some r → listed.getD j false = true → ∀ e ∈ r.aft, listed.getD e false = true) → (∀ e ∈ r.aft, listed.getD e false = true) →
      (∀ (i : Nat) (q : ROper), rs[i]? = some q → conf (recOf R.G q (S i)) (recOf R.G r (S j)) = true → i < j → listed.getD i false = true) ∧
      (∀ (i : Nat) (q : ROper), rs[i]? = some q → conf (recOf R.G r (S j)) (recOf R.G q (S i)) = true → j < i → listed.getD i false = false) := by
    intro listed st2 j r hj hun hdc haf
    have hdc' : ∀ (j : Nat) (r : Rec), ((List.range rs.length).map fun i => recOf R.G (rs.getD i default) (S i))[j]? = some r → listed.getD j false = true → ∀ e ∈ r.aft, listed.getD e false = true := by
      intro j r hr hL e he
      have hlt : j < rs.length := by have := (List.getElem?_eq_some_iff.1 hr).1; simpa using this
      have hq : rs[j]? = some rs[j] := by simp [hlt]
      rw [hrec hq] at hr
      simp only [Option.some.injEq] at hr
      subst hr
      exact hdc j _ hq hL e he
    refine ⟨fun i q hq hc hij => ?_, fun i q hq hc hji => ?_⟩
    · refine reach_listed hdc' _ j i ((hind j r hj).2 i q hij hq hc) (fun r' hr' e he => ?_)
      rw [hrec hj] at hr'
      simp only [Option.some.injEq] at hr'
      subst hr'
      exact haf e he
    · cases hL : listed.getD i false with
      | false => rfl
      | true =>
        have := reach_listed hdc' _ i j ((hind i q hq).2 j r hji hj hc) (fun r' hr' e he => hdc' i r' hr' hL e he)
        rw [hun] at this; cases this
  have frT : ∀ m i, i < rs.length → ((rs.getD i default).d == some m && decide (i < rs.length)) = false → (S (i + 1)).tmp m = (S i).tmp m := fun m i hlt h => by
    have hq : rs[i]? = some rs[i] := by simp [hlt]
    refine (fr i _ hq).1 m (fun e => ?_)
    rw [hgd hq] at h
    simp [e, hlt] at h
  have frK : ∀ k i, i < rs.length → ((wtk R.G (S i) ((rs.getD i default).d.getD 0) (rs.getD i default).op).contains k && decide (i < rs.length)) = false → (S (i + 1)).get k = (S i).get k := fun k i hlt h => by
    have hq : rs[i]? = some rs[i] := by simp [hlt]
    refine (fr i _ hq).2 k (fun e => ?_)
    rw [hgd hq] at h
    simp [e, hlt] at h
  have cT : ∀ {i j : Nat} {q r : ROper} {t : Nat}, q.d = some t → (t ∈ r.rt ∨ r.d = some t) → conf (recOf R.G q (S i)) (recOf R.G r (S j)) = true := fun {i j q r t} h1 h2 => by
    simp only [conf, recOf, h1, Bool.or_eq_true, List.contains_iff_mem, beq_iff_eq]
    exact .inl (.inl (.inl (.inl h2)))
  have cT' : ∀ {i j : Nat} {q r : ROper} {t : Nat}, q.d = some t → (t ∈ r.rt ∨ r.d = some t) → conf (recOf R.G r (S j)) (recOf R.G q (S i)) = true := fun {i j q r t} h1 h2 => by
    simp only [conf, recOf, h1, Bool.or_eq_true, List.contains_iff_mem, beq_iff_eq]
    rcases h2 with h2 | h2
    · exact .inl (.inl (.inl (.inr h2)))
    · exact .inl (.inl (.inl (.inl (by simp [h2]))))
  have cutI : ∀ {xs ys : List Nat} {k : Nat}, k ∈ xs → k ∈ ys → cuts xs ys = true := fun {xs ys k} h1 h2 => List.any_eq_true.2 ⟨k, h1, by simpa using h2⟩
  have cK : ∀ {i j : Nat} {q r : ROper} {k : Nat}, k ∈ wtk R.G (S i) (q.d.getD 0) q.op → (k ∈ ftk R.G (S j) (r.d.getD 0) r.op ∨ k ∈ wtk R.G (S j) (r.d.getD 0) r.op) → conf (recOf R.G q (S i)) (recOf R.G r (S j)) = true ∧ conf (recOf R.G r (S j)) (recOf R.G q (S i)) = true := fun {i j q r k} h1 h2 => by
    simp only [conf, recOf, Bool.or_eq_true]
    rcases h2 with h2 | h2
    · exact ⟨.inl (.inl (.inr (cutI h1 h2))), .inl (.inr (cutI h1 h2))⟩
    · exact ⟨.inr (cutI h1 h2), .inr (cutI h2 h1)⟩
  have done : ∀ {listed : Array Bool} {st2 : St} {a : Act} {w : World}, (∀ i, i < rs.length → listed.getD i false = true) →
      (∀ m, st2.tmp m = TT (fun i => listed.getD i false) (fun i => (rs.getD i default).d == some m && decide (i < rs.length)) (fun i => (S i).tmp m) rs.length) →
      (∀ k, st2.get k = TT (fun i => listed.getD i false) (fun i => (wtk R.G (S i) ((rs.getD i default).d.getD 0) (rs.getD i default).op).contains k && decide (i < rs.length)) (fun i => (S i).get k) rs.length) →
      SR R st2 a w → Q .normal a w := by
    intro listed st2 a w hall hT hK hs
    refine hQ a w (SR.congr (fun m => ?_) (fun k => ?_) hs)
    · rw [hT m, TT_same (L' := fun i => decide (i < rs.length)) (fun i hi _ => by simp [hall i hi, hi]), TT_upto (frT m) (Nat.le_refl _)]
    · rw [hK k, TT_same (L' := fun i => decide (i < rs.length)) (fun i hi _ => by simp [hall i hi, hi]), TT_upto (frK k) (Nat.le_refl _)]
  have aftL : ∀ {listed : Array Bool} {j : Nat} {o : Oper} {r : ROper}, (o.after.toList.filter (Region.binds .any ·)).map (·.on) = r.aft → ((∀ e ∈ o.after, Region.binds .any e = true → listed.getD e.on false = true) ↔ ∀ e ∈ r.aft, listed.getD e false = true) := by
    intro listed j o r h
    rw [← h]
    constructor
    · intro h1 e he
      obtain ⟨x, hx, rfl⟩ := List.mem_map.1 he
      obtain ⟨h2, h3⟩ := List.mem_filter.1 hx
      exact h1 x (by simpa using h2) h3
    · intro h1 e he hb
      exact h1 _ (List.mem_map.2 ⟨e, List.mem_filter.2 ⟨by simpa using he, hb⟩, rfl⟩)
  induction fuel with
  | zero =>
    intro listed st2 a w hsz hdc hcnt hT hK hs
    have hall : ∀ i, i < rs.length → listed.getD i false = true := fun i hi => by
      cases hL : listed.getD i false with
      | true => rfl
      | false =>
        have hm : i ∈ (List.range rs.length).filter (fun i => !listed.getD i false) := List.mem_filter.2 ⟨by simpa using hi, by rw [hL]; rfl⟩
        have h0 := List.length_eq_zero_iff.1 (Nat.le_zero.1 hcnt)
        rw [h0] at hm
        cases hm
    refine ⟨?_, done hall hT hK hs⟩
    apply List.eq_nil_iff_forall_not_mem.2
    intro j hj
    obtain ⟨h1, oj, h2, -⟩ := mem_ready.1 hj
    have hjl : j < rs.length := by rw [← hl]; exact (Array.getElem?_eq_some_iff.1 h2).1
    have h3 := hall j hjl
    simp only [Array.getD_eq_getD_getElem?] at h1 h3
    rw [Array.getElem?_eq_getElem (by omega)] at h1 h3
    simp at h1 h3
    rw [h1] at h3; cases h3
  | succ fuel ih =>
    intro listed st2 a w hsz hdc hcnt hT hK hs
    refine ⟨fun hnil => ?_, fun j hj => ?_⟩
    · refine done (fun i hi => ?_) hT hK hs
      induction i using Nat.strongRecOn with
      | _ i ihi =>
        cases hL : listed.getD i false with
        | true => rfl
        | false =>
          have hr : rs[i]? = some rs[i] := by simp [hi]
          obtain ⟨o, ho, -, hae⟩ := hok i _ hr
          have : i ∈ Region.ready .any ops listed := mem_ready.2 ⟨by
            simp only [Array.getD_eq_getD_getElem?] at hL ⊢
            rw [Array.getElem?_eq_getElem (by omega)] at hL ⊢
            simpa using hL, o, ho, (aftL (j := i) hae).2 (fun e he => ihi e ((hind i _ hr).1 e he) (Nat.lt_trans ((hind i _ hr).1 e he) hi))⟩
          rw [hnil] at this; cases this
    · obtain ⟨h1, oj, h2, h3⟩ := mem_ready.1 hj
      have hjl : j < rs.length := by rw [← hl]; exact (Array.getElem?_eq_some_iff.1 h2).1
      have hr : rs[j]? = some rs[j] := by simp [hjl]
      generalize rs[j] = r at hr
      obtain ⟨o, ho, hko, hae⟩ := hok j _ hr
      rw [h2] at ho
      simp only [Option.some.injEq] at ho
      subst ho
      have hun : listed.getD j false = false := by
        simp only [Array.getD_eq_getD_getElem?] at h1 ⊢
        rw [Array.getElem?_eq_getElem (by omega)] at h1 ⊢
        simpa using h1
      have haf := (aftL (j := j) hae).1 h3
      obtain ⟨v1, v2⟩ := view (st2 := st2) hr hun hdc haf
      -- what this operation reads
      have eqT : ∀ t, (t ∈ r.rt ∨ r.d = some t) → st2.tmp t = (S j).tmp t := fun t ht => by
        rw [hT t, TT_same (L' := fun i => decide (i < j)) (fun i hi hw => ?_), TT_upto (frT t) (by omega)]
        have hq : rs[i]? = some rs[i] := by simp [hi]
        rw [hgd hq] at hw
        simp only [Bool.and_eq_true, beq_iff_eq] at hw
        rcases Nat.lt_trichotomy i j with c | c | c
        · simp only [v1 i _ hq (cT hw.1 ht) c, c, decide_true]
        · subst c; simp [hun]
        · rw [v2 i _ hq (cT' hw.1 ht) c]; symm; simp; omega
      have eqK : ∀ k, (k ∈ ftk R.G (S j) (r.d.getD 0) r.op ∨ k ∈ wtk R.G (S j) (r.d.getD 0) r.op) → st2.get k = (S j).get k := fun k hk => by
        rw [hK k, TT_same (L' := fun i => decide (i < j)) (fun i hi hw => ?_), TT_upto (frK k) (by omega)]
        have hq : rs[i]? = some rs[i] := by simp [hi]
        rw [hgd hq] at hw
        simp only [Bool.and_eq_true, List.contains_iff_mem] at hw
        rcases Nat.lt_trichotomy i j with c | c | c
        · simp only [v1 i _ hq (cK hw.1 hk).1 c, c, decide_true]
        · subst c; simp [hun]
        · rw [v2 i _ hq (cK hw.1 hk).2 c]; symm; simp; omega
      obtain ⟨st3, hst, u1, u2, u3, u4⟩ := stp_local (hS j r hr) (fun t ht => eqT t (.inl ht)) (fun k hk => eqK k (.inl hk))
      have gset : ∀ i, (listed.setIfInBounds j true).getD i false = if i = j then true else listed.getD i false := fun i => by
        simp only [Array.getD_eq_getD_getElem?, Array.getElem?_setIfInBounds]
        by_cases c : j = i
        · subst c; rw [if_pos rfl, if_pos (by omega), if_pos rfl]; rfl
        · rw [if_neg c, if_neg (fun e => c e.symm)]
      refine stp_sim hst h2 hko hs fun a' w' hs' => ih (listed.setIfInBounds j true) st3 a' w' (by simpa using hsz) (fun i q hq hL e he => ?_) ?_ (fun m => ?_) (fun k => ?_) hs'
      · rw [gset] at hL ⊢
        split
        · rfl
        · split at hL
          · rename_i e2
            subst e2
            rw [hr] at hq
            simp only [Option.some.injEq] at hq
            subst hq
            exact haf e he
          · exact hdc i q hq hL e he
      · have hsub : ((List.range rs.length).filter (fun i => !(listed.setIfInBounds j true).getD i false)).length < ((List.range rs.length).filter (fun i => !listed.getD i false)).length := by
          rw [← List.countP_eq_length_filter, ← List.countP_eq_length_filter]
          have e1 : (List.range rs.length).countP (fun i => !listed.getD i false) = (List.range rs.length).countP (fun i => !(listed.setIfInBounds j true).getD i false) + (List.range rs.length).countP (fun i => i == j) := by
            generalize List.range rs.length = l
            induction l with
            | nil => rfl
            | cons x l ihl =>
              simp only [List.countP_cons, ihl, gset]
              by_cases c : x = j
              · subst c; simp [hun]; omega
              · simp [c]; omega
          have e2 : 0 < (List.range rs.length).countP (fun i => i == j) := List.countP_pos_iff.2 ⟨j, by simp [hjl], by simp⟩
          omega
        omega
      · by_cases c : r.d = some m
        · rw [u1 m c, TT_same (L' := fun i => decide (i < j + 1)) (fun i hi hw => ?_), TT_upto (frT m) (by omega)]
          have hq : rs[i]? = some rs[i] := by simp [hi]
          rw [hgd hq] at hw
          simp only [Bool.and_eq_true, beq_iff_eq] at hw
          rw [gset]
          rcases Nat.lt_trichotomy i j with c2 | c2 | c2
          · rw [if_neg (by omega), v1 i _ hq (cT hw.1 (.inr c)) c2]; symm; simp; omega
          · subst c2; simp
          · rw [if_neg (by omega), v2 i _ hq (cT' hw.1 (.inr c)) c2]; symm; simp; omega
        · rw [(u2 m c).1, hT m]
          refine TT_same fun i hi hw => ?_
          have hq : rs[i]? = some rs[i] := by simp [hi]
          rw [hgd hq] at hw
          simp only [Bool.and_eq_true, beq_iff_eq] at hw
          rw [gset, if_neg]
          rintro rfl
          rw [hr] at hq
          simp only [Option.some.injEq] at hq
          rw [← hq] at hw
          exact c hw.1
      · by_cases c : k ∈ wtk R.G (S j) (r.d.getD 0) r.op
        · rw [u3 k c, TT_same (L' := fun i => decide (i < j + 1)) (fun i hi hw => ?_), TT_upto (frK k) (by omega)]
          have hq : rs[i]? = some rs[i] := by simp [hi]
          rw [hgd hq] at hw
          simp only [Bool.and_eq_true, List.contains_iff_mem] at hw
          rw [gset]
          rcases Nat.lt_trichotomy i j with c2 | c2 | c2
          · rw [if_neg (by omega), v1 i _ hq (cK hw.1 (.inr c)).1 c2]; symm; simp; omega
          · subst c2; simp
          · rw [if_neg (by omega), v2 i _ hq (cK hw.1 (.inr c)).2 c2]; symm; simp; omega
        · rw [(u4 k c).1, hK k]
          refine TT_same fun i hi hw => ?_
          have hq : rs[i]? = some rs[i] := by simp [hi]
          rw [hgd hq] at hw
          simp only [Bool.and_eq_true, List.contains_iff_mem] at hw
          rw [gset, if_neg]
          rintro rfl
          rw [hr] at hq
          simp only [Option.some.injEq] at hq
          rw [← hq] at hw
          exact c hw.1
end

theorem AR_regd {P : Program} {R : Run} {st : St} {Φ : Exit → St → Prop} {id : Nat} {rs : List ROper} (hm : P.follows .mixedOrders = true) (h : RD P R.G rs st [] (Φ .normal)) : AR P R (.reg id true rs) st Φ := by
  intro c hc mm a W hs
  cases c <;> simp only [okCode, Bool.false_eq_true, Bool.and_eq_true, beq_iff_eq] at hc
  rename_i id' ops draw
  obtain ⟨⟨⟨rfl, rfl⟩, hc⟩, hae⟩ := hc
  simp only [Bool.not_true, Bool.false_or] at hae
  obtain ⟨h1, h2⟩ := allB2_spec hc
  obtain ⟨-, h3⟩ := allB2_spec hae
  obtain ⟨S, rfl, hS, hK, hi⟩ := RD_states rs st [] _ h
  have hl : ops.size = rs.length := by simpa using h1
  refine wpIn_region_any hm (any_order hS hl (fun i r hr => ?_) (by simpa using hi) (fun a' w' hs' => ⟨_, hK, hs'⟩) ops.size _ (S 0) a _ (by simpa using hl) (fun j r _ hL => ?_) ?_ (fun m => ?_) (fun k => ?_) ?_)
  · have hlt : i < ops.size := by have := (List.getElem?_eq_some_iff.1 hr).1; omega
    exact ⟨ops[i], by simp [hlt], h2 i _ r (by simp [hlt]) hr, by simpa using h3 i ops[i] r (by simp [hlt]) hr⟩
  · simp [Array.getD] at hL
  · simp only [hl]
    exact Nat.le_trans (List.length_filter_le _ _) (by simp)
  · exact (TT_none (v := fun i => (S i).tmp m) (L := fun i => (Array.replicate ops.size false).getD i false) (fun i => by simp [Array.getD]) _).symm
  · exact (TT_none (v := fun i => (S i).get k) (L := fun i => (Array.replicate ops.size false).getD i false) (fun i => by simp [Array.getD]) _).symm
  · obtain ⟨κ, hκ⟩ := hs
    exact ⟨κ, hκ.grow (Ext.dr (Ext.refl W))⟩

end Go.Proofs.YtdpmioiamcgfkaaDoor
