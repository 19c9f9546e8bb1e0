/-
  The plain law: what the program tells of a register is what the reference tells.
-/
import Derived.Test.YtdpmioiamcgfkaaDoorEj
namespace Go.Proofs.YtdpmioiamcgfkaaDoor
open Go.RowKit

/-- The numbers of all items of a list of issues. -/
def chL (l : List Iss) : List Int := l.flatMap fun x => x.its.map (·.1)
theorem chL_cons (x : Iss) (l : List Iss) : chL (x :: l) = x.its.map (·.1) ++ chL l := rfl
def C (r : List Iss) (n : Int) : List Int := chL (issOf r n)

/-! ### The reference's rounds. -/
def dvL (f : Int → Int) (m : Int) (l : List Iss) : Int := l.foldl (fun m x => dvIt f (max m 1) x.its) m
theorem dvN_eq (r : List Iss) (f : Int → Int) (n : Int) : ∀ i, i ≤ r.length → dvN r f n i = dvL f 0 (issOf (r.take i) n)
  | 0, _ => by simp [dvN, issOf, dvL]
  | i + 1, hi => by
    have hlt : i < r.length := by omega
    have ih := dvN_eq r f n i (by omega)
    rw [List.take_succ_eq_append_getElem hlt, issOf, List.filter_append, dvN, at_eq hlt]
    by_cases e : r[i].d = n
    · rw [if_pos e, ih, List.filter_cons_of_pos (by simpa using e), dvL, dvL, List.foldl_append]; rfl
    · rw [if_neg e, ih, List.filter_cons_of_neg (by simpa using e), List.filter_nil, List.append_nil]; rfl
theorem dvIt_spec (f : Int → Int) : ∀ (its : List (Int × Int)) (m : Int), m ≤ dvIt f m its ∧ (∀ y ∈ its, 1 + f y.1 ≤ dvIt f m its) ∧ (dvIt f m its = m ∨ ∃ y ∈ its, dvIt f m its = 1 + f y.1)
  | [], m => ⟨Int.le_refl _, by simp, .inl rfl⟩
  | y :: its, m => by
    obtain ⟨h1, h2, h3⟩ := dvIt_spec f its (max m (1 + f y.1))
    have e : dvIt f m (y :: its) = dvIt f (max m (1 + f y.1)) its := rfl
    rw [e]
    refine ⟨by omega, fun z hz => ?_, ?_⟩
    · rcases List.mem_cons.1 hz with rfl | hz
      · omega
      · exact h2 z hz
    · rcases h3 with h3 | ⟨z, hz, h3⟩
      · rcases Int.le_total m (1 + f y.1) with hm | hm
        · exact .inr ⟨y, List.mem_cons_self .., by omega⟩
        · exact .inl (by omega)
      · exact .inr ⟨z, List.mem_cons_of_mem _ hz, h3⟩
theorem dvL_spec (f : Int → Int) : ∀ (l : List Iss) (m : Int), m ≤ dvL f m l ∧ (l ≠ [] → 1 ≤ dvL f m l) ∧ (∀ c ∈ chL l, 1 + f c ≤ dvL f m l) ∧ (dvL f m l = m ∨ dvL f m l = 1 ∨ ∃ c ∈ chL l, dvL f m l = 1 + f c)
  | [], m => ⟨Int.le_refl _, by simp, by simp [chL], .inl rfl⟩
  | x :: l, m => by
    obtain ⟨h1, h2, h3⟩ := dvIt_spec f x.its (max m 1)
    obtain ⟨g1, g2, g3, g4⟩ := dvL_spec f l (dvIt f (max m 1) x.its)
    have e : dvL f m (x :: l) = dvL f (dvIt f (max m 1) x.its) l := rfl
    rw [e]
    have q1 : m ≤ max m 1 := Int.le_max_left ..
    have q2 : 1 ≤ max m 1 := Int.le_max_right ..
    refine ⟨Int.le_trans q1 (Int.le_trans h1 g1), fun _ => Int.le_trans q2 (Int.le_trans h1 g1), fun c hc => ?_, ?_⟩
    · rw [chL_cons] at hc
      rcases List.mem_append.1 hc with hc | hc
      · obtain ⟨y, hy, rfl⟩ := List.mem_map.1 hc
        exact Int.le_trans (h2 y hy) g1
      · exact g3 c hc
    · rcases g4 with g4 | g4 | ⟨c, hc, g4⟩
      · rcases h3 with h3 | ⟨y, hy, h3⟩
        · rcases Int.le_total m 1 with hm | hm
          · exact .inr (.inl (by omega))
          · exact .inl (by omega)
        · exact .inr (.inr ⟨y.1, by rw [chL_cons]; exact List.mem_append.2 (.inl (List.mem_map.2 ⟨y, hy, rfl⟩)), by omega⟩)
      · exact .inr (.inl g4)
      · exact .inr (.inr ⟨c, by rw [chL_cons]; exact List.mem_append.2 (.inr hc), g4⟩)

section
variable {r : List Iss}

theorem issOf_ne (hO : Ord r) {n : Int} (hn : n ∈ nums r) : issOf r n ≠ [] := by
  obtain ⟨i, hi, rfl⟩ := nums_of hO hn
  exact List.ne_nil_of_mem (a := r[i]) (List.mem_filter.2 ⟨List.getElem_mem hi, by simp⟩)
theorem Dv_eq (r : List Iss) (k : Nat) (n : Int) : Dv r (k + 1) n = dvL (Dv r k) 0 (issOf r n) := by
  rw [Dv, dvN_eq r _ n _ (Nat.le_refl _), List.take_length]
theorem Dv_ch (k : Nat) (n : Int) {c : Int} (hc : c ∈ C r n) : 1 + Dv r k c ≤ Dv r (k + 1) n := by
  rw [Dv_eq]; exact (dvL_spec _ _ _).2.2.1 c hc
theorem Dv_one (hO : Ord r) (k : Nat) {n : Int} (hn : n ∈ nums r) : 1 ≤ Dv r (k + 1) n := by
  rw [Dv_eq]; exact (dvL_spec _ _ _).2.1 (issOf_ne hO hn)
theorem Dv_or (hO : Ord r) (k : Nat) {n : Int} (hn : n ∈ nums r) : Dv r (k + 1) n = 1 ∨ ∃ c ∈ C r n, Dv r (k + 1) n = 1 + Dv r k c := by
  have h1 := Dv_one hO k hn
  rw [Dv_eq] at *
  rcases (dvL_spec (Dv r k) (issOf r n) 0).2.2.2 with h | h | h
  · omega
  · exact .inl h
  · exact .inr h
theorem C_in (hin : ∀ x ∈ r, ItsIn r x) {n c : Int} (hc : c ∈ C r n) : c ∈ nums r := by
  obtain ⟨x, hx, hc⟩ := List.mem_flatMap.1 hc
  obtain ⟨y, hy, rfl⟩ := List.mem_map.1 hc
  exact hin x (List.mem_filter.1 hx).1 y hy

/-! ### The program's passes. -/
theorem rdIt_iff (lf : List Int) : ∀ (its : List (Int × Int)) (b : Bool), rdIt lf b its = true ↔ b = true ∧ ∀ y ∈ its, y.1 ∉ lf
  | [], b => by simp [rdIt]
  | y :: its, b => by
    have e : rdIt lf b (y :: its) = rdIt lf (b && !decide (y.1 ∈ lf)) its := rfl
    rw [e, rdIt_iff lf its]
    simp [and_assoc]
theorem rdN_iff (lf : List Int) : ∀ (l : List Iss) (b : Bool), rdN lf b l = true ↔ b = true ∧ ∀ c ∈ chL l, c ∉ lf
  | [], b => by simp [rdN, chL]
  | x :: l, b => by
    have e : rdN lf b (x :: l) = rdN lf (rdIt lf b x.its) l := rfl
    rw [e, rdN_iff lf l, rdIt_iff, chL_cons]
    simp only [List.mem_append, List.mem_map]
    constructor
    · rintro ⟨⟨h1, h2⟩, h3⟩
      refine ⟨h1, fun c hc => ?_⟩
      rcases hc with ⟨y, hy, rfl⟩ | hc
      · exact h2 y hy
      · exact h3 c hc
    · rintro ⟨h1, h2⟩
      exact ⟨⟨h1, fun y hy => h2 _ (.inl ⟨y, hy, rfl⟩)⟩, fun c hc => h2 c (.inr hc)⟩
theorem msIt_spec (dp : List (Int × Int)) : ∀ (its : List (Int × Int)) (m : Int), m ≤ msIt dp m its ∧ (∀ y ∈ its, dpG dp y.1 ≤ msIt dp m its) ∧ (msIt dp m its = m ∨ ∃ y ∈ its, msIt dp m its = dpG dp y.1)
  | [], m => ⟨Int.le_refl _, by simp, .inl rfl⟩
  | y :: its, m => by
    obtain ⟨h1, h2, h3⟩ := msIt_spec dp its (max m (dpG dp y.1))
    have e : msIt dp m (y :: its) = msIt dp (max m (dpG dp y.1)) its := rfl
    rw [e]
    refine ⟨by omega, fun z hz => ?_, ?_⟩
    · rcases List.mem_cons.1 hz with rfl | hz
      · omega
      · exact h2 z hz
    · rcases h3 with h3 | ⟨z, hz, h3⟩
      · rcases Int.le_total m (dpG dp y.1) with hm | hm
        · exact .inr ⟨y, List.mem_cons_self .., by omega⟩
        · exact .inl (by omega)
      · exact .inr ⟨z, List.mem_cons_of_mem _ hz, h3⟩
theorem msN_spec (dp : List (Int × Int)) : ∀ (l : List Iss) (m : Int), m ≤ msN dp m l ∧ (∀ c ∈ chL l, dpG dp c ≤ msN dp m l) ∧ (msN dp m l = m ∨ ∃ c ∈ chL l, msN dp m l = dpG dp c)
  | [], m => ⟨Int.le_refl _, by simp [chL], .inl rfl⟩
  | x :: l, m => by
    obtain ⟨h1, h2, h3⟩ := msIt_spec dp x.its m
    obtain ⟨g1, g2, g3⟩ := msN_spec dp l (msIt dp m x.its)
    have e : msN dp m (x :: l) = msN dp (msIt dp m x.its) l := rfl
    rw [e]
    refine ⟨by omega, fun c hc => ?_, ?_⟩
    · rw [chL_cons] at hc
      rcases List.mem_append.1 hc with hc | hc
      · obtain ⟨y, hy, rfl⟩ := List.mem_map.1 hc
        have := h2 y hy; omega
      · exact g2 c hc
    · rcases g3 with g3 | ⟨c, hc, g3⟩
      · rcases h3 with h3 | ⟨y, hy, h3⟩
        · exact .inl (by omega)
        · exact .inr ⟨y.1, by rw [chL_cons]; exact List.mem_append.2 (.inl (List.mem_map.2 ⟨y, hy, rfl⟩)), by omega⟩
      · exact .inr ⟨c, by rw [chL_cons]; exact List.mem_append.2 (.inr hc), g3⟩

theorem dpLk_some {n : Int} : ∀ {dp : List (Int × Int)}, n ∈ dp.map (·.1) → ∃ v, dpLk n dp = some v
  | [], h => by simp at h
  | p :: dp, h => by
    simp only [dpLk]
    split
    · exact ⟨_, rfl⟩
    · rename_i e
      simp only [List.map_cons, List.mem_cons] at h
      exact dpLk_some (h.resolve_left fun e2 => e (by rw [e2]))

/-- What is reached has its depth, in all later rounds of the reference. -/
def AInv (r : List Iss) (s : List (Int × Int) × List Int) : Prop := ∀ p ∈ s.1, ∀ j : Nat, p.2 ≤ j → Dv r j p.1 = p.2
theorem AInv.step (hO : Ord r) (hin : ∀ x ∈ r, ItsIn r x) {s : List (Int × Int) × List Int} (hd : DInv r s) (h : AInv r s) {n : Int} (hn : n ∈ nums r) : AInv r (dStep r s n) := by
  unfold dStep
  split
  · rename_i hb
    obtain ⟨h1, h2⟩ := (rdN_iff _ _ _).1 hb
    have kids : ∀ c ∈ C r n, (c, dpG s.1 c) ∈ s.1 := fun c hc => by
      have hc1 : c ∈ s.1.map (·.1) ++ s.2 := hd.perm.mem_iff.2 (C_in hin hc)
      have hc2 : c ∈ s.1.map (·.1) := (List.mem_append.1 hc1).resolve_right (h2 c hc)
      obtain ⟨v, hv⟩ := dpLk_some hc2
      have := dpLk_mem hv
      rwa [show dpG s.1 c = v by simp [dpG, hv]]
    obtain ⟨m1, m2, m3⟩ := msN_spec s.1 (issOf r n) 0
    intro p hp j hj
    rcases List.mem_append.1 hp with hp | hp
    · exact h p hp j hj
    · simp only [List.mem_singleton] at hp
      subst hp
      simp only at hj ⊢
      obtain ⟨j, rfl⟩ : ∃ j', j = j' + 1 := ⟨j - 1, by omega⟩
      have same : ∀ c ∈ C r n, Dv r j c = dpG s.1 c := fun c hc => by
        have := m2 c hc
        exact h _ (kids c hc) j (by simp only; omega)
      have o1 := Dv_one hO j hn
      apply Int.le_antisymm
      · rcases Dv_or hO j hn with e | ⟨c, hc, e⟩
        · omega
        · have := m2 c hc; have := same c hc; omega
      · rcases m3 with e | ⟨c, hc, e⟩
        · omega
        · have := Dv_ch (r := r) j n hc; have := same c hc; omega
  · exact h
theorem AInv.fold (hO : Ord r) (hin : ∀ x ∈ r, ItsIn r x) : ∀ (l : List Int) {s : List (Int × Int) × List Int}, (∀ n ∈ l, n ∈ nums r) → DInv r s → AInv r s → AInv r (l.foldl (dStep r) s)
  | [], s, _, _, h => h
  | n :: l, s, hl, hd, h => AInv.fold hO hin l (fun m hm => hl m (List.mem_cons_of_mem _ hm)) (hd.step n) (h.step hO hin hd (hl n (List.mem_cons_self ..)))
theorem AInv.run (hO : Ord r) (hin : ∀ x ∈ r, ItsIn r x) : ∀ k, AInv r (dRun r k)
  | 0 => by intro p hp; simp [dRun] at hp
  | k + 1 => AInv.fold hO hin (nums r) (fun _ h => h) (DInv.run r k) (AInv.run hO hin k)

/-- Nothing more is reached. -/
def Stuck (r : List Iss) (L : List Int) : Prop := ∀ n ∈ L, ∃ c ∈ C r n, c ∈ L
theorem step_not {s : List (Int × Int) × List Int} {n : Int} (h : ¬ rdN s.2 (decide (n ∈ s.2)) (issOf r n) = true) : dStep r s n = s ∧ (n ∈ s.2 → ∃ c ∈ C r n, c ∈ s.2) := by
  refine ⟨by unfold dStep; rw [if_neg h], fun hn => ?_⟩
  rw [rdN_iff] at h
  by_cases e : ∃ c ∈ C r n, c ∈ s.2
  · exact e
  · exact absurd ⟨decide_eq_true hn, fun c hc h2 => e ⟨c, hc, h2⟩⟩ h
theorem step_len (s : List (Int × Int) × List Int) (n : Int) : (dStep r s n).2.length ≤ s.2.length := by
  unfold dStep
  split
  · exact List.length_erase_le
  · exact Nat.le_refl _
theorem fold_len : ∀ (l : List Int) (s : List (Int × Int) × List Int), (l.foldl (dStep r) s).2.length ≤ s.2.length
  | [], s => Nat.le_refl _
  | n :: l, s => Nat.le_trans (fold_len l _) (step_len s n)
theorem fold_dec : ∀ (l : List Int) (s : List (Int × Int) × List Int), (l.foldl (dStep r) s).2.length < s.2.length ∨ (l.foldl (dStep r) s = s ∧ ∀ n ∈ l, n ∈ s.2 → ∃ c ∈ C r n, c ∈ s.2)
  | [], s => .inr ⟨rfl, by simp⟩
  | n :: l, s => by
    by_cases e : rdN s.2 (decide (n ∈ s.2)) (issOf r n) = true
    · refine .inl (Nat.lt_of_le_of_lt (fold_len l _) ?_)
      have hm := rdN_mem e
      unfold dStep
      rw [if_pos e]
      have := List.length_erase_of_mem hm
      have := List.length_pos_of_mem hm
      simp only; omega
    · obtain ⟨h1, h2⟩ := step_not e
      rw [List.foldl_cons, h1]
      rcases fold_dec l s with h | ⟨h3, h4⟩
      · exact .inl h
      · refine .inr ⟨h3, fun m hm => ?_⟩
        rcases List.mem_cons.1 hm with rfl | hm
        · exact h2
        · exact h4 m hm
theorem fold_stuck : ∀ (l : List Int) {s : List (Int × Int) × List Int}, Stuck r s.2 → l.foldl (dStep r) s = s
  | [], s, _ => rfl
  | n :: l, s, h => by
    have : ¬ rdN s.2 (decide (n ∈ s.2)) (issOf r n) = true := fun e => by
      have hm := rdN_mem e
      obtain ⟨c, hc, h2⟩ := h n hm
      exact ((rdN_iff _ _ _).1 e).2 c hc h2
    rw [List.foldl_cons, (step_not this).1]
    exact fold_stuck l h
theorem run_or (r : List Iss) : ∀ k, (dRun r k).2.length + k ≤ (nums r).length ∨ Stuck r (dRun r k).2
  | 0 => .inl (by simp [dRun])
  | k + 1 => by
    have hsub : ∀ n ∈ (dRun r k).2, n ∈ nums r := fun n hn => (DInv.run r k).perm.mem_iff.1 (List.mem_append.2 (.inr hn))
    rcases run_or r k with h | h
    · rcases fold_dec (r := r) (nums r) (dRun r k) with h2 | ⟨h2, h3⟩
      · exact .inl (by simp only [dRun, dPass]; omega)
      · refine .inr ?_
        simp only [dRun, dPass]
        rw [h2]
        exact fun n hn => h3 n (hsub n hn) hn
    · refine .inr ?_
      simp only [dRun, dPass]
      rw [fold_stuck (nums r) h]; exact h
theorem stuck_Dv {L : List Int} (h : Stuck r L) : ∀ (k : Nat) (n : Int), n ∈ L → (k : Int) ≤ Dv r k n
  | 0, n, _ => by simp [Dv]
  | k + 1, n, hn => by
    obtain ⟨c, hc, h2⟩ := h n hn
    have := stuck_Dv h k c h2
    have := Dv_ch (r := r) k n hc
    omega

theorem most_lt (g : Int → Int) (K : Int) : ∀ (l : List Int) (m : Int), K < l.foldl (fun m n => max m (g n)) m ↔ K < m ∨ ∃ n ∈ l, K < g n
  | [], m => by simp
  | n :: l, m => by
    rw [List.foldl_cons, most_lt g K l]
    simp only [List.mem_cons, exists_eq_or_imp]
    rw [← or_assoc]
    refine or_congr_left ?_
    omega
theorem mostV_lt {l : List Int} {g : Int → Int} {K : Int} (hK : 0 ≤ K) : K < mostV l g ↔ ∃ n ∈ l, K < g n := by
  rw [mostV, most_lt]
  constructor
  · rintro (h | h)
    · omega
    · exact h
  · exact .inr

/-- Where no drawing is left, depths are the reference's. -/
theorem dp_Dv (hL : listedB r = true) (h : (dRun r (nums r).length).2.length = 0) {n : Int} (hn : n ∈ nums r) : (n, dpG (dRun r (nums r).length).1 n) ∈ (dRun r (nums r).length).1 ∧ Dv r ((nums r).length + 1) n = dpG (dRun r (nums r).length).1 n := by
  have hd := DInv.run r (nums r).length
  have h0 : (dRun r (nums r).length).2 = [] := List.length_eq_zero_iff.1 h
  have h1 : n ∈ (dRun r (nums r).length).1.map (·.1) := by
    have := hd.perm.mem_iff.2 hn
    rwa [h0, List.append_nil] at this
  obtain ⟨v, hv⟩ := dpLk_some h1
  have hm := dpLk_mem hv
  have e : dpG (dRun r (nums r).length).1 n = v := by simp [dpG, hv]
  rw [e]
  refine ⟨hm, ?_⟩
  have hb := hd.bd _ hm
  have hl := hd.len
  exact AInv.run (ord_of hL) (fun x hx => listed_in hL hx) _ _ hm _ (by simp only at hb ⊢; omega)

theorem open_chk (r : List Iss) : openV r = chkV r := by
  unfold openV chkV
  cases hL : listedB r
  · rfl
  · simp only [if_true]
    by_cases h : 0 < (dRun r (nums r).length).2.length
    · rw [if_pos h]
      have hs : Stuck r (dRun r (nums r).length).2 := (run_or r (nums r).length).resolve_left (by omega)
      obtain ⟨n, hn⟩ := List.exists_mem_of_length_pos h
      have hn2 : n ∈ nums r := (DInv.run r _).perm.mem_iff.1 (List.mem_append.2 (.inr hn))
      have := stuck_Dv hs ((nums r).length + 1) n hn
      rw [if_pos ((mostV_lt (by omega)).2 ⟨n, hn2, by omega⟩)]
    · rw [if_neg h]
      have h0 : (dRun r (nums r).length).2.length = 0 := by omega
      have hd := DInv.run r (nums r).length
      have hl := hd.len
      have e1 : (∃ p ∈ (dRun r (nums r).length).1, 6 < p.2) ↔ 6 < mostV (nums r) (Dv r ((nums r).length + 1)) := by
        rw [mostV_lt (by omega)]
        constructor
        · rintro ⟨p, hp, h6⟩
          have hn : p.1 ∈ nums r := hd.perm.mem_iff.1 (List.mem_append.2 (.inl (List.mem_map.2 ⟨p, hp, rfl⟩)))
          refine ⟨p.1, hn, ?_⟩
          have hb := hd.bd _ hp
          rw [AInv.run (ord_of hL) (fun x hx => listed_in hL hx) _ _ hp _ (by omega)]; exact h6
        · rintro ⟨n, hn, h6⟩
          obtain ⟨h1, h2⟩ := dp_Dv hL h0 hn
          rw [h2] at h6
          exact ⟨_, h1, h6⟩
      have e2 : ¬ ((nums r).length : Int) < mostV (nums r) (Dv r ((nums r).length + 1)) := by
        rw [mostV_lt (by omega)]
        rintro ⟨n, hn, h6⟩
        obtain ⟨h1, h2⟩ := dp_Dv hL h0 hn
        have := hd.bd _ h1
        rw [h2] at h6
        simp only at this
        omega
      rw [if_neg e2]
      by_cases c : 6 < mostV (nums r) (Dv r ((nums r).length + 1))
      · rw [if_pos c, if_pos (e1.2 c)]
      · rw [if_neg c, if_neg fun e => c (e1.1 e)]

theorem left_none {r : List Iss} (h : openV r = 0) : (dRun r (nums r).length).2.length = 0 := by
  unfold openV at h
  split at h
  · split at h
    · cases h
    · omega
  · cases h

/-! ### Letters. -/
theorem issOf_succ {i : Nat} (hi : i < r.length) (n : Int) : issOf (r.take (i + 1)) n = if r[i].d = n then issOf (r.take i) n ++ [r[i]] else issOf (r.take i) n := by
  rw [List.take_succ_eq_append_getElem hi, issOf, List.filter_append]
  split
  · rename_i e; rw [List.filter_cons_of_pos (by simpa using e)]; rfl
  · rename_i e; rw [List.filter_cons_of_neg (by simpa using e), List.filter_nil, List.append_nil]; rfl
theorem let_eq (hL : listedB r = true) : ∀ (i : Nat) (hi : i < r.length), r[i].l = ((issOf (r.take (i + 1)) r[i].d).length : Nat)
  | 0, hi => by
    have h0 := listed_ord hL hi
    simp only [ordB, decide_eq_true_eq, at_eq hi] at h0
    rw [h0, issOf_succ hi, if_pos rfl]; simp [issOf]
  | j + 1, hi => by
    have hj : j < r.length := by omega
    have h0 := listed_ord hL hi
    have ih := let_eq hL j hj
    have hO := ord_of hL
    rw [issOf_succ hi, if_pos rfl]
    simp only [ordB, at_eq hi, at_eq hj] at h0
    split at h0
    · cases h0
    · split at h0
      · rename_i h1 h2
        have e : issOf (r.take (j + 1)) r[j + 1].d = [] := by
          rw [issOf, List.filter_eq_nil_iff]
          intro x hx
          obtain ⟨k, hk, rfl⟩ := List.getElem_of_mem hx
          simp only [List.length_take] at hk
          have := hO.mono (i := k) (j := j) (by omega) hj
          rw [at_eq (show k < r.length by omega), at_eq hj] at this
          simp only [List.getElem_take, decide_eq_true_eq]
          omega
        rw [e]
        simpa using h0
      · rename_i h1 h2
        simp only [Bool.and_eq_true, decide_eq_true_eq] at h0
        have e : r[j + 1].d = r[j].d := by omega
        rw [e, h0.1, ih]
        simp
theorem lastN_eq (hL : listedB r = true) (n : Int) : ∀ i, i ≤ r.length → lastN r n i = ((issOf (r.take i) n).length : Nat)
  | 0, _ => by simp [lastN, issOf]
  | i + 1, hi => by
    have hlt : i < r.length := by omega
    have ih := lastN_eq hL n i (by omega)
    rw [lastN, at_eq hlt, issOf_succ hlt]
    split
    · rename_i e
      have := let_eq hL i hlt
      rw [e, issOf_succ hlt, if_pos e] at this
      rw [ih, this]
      simp only [List.length_append, List.length_cons, List.length_nil]
      omega
    · exact ih
theorem last_cnt (hL : listedB r = true) (n : Int) : lastV r n = cntV r n := by
  rw [lastV, lastN_eq hL n _ (Nat.le_refl _), List.take_length]; rfl
theorem cnt_zero (hL : listedB r = true) (n : Int) : cntV r n = 0 ↔ n ∉ nums r := by
  constructor
  · intro h hn
    have := issOf_ne (ord_of hL) hn
    have h2 : (issOf r n).length = 0 := by unfold cntV at h; unfold issOf; omega
    exact this (List.length_eq_zero_iff.1 h2)
  · intro h
    have : issOf r n = [] := by
      rw [issOf, List.filter_eq_nil_iff]
      intro x hx
      obtain ⟨k, hk, rfl⟩ := List.getElem_of_mem hx
      simp only [decide_eq_true_eq]
      intro e
      exact h (e ▸ nums_mem (ord_of hL) hk)
    unfold cntV; unfold issOf at this; rw [this]; rfl

/-! ### What is told. -/
theorem draw_eq (r : List Iss) : drawV r = (if openV r = 0 then nums r else [], openV r) := by
  unfold drawV
  rw [← open_chk]
  split
  · rename_i h; rw [h]
  · rfl
theorem last_eq (r : List Iss) (n : Int) : lastE r n = (if knV r n = 0 then cntV r n else 0, knV r n) := by
  unfold lastE knV
  rw [← open_chk]
  by_cases h : openV r = 0
  · have hL := open_listed h
    simp only [h, if_true, last_cnt hL, cnt_zero hL]
    by_cases c : n ∈ nums r <;> simp [c]
  · simp [h]
theorem dep_eq (r : List Iss) (n : Int) : depV r n = (if knV r n = 0 then dpG (dRun r (nums r).length).1 n else 0, knV r n) := by
  unfold depV knV
  rw [← open_chk]
  by_cases h : openV r = 0
  · have hL := open_listed h
    by_cases c : n ∈ nums r
    · simp [h, c, (dp_Dv hL (left_none h) c).2]
    · simp [h, c]
  · simp [h]
theorem at_eqV (r : List Iss) (d l : Int) : atV r d l = atP r d l := by
  unfold atV atP
  rw [← open_chk]
  split <;> (try cases findN d l r) <;> rfl
end
end Go.Proofs.YtdpmioiamcgfkaaDoor
