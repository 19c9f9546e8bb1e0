/-
  How the program takes the depths: drawings are reached when all of their items are.
-/
import Derived.Test.YtdpmioiamcgfkaaDoorEe
namespace Go.Proofs.YtdpmioiamcgfkaaDoor
open Go.RowKit

/-! Maps with numbers as keys. -/
def dpA (dp : List (Int × Int)) : List (AV × AV) := dp.map fun p => (.int .i64 p.1, .int .i64 p.2)
def lfA (lf : List Int) : List (AV × AV) := lf.map fun n => (.int .i64 n, .bool true)
def dpLk (n : Int) : List (Int × Int) → Option Int
  | [] => none
  | p :: r => if n = p.1 then some p.2 else dpLk n r
def dpG (dp : List (Int × Int)) (n : Int) : Int := (dpLk n dp).getD 0

theorem find_dp (n : Int) : ∀ dp : List (Int × Int), ∃ o : Option Nat, (KK.i .i64).find (.int .i64 n) (dpA dp) = some o ∧ match o with
    | some j => ∃ v, dp[j]? = some (n, v) ∧ dpLk n dp = some v
    | none => dpLk n dp = none ∧ ∀ p ∈ dp, p.1 ≠ n
  | [] => ⟨none, rfl, rfl, by simp⟩
  | p :: r => by
    obtain ⟨o, h1, h2⟩ := find_dp n r
    by_cases e : n = p.1
    · refine ⟨some 0, by simp [dpA, KK.find, KK.eq, e], p.2, by simp [e], by simp [dpLk, e]⟩
    · refine ⟨o.map (· + 1), ?_, ?_⟩
      · simp only [dpA, List.map_cons, KK.find, KK.eq, and_self, if_true, e, decide_false]
        rw [show r.map (fun p => (AV.int .i64 p.1, AV.int .i64 p.2)) = dpA r from rfl, h1]; rfl
      · cases o with
        | none => exact ⟨by simp only [dpLk, e, if_false]; exact h2.1, fun q hq => by
            rcases List.mem_cons.1 hq with rfl | hq
            · exact fun h => e h.symm
            · exact h2.2 q hq⟩
        | some j =>
          obtain ⟨v, h3, h4⟩ := h2
          exact ⟨v, by simpa using h3, by simp only [dpLk, e, if_false]; exact h4⟩
theorem get_dp (n : Int) (dp : List (Int × Int)) : (KK.i .i64).get (.int .i64 n) (dpA dp) = some ((dpLk n dp).map fun v => .int .i64 v) := by
  obtain ⟨o, h1, h2⟩ := find_dp n dp
  have hi : (KK.i .i64).is (.int .i64 n) = true := by simp [KK.is]
  unfold KK.get
  rw [if_pos hi, h1]
  cases o with
  | none => simp [h2.1]
  | some j => obtain ⟨v, h3, h4⟩ := h2; simp [dpA, h3, h4]
theorem put_dp {n : Int} (v : Int) {dp : List (Int × Int)} (h : n ∉ dp.map (·.1)) : (KK.i .i64).put (.int .i64 n) (.int .i64 v) (dpA dp) = some (dpA (dp ++ [(n, v)])) := by
  obtain ⟨o, h1, h2⟩ := find_dp n dp
  have hi : (KK.i .i64).is (.int .i64 n) = true := by simp [KK.is]
  unfold KK.put
  rw [if_pos hi, h1]
  cases o with
  | none => simp [dpA]
  | some j =>
    obtain ⟨w, h3, h4⟩ := h2
    exact absurd (List.mem_map.2 ⟨_, List.mem_of_getElem? h3, rfl⟩) h

theorem find_lf (n : Int) : ∀ lf : List Int, ∃ o : Option Nat, (KK.i .i64).find (.int .i64 n) (lfA lf) = some o ∧ match o with
    | some j => lf[j]? = some n ∧ n ∈ lf ∧ lf.eraseIdx j = lf.erase n
    | none => n ∉ lf
  | [] => ⟨none, rfl, by simp⟩
  | x :: r => by
    obtain ⟨o, h1, h2⟩ := find_lf n r
    by_cases e : n = x
    · subst e
      exact ⟨some 0, by simp [lfA, KK.find, KK.eq], by simp⟩
    · refine ⟨o.map (· + 1), ?_, ?_⟩
      · simp only [lfA, List.map_cons, KK.find, KK.eq, and_self, if_true, e, decide_false]
        rw [show r.map (fun n => (AV.int .i64 n, AV.bool true)) = lfA r from rfl, h1]; rfl
      · cases o with
        | none => simp only [Option.map_none, List.mem_cons, not_or]; exact ⟨e, h2⟩
        | some j =>
          obtain ⟨h3, h4, h5⟩ := h2
          refine ⟨by simpa using h3, List.mem_cons_of_mem _ h4, ?_⟩
          simp only [List.eraseIdx_cons_succ, h5]
          rw [List.erase_cons_tail]
          simpa using fun q => e q.symm
theorem get_lf (n : Int) (lf : List Int) : (KK.i .i64).get (.int .i64 n) (lfA lf) = some (if n ∈ lf then some (.bool true) else none) := by
  obtain ⟨o, h1, h2⟩ := find_lf n lf
  have hi : (KK.i .i64).is (.int .i64 n) = true := by simp [KK.is]
  unfold KK.get
  rw [if_pos hi, h1]
  cases o with
  | none => have h2 : n ∉ lf := h2
            simp [h2]
  | some j => obtain ⟨h3, h4, h5⟩ := h2; simp [lfA, h3, h4]
theorem put_lf {n : Int} {lf : List Int} (h : n ∉ lf) : (KK.i .i64).put (.int .i64 n) (.bool true) (lfA lf) = some (lfA (lf ++ [n])) := by
  obtain ⟨o, h1, h2⟩ := find_lf n lf
  have hi : (KK.i .i64).is (.int .i64 n) = true := by simp [KK.is]
  unfold KK.put
  rw [if_pos hi, h1]
  cases o with
  | none => simp [lfA]
  | some j => exact absurd h2.2.1 h
theorem map_eraseIdx {α β : Type} (f : α → β) : ∀ (l : List α) (j : Nat), (l.map f).eraseIdx j = (l.eraseIdx j).map f
  | [], _ => by simp
  | x :: l, 0 => by simp
  | x :: l, j + 1 => by simp [map_eraseIdx f l j]
theorem del_lf {n : Int} {lf : List Int} (h : n ∈ lf) : (KK.i .i64).del (.int .i64 n) (lfA lf) = some (lfA (lf.erase n)) := by
  obtain ⟨o, h1, h2⟩ := find_lf n lf
  have hi : (KK.i .i64).is (.int .i64 n) = true := by simp [KK.is]
  unfold KK.del
  rw [if_pos hi, h1]
  cases o with
  | none => exact absurd h h2
  | some j =>
    obtain ⟨h3, h4, h5⟩ := h2
    simp only [lfA, ← h5]
    rw [map_eraseIdx]

/-! The passes. -/
def rdIt (lf : List Int) (b : Bool) (its : List (Int × Int)) : Bool := its.foldl (fun b y => b && !decide (y.1 ∈ lf)) b
def msIt (dp : List (Int × Int)) (m : Int) (its : List (Int × Int)) : Int := its.foldl (fun m y => max m (dpG dp y.1)) m
def rdN (lf : List Int) (b : Bool) (l : List Iss) : Bool := l.foldl (fun b x => rdIt lf b x.its) b
def msN (dp : List (Int × Int)) (m : Int) (l : List Iss) : Int := l.foldl (fun m x => msIt dp m x.its) m
/-- All issues of a drawing. -/
def issOf (r : List Iss) (n : Int) : List Iss := r.filter (fun x => decide (x.d = n))
def dStep (r : List Iss) (s : List (Int × Int) × List Int) (n : Int) : List (Int × Int) × List Int :=
  if rdN s.2 (decide (n ∈ s.2)) (issOf r n) = true then (s.1 ++ [(n, msN s.1 0 (issOf r n) + 1)], s.2.erase n) else s
def dPass (r : List Iss) (s : List (Int × Int) × List Int) : List (Int × Int) × List Int := (nums r).foldl (dStep r) s
def dRun (r : List Iss) : Nat → List (Int × Int) × List Int
  | 0 => ([], nums r)
  | k + 1 => dPass r (dRun r k)

theorem rdIt_take (lf : List Int) (b : Bool) (its : List (Int × Int)) (k : Nat) (h : k < its.length) : rdIt lf b (its.take (k + 1)) = (rdIt lf b (its.take k) && !decide (its[k].1 ∈ lf)) := by
  rw [List.take_succ_eq_append_getElem h, rdIt, List.foldl_append]; rfl
theorem msIt_take (dp : List (Int × Int)) (m : Int) (its : List (Int × Int)) (k : Nat) (h : k < its.length) : msIt dp m (its.take (k + 1)) = max (msIt dp m (its.take k)) (dpG dp its[k].1) := by
  rw [List.take_succ_eq_append_getElem h, msIt, List.foldl_append]; rfl
theorem rdN_take (lf : List Int) (b : Bool) (l : List Iss) (k : Nat) (h : k < l.length) : rdN lf b (l.take (k + 1)) = rdIt lf (rdN lf b (l.take k)) l[k].its := by
  rw [List.take_succ_eq_append_getElem h, rdN, List.foldl_append]; rfl
theorem msN_take (dp : List (Int × Int)) (m : Int) (l : List Iss) (k : Nat) (h : k < l.length) : msN dp m (l.take (k + 1)) = msIt dp (msN dp m (l.take k)) l[k].its := by
  rw [List.take_succ_eq_append_getElem h, msN, List.foldl_append]; rfl
theorem rdIt_false (lf : List Int) : ∀ its : List (Int × Int), rdIt lf false its = false
  | [] => rfl
  | y :: its => by simp only [rdIt, List.foldl_cons, Bool.false_and]; exact rdIt_false lf its
theorem rdN_false (lf : List Int) : ∀ l : List Iss, rdN lf false l = false
  | [] => rfl
  | x :: l => by simp only [rdN, List.foldl_cons, rdIt_false]; exact rdN_false lf l
theorem rdN_mem {lf : List Int} {n : Int} {l : List Iss} (h : rdN lf (decide (n ∈ lf)) l = true) : n ∈ lf := by
  by_cases e : n ∈ lf
  · exact e
  · rw [decide_eq_false e, rdN_false] at h; cases h

/-- What is kept: each drawing is reached or left; no depth is more than the number of drawings that are reached. -/
structure DInv (r : List Iss) (s : List (Int × Int) × List Int) : Prop where
  perm : (s.1.map (·.1) ++ s.2).Perm (nums r)
  bd : ∀ p ∈ s.1, 1 ≤ p.2 ∧ p.2 ≤ (s.1.length : Nat)

theorem dpLk_mem {n v : Int} : ∀ {dp : List (Int × Int)}, dpLk n dp = some v → (n, v) ∈ dp
  | p :: r, h => by
    simp only [dpLk] at h
    split at h
    · rename_i e; cases h; rw [e]; exact List.mem_cons_self ..
    · exact List.mem_cons_of_mem _ (dpLk_mem h)
theorem dpG_bd {r : List Iss} {s : List (Int × Int) × List Int} (h : DInv r s) (n : Int) : 0 ≤ dpG s.1 n ∧ dpG s.1 n ≤ (s.1.length : Nat) := by
  unfold dpG
  cases e : dpLk n s.1 with
  | none => simp
  | some v => have := h.bd _ (dpLk_mem e); simp only [Option.getD_some]; omega
theorem msIt_bd {r : List Iss} {s : List (Int × Int) × List Int} (h : DInv r s) : ∀ (its : List (Int × Int)) (m : Int), 0 ≤ m → m ≤ (s.1.length : Nat) → 0 ≤ msIt s.1 m its ∧ msIt s.1 m its ≤ (s.1.length : Nat)
  | [], m, h1, h2 => ⟨h1, h2⟩
  | y :: its, m, h1, h2 => by
    have := dpG_bd h y.1
    exact msIt_bd h its (max m (dpG s.1 y.1)) (by omega) (by omega)
theorem msN_bd {r : List Iss} {s : List (Int × Int) × List Int} (h : DInv r s) : ∀ (l : List Iss) (m : Int), 0 ≤ m → m ≤ (s.1.length : Nat) → 0 ≤ msN s.1 m l ∧ msN s.1 m l ≤ (s.1.length : Nat)
  | [], m, h1, h2 => ⟨h1, h2⟩
  | x :: l, m, h1, h2 => by
    have := msIt_bd h x.its m h1 h2
    exact msN_bd h l (msIt s.1 m x.its) this.1 this.2
theorem DInv.len {r : List Iss} {s : List (Int × Int) × List Int} (h : DInv r s) : s.1.length + s.2.length = (nums r).length := by
  have := h.perm.length_eq
  simpa using this
theorem DInv.step {r : List Iss} {s : List (Int × Int) × List Int} (h : DInv r s) (n : Int) : DInv r (dStep r s n) := by
  unfold dStep
  split
  · rename_i hb
    have hm := rdN_mem hb
    have hbd := msN_bd h (issOf r n) 0 (Int.le_refl _) (by omega)
    refine ⟨?_, fun p hp => ?_⟩
    · refine List.Perm.trans ?_ h.perm
      simp only [List.map_append, List.map_cons, List.map_nil, List.append_assoc, List.cons_append, List.nil_append]
      exact (List.perm_cons_erase hm).symm.append_left _
    · simp only [List.length_append, List.length_cons, List.length_nil]
      rcases List.mem_append.1 hp with hp | hp
      · have := h.bd p hp; omega
      · simp only [List.mem_singleton] at hp; subst hp; simp only; omega
  · exact h
theorem DInv.fold {r : List Iss} : ∀ (l : List Int) {s : List (Int × Int) × List Int}, DInv r s → DInv r (l.foldl (dStep r) s)
  | [], s, h => h
  | n :: l, s, h => DInv.fold l (h.step n)
theorem DInv.run (r : List Iss) : ∀ k, DInv r (dRun r k)
  | 0 => ⟨by simp [dRun], by simp [dRun]⟩
  | k + 1 => (DInv.run r k).fold (nums r)
theorem fold_take {α β : Type} (f : β → α → β) (s : β) (l : List α) (k : Nat) (h : k < l.length) : (l.take (k + 1)).foldl f s = f ((l.take k).foldl f s) l[k] := by
  rw [List.take_succ_eq_append_getElem h, List.foldl_append]; rfl

end Go.Proofs.YtdpmioiamcgfkaaDoor
