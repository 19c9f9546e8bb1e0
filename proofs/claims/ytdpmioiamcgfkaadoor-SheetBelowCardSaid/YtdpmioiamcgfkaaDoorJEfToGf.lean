/-
  How the program takes the depths: drawings are reached when all of their items are.
-/
import Derived.Test.YtdpmioiamcgfkaaDoorJRcAToEe
import Derived.Test.YtdpmioiamcgfkaaDoorJAmOToMath
import Derived.Test.YtdpmioiamcgfkaaDoorJRcLToRcB
set_option linter.unusedSimpArgs false
set_option linter.unusedVariables false
namespace Go.Proofs.YtdpmioiamcgfkaaDoor
open Go.RowKit

/-! Maps with numbers as keys. -/
def dpA (dp : List (Int × Int)) : List (AV × AV) := dp.map fun p => (.int .i64 p.1, .int .i64 p.2)
def lfA (lf : List Int) : List (AV × AV) := lf.map fun n => (.int .i64 n, .bool true)
def dpLk (n : Int) : List (Int × Int) → Option Int
  | [] => none
  | p :: r => if n = p.1 then some p.2 else dpLk n r
def dpG (dp : List (Int × Int)) (n : Int) : Int := (dpLk n dp).getD 0

theorem find_dp (n : Int) : ∀ dp : List (Int × Int), ∃ o : Option Nat, (KK.i .i64).find (.int .i64 n) (dpA dp) = some o ∧ match o with
    | some j => ∃ v, dp[j]? = some (n, v) ∧ dpLk n dp = some v
    | none => dpLk n dp = none ∧ ∀ p ∈ dp, p.1 ≠ n
  | [] => ⟨none, rfl, rfl, by simp⟩
  | p :: r => by
    obtain ⟨o, h1, h2⟩ := find_dp n r
    by_cases e : n = p.1
    · refine ⟨some 0, by simp [dpA, KK.find, KK.eq, e], p.2, by simp [e], by simp [dpLk, e]⟩
    · refine ⟨o.map (· + 1), ?_, ?_⟩
      · simp only [dpA, List.map_cons, KK.find, KK.eq, and_self, if_true, e, decide_false]
        rw [show r.map (fun p => (AV.int .i64 p.1, AV.int .i64 p.2)) = dpA r from rfl, h1]; rfl
      · cases o with
        | none => exact ⟨by simp only [dpLk, e, if_false]; exact h2.1, fun q hq => by
            rcases List.mem_cons.1 hq with rfl | hq
            · exact fun h => e h.symm
            · exact h2.2 q hq⟩
        | some j =>
          obtain ⟨v, h3, h4⟩ := h2
          exact ⟨v, by simpa using h3, by simp only [dpLk, e, if_false]; exact h4⟩
theorem get_dp (n : Int) (dp : List (Int × Int)) : (KK.i .i64).get (.int .i64 n) (dpA dp) = some ((dpLk n dp).map fun v => .int .i64 v) := by
  obtain ⟨o, h1, h2⟩ := find_dp n dp
  have hi : (KK.i .i64).is (.int .i64 n) = true := by simp [KK.is]
  unfold KK.get
  rw [if_pos hi, h1]
  cases o with
  | none => simp [h2.1]
  | some j => obtain ⟨v, h3, h4⟩ := h2; simp [dpA, h3, h4]
theorem put_dp {n : Int} (v : Int) {dp : List (Int × Int)} (h : n ∉ dp.map (·.1)) : (KK.i .i64).put (.int .i64 n) (.int .i64 v) (dpA dp) = some (dpA (dp ++ [(n, v)])) := by
  obtain ⟨o, h1, h2⟩ := find_dp n dp
  have hi : (KK.i .i64).is (.int .i64 n) = true := by simp [KK.is]
  unfold KK.put
  rw [if_pos hi, h1]
  cases o with
  | none => simp [dpA]
  | some j =>
    obtain ⟨w, h3, h4⟩ := h2
    exact absurd (List.mem_map.2 ⟨_, List.mem_of_getElem? h3, rfl⟩) h

theorem find_lf (n : Int) : ∀ lf : List Int, ∃ o : Option Nat, (KK.i .i64).find (.int .i64 n) (lfA lf) = some o ∧ match o with
    | some j => lf[j]? = some n ∧ n ∈ lf ∧ lf.eraseIdx j = lf.erase n
    | none => n ∉ lf
  | [] => ⟨none, rfl, by simp⟩
  | x :: r => by
    obtain ⟨o, h1, h2⟩ := find_lf n r
    by_cases e : n = x
    · subst e
      exact ⟨some 0, by simp [lfA, KK.find, KK.eq], by simp⟩
    · refine ⟨o.map (· + 1), ?_, ?_⟩
      · simp only [lfA, List.map_cons, KK.find, KK.eq, and_self, if_true, e, decide_false]
        rw [show r.map (fun n => (AV.int .i64 n, AV.bool true)) = lfA r from rfl, h1]; rfl
      · cases o with
        | none => simp only [Option.map_none, List.mem_cons, not_or]; exact ⟨e, h2⟩
        | some j =>
          obtain ⟨h3, h4, h5⟩ := h2
          refine ⟨by simpa using h3, List.mem_cons_of_mem _ h4, ?_⟩
          simp only [List.eraseIdx_cons_succ, h5]
          rw [List.erase_cons_tail]
          simpa using fun q => e q.symm
theorem get_lf (n : Int) (lf : List Int) : (KK.i .i64).get (.int .i64 n) (lfA lf) = some (if n ∈ lf then some (.bool true) else none) := by
  obtain ⟨o, h1, h2⟩ := find_lf n lf
  have hi : (KK.i .i64).is (.int .i64 n) = true := by simp [KK.is]
  unfold KK.get
  rw [if_pos hi, h1]
  cases o with
  | none => have h2 : n ∉ lf := h2
            simp [h2]
  | some j => obtain ⟨h3, h4, h5⟩ := h2; simp [lfA, h3, h4]
theorem put_lf {n : Int} {lf : List Int} (h : n ∉ lf) : (KK.i .i64).put (.int .i64 n) (.bool true) (lfA lf) = some (lfA (lf ++ [n])) := by
  obtain ⟨o, h1, h2⟩ := find_lf n lf
  have hi : (KK.i .i64).is (.int .i64 n) = true := by simp [KK.is]
  unfold KK.put
  rw [if_pos hi, h1]
  cases o with
  | none => simp [lfA]
  | some j => exact absurd h2.2.1 h
theorem map_eraseIdx {α β : Type} (f : α → β) : ∀ (l : List α) (j : Nat), (l.map f).eraseIdx j = (l.eraseIdx j).map f
  | [], _ => by simp
  | x :: l, 0 => by simp
  | x :: l, j + 1 => by simp [map_eraseIdx f l j]
theorem del_lf {n : Int} {lf : List Int} (h : n ∈ lf) : (KK.i .i64).del (.int .i64 n) (lfA lf) = some (lfA (lf.erase n)) := by
  obtain ⟨o, h1, h2⟩ := find_lf n lf
  have hi : (KK.i .i64).is (.int .i64 n) = true := by simp [KK.is]
  unfold KK.del
  rw [if_pos hi, h1]
  cases o with
  | none => exact absurd h h2
  | some j =>
    obtain ⟨h3, h4, h5⟩ := h2
    simp only [lfA, ← h5]
    rw [map_eraseIdx]

/-! The passes. -/
def rdIt (lf : List Int) (b : Bool) (its : List (Int × Int)) : Bool := its.foldl (fun b y => b && !decide (y.1 ∈ lf)) b
def msIt (dp : List (Int × Int)) (m : Int) (its : List (Int × Int)) : Int := its.foldl (fun m y => max m (dpG dp y.1)) m
def rdN (lf : List Int) (b : Bool) (l : List Iss) : Bool := l.foldl (fun b x => rdIt lf b x.its) b
def msN (dp : List (Int × Int)) (m : Int) (l : List Iss) : Int := l.foldl (fun m x => msIt dp m x.its) m
/-- All issues of a drawing. -/
def issOf (r : List Iss) (n : Int) : List Iss := r.filter (fun x => decide (x.d = n))
def dStep (r : List Iss) (s : List (Int × Int) × List Int) (n : Int) : List (Int × Int) × List Int :=
  if rdN s.2 (decide (n ∈ s.2)) (issOf r n) = true then (s.1 ++ [(n, msN s.1 0 (issOf r n) + 1)], s.2.erase n) else s
def dPass (r : List Iss) (s : List (Int × Int) × List Int) : List (Int × Int) × List Int := (nums r).foldl (dStep r) s
def dRun (r : List Iss) : Nat → List (Int × Int) × List Int
  | 0 => ([], nums r)
  | k + 1 => dPass r (dRun r k)

theorem rdIt_take (lf : List Int) (b : Bool) (its : List (Int × Int)) (k : Nat) (h : k < its.length) : rdIt lf b (its.take (k + 1)) = (rdIt lf b (its.take k) && !decide (its[k].1 ∈ lf)) := by
  rw [List.take_succ_eq_append_getElem h, rdIt, List.foldl_append]; rfl
theorem msIt_take (dp : List (Int × Int)) (m : Int) (its : List (Int × Int)) (k : Nat) (h : k < its.length) : msIt dp m (its.take (k + 1)) = max (msIt dp m (its.take k)) (dpG dp its[k].1) := by
  rw [List.take_succ_eq_append_getElem h, msIt, List.foldl_append]; rfl
theorem rdN_take (lf : List Int) (b : Bool) (l : List Iss) (k : Nat) (h : k < l.length) : rdN lf b (l.take (k + 1)) = rdIt lf (rdN lf b (l.take k)) l[k].its := by
  rw [List.take_succ_eq_append_getElem h, rdN, List.foldl_append]; rfl
theorem msN_take (dp : List (Int × Int)) (m : Int) (l : List Iss) (k : Nat) (h : k < l.length) : msN dp m (l.take (k + 1)) = msIt dp (msN dp m (l.take k)) l[k].its := by
  rw [List.take_succ_eq_append_getElem h, msN, List.foldl_append]; rfl
theorem rdIt_false (lf : List Int) : ∀ its : List (Int × Int), rdIt lf false its = false
  | [] => rfl
  | y :: its => by simp only [rdIt, List.foldl_cons, Bool.false_and]; exact rdIt_false lf its
theorem rdN_false (lf : List Int) : ∀ l : List Iss, rdN lf false l = false
  | [] => rfl
  | x :: l => by simp only [rdN, List.foldl_cons, rdIt_false]; exact rdN_false lf l
theorem rdN_mem {lf : List Int} {n : Int} {l : List Iss} (h : rdN lf (decide (n ∈ lf)) l = true) : n ∈ lf := by
  by_cases e : n ∈ lf
  · exact e
  · rw [decide_eq_false e, rdN_false] at h; cases h

/-- What is kept: each drawing is reached or left; no depth is more than the number of drawings that are reached. -/
structure DInv (r : List Iss) (s : List (Int × Int) × List Int) : Prop where
  perm : (s.1.map (·.1) ++ s.2).Perm (nums r)
  bd : ∀ p ∈ s.1, 1 ≤ p.2 ∧ p.2 ≤ (s.1.length : Nat)

theorem dpLk_mem {n v : Int} : ∀ {dp : List (Int × Int)}, dpLk n dp = some v → (n, v) ∈ dp
  | p :: r, h => by
    simp only [dpLk] at h
    split at h
    · rename_i e; cases h; rw [e]; exact List.mem_cons_self ..
    · exact List.mem_cons_of_mem _ (dpLk_mem h)
theorem dpG_bd {r : List Iss} {s : List (Int × Int) × List Int} (h : DInv r s) (n : Int) : 0 ≤ dpG s.1 n ∧ dpG s.1 n ≤ (s.1.length : Nat) := by
  unfold dpG
  cases e : dpLk n s.1 with
  | none => simp
  | some v => have := h.bd _ (dpLk_mem e); simp only [Option.getD_some]; omega
theorem msIt_bd {r : List Iss} {s : List (Int × Int) × List Int} (h : DInv r s) : ∀ (its : List (Int × Int)) (m : Int), 0 ≤ m → m ≤ (s.1.length : Nat) → 0 ≤ msIt s.1 m its ∧ msIt s.1 m its ≤ (s.1.length : Nat)
  | [], m, h1, h2 => ⟨h1, h2⟩
  | y :: its, m, h1, h2 => by
    have := dpG_bd h y.1
    exact msIt_bd h its (max m (dpG s.1 y.1)) (by omega) (by omega)
theorem msN_bd {r : List Iss} {s : List (Int × Int) × List Int} (h : DInv r s) : ∀ (l : List Iss) (m : Int), 0 ≤ m → m ≤ (s.1.length : Nat) → 0 ≤ msN s.1 m l ∧ msN s.1 m l ≤ (s.1.length : Nat)
  | [], m, h1, h2 => ⟨h1, h2⟩
  | x :: l, m, h1, h2 => by
    have := msIt_bd h x.its m h1 h2
    exact msN_bd h l (msIt s.1 m x.its) this.1 this.2
theorem DInv.len {r : List Iss} {s : List (Int × Int) × List Int} (h : DInv r s) : s.1.length + s.2.length = (nums r).length := by
  have := h.perm.length_eq
  simpa using this
theorem DInv.step {r : List Iss} {s : List (Int × Int) × List Int} (h : DInv r s) (n : Int) : DInv r (dStep r s n) := by
  unfold dStep
  split
  · rename_i hb
    have hm := rdN_mem hb
    have hbd := msN_bd h (issOf r n) 0 (Int.le_refl _) (by omega)
    refine ⟨?_, fun p hp => ?_⟩
    · refine List.Perm.trans ?_ h.perm
      simp only [List.map_append, List.map_cons, List.map_nil, List.append_assoc, List.cons_append, List.nil_append]
      exact (List.perm_cons_erase hm).symm.append_left _
    · simp only [List.length_append, List.length_cons, List.length_nil]
      rcases List.mem_append.1 hp with hp | hp
      · have := h.bd p hp; omega
      · simp only [List.mem_singleton] at hp; subst hp; simp only; omega
  · exact h
theorem DInv.fold {r : List Iss} : ∀ (l : List Int) {s : List (Int × Int) × List Int}, DInv r s → DInv r (l.foldl (dStep r) s)
  | [], s, h => h
  | n :: l, s, h => DInv.fold l (h.step n)
theorem DInv.run (r : List Iss) : ∀ k, DInv r (dRun r k)
  | 0 => ⟨by simp [dRun], by simp [dRun]⟩
  | k + 1 => (DInv.run r k).fold (nums r)
theorem fold_take {α β : Type} (f : β → α → β) (s : β) (l : List α) (k : Nat) (h : k < l.length) : (l.take (k + 1)).foldl f s = f ((l.take k).foldl f s) l[k] := by
  rw [List.take_succ_eq_append_getElem h, List.foldl_append]; rfl

end Go.Proofs.YtdpmioiamcgfkaaDoor

/-! How the program takes the depths: the walk. -/
namespace Go.Proofs.YtdpmioiamcgfkaaDoor
open Go.RowKit

section
variable {G : Nat → Option (List AV)}

set_option maxRecDepth 8000 in
theorem depths_pc (r : List Iss) (hw : Wf r) (hO : Ord r) (hn : (nums r).length ≤ 20) : PC Tryd.prog G 75 [bkA r (nums r)] (.tup [.vmap (dpA (dRun r (nums r).length).1), .bool (decide (0 < (dRun r (nums r).length).2.length))]) := by
  (refine pc_sheet_book_depths (Nat.le_of_ble_eq_true rfl) fun R hG hrd => GO_AR mixed 1000 ?_; subst hG)
  have hs : (r.map (·.d)).Pairwise (· ≤ ·) := by
    rw [List.pairwise_map, List.pairwise_iff_getElem]
    intro i j hi hj hij
    have := hO.mono (Nat.le_of_lt hij) hj
    rwa [at_eq hi, at_eq hj] at this
  have hl := hw.1.1
  have hnd := nums_nodup hO
  simp -implicitDefEqProofs [rc_sheet_book_depths, rr_sheet_book_depths, bkA]
  refine AR_for (fun i => ⟨[(22, .int .i64 i), (21, .int .i64 (nums r).length), (20, .vsl ((nums r).map ia)), (5, .ptr 5 0), (4, .ptr 4 0), (0, bkA r (nums r))], [(15, .mp []), (4, .box [.mp 15]), (16, .mp (lfA ((nums r).take i))), (5, .box [.mp 16])]⟩) (fun _ => True) (nums r).length (by (first | exact Weak.tm (by simp [lk, lfA, bkA]) | exact Weak.sub (by simp [lk, keptA, AV.keys, lfA, bkA]) (by simp [lk, keptO, keptA, AV.keys, lfA, bkA]))) trivial ?_ ?_
  · intro i hi _
    refine GO_AR mixed 1000 ?_
    have w1 : IntKind.i64.wrap ((i : Int) + 1) = ((i + 1 : Nat) : Int) := wrapI (by omega) (by omega)
    have hni : (nums r)[i] ∉ (nums r).take i := by
      intro hm
      obtain ⟨j, hj, e⟩ := List.getElem_of_mem hm
      simp only [List.length_take] at hj
      simp only [List.getElem_take] at e
      have := (List.getElem_inj hnd).1 e
      omega
    have hp := put_lf hni
    rw [← List.take_succ_eq_append_getElem hi] at hp
    simp -implicitDefEqProofs [hi, w1, ia, hp]
    exact (by (first | exact Weak.tm (by simp [lk, bkA]) | exact Weak.sub (by simp [lk, keptA, AV.keys, bkA]) (by simp [lk, keptO, keptA, AV.keys, bkA])))
  · intro _
    refine GO_AR mixed 1000 ?_
    simp -implicitDefEqProofs []
    refine GO_ret mixed 1000 ?_
    simp -implicitDefEqProofs [bkA]
    refine AR_for (fun k => ⟨[(34, .int .i64 k), (33, .int .i64 (nums r).length), (5, .ptr 5 0), (4, .ptr 4 0), (0, bkA r (nums r))], [(15, .mp (dpA (dRun r k).1)), (4, .box [.mp 15]), (16, .mp (lfA (dRun r k).2)), (5, .box [.mp 16])]⟩) (fun _ => True) (nums r).length (by (first | exact Weak.tm (by simp [lk, dRun, dpA, bkA]) | exact Weak.sub (by simp [lk, keptA, AV.keys, dRun, dpA, bkA]) (by simp [lk, keptO, keptA, AV.keys, dRun, dpA, bkA]))) trivial ?_ ?_
    · intro k hk _
      refine GO_AR mixed 1000 ?_
      have w1 : IntKind.i64.wrap ((k : Int) + 1) = ((k + 1 : Nat) : Int) := wrapI (by omega) (by omega)
      simp -implicitDefEqProofs [hk, bkA]
      refine AR_for (fun i => ⟨[(41, .int .i64 i), (40, .int .i64 (nums r).length), (39, .vsl ((nums r).map ia)), (34, .int .i64 k), (33, .int .i64 (nums r).length), (5, .ptr 5 0), (4, .ptr 4 0), (0, bkA r (nums r))],
        [(15, .mp (dpA (((nums r).take i).foldl (dStep r) (dRun r k)).1)), (4, .box [.mp 15]), (16, .mp (lfA (((nums r).take i).foldl (dStep r) (dRun r k)).2)), (5, .box [.mp 16])]⟩) (fun _ => True) (nums r).length (by (first | exact Weak.tm (by simp [lk, bkA]) | exact Weak.sub (by simp [lk, keptA, AV.keys, bkA]) (by simp [lk, keptO, keptA, AV.keys, bkA]))) trivial ?_ ?_
      · intro i hi _
        refine GO_AR mixed 1000 ?_
        have w2 : IntKind.i64.wrap ((i : Int) + 1) = ((i + 1 : Nat) : Int) := wrapI (by omega) (by omega)
        obtain ⟨s, hsd⟩ : ∃ s, s = ((nums r).take i).foldl (dStep r) (dRun r k) := ⟨_, rfl⟩
        have hI : DInv r s := by rw [hsd]; exact (DInv.run r k).fold _
        have hst := fold_take (dStep r) (dRun r k) (nums r) i hi
        rw [← hsd] at hst ⊢
        obtain ⟨n, hne⟩ : ∃ n, n = (nums r)[i] := ⟨_, rfl⟩
        rw [← hne] at hst
        have hgl := get_lf n s.2
        cases hm : decide (n ∈ s.2)
        · have hm' : ¬ n ∈ s.2 := of_decide_eq_false hm
          rw [if_neg hm'] at hgl
          simp -implicitDefEqProofs [hi, ia, ← hne, hgl]
          refine ⟨rfl, ?_⟩
          (first | refine CallK.of (issues_pc r (nums r) n) (by simp) ?_ | refine CallD.of (issues_pc r (nums r) n) (by simp) ?_)
          simp -implicitDefEqProofs []
          refine AR_rngf hrd (issuesIt r n (.vsl ((nums r).map ia)) hs hl) (by simp [evA, St.tmp, lk, bkA]) (by simp [AV.pure]) (fun k => k - 1000) [(4, .ptr 1004 0), (5, .ptr 1005 0), (10, .ptr 1010 0), (11, .ptr 1011 0)]
            (fun q => [(1015, .mp (dpA s.1)), (1004, .box [.mp 1015]), (1016, .mp (lfA s.2)), (1005, .box [.mp 1016]), (1010, .box [.int .i64 (msN s.1 0 ((issOf r n).take q))]), (1011, .box [.bool (rdN s.2 false ((issOf r n).take q))])])
            [1015, 1004, 1016, 1005, 1010, 1011] (fun _ => True) trivial (fun _ => rfl) (by simp) (by simp) (by simp [setsB, St.set, putO, AObj.ren, AV.ren, dpA, lfA, msN, rdN, Function.comp_def]) (by simp [keptO, keptA, AV.keys, dpA, lfA, lk]) (by simp [lk, AV.ren, AV.keys]) ?_ ?_
          · intro q x hx _ R' hG hN
            obtain ⟨y, hq, hy, rfl⟩ : ∃ y, ∃ hq : q < (issOf r n).length, (issOf r n)[q] = y ∧ x = .agg (isa y) := by
              simp only [elsOf, List.getElem?_map, Option.map_eq_some_iff] at hx
              obtain ⟨y, h1, h2⟩ := hx
              obtain ⟨h3, h4⟩ := List.getElem?_eq_some_iff.1 h1
              exact ⟨y, h3, h4, h2.symm⟩
            have hyr : y ∈ r := by rw [← hy]; exact (List.mem_filter.1 (List.getElem_mem hq)).1
            have hyl := (hw.1.2 y hyr).1
            unfold Sml at hyl
            have tm := msN_take s.1 0 (issOf r n) q hq
            have tr := rdN_take s.2 false (issOf r n) q hq
            rw [hy] at tm tr
            generalize msN s.1 0 ((issOf r n).take q) = m0 at tm ⊢
            generalize rdN s.2 false ((issOf r n).take q) = b0 at tr ⊢
            refine GO_AR mixed 1000 ?_
            simp -implicitDefEqProofs [isa]
            intro R'' hG'' hN''
            refine GO_AR mixed 1000 ?_
            simp -implicitDefEqProofs []
            refine AR_for (fun m => ⟨[(55, .int .i64 m), (54, .int .i64 y.its.length), (53, .vsl (y.its.map ita)), (12, .ptr 12 0), (4, .ptr 1004 0), (5, .ptr 1005 0), (10, .ptr 1010 0), (11, .ptr 1011 0)],
              [(1015, .mp (dpA s.1)), (1004, .box [.mp 1015]), (1016, .mp (lfA s.2)), (1005, .box [.mp 1016]), (1010, .box [.int .i64 (msIt s.1 m0 (y.its.take m))]), (1011, .box [.bool (rdIt s.2 b0 (y.its.take m))]), (12, .box (isa y))]⟩) (fun _ => True) y.its.length (by (first | exact Weak.tm (by simp [lk, isa, dpA, lfA, msIt, rdIt]) | exact Weak.sub (by simp [lk, keptA, AV.keys, isa, dpA, lfA, msIt, rdIt]) (by simp [lk, keptO, keptA, AV.keys, isa, dpA, lfA, msIt, rdIt]))) trivial ?_ ?_
            · intro m hm _
              refine GO_AR mixed 1000 ?_
              have w3 : IntKind.i64.wrap ((m : Int) + 1) = ((m + 1 : Nat) : Int) := wrapI (by omega) (by omega)
              have um := msIt_take s.1 m0 y.its m hm
              have ur := rdIt_take s.2 b0 y.its m hm
              generalize msIt s.1 m0 (y.its.take m) = m1 at um ⊢
              generalize rdIt s.2 b0 (y.its.take m) = b1 at ur ⊢
              have gd := get_dp y.its[m].1 s.1
              have gl := get_lf y.its[m].1 s.2
              have wkE : ∀ c1 c2 : Prop, c1 → c2 → c1 ∧ c2 := fun _ _ a b => ⟨a, b⟩
              cases b1
              · simp only [Bool.false_and] at ur
                cases hk1 : dpLk y.its[m].1 s.1 with
                | none =>
                  rw [hk1] at gd
                  simp only [dpG, hk1, Option.getD_none] at um
                  simp -implicitDefEqProofs [hm, ita, w3, gd]
                  exact Weak.sub (by simp [lk, keptA, AV.keys]) (by simp [lk, keptO, keptA, AV.keys, dpA, lfA, um, ur, isa])
                | some v =>
                  rw [hk1] at gd
                  simp only [dpG, hk1, Option.getD_some] at um
                  simp -implicitDefEqProofs [hm, ita, w3, gd]
                  exact Weak.sub (by simp [lk, keptA, AV.keys]) (by simp [lk, keptO, keptA, AV.keys, dpA, lfA, um, ur, isa])
              · by_cases hin : y.its[m].1 ∈ s.2
                · rw [if_pos hin] at gl
                  simp only [hin, decide_true, Bool.not_true, Bool.and_false] at ur
                  cases hk1 : dpLk y.its[m].1 s.1 with
                  | none =>
                    rw [hk1] at gd
                    simp only [dpG, hk1, Option.getD_none] at um
                    simp -implicitDefEqProofs [hm, ita, w3, gd, gl]
                    exact Weak.sub (by simp [lk, keptA, AV.keys]) (by simp [lk, keptO, keptA, AV.keys, dpA, lfA, um, ur, isa])
                  | some v =>
                    rw [hk1] at gd
                    simp only [dpG, hk1, Option.getD_some] at um
                    simp -implicitDefEqProofs [hm, ita, w3, gd, gl]
                    exact Weak.sub (by simp [lk, keptA, AV.keys]) (by simp [lk, keptO, keptA, AV.keys, dpA, lfA, um, ur, isa])
                · rw [if_neg hin] at gl
                  simp only [hin, decide_false, Bool.not_false, Bool.and_true] at ur
                  cases hk1 : dpLk y.its[m].1 s.1 with
                  | none =>
                    rw [hk1] at gd
                    simp only [dpG, hk1, Option.getD_none] at um
                    simp -implicitDefEqProofs [hm, ita, w3, gd, gl]
                    exact Weak.sub (by simp [lk, keptA, AV.keys]) (by simp [lk, keptO, keptA, AV.keys, dpA, lfA, um, ur, isa])
                  | some v =>
                    rw [hk1] at gd
                    simp only [dpG, hk1, Option.getD_some] at um
                    simp -implicitDefEqProofs [hm, ita, w3, gd, gl]
                    exact Weak.sub (by simp [lk, keptA, AV.keys]) (by simp [lk, keptO, keptA, AV.keys, dpA, lfA, um, ur, isa])
            · intro _
              refine GO_AR mixed 1000 ?_
              simp -implicitDefEqProofs []
              refine GO_ret mixed 1000 ?_
              simp -implicitDefEqProofs [RndB, frzSt, newK, frzO, frzA, frz, AV.keys, tm, tr, dpA, lfA, Function.comp_def]
              try trivial
          · intro _
            have hel : (elsOf r n).length = (issOf r n).length := by simp [elsOf, issOf]
            have etk : (issOf r n).take (issOf r n).length = issOf r n := List.take_of_length_le (Nat.le_refl _)
            have hbd := msN_bd hI (issOf r n) 0 (Int.le_refl _) (by omega)
            have hlen := hI.len
            have w4 : IntKind.i64.wrap (msN s.1 0 (issOf r n) + 1) = msN s.1 0 (issOf r n) + 1 := wrapI (by omega) (by omega)
            have rdpA : ∀ dp, AObj.ren (fun k => k - 1000) (.mp (dpA dp)) = .mp (dpA dp) := fun dp => by simp [AObj.ren, dpA, AV.ren, Function.comp_def]
            have rlfA : ∀ lf, AObj.ren (fun k => k - 1000) (.mp (lfA lf)) = .mp (lfA lf) := fun lf => by simp [AObj.ren, lfA, AV.ren, Function.comp_def]
            have rbx : ∀ cs, AObj.ren (fun k => k - 1000) (.box cs) = .box (cs.map (AV.ren fun k => k - 1000)) := fun _ => rfl
            cases hrd2 : rdN s.2 false (issOf r n)
            · have hst2 : dStep r s n = s := by simp [dStep, hm, hrd2]
              rw [hst2] at hst
              simp -implicitDefEqProofs [setsB, rdpA, rlfA, rbx, AV.ren, hel, etk, hrd2]
              refine GO_ret mixed 1000 ?_
              simp -implicitDefEqProofs [w2]
              rw [hst]
              exact Weak.sub (by simp [lk, keptA, AV.keys, bkA]) (by simp [lk, keptO, keptA, AV.keys, dpA, lfA])
            · have hmem : n ∈ s.2 := rdN_mem (by rw [hm]; exact hrd2)
              have hst2 : dStep r s n = (s.1 ++ [(n, msN s.1 0 (issOf r n) + 1)], s.2.erase n) := by simp [dStep, hm, hrd2]
              rw [hst2] at hst
              have hnk : n ∉ s.1.map (·.1) := fun hin => by
                have := (List.nodup_append.1 (hI.perm.nodup_iff.2 hnd)).2.2 n hin n hmem
                exact this rfl
              have pd := put_dp (msN s.1 0 (issOf r n) + 1) hnk
              have dl := del_lf hmem
              simp -implicitDefEqProofs [setsB, rdpA, rlfA, rbx, AV.ren, hel, etk, hrd2]
              refine GO_ret mixed 1000 ?_
              simp -implicitDefEqProofs [w2, w4, pd, dl]
              rw [hst]
              exact Weak.sub (by simp [lk, keptA, AV.keys, bkA]) (by simp [lk, keptO, keptA, AV.keys, dpA, lfA])
        · have hm' : n ∈ s.2 := of_decide_eq_true hm
          rw [if_pos hm'] at hgl
          simp -implicitDefEqProofs [hi, ia, ← hne, hgl]
          refine ⟨rfl, ?_⟩
          (first | refine CallK.of (issues_pc r (nums r) n) (by simp) ?_ | refine CallD.of (issues_pc r (nums r) n) (by simp) ?_)
          simp -implicitDefEqProofs []
          refine AR_rngf hrd (issuesIt r n (.vsl ((nums r).map ia)) hs hl) (by simp [evA, St.tmp, lk, bkA]) (by simp [AV.pure]) (fun k => k - 1000) [(4, .ptr 1004 0), (5, .ptr 1005 0), (10, .ptr 1010 0), (11, .ptr 1011 0)]
            (fun q => [(1015, .mp (dpA s.1)), (1004, .box [.mp 1015]), (1016, .mp (lfA s.2)), (1005, .box [.mp 1016]), (1010, .box [.int .i64 (msN s.1 0 ((issOf r n).take q))]), (1011, .box [.bool (rdN s.2 true ((issOf r n).take q))])])
            [1015, 1004, 1016, 1005, 1010, 1011] (fun _ => True) trivial (fun _ => rfl) (by simp) (by simp) (by simp [setsB, St.set, putO, AObj.ren, AV.ren, dpA, lfA, msN, rdN, Function.comp_def]) (by simp [keptO, keptA, AV.keys, dpA, lfA, lk]) (by simp [lk, AV.ren, AV.keys]) ?_ ?_
          · intro q x hx _ R' hG hN
            obtain ⟨y, hq, hy, rfl⟩ : ∃ y, ∃ hq : q < (issOf r n).length, (issOf r n)[q] = y ∧ x = .agg (isa y) := by
              simp only [elsOf, List.getElem?_map, Option.map_eq_some_iff] at hx
              obtain ⟨y, h1, h2⟩ := hx
              obtain ⟨h3, h4⟩ := List.getElem?_eq_some_iff.1 h1
              exact ⟨y, h3, h4, h2.symm⟩
            have hyr : y ∈ r := by rw [← hy]; exact (List.mem_filter.1 (List.getElem_mem hq)).1
            have hyl := (hw.1.2 y hyr).1
            unfold Sml at hyl
            have tm := msN_take s.1 0 (issOf r n) q hq
            have tr := rdN_take s.2 true (issOf r n) q hq
            rw [hy] at tm tr
            generalize msN s.1 0 ((issOf r n).take q) = m0 at tm ⊢
            generalize rdN s.2 true ((issOf r n).take q) = b0 at tr ⊢
            refine GO_AR mixed 1000 ?_
            simp -implicitDefEqProofs [isa]
            intro R'' hG'' hN''
            refine GO_AR mixed 1000 ?_
            simp -implicitDefEqProofs []
            refine AR_for (fun m => ⟨[(55, .int .i64 m), (54, .int .i64 y.its.length), (53, .vsl (y.its.map ita)), (12, .ptr 12 0), (4, .ptr 1004 0), (5, .ptr 1005 0), (10, .ptr 1010 0), (11, .ptr 1011 0)],
              [(1015, .mp (dpA s.1)), (1004, .box [.mp 1015]), (1016, .mp (lfA s.2)), (1005, .box [.mp 1016]), (1010, .box [.int .i64 (msIt s.1 m0 (y.its.take m))]), (1011, .box [.bool (rdIt s.2 b0 (y.its.take m))]), (12, .box (isa y))]⟩) (fun _ => True) y.its.length (by (first | exact Weak.tm (by simp [lk, isa, dpA, lfA, msIt, rdIt]) | exact Weak.sub (by simp [lk, keptA, AV.keys, isa, dpA, lfA, msIt, rdIt]) (by simp [lk, keptO, keptA, AV.keys, isa, dpA, lfA, msIt, rdIt]))) trivial ?_ ?_
            · intro m hm _
              refine GO_AR mixed 1000 ?_
              have w3 : IntKind.i64.wrap ((m : Int) + 1) = ((m + 1 : Nat) : Int) := wrapI (by omega) (by omega)
              have um := msIt_take s.1 m0 y.its m hm
              have ur := rdIt_take s.2 b0 y.its m hm
              generalize msIt s.1 m0 (y.its.take m) = m1 at um ⊢
              generalize rdIt s.2 b0 (y.its.take m) = b1 at ur ⊢
              have gd := get_dp y.its[m].1 s.1
              have gl := get_lf y.its[m].1 s.2
              have wkE : ∀ c1 c2 : Prop, c1 → c2 → c1 ∧ c2 := fun _ _ a b => ⟨a, b⟩
              cases b1
              · simp only [Bool.false_and] at ur
                cases hk1 : dpLk y.its[m].1 s.1 with
                | none =>
                  rw [hk1] at gd
                  simp only [dpG, hk1, Option.getD_none] at um
                  simp -implicitDefEqProofs [hm, ita, w3, gd]
                  exact Weak.sub (by simp [lk, keptA, AV.keys]) (by simp [lk, keptO, keptA, AV.keys, dpA, lfA, um, ur, isa])
                | some v =>
                  rw [hk1] at gd
                  simp only [dpG, hk1, Option.getD_some] at um
                  simp -implicitDefEqProofs [hm, ita, w3, gd]
                  exact Weak.sub (by simp [lk, keptA, AV.keys]) (by simp [lk, keptO, keptA, AV.keys, dpA, lfA, um, ur, isa])
              · by_cases hin : y.its[m].1 ∈ s.2
                · rw [if_pos hin] at gl
                  simp only [hin, decide_true, Bool.not_true, Bool.and_false] at ur
                  cases hk1 : dpLk y.its[m].1 s.1 with
                  | none =>
                    rw [hk1] at gd
                    simp only [dpG, hk1, Option.getD_none] at um
                    simp -implicitDefEqProofs [hm, ita, w3, gd, gl]
                    exact Weak.sub (by simp [lk, keptA, AV.keys]) (by simp [lk, keptO, keptA, AV.keys, dpA, lfA, um, ur, isa])
                  | some v =>
                    rw [hk1] at gd
                    simp only [dpG, hk1, Option.getD_some] at um
                    simp -implicitDefEqProofs [hm, ita, w3, gd, gl]
                    exact Weak.sub (by simp [lk, keptA, AV.keys]) (by simp [lk, keptO, keptA, AV.keys, dpA, lfA, um, ur, isa])
                · rw [if_neg hin] at gl
                  simp only [hin, decide_false, Bool.not_false, Bool.and_true] at ur
                  cases hk1 : dpLk y.its[m].1 s.1 with
                  | none =>
                    rw [hk1] at gd
                    simp only [dpG, hk1, Option.getD_none] at um
                    simp -implicitDefEqProofs [hm, ita, w3, gd, gl]
                    exact Weak.sub (by simp [lk, keptA, AV.keys]) (by simp [lk, keptO, keptA, AV.keys, dpA, lfA, um, ur, isa])
                  | some v =>
                    rw [hk1] at gd
                    simp only [dpG, hk1, Option.getD_some] at um
                    simp -implicitDefEqProofs [hm, ita, w3, gd, gl]
                    exact Weak.sub (by simp [lk, keptA, AV.keys]) (by simp [lk, keptO, keptA, AV.keys, dpA, lfA, um, ur, isa])
            · intro _
              refine GO_AR mixed 1000 ?_
              simp -implicitDefEqProofs []
              refine GO_ret mixed 1000 ?_
              simp -implicitDefEqProofs [RndB, frzSt, newK, frzO, frzA, frz, AV.keys, tm, tr, dpA, lfA, Function.comp_def]
              try trivial
          · intro _
            have hel : (elsOf r n).length = (issOf r n).length := by simp [elsOf, issOf]
            have etk : (issOf r n).take (issOf r n).length = issOf r n := List.take_of_length_le (Nat.le_refl _)
            have hbd := msN_bd hI (issOf r n) 0 (Int.le_refl _) (by omega)
            have hlen := hI.len
            have w4 : IntKind.i64.wrap (msN s.1 0 (issOf r n) + 1) = msN s.1 0 (issOf r n) + 1 := wrapI (by omega) (by omega)
            have rdpA : ∀ dp, AObj.ren (fun k => k - 1000) (.mp (dpA dp)) = .mp (dpA dp) := fun dp => by simp [AObj.ren, dpA, AV.ren, Function.comp_def]
            have rlfA : ∀ lf, AObj.ren (fun k => k - 1000) (.mp (lfA lf)) = .mp (lfA lf) := fun lf => by simp [AObj.ren, lfA, AV.ren, Function.comp_def]
            have rbx : ∀ cs, AObj.ren (fun k => k - 1000) (.box cs) = .box (cs.map (AV.ren fun k => k - 1000)) := fun _ => rfl
            cases hrd2 : rdN s.2 true (issOf r n)
            · have hst2 : dStep r s n = s := by simp [dStep, hm, hrd2]
              rw [hst2] at hst
              simp -implicitDefEqProofs [setsB, rdpA, rlfA, rbx, AV.ren, hel, etk, hrd2]
              refine GO_ret mixed 1000 ?_
              simp -implicitDefEqProofs [w2]
              rw [hst]
              exact Weak.sub (by simp [lk, keptA, AV.keys, bkA]) (by simp [lk, keptO, keptA, AV.keys, dpA, lfA])
            · have hmem : n ∈ s.2 := rdN_mem (by rw [hm]; exact hrd2)
              have hst2 : dStep r s n = (s.1 ++ [(n, msN s.1 0 (issOf r n) + 1)], s.2.erase n) := by simp [dStep, hm, hrd2]
              rw [hst2] at hst
              have hnk : n ∉ s.1.map (·.1) := fun hin => by
                have := (List.nodup_append.1 (hI.perm.nodup_iff.2 hnd)).2.2 n hin n hmem
                exact this rfl
              have pd := put_dp (msN s.1 0 (issOf r n) + 1) hnk
              have dl := del_lf hmem
              simp -implicitDefEqProofs [setsB, rdpA, rlfA, rbx, AV.ren, hel, etk, hrd2]
              refine GO_ret mixed 1000 ?_
              simp -implicitDefEqProofs [w2, w4, pd, dl]
              rw [hst]
              exact Weak.sub (by simp [lk, keptA, AV.keys, bkA]) (by simp [lk, keptO, keptA, AV.keys, dpA, lfA])
      · intro _
        refine GO_AR mixed 1000 ?_
        have etk : (nums r).take (nums r).length = nums r := List.take_of_length_le (Nat.le_refl _)
        simp -implicitDefEqProofs []
        refine GO_ret mixed 1000 ?_
        have e : (nums r).foldl (dStep r) (dRun r k) = dRun r (k + 1) := rfl
        simp -implicitDefEqProofs [w1, e]
        exact Weak.sub (by simp [lk, keptA, AV.keys, bkA]) (by simp [lk, keptO, keptA, AV.keys, dpA, lfA])
    · intro _
      refine GO_AR mixed 1000 ?_
      simp -implicitDefEqProofs []
      refine GO_ret mixed 1000 ?_
      have hla : (lfA (dRun r (nums r).length).2).length = (dRun r (nums r).length).2.length := by simp [lfA]
      have hpu : (dpA (dRun r (nums r).length).1).all (fun p => p.1.pure && p.2.pure) = true := by simp [dpA, AV.pure]
      simp -implicitDefEqProofs [hla, hpu]
end
end Go.Proofs.YtdpmioiamcgfkaaDoor

/-! Lists in new memory; issues that are copied, by the abstract machine. -/
namespace Go.Proofs.YtdpmioiamcgfkaaDoor
open Go.RowKit

/-- The end of a function, where nil and empty lists are the same. -/
def FinZ (rs : List RRes) (v : AV) : Exit → St → Prop
  | .normal, st | .ret, st => ∃ xs ys, evRess st rs = some xs ∧ snapL (snap st) xs = some ys ∧ v = nz (tupV ys)
  | _, _ => False

theorem PCz_of {P : Program} {G : Nat → Option (List AV)} {f : FuncId} {fn : Func} {c : Code} {rc : RCode} {rs : List RRes} {args : List AV} {v : AV} (hf : P.funcs[f]? = some fn) (hb : fn.body = some c) (he : entB P f = true)
    (hc : okCode P fn.ntmps c rc = true) (hrs : allB2 (okRes P) fn.results.toList rs = true) (hn : args.length ≤ fn.ntmps)
    (h : ∀ R : Run, R.N = fn.ntmps → R.G = G → R.Top → AR P R rc (initSt args) (FinZ rs v)) : PC P G f args v := by
  refine ⟨he, fun M W vs hM hG hsz hvs => ?_⟩
  refine callsIn_wide.1 (callsIn_of_wp_marks (F := FW none) (n := 1) hf hb trivial ?_)
  let R : Run := { G := G, M := M, X := fun _ => False, W0 := W, N := fn.ntmps, E0 := { M := M, loc := fun _ => none, row := fun _ => none } }
  have h0 : SK R (initSt args) { tmps := vs ++ Array.replicate (fn.ntmps - vs.size) Go.undef, defers := [] } W (fun _ => none) := by
    have hGM : ∀ b, b < W.heap.size → ¬ M b → ¬ ((initSt args).env M (fun _ => none)).M b ∧ W.heap[b]? = W.heap[b]? := fun b _ h1 => ⟨(by rintro (h2 | ⟨k, s, h2⟩) <;> first | exact h1 h2 | cases h2), rfl⟩
    refine ⟨.nil _ _ _ _, by show (vs ++ _).size = fn.ntmps; simp; omega, fun n x hx => ?_, (fun k o ho => by simp [initSt, St.get, lk] at ho), (fun k p hk => by cases hk), (fun k k' b s s' hk => by cases hk), hM, fun _ _ h => h, Kp.refl _ _, hG.mono hGM (Nat.le_refl _), ⟨Nat.le_refl _, hGM, fun k p hk => (by cases hk), fun k sz m hk => (by cases hk)⟩, fun _ _ => ⟨rfl, rfl⟩⟩
    simp only [initSt, St.tmp, iniT_lk, Nat.zero_le, if_true, Nat.sub_zero] at hx
    show VR _ W x ((vs ++ Array.replicate (fn.ntmps - vs.size) Go.undef).getD n Go.undef)
    rw [Array.getD_eq_getD_getElem?, Array.getElem?_append]
    have c1 : n < args.length := (List.getElem?_eq_some_iff.1 hx).1
    rw [if_pos (by omega)]
    have : vs[n]? = some vs[n] := by simp
    rw [this]
    exact .pv ((hvs n x _ hx this).mono hGM (Nat.le_refl _))
  refine wpIn_mono (h R rfl rfl ⟨rfl, rfl⟩ c hc 1 _ W ⟨_, h0⟩) ?_
  have key : ∀ (a' : Act) (W' : World) (st' : St), (∃ xs ys, evRess st' rs = some xs ∧ snapL (snap st') xs = some ys ∧ v = nz (tupV ys)) → SR R st' a' W' →
      ∃ u, (results fn a'.tmps).run P W' = .ok u W' ∧ ∃ u', Ending.returned u = .returned u' ∧ PV M W' v u' ∧ Ext W W' := by
    rintro a' W' st' ⟨xs, ys, h1, h2, rfl⟩ ⟨κ, hk⟩
    obtain ⟨us, h3, h4⟩ := ress_run (P := P) hk hrs h1
    obtain ⟨h5, h6⟩ := snapL_spec h2
    have hE : Ext W W' := ⟨hk.kp.os, hk.kp.tape, hk.kp.output, hk.kp.size, fun i hi => hk.kp.block i hi (fun h => h)⟩
    have hp : ∀ (i : Nat) (y : AV) (u : Value), ys[i]? = some y → us[i]? = some u → PV M W' y u := fun i y u hy hu => by
      obtain ⟨x, h7, h8⟩ := h6 i y hy
      exact snap_sim hk (h4.2 i x u h7 hu) h8
    have hl : us.length = ys.length := by have := h4.1; omega
    refine ⟨(if h : us.toArray.size = 1 then us.toArray[0] else .tuple us.toArray), ?_, _, rfl, PV.nz ?_, hE⟩
    · unfold results
      rw [Sem.run_bind]
      have : (fn.results.mapM fun rv => (match rv with
        | .tmp t => pure (a'.tmps.getD t Go.undef)
        | .cell p t => do loadVar t (← asAddr (a'.tmps.getD p Go.undef)) : Sem Value)).run P W' = .ok us.toArray W' := by
        rw [Array.mapM_eq_mapM_toList, Sem.run_map]
        exact congrArg (fun z => Result.andThen z (fun a w' => Result.ok a.toArray w')) h3
      erw [this]
      rfl
    · match ys, us, hl, hp with
      | [], [], _, _ => exact .tup [] _ rfl (by simp)
      | [y], [u], _, hp => exact hp 0 y u rfl rfl
      | y :: y2 :: ys, u :: u2 :: us, hl, hp =>
        rw [dif_neg (by simp)]
        exact .tup _ _ (by simpa using hl) (fun i x w hx hw => hp i x w hx (by simpa using hw))
  rintro e a' W' ⟨st', h1, κ, h2⟩
  cases e <;> try (exact h1.elim)
  all_goals
    refine h2.leave (by simp) rfl fun a2 W2 ht hs2 => ?_
    have := key a2 W2 st' h1 ⟨κ, hs2⟩
    rw [ht] at this
    exact this

section
variable {G : Nat → Option (List AV)}

theorem ita_flat (l : List (Int × Int)) : ∀ r ∈ l.map ita, ∀ x ∈ r, x.flat = true := by
  intro r hr x hx
  obtain ⟨p, -, rfl⟩ := List.mem_map.1 hr
  simp only [ita, List.mem_cons, List.not_mem_nil, or_false] at hx
  rcases hx with rfl | rfl <;> simp [AV.flat]
theorem ita_pure (l : List (Int × Int)) : ∀ r ∈ l.map ita, ∀ x ∈ r, x.pure = true := by
  intro r hr x hx
  obtain ⟨p, -, rfl⟩ := List.mem_map.1 hr
  simp only [ita, List.mem_cons, List.not_mem_nil, or_false] at hx
  rcases hx with rfl | rfl <;> simp [AV.pure]
theorem dma_flat (l : List Dm) : ∀ r ∈ l.map dma, ∀ x ∈ r, x.flat = true := by
  intro r hr x hx
  obtain ⟨p, -, rfl⟩ := List.mem_map.1 hr
  simp only [dma, List.mem_cons, List.not_mem_nil, or_false] at hx
  rcases hx with rfl | rfl | rfl <;> simp [AV.flat]
theorem dma_pure (l : List Dm) : ∀ r ∈ l.map dma, ∀ x ∈ r, x.pure = true := by
  intro r hr x hx
  obtain ⟨p, -, rfl⟩ := List.mem_map.1 hr
  simp only [dma, List.mem_cons, List.not_mem_nil, or_false] at hx
  rcases hx with rfl | rfl | rfl <;> simp [AV.pure]

theorem cloneI_pn (l : List (Int × Int)) (hne : l ≠ []) (hl : Sml l) : PN Tryd.prog G 108 [.vsl (l.map ita)] 2 (l.map ita) := by
  refine PN_of (ita_flat l) (ita_pure l) Tryd.func108 rfl (by kernel_rfl) (rc := rc_slices_Clone_api_Item_api_Item) (by kernel_rfl) (rs := rr_slices_Clone_api_Item_api_Item) (by kernel_rfl) (Nat.le_of_ble_eq_true rfl) fun R _ hG hrd => GO_AR mixed 1000 ?_
  unfold Sml at hl
  have b1 : l.length * 16 ≤ 70368744177664 := by omega
  have h0 : ¬ l.length = 0 := fun e => hne (List.length_eq_zero_iff.1 e)
  have k1 : (l.map ita).all (fun r => r.length == 2) = true := by simp [ita]
  have k2 : (l.map ita).all (fun r => r.all AV.one) = true := by simp [ita, AV.one]
  have k5 : (l.map ita).all (fun r => r.all AV.pure) = true := by simp [ita, AV.pure]
  simp -implicitDefEqProofs [rc_slices_Clone_api_Item_api_Item, rr_slices_Clone_api_Item_api_Item, h0, hne, b1, k1, k2, k5, FinN]

theorem cloneD_pn (l : List Dm) (hne : l ≠ []) (hl : Sml l) : PN Tryd.prog G 109 [.vsl (l.map dma)] 3 (l.map dma) := by
  refine PN_of (dma_flat l) (dma_pure l) Tryd.func109 rfl (by kernel_rfl) (rc := rc_slices_Clone_api_Dim_api_Dim) (by kernel_rfl) (rs := rr_slices_Clone_api_Dim_api_Dim) (by kernel_rfl) (Nat.le_of_ble_eq_true rfl) fun R _ hG hrd => GO_AR mixed 1000 ?_
  unfold Sml at hl
  have b1 : l.length * 24 ≤ 70368744177664 := by omega
  have h0 : ¬ l.length = 0 := fun e => hne (List.length_eq_zero_iff.1 e)
  have k1 : (l.map dma).all (fun r => r.length == 3) = true := by simp [dma]
  have k2 : (l.map dma).all (fun r => r.all AV.one) = true := by simp [dma, AV.one]
  have k5 : (l.map dma).all (fun r => r.all AV.pure) = true := by simp [dma, AV.pure]
  simp -implicitDefEqProofs [rc_slices_Clone_api_Dim_api_Dim, rr_slices_Clone_api_Dim_api_Dim, h0, hne, b1, k1, k2, k5, FinN]

theorem cloneI_pc0 : PC Tryd.prog G 108 [.vsl []] (.vsl []) := by
  refine PCz_of Tryd.func108 rfl (by kernel_rfl) (rc := rc_slices_Clone_api_Item_api_Item) (by kernel_rfl) (rs := rr_slices_Clone_api_Item_api_Item) (by kernel_rfl) (Nat.le_of_ble_eq_true rfl) fun R _ hG hrd => GO_AR mixed 1000 ?_
  simp -implicitDefEqProofs [rc_slices_Clone_api_Item_api_Item, rr_slices_Clone_api_Item_api_Item, FinZ, nz]

theorem cloneD_pc0 : PC Tryd.prog G 109 [.vsl []] (.vsl []) := by
  refine PCz_of Tryd.func109 rfl (by kernel_rfl) (rc := rc_slices_Clone_api_Dim_api_Dim) (by kernel_rfl) (rs := rr_slices_Clone_api_Dim_api_Dim) (by kernel_rfl) (Nat.le_of_ble_eq_true rfl) fun R _ hG hrd => GO_AR mixed 1000 ?_
  simp -implicitDefEqProofs [rc_slices_Clone_api_Dim_api_Dim, rr_slices_Clone_api_Dim_api_Dim, FinZ, nz]

end
end Go.Proofs.YtdpmioiamcgfkaaDoor

/-! How the program opens a register, by the abstract machine. -/
namespace Go.Proofs.YtdpmioiamcgfkaaDoor
open Go.RowKit

/-- The program's list of checks. -/
def GC (G : Nat → Option (List AV)) : Prop := G 0 = some [.func (.func 157) [] [], .func (.func 158) [] [], .func (.func 159) [] [], .func (.func 160) [] []]
def ckN (x : Iss) : Nat → Bool
  | 0 => ck1 x
  | 1 => ck2 x
  | 2 => ck3 x
  | _ => ck4 x
theorem issB_ckN {x : Iss} (h : ∀ j, j < 4 → ckN x j = true) : issB x = true := by
  rw [issB_ck, show ck1 x = true from h 0 (by omega), show ck2 x = true from h 1 (by omega), show ck3 x = true from h 2 (by omega), show ck4 x = true from h 3 (by omega)]; rfl
theorem issB_ckF {x : Iss} {j : Nat} (hj : j < 4) (h : ckN x j = false) : issB x = false := by
  rw [issB_ck]
  have : j = 0 ∨ j = 1 ∨ j = 2 ∨ j = 3 := by omega
  rcases this with rfl | rfl | rfl | rfl <;> simp only [ckN] at h <;> simp [h]

/-- The error that opening returns. -/
def openV (r : List Iss) : Int := if listedB r = true then
    if 0 < (dRun r (nums r).length).2.length then 21 else if (∃ p ∈ (dRun r (nums r).length).1, 6 < p.2) then 20 else 0
  else 20
def openA (r : List Iss) : AV := .tup [if openV r = 0 then bkA r (nums r) else .nilp, .int .i64 (openV r)]
theorem openA_no {r : List Iss} (h : listedB r = false) : openA r = .tup [.nilp, .int .i64 20] := by simp [openA, openV, h]

/-- The state of the first loop. -/
def opS (r : List Iss) : Nat → St
  | 0 => ⟨[(28, .int .i64 0), (27, .int .i64 r.length), (26, .vsl (r.map isa)), (1, .ptr 1 0), (4, .ptr 4 0)], [(1, .box [.vsl (r.map isa)]), (4, .box [.ptr 18 0]), (18, .box [.vsl (r.map isa), .nils])]⟩
  | i + 1 => ⟨[(28, .int .i64 (i + 1 : Nat)), (27, .int .i64 r.length), (26, .vsl (r.map isa)), (1, .ptr 1 0), (4, .ptr 4 0)], [(1, .box [.vsl (r.map isa)]), (4, .box [.ptr 18 0]), (18, .box [.vsl (r.map isa), .osl 85 (numsN r (i + 1)).length]), (85, .row 1 ((numsN r (i + 1)).map ia))]⟩

def opT (r : List Iss) (k : Nat) : St := ⟨[(98, .int .i64 k), (97, .int .i64 r.length), (96, .vsl (r.map isa)), (4, .vptr [bkA r (nums r)] 0)], []⟩
def opJ (r : List Iss) (i : Nat) (x : Iss) (j : Nat) : St := ⟨[(34, .int .i64 j), (33, .agg [.func (.func 157) [] [], .func (.func 158) [] [], .func (.func 159) [] [], .func (.func 160) [] []]), (5, .int .i64 i), (6, .ptr 6 0)] ++ (opS r i).t, (opS r i).o ++ [(6, .box (isa x))]⟩
theorem ckN_go {x : Iss} {j : Nat} (hc : ∀ k, k < j → ckN x k = true) (h : ckN x j = true) : ∀ k, k < j + 1 → ckN x k = true := fun k hk => by
  by_cases e : k = j
  · rw [e]; exact h
  · exact hc k (by omega)

section
variable {G : Nat → Option (List AV)}

set_option maxRecDepth 4000 in
theorem open_pc (hG : GC G) (r : List Iss) (h : Wf r) : PC Tryd.prog G 67 [rega r] (openA r) := by
  (refine pc_sheet_open (Nat.le_of_ble_eq_true rfl) fun R hG hrd => GO_AR mixed 1000 ?_; subst hG)
  unfold GC at hG
  have hs := h.1.1
  unfold Sml at hs
  simp -implicitDefEqProofs [rc_sheet_open, rr_sheet_open, rega]
  refine CallK.flat (inS_pc 1 60 r.length) (by simp [AV.flat]) (by simp) ?_
  cases q1 : inR r.length 1 60
  · simp -implicitDefEqProofs [openA_no (r := r) (by simp [listedB, q1])]
  have q1' : 1 ≤ r.length ∧ r.length ≤ 60 := by
    have := of_decide_eq_true q1
    omega
  simp -implicitDefEqProofs []
  refine AR_for (opS r) (fun i => ∀ j (h : j < r.length), j < i → issB r[j] = true ∧ ordB r j = true) r.length (by simp only [opS]; (first | exact Weak.tm (by simp [lk]) | exact Weak.sub (by simp [lk, keptA, AV.keys]) (by simp [lk, keptO, keptA, AV.keys]))) (by simp) ?_ ?_
  · intro i hi he
    refine GO_AR mixed 1000 ?_
    have w1 : IntKind.i64.wrap ((i : Int) + 1) = ((i + 1 : Nat) : Int) := wrapI (by omega) (by omega)
    have a1 := at_eq hi
    have hx := h.1.2 r[i] (List.getElem_mem hi)
    have hk := h.2 r[i] (List.getElem_mem hi)
    have a1 := at_eq hi
    cases i with
    | zero =>
      simp -implicitDefEqProofs [opS, hi, isa, hG]
      refine AR_for (opJ r (0) r[0]) (fun j => ∀ k, k < j → ckN r[0] k = true) 4 (by simp only [opJ, opS]; (first | exact Weak.tm (by simp [lk, isa, ia]) | exact Weak.sub (by simp [lk, keptA, AV.keys, isa, ia]) (by simp [lk, keptO, keptA, AV.keys, isa, ia]))) (by simp) ?_ ?_
      · intro j hj hc
        refine GO_AR mixed 1000 ?_
        rcases (show j = 0 ∨ j = 1 ∨ j = 2 ∨ j = 3 by omega) with rfl | rfl | rfl | rfl
        · have v0 : IntKind.i64.wrap 1 = 1 := rfl
          simp -implicitDefEqProofs [opJ, opS, isa]
          (first | refine CallK.of (ck1_pc r[0]) (by simp) ?_ | refine CallD.of (ck1_pc r[0]) (by simp) ?_)
          cases q : ck1 r[0]
          · simp -implicitDefEqProofs []
            refine GO_ret mixed 1000 ?_
            simp -implicitDefEqProofs []
            refine GO_ret mixed 1000 ?_
            simp -implicitDefEqProofs [openA_no (listed_no1 hi (issB_ckF (j := 0) (by omega) q))]
          · simp -implicitDefEqProofs [v0]
            first | exact ⟨(by (first | exact Weak.tm (by simp [lk, opJ, opS, isa, ia]) | exact Weak.sub (by simp [lk, keptA, AV.keys, opJ, opS, isa, ia]) (by simp [lk, keptO, keptA, AV.keys, opJ, opS, isa, ia]))), ckN_go hc q⟩ | exact ⟨(by (first | exact Weak.tm (by simp [lk, opJ, opS, isa, ia]) | exact Weak.sub (by simp [lk, keptA, AV.keys, opJ, opS, isa, ia]) (by simp [lk, keptO, keptA, AV.keys, opJ, opS, isa, ia]))), q⟩
        · have v1 : IntKind.i64.wrap 2 = 2 := rfl
          simp -implicitDefEqProofs [opJ, opS, isa]
          (first | refine CallK.of (ck2_pc r[0] hk) (by simp) ?_ | refine CallD.of (ck2_pc r[0] hk) (by simp) ?_)
          cases q : ck2 r[0]
          · simp -implicitDefEqProofs []
            refine GO_ret mixed 1000 ?_
            simp -implicitDefEqProofs []
            refine GO_ret mixed 1000 ?_
            simp -implicitDefEqProofs [openA_no (listed_no1 hi (issB_ckF (j := 1) (by omega) q))]
          · simp -implicitDefEqProofs [v1]
            first | exact ⟨(by (first | exact Weak.tm (by simp [lk, opJ, opS, isa, ia]) | exact Weak.sub (by simp [lk, keptA, AV.keys, opJ, opS, isa, ia]) (by simp [lk, keptO, keptA, AV.keys, opJ, opS, isa, ia]))), ckN_go hc q⟩ | exact ⟨(by (first | exact Weak.tm (by simp [lk, opJ, opS, isa, ia]) | exact Weak.sub (by simp [lk, keptA, AV.keys, opJ, opS, isa, ia]) (by simp [lk, keptO, keptA, AV.keys, opJ, opS, isa, ia]))), q⟩
        · have v2 : IntKind.i64.wrap 3 = 3 := rfl
          simp -implicitDefEqProofs [opJ, opS, isa]
          (first | refine CallK.of (ck3_pc r[0] hx.1) (by simp) ?_ | refine CallD.of (ck3_pc r[0] hx.1) (by simp) ?_)
          cases q : ck3 r[0]
          · simp -implicitDefEqProofs []
            refine GO_ret mixed 1000 ?_
            simp -implicitDefEqProofs []
            refine GO_ret mixed 1000 ?_
            simp -implicitDefEqProofs [openA_no (listed_no1 hi (issB_ckF (j := 2) (by omega) q))]
          · simp -implicitDefEqProofs [v2]
            first | exact ⟨(by (first | exact Weak.tm (by simp [lk, opJ, opS, isa, ia]) | exact Weak.sub (by simp [lk, keptA, AV.keys, opJ, opS, isa, ia]) (by simp [lk, keptO, keptA, AV.keys, opJ, opS, isa, ia]))), ckN_go hc q⟩ | exact ⟨(by (first | exact Weak.tm (by simp [lk, opJ, opS, isa, ia]) | exact Weak.sub (by simp [lk, keptA, AV.keys, opJ, opS, isa, ia]) (by simp [lk, keptO, keptA, AV.keys, opJ, opS, isa, ia]))), q⟩
        · have v3 : IntKind.i64.wrap 4 = 4 := rfl
          simp -implicitDefEqProofs [opJ, opS, isa]
          (first | refine CallK.of (ck4_pc r[0] hx.2) (by simp) ?_ | refine CallD.of (ck4_pc r[0] hx.2) (by simp) ?_)
          cases q : ck4 r[0]
          · simp -implicitDefEqProofs []
            refine GO_ret mixed 1000 ?_
            simp -implicitDefEqProofs []
            refine GO_ret mixed 1000 ?_
            simp -implicitDefEqProofs [openA_no (listed_no1 hi (issB_ckF (j := 3) (by omega) q))]
          · simp -implicitDefEqProofs [v3]
            first | exact ⟨(by (first | exact Weak.tm (by simp [lk, opJ, opS, isa, ia]) | exact Weak.sub (by simp [lk, keptA, AV.keys, opJ, opS, isa, ia]) (by simp [lk, keptO, keptA, AV.keys, opJ, opS, isa, ia]))), ckN_go hc q⟩ | exact ⟨(by (first | exact Weak.tm (by simp [lk, opJ, opS, isa, ia]) | exact Weak.sub (by simp [lk, keptA, AV.keys, opJ, opS, isa, ia]) (by simp [lk, keptO, keptA, AV.keys, opJ, opS, isa, ia]))), q⟩
      · intro hc
        refine GO_AR mixed 1000 ?_
        have p1 : issB r[0] = true := issB_ckN hc
        simp -implicitDefEqProofs [opJ, opS, isa]
        refine GO_ret mixed 1000 ?_
        by_cases p3 : r[0].l = 1
        · have hn : numsN r 1 = [r[0].d] := by simp [numsN, newB, a1]
          have ok : ordB r 0 = true := by simp [ordB, a1, p3]
          have w0 : IntKind.i64.wrap 1 = 1 := rfl
          simp -implicitDefEqProofs [p3, w0]
          exact ⟨rfl, (by (first | exact Weak.tm (by simp [lk, opS, hn, ia]) | exact Weak.sub (by simp [lk, keptA, AV.keys, opS, hn, ia]) (by simp [lk, keptO, keptA, AV.keys, opS, hn, ia]))), fun j q1 q2 => by subst q2; exact ⟨p1, ok⟩⟩
        · simp -implicitDefEqProofs [p3]
          refine GO_ret mixed 1000 ?_
          simp -implicitDefEqProofs [openA_no (listed_no2 hi (by simp [ordB, a1, p3]))]
    | succ i =>
      have k1 : (i : Int) + 1 < r.length := by omega
      have k2 : ((i : Int) + 1).toNat = i + 1 := by omega
      have k3 : (0 : Int) ≤ (i : Int) + 1 := by omega
      simp -implicitDefEqProofs [opS, hi, isa, hG, k1, k2, k3]
      refine AR_for (opJ r (i + 1) r[i + 1]) (fun j => ∀ k, k < j → ckN r[i + 1] k = true) 4 (by simp only [opJ, opS]; (first | exact Weak.tm (by simp [lk, isa, ia]) | exact Weak.sub (by simp [lk, keptA, AV.keys, isa, ia]) (by simp [lk, keptO, keptA, AV.keys, isa, ia]))) (by simp) ?_ ?_
      · intro j hj hc
        refine GO_AR mixed 1000 ?_
        rcases (show j = 0 ∨ j = 1 ∨ j = 2 ∨ j = 3 by omega) with rfl | rfl | rfl | rfl
        · have v0 : IntKind.i64.wrap 1 = 1 := rfl
          simp -implicitDefEqProofs [opJ, opS, isa]
          (first | refine CallK.of (ck1_pc r[i + 1]) (by simp) ?_ | refine CallD.of (ck1_pc r[i + 1]) (by simp) ?_)
          cases q : ck1 r[i + 1]
          · simp -implicitDefEqProofs []
            refine GO_ret mixed 1000 ?_
            simp -implicitDefEqProofs []
            refine GO_ret mixed 1000 ?_
            simp -implicitDefEqProofs [openA_no (listed_no1 hi (issB_ckF (j := 0) (by omega) q))]
          · simp -implicitDefEqProofs [v0]
            first | exact ⟨(by (first | exact Weak.tm (by simp [lk, opJ, opS, isa, ia]) | exact Weak.sub (by simp [lk, keptA, AV.keys, opJ, opS, isa, ia]) (by simp [lk, keptO, keptA, AV.keys, opJ, opS, isa, ia]))), ckN_go hc q⟩ | exact ⟨(by (first | exact Weak.tm (by simp [lk, opJ, opS, isa, ia]) | exact Weak.sub (by simp [lk, keptA, AV.keys, opJ, opS, isa, ia]) (by simp [lk, keptO, keptA, AV.keys, opJ, opS, isa, ia]))), q⟩
        · have v1 : IntKind.i64.wrap 2 = 2 := rfl
          simp -implicitDefEqProofs [opJ, opS, isa]
          (first | refine CallK.of (ck2_pc r[i + 1] hk) (by simp) ?_ | refine CallD.of (ck2_pc r[i + 1] hk) (by simp) ?_)
          cases q : ck2 r[i + 1]
          · simp -implicitDefEqProofs []
            refine GO_ret mixed 1000 ?_
            simp -implicitDefEqProofs []
            refine GO_ret mixed 1000 ?_
            simp -implicitDefEqProofs [openA_no (listed_no1 hi (issB_ckF (j := 1) (by omega) q))]
          · simp -implicitDefEqProofs [v1]
            first | exact ⟨(by (first | exact Weak.tm (by simp [lk, opJ, opS, isa, ia]) | exact Weak.sub (by simp [lk, keptA, AV.keys, opJ, opS, isa, ia]) (by simp [lk, keptO, keptA, AV.keys, opJ, opS, isa, ia]))), ckN_go hc q⟩ | exact ⟨(by (first | exact Weak.tm (by simp [lk, opJ, opS, isa, ia]) | exact Weak.sub (by simp [lk, keptA, AV.keys, opJ, opS, isa, ia]) (by simp [lk, keptO, keptA, AV.keys, opJ, opS, isa, ia]))), q⟩
        · have v2 : IntKind.i64.wrap 3 = 3 := rfl
          simp -implicitDefEqProofs [opJ, opS, isa]
          (first | refine CallK.of (ck3_pc r[i + 1] hx.1) (by simp) ?_ | refine CallD.of (ck3_pc r[i + 1] hx.1) (by simp) ?_)
          cases q : ck3 r[i + 1]
          · simp -implicitDefEqProofs []
            refine GO_ret mixed 1000 ?_
            simp -implicitDefEqProofs []
            refine GO_ret mixed 1000 ?_
            simp -implicitDefEqProofs [openA_no (listed_no1 hi (issB_ckF (j := 2) (by omega) q))]
          · simp -implicitDefEqProofs [v2]
            first | exact ⟨(by (first | exact Weak.tm (by simp [lk, opJ, opS, isa, ia]) | exact Weak.sub (by simp [lk, keptA, AV.keys, opJ, opS, isa, ia]) (by simp [lk, keptO, keptA, AV.keys, opJ, opS, isa, ia]))), ckN_go hc q⟩ | exact ⟨(by (first | exact Weak.tm (by simp [lk, opJ, opS, isa, ia]) | exact Weak.sub (by simp [lk, keptA, AV.keys, opJ, opS, isa, ia]) (by simp [lk, keptO, keptA, AV.keys, opJ, opS, isa, ia]))), q⟩
        · have v3 : IntKind.i64.wrap 4 = 4 := rfl
          simp -implicitDefEqProofs [opJ, opS, isa]
          (first | refine CallK.of (ck4_pc r[i + 1] hx.2) (by simp) ?_ | refine CallD.of (ck4_pc r[i + 1] hx.2) (by simp) ?_)
          cases q : ck4 r[i + 1]
          · simp -implicitDefEqProofs []
            refine GO_ret mixed 1000 ?_
            simp -implicitDefEqProofs []
            refine GO_ret mixed 1000 ?_
            simp -implicitDefEqProofs [openA_no (listed_no1 hi (issB_ckF (j := 3) (by omega) q))]
          · simp -implicitDefEqProofs [v3]
            first | exact ⟨(by (first | exact Weak.tm (by simp [lk, opJ, opS, isa, ia]) | exact Weak.sub (by simp [lk, keptA, AV.keys, opJ, opS, isa, ia]) (by simp [lk, keptO, keptA, AV.keys, opJ, opS, isa, ia]))), ckN_go hc q⟩ | exact ⟨(by (first | exact Weak.tm (by simp [lk, opJ, opS, isa, ia]) | exact Weak.sub (by simp [lk, keptA, AV.keys, opJ, opS, isa, ia]) (by simp [lk, keptO, keptA, AV.keys, opJ, opS, isa, ia]))), q⟩
      · intro hc
        refine GO_AR mixed 1000 ?_
        have p1 : issB r[i + 1] = true := issB_ckN hc
        simp -implicitDefEqProofs [opJ, opS, isa]
        refine GO_ret mixed 1000 ?_
        have w2 : IntKind.i64.wrap (i : Int) = (i : Int) := wrapI (by omega) (by omega)
        have w3 : IntKind.i64.wrap ((i : Int) + 1 + 1) = (i : Int) + 1 + 1 := wrapI (by omega) (by omega)
        have k3 : (0 : Int) < (i : Int) + 1 := by omega
        have hi2 : i < r.length := by omega
        have a2 := at_eq hi2
        have bl := (he i hi2 (by omega)).1
        simp only [issB, headB, Bool.and_eq_true, inR, decide_eq_true_eq] at bl
        have w4 : IntKind.i64.wrap (r[i].l + 1) = r[i].l + 1 := wrapI (by omega) (by omega)
        have b1 := numsN_len r (i + 1)
        have b2 : ((numsN r (i + 1)).length + 1) * 8 ≤ 70368744177664 := by omega
        have go : ordB r (i + 1) = true → ∀ j (h : j < r.length), j < i + 1 + 1 → issB r[j] = true ∧ ordB r j = true := fun g2 j q1 q2 => by
          by_cases e : j = i + 1
          · subst e; exact ⟨p1, g2⟩
          · exact he j q1 (by omega)
        by_cases p3 : r[i].d = r[i + 1].d
        · have hn : numsN r (i + 1 + 1) = numsN r (i + 1) := by rw [numsN]; simp [newB, a1, a2, p3]
          by_cases p5 : r[i + 1].l = r[i].l + 1
          case neg =>
            have p5' : ¬ r[i].l + 1 = r[i + 1].l := fun e => p5 e.symm
            simp -implicitDefEqProofs [k3, w2, w4, hi2, isa, p3, p5']
            refine GO_ret mixed 1000 ?_
            simp -implicitDefEqProofs [openA_no (listed_no2 hi (by simp [ordB, a1, a2, p3, p5]))]
          by_cases p6 : r[i].k = r[i + 1].k
          · have ok : ordB r (i + 1) = true := by simp [ordB, a1, a2, p3, p5, p6]
            simp -implicitDefEqProofs [k3, w2, w3, w4, hi2, isa, p3, p5, p6]
            exact ⟨(by (first | exact Weak.tm (by simp [lk, opS, hn, ia]) | exact Weak.sub (by simp [lk, keptA, AV.keys, opS, hn, ia]) (by simp [lk, keptO, keptA, AV.keys, opS, hn, ia]))), go ok⟩
          · have p6' : ¬ r[i + 1].k = r[i].k := fun e => p6 e.symm
            simp -implicitDefEqProofs [k3, w2, w4, hi2, isa, p3, p5, p6]
            refine GO_ret mixed 1000 ?_
            simp -implicitDefEqProofs [openA_no (listed_no2 hi (by simp [ordB, a1, a2, p3, p5, p6']))]
        by_cases p4 : r[i + 1].d < r[i].d
        · simp -implicitDefEqProofs [k3, w2, hi2, isa, p3, p4]
          refine GO_ret mixed 1000 ?_
          simp -implicitDefEqProofs [openA_no (listed_no2 hi (by simp [ordB, a1, a2, p4]))]
        have p7 : r[i].d < r[i + 1].d := by omega
        have hn : numsN r (i + 1 + 1) = numsN r (i + 1) ++ [r[i + 1].d] := by rw [numsN]; simp [newB, a1, a2, p3]
        by_cases p5 : r[i + 1].l = 1
        · have ok : ordB r (i + 1) = true := by simp [ordB, a1, a2, p4, p7, p5]
          simp -implicitDefEqProofs [k3, w2, w3, hi2, isa, p3, p4, p5, b2]
          exact ⟨rfl, (by (first | exact Weak.tm (by simp [lk, opS, hn, ia]) | exact Weak.sub (by simp [lk, keptA, AV.keys, opS, hn, ia]) (by simp [lk, keptO, keptA, AV.keys, opS, hn, ia]))), go ok⟩
        · simp -implicitDefEqProofs [k3, w2, hi2, isa, p3, p4, p5]
          refine GO_ret mixed 1000 ?_
          simp -implicitDefEqProofs [openA_no (listed_no2 hi (by simp [ordB, a1, a2, p4, p7, p5]))]
  · intro he
    refine GO_AR mixed 1000 ?_
    obtain ⟨n, hn⟩ : ∃ n, r.length = n + 1 := ⟨r.length - 1, by omega⟩
    have e : numsN r (n + 1) = nums r := by rw [nums, hn]
    have g1 : r.all issB = true := List.all_eq_true.2 fun x hx => by
      obtain ⟨j, hj, rfl⟩ := List.getElem_of_mem hx
      exact (he j hj hj).1
    have g2 : (List.range r.length).all (ordB r) = true := range_all.2 fun j hj => (he j hj hj).2
    have hO : Ord r := fun i hi => by
      have := (he (i + 1) hi (by omega)).2
      simp only [ordB] at this
      split at this
      · cases this
      · omega
    have hns : Sml (nums r) := by have := nums_len r; unfold Sml; omega
    have hsn : (nums r).Pairwise (· ≤ ·) := (nums_lt hO).imp fun h => Int.le_of_lt h
    have k1 : ¬ (n : Int) + 1 < r.length := by omega
    rw [hn]
    simp -implicitDefEqProofs [opS, k1, e]
    refine GO_ret mixed 1000 ?_
    simp -implicitDefEqProofs []
    by_cases c20 : 20 < (nums r).length
    · have c20' : (20 : Int) < (nums r).length := by omega
      simp -implicitDefEqProofs [c20', openA_no (r := r) (by simp [listedB]; omega)]
    have c20' : ¬ (20 : Int) < (nums r).length := by omega
    have pu : ((nums r).map ia).all (fun x => x.all AV.pure) = true := by simp [ia, AV.pure]
    have pw : (r.map isa).all (fun x => x.all AV.pure) = true := by simp [isa, AV.pure]
    simp -implicitDefEqProofs [c20']
    refine AR_for (opT r) (fun i => ∀ j (h : j < r.length), j < i → ItsIn r r[j]) r.length (Weak.trans (Weak.frz newK _ (fun k hk => by simp [newK]; omega)) ?_) (by simp) ?_ ?_
    · simp only [opT, bkA, frzSt]
      refine Weak.sub (by simp [lk, keptA, AV.keys, frzSt, newK, frzA, frz, snapF, snapL, St.get, pu, pw]) (by simp) (by simp [newK])
    · intro i hi hc
      refine GO_AR mixed 1000 ?_
      have w1 : IntKind.i64.wrap ((i : Int) + 1) = ((i + 1 : Nat) : Int) := wrapI (by omega) (by omega)
      have hx := h.1.2 r[i] (List.getElem_mem hi)
      simp -implicitDefEqProofs [opT, hi, isa]
      (first | refine CallK.of (containsT_pc 103 [.vptr [bkA r (nums r)] 0] (fun y => !decide (y.1 ∈ nums r)) r[i].its (by simp [AV.pure]) hx.1 (fun y _ => openC_pc r (nums r) y hsn hns)) (by simp) ?_ | refine CallD.of (containsT_pc 103 [.vptr [bkA r (nums r)] 0] (fun y => !decide (y.1 ∈ nums r)) r[i].its (by simp [AV.pure]) hx.1 (fun y _ => openC_pc r (nums r) y hsn hns)) (by simp) ?_)
      cases q : r[i].its.any fun y => !decide (y.1 ∈ nums r)
      · simp -implicitDefEqProofs [w1]
        refine ⟨(by (first | exact Weak.tm (by simp [lk, opT]) | exact Weak.sub (by simp [lk, keptA, AV.keys, opT]) (by simp [lk, keptO, keptA, AV.keys, opT]))), fun j q1 q2 => ?_⟩
        by_cases e2 : j = i
        · subst e2
          intro y hy
          have := List.any_eq_false.1 q y hy
          simpa using this
        · exact hc j q1 (by omega)
      · simp -implicitDefEqProofs []
        refine GO_ret mixed 1000 ?_
        obtain ⟨y, hy, hy2⟩ := List.any_eq_true.1 q
        obtain ⟨k, hk, rfl⟩ := List.getElem_of_mem hy
        simp -implicitDefEqProofs [openA_no (listed_no3 hi hk (by simpa using hy2))]
    · intro hc
      refine GO_AR mixed 1000 ?_
      have g3 : inB r = true := List.all_eq_true.2 fun x hx => by
        obtain ⟨j, hj, rfl⟩ := List.getElem_of_mem hx
        exact List.all_eq_true.2 fun y hy => decide_eq_true (hc j hj hj y hy)
      have hL : listedB r = true := by
        simp only [listedB, q1, g1, g2, g3, Bool.true_and, Bool.and_true, decide_eq_true_eq]; omega
      simp -implicitDefEqProofs [opT]
      refine GO_ret mixed 1000 ?_
      simp -implicitDefEqProofs []
      (first | refine CallK.of (depths_pc r h hO (by omega)) (by simp) ?_ | refine CallD.of (depths_pc r h hO (by omega)) (by simp) ?_)
      simp -implicitDefEqProofs []
      by_cases c21 : 0 < (dRun r (nums r).length).2.length
      · have v : openA r = .tup [.nilp, .int .i64 21] := by simp [openA, openV, hL, c21]
        simp -implicitDefEqProofs [c21, v]
      simp -implicitDefEqProofs [c21]
      refine AR_opn (kvs := (dRun r (nums r).length).1) rfl (by simp [opnT, St.tmp, lk]) ?_ ?_
      · intro h6
        refine GO_ret mixed 1000 ?_
        have n6 : ¬ ∃ p ∈ (dRun r (nums r).length).1, 6 < p.2 := fun ⟨p, hp, hp6⟩ => by have := h6 p hp; omega
        have v : openA r = .tup [bkA r (nums r), .int .i64 0] := by
          unfold openA openV
          rw [if_pos hL, if_neg c21, if_neg n6]; simp
        simp -implicitDefEqProofs [v, bkA]
      · intro h6
        refine GO_AR mixed 1000 ?_
        have v : openA r = .tup [.nilp, .int .i64 20] := by
          unfold openA openV
          rw [if_pos hL, if_neg c21, if_pos h6]; simp
        simp -implicitDefEqProofs [opnRet, v]
        refine GO_ret mixed 1000 ?_
        simp -implicitDefEqProofs []
end
end Go.Proofs.YtdpmioiamcgfkaaDoor

/-! What the program's exported functions on registers compute: Check, Drawings, Last, At, Depth. -/
namespace Go.Proofs.YtdpmioiamcgfkaaDoor
open Go.RowKit

theorem open_listed {r : List Iss} (h : openV r = 0) : listedB r = true := by
  unfold openV at h
  split at h
  · assumption
  · cases h
theorem listed_20 {r : List Iss} (h : listedB r = true) : (nums r).length ≤ 20 := by
  simp only [listedB, Bool.and_eq_true, decide_eq_true_eq] at h; exact h.2
theorem listed_60 {r : List Iss} (h : listedB r = true) : 1 ≤ r.length ∧ r.length ≤ 60 := by
  simp only [listedB, Bool.and_eq_true, decide_eq_true_eq, inR] at h; have := h.1.1.1.1; omega
theorem listed_iss {r : List Iss} (h : listedB r = true) {x : Iss} (hx : x ∈ r) : issB x = true := by
  simp only [listedB, Bool.and_eq_true] at h; exact List.all_eq_true.1 h.1.1.1.2 x hx
theorem listed_ord {r : List Iss} (h : listedB r = true) {i : Nat} (hi : i < r.length) : ordB r i = true := by
  simp only [listedB, Bool.and_eq_true] at h; exact range_all.1 h.1.1.2 i hi
theorem listed_in {r : List Iss} (h : listedB r = true) {x : Iss} (hx : x ∈ r) : ItsIn r x := fun y hy => by
  simp only [listedB, Bool.and_eq_true, inB] at h
  exact of_decide_eq_true (List.all_eq_true.1 (List.all_eq_true.1 h.1.2 x hx) y hy)
theorem nums_sml {r : List Iss} (h : Sml r) : Sml (nums r) := by have := nums_len r; unfold Sml at *; omega
theorem nums_le {r : List Iss} (h : Ord r) : (nums r).Pairwise (· ≤ ·) := (nums_lt h).imp fun h => Int.le_of_lt h
theorem ord_map {r : List Iss} (hO : Ord r) : (r.map (·.d)).Pairwise (· ≤ ·) := by
  rw [List.pairwise_map, List.pairwise_iff_getElem]
  intro i j hi hj hij
  have := hO.mono (Nat.le_of_lt hij) hj
  rwa [at_eq hi, at_eq hj] at this

/-- One issue lies behind another. -/
def Lx (x y : Iss) : Prop := x.d < y.d ∨ (x.d = y.d ∧ x.l < y.l)
theorem lex_at {r : List Iss} (h : listedB r = true) : ∀ {i j : Nat}, i < j → j < r.length → Lx (at' r i) (at' r j) := by
  intro i j hij hj
  induction j with
  | zero => omega
  | succ j ih =>
    have step : Lx (at' r j) (at' r (j + 1)) := by
      have := listed_ord h hj
      simp only [ordB] at this
      split at this
      · cases this
      · split at this
        · rename_i h2; exact .inl h2
        · simp only [Bool.and_eq_true, decide_eq_true_eq] at this
          exact .inr ⟨by omega, by omega⟩
    by_cases e : i = j
    · subst e; exact step
    · have := ih (by omega) (by omega)
      unfold Lx at *
      omega
theorem find_own {r : List Iss} (h : listedB r = true) : ∀ y ∈ r, findN y.d y.l r = some y := fun y hy => by
  obtain ⟨i, hi, rfl⟩ := List.getElem_of_mem hy
  refine findN_at hi rfl rfl fun j hj hij => ?_
  have := lex_at h hij hi
  rw [at_eq hj, at_eq hi] at this
  unfold Lx at this
  omega

/-- The error that a register has, or that a drawing is not in it. -/
def knV (r : List Iss) (n : Int) : Int := if openV r = 0 then if n ∈ nums r then 0 else 6 else openV r

section
variable {G : Nat → Option (List AV)}

theorem known_pc (hG : GC G) (r : List Iss) (n : Int) (h : Wf r) : PC Tryd.prog G 68 [rega r, .int .i64 n] (.tup [if knV r n = 0 then bkA r (nums r) else .nilp, .int .i64 (knV r n)]) := by
  (refine pc_sheet_known (Nat.le_of_ble_eq_true rfl) fun R hG hrd => GO_AR mixed 1000 ?_; subst hG)
  simp -implicitDefEqProofs [rc_sheet_known, rr_sheet_known, rega]
  (first | refine CallK.of (open_pc hG r h) (by simp) ?_ | refine CallD.of (open_pc hG r h) (by simp) ?_)
  by_cases e : openV r = 0
  · have hL := open_listed e
    have hO := ord_of hL
    simp -implicitDefEqProofs [openA, e]
    (first | refine CallK.of (has_pc r (nums r) n (nums_le hO) (nums_sml h.1.1)) (by simp) ?_ | refine CallD.of (has_pc r (nums r) n (nums_le hO) (nums_sml h.1.1)) (by simp) ?_)
    by_cases e2 : n ∈ nums r
    · simp -implicitDefEqProofs [knV, e, e2, bkA]
    · simp -implicitDefEqProofs [knV, e, e2]
  · simp -implicitDefEqProofs [openA, e, knV]

theorem checkP_pc (hG : GC G) (r : List Iss) (h : Wf r) : PC Tryd.prog G 24 [rega r] (.int .i64 (openV r)) := by
  (refine pc_sheet_Check (Nat.le_of_ble_eq_true rfl) fun R hG hrd => GO_AR mixed 1000 ?_; subst hG)
  simp -implicitDefEqProofs [rc_sheet_Check, rr_sheet_Check, rega]
  (first | refine CallK.of (open_pc hG r h) (by simp) ?_ | refine CallD.of (open_pc hG r h) (by simp) ?_)
  simp -implicitDefEqProofs [openA]

theorem drawP_pc (hG : GC G) (r : List Iss) (h : Wf r) : PC Tryd.prog G 20 [rega r] (.tup [.vsl ((if openV r = 0 then nums r else []).map ia), .int .i64 (openV r)]) := by
  by_cases e : openV r = 0
  · (refine pc_sheet_Drawings (Nat.le_of_ble_eq_true rfl) fun R hG hrd => GO_AR mixed 1000 ?_; subst hG)
    simp -implicitDefEqProofs [rc_sheet_Drawings, rr_sheet_Drawings, rega]
    (first | refine CallK.of (open_pc hG r h) (by simp) ?_ | refine CallD.of (open_pc hG r h) (by simp) ?_)
    simp -implicitDefEqProofs [openA, e, bkA]
  · refine PC.nzR (v := .tup [.nils, .int .i64 (openV r)]) ?_ (by simp [nz, e])
    (refine pc_sheet_Drawings (Nat.le_of_ble_eq_true rfl) fun R hG hrd => GO_AR mixed 1000 ?_; subst hG)
    simp -implicitDefEqProofs [rc_sheet_Drawings, rr_sheet_Drawings, rega]
    (first | refine CallK.of (open_pc hG r h) (by simp) ?_ | refine CallD.of (open_pc hG r h) (by simp) ?_)
    simp -implicitDefEqProofs [openA, e]

theorem lastP_pc (hG : GC G) (r : List Iss) (n : Int) (h : Wf r) : PC Tryd.prog G 22 [rega r, .int .i64 n] (.tup [.int .i64 (if knV r n = 0 then cntV r n else 0), .int .i64 (knV r n)]) := by
  (refine pc_sheet_Last (Nat.le_of_ble_eq_true rfl) fun R hG hrd => GO_AR mixed 1000 ?_; subst hG)
  simp -implicitDefEqProofs [rc_sheet_Last, rr_sheet_Last, rega]
  (first | refine CallK.of (known_pc hG r n h) (by simp) ?_ | refine CallD.of (known_pc hG r n h) (by simp) ?_)
  by_cases e : knV r n = 0
  · have e1 : openV r = 0 := by
      unfold knV at e
      split at e
      · assumption
      · exact e
    have hO := ord_of (open_listed e1)
    simp -implicitDefEqProofs [e]
    (first | refine CallK.of (last_pc r (nums r) n (ord_map hO) h.1.1) (by simp) ?_ | refine CallD.of (last_pc r (nums r) n (ord_map hO) h.1.1) (by simp) ?_)
    simp -implicitDefEqProofs []
  · simp -implicitDefEqProofs [e]

theorem depthP_pc (hG : GC G) (r : List Iss) (n : Int) (h : Wf r) : PC Tryd.prog G 29 [rega r, .int .i64 n] (.tup [.int .i64 (if knV r n = 0 then dpG (dRun r (nums r).length).1 n else 0), .int .i64 (knV r n)]) := by
  (refine pc_sheet_Depth (Nat.le_of_ble_eq_true rfl) fun R hG hrd => GO_AR mixed 1000 ?_; subst hG)
  simp -implicitDefEqProofs [rc_sheet_Depth, rr_sheet_Depth, rega]
  (first | refine CallK.of (known_pc hG r n h) (by simp) ?_ | refine CallD.of (known_pc hG r n h) (by simp) ?_)
  by_cases e : knV r n = 0
  · have e1 : openV r = 0 := by
      unfold knV at e
      split at e
      · assumption
      · exact e
    have hL := open_listed e1
    simp -implicitDefEqProofs [e]
    (first | refine CallK.of (depths_pc r h (ord_of hL) (listed_20 hL)) (by simp) ?_ | refine CallD.of (depths_pc r h (ord_of hL) (listed_20 hL)) (by simp) ?_)
    simp -implicitDefEqProofs [get_dp, dpG]
    cases q : dpLk n (dRun r (nums r).length).1 <;> simp -implicitDefEqProofs [q]
  · simp -implicitDefEqProofs [e]

/-- What At returns. -/
def atP (r : List Iss) (d l : Int) : Iss × Int := if openV r = 0 then match findN d l r with
    | some x => (x, 0)
    | none => (zI, 6)
  else (zI, openV r)
end
end Go.Proofs.YtdpmioiamcgfkaaDoor

/-! The plain law: what the program tells of a register is what the reference tells. -/
namespace Go.Proofs.YtdpmioiamcgfkaaDoor
open Go.RowKit

/-- The numbers of all items of a list of issues. -/
def chL (l : List Iss) : List Int := l.flatMap fun x => x.its.map (·.1)
theorem chL_cons (x : Iss) (l : List Iss) : chL (x :: l) = x.its.map (·.1) ++ chL l := rfl
def C (r : List Iss) (n : Int) : List Int := chL (issOf r n)

/-! ### The reference's rounds. -/
def dvL (f : Int → Int) (m : Int) (l : List Iss) : Int := l.foldl (fun m x => dvIt f (max m 1) x.its) m
theorem dvN_eq (r : List Iss) (f : Int → Int) (n : Int) : ∀ i, i ≤ r.length → dvN r f n i = dvL f 0 (issOf (r.take i) n)
  | 0, _ => by simp [dvN, issOf, dvL]
  | i + 1, hi => by
    have hlt : i < r.length := by omega
    have ih := dvN_eq r f n i (by omega)
    rw [List.take_succ_eq_append_getElem hlt, issOf, List.filter_append, dvN, at_eq hlt]
    by_cases e : r[i].d = n
    · rw [if_pos e, ih, List.filter_cons_of_pos (by simpa using e), dvL, dvL, List.foldl_append]; rfl
    · rw [if_neg e, ih, List.filter_cons_of_neg (by simpa using e), List.filter_nil, List.append_nil]; rfl
theorem dvIt_spec (f : Int → Int) : ∀ (its : List (Int × Int)) (m : Int), m ≤ dvIt f m its ∧ (∀ y ∈ its, 1 + f y.1 ≤ dvIt f m its) ∧ (dvIt f m its = m ∨ ∃ y ∈ its, dvIt f m its = 1 + f y.1)
  | [], m => ⟨Int.le_refl _, by simp, .inl rfl⟩
  | y :: its, m => by
    obtain ⟨h1, h2, h3⟩ := dvIt_spec f its (max m (1 + f y.1))
    have e : dvIt f m (y :: its) = dvIt f (max m (1 + f y.1)) its := rfl
    rw [e]
    refine ⟨by omega, fun z hz => ?_, ?_⟩
    · rcases List.mem_cons.1 hz with rfl | hz
      · omega
      · exact h2 z hz
    · rcases h3 with h3 | ⟨z, hz, h3⟩
      · rcases Int.le_total m (1 + f y.1) with hm | hm
        · exact .inr ⟨y, List.mem_cons_self .., by omega⟩
        · exact .inl (by omega)
      · exact .inr ⟨z, List.mem_cons_of_mem _ hz, h3⟩
theorem dvL_spec (f : Int → Int) : ∀ (l : List Iss) (m : Int), m ≤ dvL f m l ∧ (l ≠ [] → 1 ≤ dvL f m l) ∧ (∀ c ∈ chL l, 1 + f c ≤ dvL f m l) ∧ (dvL f m l = m ∨ dvL f m l = 1 ∨ ∃ c ∈ chL l, dvL f m l = 1 + f c)
  | [], m => ⟨Int.le_refl _, by simp, by simp [chL], .inl rfl⟩
  | x :: l, m => by
    obtain ⟨h1, h2, h3⟩ := dvIt_spec f x.its (max m 1)
    obtain ⟨g1, g2, g3, g4⟩ := dvL_spec f l (dvIt f (max m 1) x.its)
    have e : dvL f m (x :: l) = dvL f (dvIt f (max m 1) x.its) l := rfl
    rw [e]
    have q1 : m ≤ max m 1 := Int.le_max_left ..
    have q2 : 1 ≤ max m 1 := Int.le_max_right ..
    refine ⟨Int.le_trans q1 (Int.le_trans h1 g1), fun _ => Int.le_trans q2 (Int.le_trans h1 g1), fun c hc => ?_, ?_⟩
    · rw [chL_cons] at hc
      rcases List.mem_append.1 hc with hc | hc
      · obtain ⟨y, hy, rfl⟩ := List.mem_map.1 hc
        exact Int.le_trans (h2 y hy) g1
      · exact g3 c hc
    · rcases g4 with g4 | g4 | ⟨c, hc, g4⟩
      · rcases h3 with h3 | ⟨y, hy, h3⟩
        · rcases Int.le_total m 1 with hm | hm
          · exact .inr (.inl (by omega))
          · exact .inl (by omega)
        · exact .inr (.inr ⟨y.1, by rw [chL_cons]; exact List.mem_append.2 (.inl (List.mem_map.2 ⟨y, hy, rfl⟩)), by omega⟩)
      · exact .inr (.inl g4)
      · exact .inr (.inr ⟨c, by rw [chL_cons]; exact List.mem_append.2 (.inr hc), g4⟩)

section
variable {r : List Iss}

theorem issOf_ne (hO : Ord r) {n : Int} (hn : n ∈ nums r) : issOf r n ≠ [] := by
  obtain ⟨i, hi, rfl⟩ := nums_of hO hn
  exact List.ne_nil_of_mem (a := r[i]) (List.mem_filter.2 ⟨List.getElem_mem hi, by simp⟩)
theorem Dv_eq (r : List Iss) (k : Nat) (n : Int) : Dv r (k + 1) n = dvL (Dv r k) 0 (issOf r n) := by
  rw [Dv, dvN_eq r _ n _ (Nat.le_refl _), List.take_length]
theorem Dv_ch (k : Nat) (n : Int) {c : Int} (hc : c ∈ C r n) : 1 + Dv r k c ≤ Dv r (k + 1) n := by
  rw [Dv_eq]; exact (dvL_spec _ _ _).2.2.1 c hc
theorem Dv_one (hO : Ord r) (k : Nat) {n : Int} (hn : n ∈ nums r) : 1 ≤ Dv r (k + 1) n := by
  rw [Dv_eq]; exact (dvL_spec _ _ _).2.1 (issOf_ne hO hn)
theorem Dv_or (hO : Ord r) (k : Nat) {n : Int} (hn : n ∈ nums r) : Dv r (k + 1) n = 1 ∨ ∃ c ∈ C r n, Dv r (k + 1) n = 1 + Dv r k c := by
  have h1 := Dv_one hO k hn
  rw [Dv_eq] at *
  rcases (dvL_spec (Dv r k) (issOf r n) 0).2.2.2 with h | h | h
  · omega
  · exact .inl h
  · exact .inr h
theorem C_in (hin : ∀ x ∈ r, ItsIn r x) {n c : Int} (hc : c ∈ C r n) : c ∈ nums r := by
  obtain ⟨x, hx, hc⟩ := List.mem_flatMap.1 hc
  obtain ⟨y, hy, rfl⟩ := List.mem_map.1 hc
  exact hin x (List.mem_filter.1 hx).1 y hy

/-! ### The program's passes. -/
theorem rdIt_iff (lf : List Int) : ∀ (its : List (Int × Int)) (b : Bool), rdIt lf b its = true ↔ b = true ∧ ∀ y ∈ its, y.1 ∉ lf
  | [], b => by simp [rdIt]
  | y :: its, b => by
    have e : rdIt lf b (y :: its) = rdIt lf (b && !decide (y.1 ∈ lf)) its := rfl
    rw [e, rdIt_iff lf its]
    simp [and_assoc]
theorem rdN_iff (lf : List Int) : ∀ (l : List Iss) (b : Bool), rdN lf b l = true ↔ b = true ∧ ∀ c ∈ chL l, c ∉ lf
  | [], b => by simp [rdN, chL]
  | x :: l, b => by
    have e : rdN lf b (x :: l) = rdN lf (rdIt lf b x.its) l := rfl
    rw [e, rdN_iff lf l, rdIt_iff, chL_cons]
    simp only [List.mem_append, List.mem_map]
    constructor
    · rintro ⟨⟨h1, h2⟩, h3⟩
      refine ⟨h1, fun c hc => ?_⟩
      rcases hc with ⟨y, hy, rfl⟩ | hc
      · exact h2 y hy
      · exact h3 c hc
    · rintro ⟨h1, h2⟩
      exact ⟨⟨h1, fun y hy => h2 _ (.inl ⟨y, hy, rfl⟩)⟩, fun c hc => h2 c (.inr hc)⟩
theorem msIt_spec (dp : List (Int × Int)) : ∀ (its : List (Int × Int)) (m : Int), m ≤ msIt dp m its ∧ (∀ y ∈ its, dpG dp y.1 ≤ msIt dp m its) ∧ (msIt dp m its = m ∨ ∃ y ∈ its, msIt dp m its = dpG dp y.1)
  | [], m => ⟨Int.le_refl _, by simp, .inl rfl⟩
  | y :: its, m => by
    obtain ⟨h1, h2, h3⟩ := msIt_spec dp its (max m (dpG dp y.1))
    have e : msIt dp m (y :: its) = msIt dp (max m (dpG dp y.1)) its := rfl
    rw [e]
    refine ⟨by omega, fun z hz => ?_, ?_⟩
    · rcases List.mem_cons.1 hz with rfl | hz
      · omega
      · exact h2 z hz
    · rcases h3 with h3 | ⟨z, hz, h3⟩
      · rcases Int.le_total m (dpG dp y.1) with hm | hm
        · exact .inr ⟨y, List.mem_cons_self .., by omega⟩
        · exact .inl (by omega)
      · exact .inr ⟨z, List.mem_cons_of_mem _ hz, h3⟩
theorem msN_spec (dp : List (Int × Int)) : ∀ (l : List Iss) (m : Int), m ≤ msN dp m l ∧ (∀ c ∈ chL l, dpG dp c ≤ msN dp m l) ∧ (msN dp m l = m ∨ ∃ c ∈ chL l, msN dp m l = dpG dp c)
  | [], m => ⟨Int.le_refl _, by simp [chL], .inl rfl⟩
  | x :: l, m => by
    obtain ⟨h1, h2, h3⟩ := msIt_spec dp x.its m
    obtain ⟨g1, g2, g3⟩ := msN_spec dp l (msIt dp m x.its)
    have e : msN dp m (x :: l) = msN dp (msIt dp m x.its) l := rfl
    rw [e]
    refine ⟨by omega, fun c hc => ?_, ?_⟩
    · rw [chL_cons] at hc
      rcases List.mem_append.1 hc with hc | hc
      · obtain ⟨y, hy, rfl⟩ := List.mem_map.1 hc
        have := h2 y hy; omega
      · exact g2 c hc
    · rcases g3 with g3 | ⟨c, hc, g3⟩
      · rcases h3 with h3 | ⟨y, hy, h3⟩
        · exact .inl (by omega)
        · exact .inr ⟨y.1, by rw [chL_cons]; exact List.mem_append.2 (.inl (List.mem_map.2 ⟨y, hy, rfl⟩)), by omega⟩
      · exact .inr ⟨c, by rw [chL_cons]; exact List.mem_append.2 (.inr hc), g3⟩

theorem dpLk_some {n : Int} : ∀ {dp : List (Int × Int)}, n ∈ dp.map (·.1) → ∃ v, dpLk n dp = some v
  | [], h => by simp at h
  | p :: dp, h => by
    simp only [dpLk]
    split
    · exact ⟨_, rfl⟩
    · rename_i e
      simp only [List.map_cons, List.mem_cons] at h
      exact dpLk_some (h.resolve_left fun e2 => e (by rw [e2]))

/-- What is reached has its depth, in all later rounds of the reference. -/
def AInv (r : List Iss) (s : List (Int × Int) × List Int) : Prop := ∀ p ∈ s.1, ∀ j : Nat, p.2 ≤ j → Dv r j p.1 = p.2
theorem AInv.step (hO : Ord r) (hin : ∀ x ∈ r, ItsIn r x) {s : List (Int × Int) × List Int} (hd : DInv r s) (h : AInv r s) {n : Int} (hn : n ∈ nums r) : AInv r (dStep r s n) := by
  unfold dStep
  split
  · rename_i hb
    obtain ⟨h1, h2⟩ := (rdN_iff _ _ _).1 hb
    have kids : ∀ c ∈ C r n, (c, dpG s.1 c) ∈ s.1 := fun c hc => by
      have hc1 : c ∈ s.1.map (·.1) ++ s.2 := hd.perm.mem_iff.2 (C_in hin hc)
      have hc2 : c ∈ s.1.map (·.1) := (List.mem_append.1 hc1).resolve_right (h2 c hc)
      obtain ⟨v, hv⟩ := dpLk_some hc2
      have := dpLk_mem hv
      rwa [show dpG s.1 c = v by simp [dpG, hv]]
    obtain ⟨m1, m2, m3⟩ := msN_spec s.1 (issOf r n) 0
    intro p hp j hj
    rcases List.mem_append.1 hp with hp | hp
    · exact h p hp j hj
    · simp only [List.mem_singleton] at hp
      subst hp
      simp only at hj ⊢
      obtain ⟨j, rfl⟩ : ∃ j', j = j' + 1 := ⟨j - 1, by omega⟩
      have same : ∀ c ∈ C r n, Dv r j c = dpG s.1 c := fun c hc => by
        have := m2 c hc
        exact h _ (kids c hc) j (by simp only; omega)
      have o1 := Dv_one hO j hn
      apply Int.le_antisymm
      · rcases Dv_or hO j hn with e | ⟨c, hc, e⟩
        · omega
        · have := m2 c hc; have := same c hc; omega
      · rcases m3 with e | ⟨c, hc, e⟩
        · omega
        · have := Dv_ch (r := r) j n hc; have := same c hc; omega
  · exact h
theorem AInv.fold (hO : Ord r) (hin : ∀ x ∈ r, ItsIn r x) : ∀ (l : List Int) {s : List (Int × Int) × List Int}, (∀ n ∈ l, n ∈ nums r) → DInv r s → AInv r s → AInv r (l.foldl (dStep r) s)
  | [], s, _, _, h => h
  | n :: l, s, hl, hd, h => AInv.fold hO hin l (fun m hm => hl m (List.mem_cons_of_mem _ hm)) (hd.step n) (h.step hO hin hd (hl n (List.mem_cons_self ..)))
theorem AInv.run (hO : Ord r) (hin : ∀ x ∈ r, ItsIn r x) : ∀ k, AInv r (dRun r k)
  | 0 => by intro p hp; simp [dRun] at hp
  | k + 1 => AInv.fold hO hin (nums r) (fun _ h => h) (DInv.run r k) (AInv.run hO hin k)

/-- Nothing more is reached. -/
def Stuck (r : List Iss) (L : List Int) : Prop := ∀ n ∈ L, ∃ c ∈ C r n, c ∈ L
theorem step_not {s : List (Int × Int) × List Int} {n : Int} (h : ¬ rdN s.2 (decide (n ∈ s.2)) (issOf r n) = true) : dStep r s n = s ∧ (n ∈ s.2 → ∃ c ∈ C r n, c ∈ s.2) := by
  refine ⟨by unfold dStep; rw [if_neg h], fun hn => ?_⟩
  rw [rdN_iff] at h
  by_cases e : ∃ c ∈ C r n, c ∈ s.2
  · exact e
  · exact absurd ⟨decide_eq_true hn, fun c hc h2 => e ⟨c, hc, h2⟩⟩ h
theorem step_len (s : List (Int × Int) × List Int) (n : Int) : (dStep r s n).2.length ≤ s.2.length := by
  unfold dStep
  split
  · exact List.length_erase_le
  · exact Nat.le_refl _
theorem fold_len : ∀ (l : List Int) (s : List (Int × Int) × List Int), (l.foldl (dStep r) s).2.length ≤ s.2.length
  | [], s => Nat.le_refl _
  | n :: l, s => Nat.le_trans (fold_len l _) (step_len s n)
theorem fold_dec : ∀ (l : List Int) (s : List (Int × Int) × List Int), (l.foldl (dStep r) s).2.length < s.2.length ∨ (l.foldl (dStep r) s = s ∧ ∀ n ∈ l, n ∈ s.2 → ∃ c ∈ C r n, c ∈ s.2)
  | [], s => .inr ⟨rfl, by simp⟩
  | n :: l, s => by
    by_cases e : rdN s.2 (decide (n ∈ s.2)) (issOf r n) = true
    · refine .inl (Nat.lt_of_le_of_lt (fold_len l _) ?_)
      have hm := rdN_mem e
      unfold dStep
      rw [if_pos e]
      have := List.length_erase_of_mem hm
      have := List.length_pos_of_mem hm
      simp only; omega
    · obtain ⟨h1, h2⟩ := step_not e
      rw [List.foldl_cons, h1]
      rcases fold_dec l s with h | ⟨h3, h4⟩
      · exact .inl h
      · refine .inr ⟨h3, fun m hm => ?_⟩
        rcases List.mem_cons.1 hm with rfl | hm
        · exact h2
        · exact h4 m hm
theorem fold_stuck : ∀ (l : List Int) {s : List (Int × Int) × List Int}, Stuck r s.2 → l.foldl (dStep r) s = s
  | [], s, _ => rfl
  | n :: l, s, h => by
    have : ¬ rdN s.2 (decide (n ∈ s.2)) (issOf r n) = true := fun e => by
      have hm := rdN_mem e
      obtain ⟨c, hc, h2⟩ := h n hm
      exact ((rdN_iff _ _ _).1 e).2 c hc h2
    rw [List.foldl_cons, (step_not this).1]
    exact fold_stuck l h
theorem run_or (r : List Iss) : ∀ k, (dRun r k).2.length + k ≤ (nums r).length ∨ Stuck r (dRun r k).2
  | 0 => .inl (by simp [dRun])
  | k + 1 => by
    have hsub : ∀ n ∈ (dRun r k).2, n ∈ nums r := fun n hn => (DInv.run r k).perm.mem_iff.1 (List.mem_append.2 (.inr hn))
    rcases run_or r k with h | h
    · rcases fold_dec (r := r) (nums r) (dRun r k) with h2 | ⟨h2, h3⟩
      · exact .inl (by simp only [dRun, dPass]; omega)
      · refine .inr ?_
        simp only [dRun, dPass]
        rw [h2]
        exact fun n hn => h3 n (hsub n hn) hn
    · refine .inr ?_
      simp only [dRun, dPass]
      rw [fold_stuck (nums r) h]; exact h
theorem stuck_Dv {L : List Int} (h : Stuck r L) : ∀ (k : Nat) (n : Int), n ∈ L → (k : Int) ≤ Dv r k n
  | 0, n, _ => by simp [Dv]
  | k + 1, n, hn => by
    obtain ⟨c, hc, h2⟩ := h n hn
    have := stuck_Dv h k c h2
    have := Dv_ch (r := r) k n hc
    omega

theorem most_lt (g : Int → Int) (K : Int) : ∀ (l : List Int) (m : Int), K < l.foldl (fun m n => max m (g n)) m ↔ K < m ∨ ∃ n ∈ l, K < g n
  | [], m => by simp
  | n :: l, m => by
    rw [List.foldl_cons, most_lt g K l]
    simp only [List.mem_cons, exists_eq_or_imp]
    rw [← or_assoc]
    refine or_congr_left ?_
    omega
theorem mostV_lt {l : List Int} {g : Int → Int} {K : Int} (hK : 0 ≤ K) : K < mostV l g ↔ ∃ n ∈ l, K < g n := by
  rw [mostV, most_lt]
  constructor
  · rintro (h | h)
    · omega
    · exact h
  · exact .inr

/-- Where no drawing is left, depths are the reference's. -/
theorem dp_Dv (hL : listedB r = true) (h : (dRun r (nums r).length).2.length = 0) {n : Int} (hn : n ∈ nums r) : (n, dpG (dRun r (nums r).length).1 n) ∈ (dRun r (nums r).length).1 ∧ Dv r ((nums r).length + 1) n = dpG (dRun r (nums r).length).1 n := by
  have hd := DInv.run r (nums r).length
  have h0 : (dRun r (nums r).length).2 = [] := List.length_eq_zero_iff.1 h
  have h1 : n ∈ (dRun r (nums r).length).1.map (·.1) := by
    have := hd.perm.mem_iff.2 hn
    rwa [h0, List.append_nil] at this
  obtain ⟨v, hv⟩ := dpLk_some h1
  have hm := dpLk_mem hv
  have e : dpG (dRun r (nums r).length).1 n = v := by simp [dpG, hv]
  rw [e]
  refine ⟨hm, ?_⟩
  have hb := hd.bd _ hm
  have hl := hd.len
  exact AInv.run (ord_of hL) (fun x hx => listed_in hL hx) _ _ hm _ (by simp only at hb ⊢; omega)

theorem open_chk (r : List Iss) : openV r = chkV r := by
  unfold openV chkV
  cases hL : listedB r
  · rfl
  · simp only [if_true]
    by_cases h : 0 < (dRun r (nums r).length).2.length
    · rw [if_pos h]
      have hs : Stuck r (dRun r (nums r).length).2 := (run_or r (nums r).length).resolve_left (by omega)
      obtain ⟨n, hn⟩ := List.exists_mem_of_length_pos h
      have hn2 : n ∈ nums r := (DInv.run r _).perm.mem_iff.1 (List.mem_append.2 (.inr hn))
      have := stuck_Dv hs ((nums r).length + 1) n hn
      rw [if_pos ((mostV_lt (by omega)).2 ⟨n, hn2, by omega⟩)]
    · rw [if_neg h]
      have h0 : (dRun r (nums r).length).2.length = 0 := by omega
      have hd := DInv.run r (nums r).length
      have hl := hd.len
      have e1 : (∃ p ∈ (dRun r (nums r).length).1, 6 < p.2) ↔ 6 < mostV (nums r) (Dv r ((nums r).length + 1)) := by
        rw [mostV_lt (by omega)]
        constructor
        · rintro ⟨p, hp, h6⟩
          have hn : p.1 ∈ nums r := hd.perm.mem_iff.1 (List.mem_append.2 (.inl (List.mem_map.2 ⟨p, hp, rfl⟩)))
          refine ⟨p.1, hn, ?_⟩
          have hb := hd.bd _ hp
          rw [AInv.run (ord_of hL) (fun x hx => listed_in hL hx) _ _ hp _ (by omega)]; exact h6
        · rintro ⟨n, hn, h6⟩
          obtain ⟨h1, h2⟩ := dp_Dv hL h0 hn
          rw [h2] at h6
          exact ⟨_, h1, h6⟩
      have e2 : ¬ ((nums r).length : Int) < mostV (nums r) (Dv r ((nums r).length + 1)) := by
        rw [mostV_lt (by omega)]
        rintro ⟨n, hn, h6⟩
        obtain ⟨h1, h2⟩ := dp_Dv hL h0 hn
        have := hd.bd _ h1
        rw [h2] at h6
        simp only at this
        omega
      rw [if_neg e2]
      by_cases c : 6 < mostV (nums r) (Dv r ((nums r).length + 1))
      · rw [if_pos c, if_pos (e1.2 c)]
      · rw [if_neg c, if_neg fun e => c (e1.1 e)]

theorem left_none {r : List Iss} (h : openV r = 0) : (dRun r (nums r).length).2.length = 0 := by
  unfold openV at h
  split at h
  · split at h
    · cases h
    · omega
  · cases h

/-! ### Letters. -/
theorem issOf_succ {i : Nat} (hi : i < r.length) (n : Int) : issOf (r.take (i + 1)) n = if r[i].d = n then issOf (r.take i) n ++ [r[i]] else issOf (r.take i) n := by
  rw [List.take_succ_eq_append_getElem hi, issOf, List.filter_append]
  split
  · rename_i e; rw [List.filter_cons_of_pos (by simpa using e)]; rfl
  · rename_i e; rw [List.filter_cons_of_neg (by simpa using e), List.filter_nil, List.append_nil]; rfl
theorem let_eq (hL : listedB r = true) : ∀ (i : Nat) (hi : i < r.length), r[i].l = ((issOf (r.take (i + 1)) r[i].d).length : Nat)
  | 0, hi => by
    have h0 := listed_ord hL hi
    simp only [ordB, decide_eq_true_eq, at_eq hi] at h0
    rw [h0, issOf_succ hi, if_pos rfl]; simp [issOf]
  | j + 1, hi => by
    have hj : j < r.length := by omega
    have h0 := listed_ord hL hi
    have ih := let_eq hL j hj
    have hO := ord_of hL
    rw [issOf_succ hi, if_pos rfl]
    simp only [ordB, at_eq hi, at_eq hj] at h0
    split at h0
    · cases h0
    · split at h0
      · rename_i h1 h2
        have e : issOf (r.take (j + 1)) r[j + 1].d = [] := by
          rw [issOf, List.filter_eq_nil_iff]
          intro x hx
          obtain ⟨k, hk, rfl⟩ := List.getElem_of_mem hx
          simp only [List.length_take] at hk
          have := hO.mono (i := k) (j := j) (by omega) hj
          rw [at_eq (show k < r.length by omega), at_eq hj] at this
          simp only [List.getElem_take, decide_eq_true_eq]
          omega
        rw [e]
        simpa using h0
      · rename_i h1 h2
        simp only [Bool.and_eq_true, decide_eq_true_eq] at h0
        have e : r[j + 1].d = r[j].d := by omega
        rw [e, h0.1, ih]
        simp
theorem lastN_eq (hL : listedB r = true) (n : Int) : ∀ i, i ≤ r.length → lastN r n i = ((issOf (r.take i) n).length : Nat)
  | 0, _ => by simp [lastN, issOf]
  | i + 1, hi => by
    have hlt : i < r.length := by omega
    have ih := lastN_eq hL n i (by omega)
    rw [lastN, at_eq hlt, issOf_succ hlt]
    split
    · rename_i e
      have := let_eq hL i hlt
      rw [e, issOf_succ hlt, if_pos e] at this
      rw [ih, this]
      simp only [List.length_append, List.length_cons, List.length_nil]
      omega
    · exact ih
theorem last_cnt (hL : listedB r = true) (n : Int) : lastV r n = cntV r n := by
  rw [lastV, lastN_eq hL n _ (Nat.le_refl _), List.take_length]; rfl
/-! ### What is told. -/
end
end Go.Proofs.YtdpmioiamcgfkaaDoor

/-! The reference's Twin, by the abstract machine. -/
namespace Go.Proofs.YtdpmioiamcgfkaaDoor
open Go.RowKit

def twR (r : List Iss) (i : Nat) : List (List AV) := (r.take i).map isa
theorem twR_len {r : List Iss} {i : Nat} (h : i ≤ r.length) : (twR r i).length = i := by simp [twR]; omega
theorem twR_succ {r : List Iss} {i : Nat} (h : i < r.length) : twR r (i + 1) = twR r i ++ [[.int .i64 r[i].d, .int .i64 r[i].l, .int .u8 r[i].k, .vsl (r[i].its.map ita), .vsl (r[i].dms.map dma)]] := by
  rw [twR, List.take_succ_eq_append_getElem h, List.map_append]; rfl
theorem twR_kept {r : List Iss} {i : Nat} (o : List (Nat × AObj)) : keptO o (.row 5 (twR r i)) = true := by
  simp only [keptO, List.all_eq_true, twR, List.mem_map]
  rintro x ⟨y, -, rfl⟩ v hv
  simp only [isa, List.mem_cons, List.not_mem_nil, or_false] at hv
  rcases hv with rfl | rfl | rfl | rfl | rfl <;> simp [keptA, AV.keys]
theorem twR_end (r : List Iss) : twR r r.length = r.map isa := by rw [twR, List.take_length]
section
variable {G : Nat → Option (List AV)}

end
end Go.Proofs.YtdpmioiamcgfkaaDoor

/-! Plain functions of parts and trees: letters, the issue that is taken, parts by counts, trees; and how the program's reckoning meets the reference's. -/
namespace Go.Proofs.YtdpmioiamcgfkaaDoor
open Go.RowKit

/-! ### Letters. -/
/-- The letter of a drawing. -/
def ltOf (r : List Iss) (lt : List Int) (n : Int) : Int := lt.getD ((nums r).idxOf n) 0
/-- The issue that is taken. -/
def tkV (r : List Iss) (lt : List Int) (n : Int) : Iss := (findN n (ltOf r lt n) r).getD zI
/-- The letters are right. -/
def ltB (r : List Iss) (lt : List Int) : Bool := decide (lt.length = (nums r).length) && (List.range (nums r).length).all fun i => inR (lt.getD i 0) 1 (lastV r ((nums r).getD i 0))
/-- The error of a register, letters, a drawing. -/
def askV (r : List Iss) (lt : List Int) (n : Int) : Int := if openV r ≠ 0 then openV r else if ltB r lt = false then 22 else if n ∈ nums r then 0 else 6

section
variable {r : List Iss}

theorem let_ex (hL : listedB r = true) (n : Int) : ∀ (i : Nat), i ≤ r.length → ∀ k : Nat, 1 ≤ k → k ≤ (issOf (r.take i) n).length → ∃ j, ∃ h : j < r.length, r[j].d = n ∧ r[j].l = k
  | 0, _, k, h1, h2 => by simp [issOf] at h2; omega
  | i + 1, hi, k, h1, h2 => by
    have hlt : i < r.length := by omega
    by_cases c : k ≤ (issOf (r.take i) n).length
    · exact let_ex hL n i (by omega) k h1 c
    · have hl := let_eq hL i hlt
      rw [issOf_succ hlt] at h2
      split at h2
      · rename_i e
        simp only [List.length_append, List.length_cons, List.length_nil] at h2
        refine ⟨i, hlt, e, ?_⟩
        rw [hl, e, issOf_succ hlt, if_pos e]
        simp only [List.length_append, List.length_cons, List.length_nil]
        omega
      · omega
theorem let_bd (hL : listedB r = true) {x : Iss} (hx : x ∈ r) : 1 ≤ x.l ∧ x.l ≤ cntV r x.d := by
  obtain ⟨i, hi, rfl⟩ := List.getElem_of_mem hx
  have h1 := let_eq hL i hi
  have h2 : (issOf (r.take (i + 1)) r[i].d).length ≤ (issOf r r[i].d).length := ((List.take_sublist (i + 1) r).filter _).length_le
  have h3 : 0 < (issOf (r.take (i + 1)) r[i].d).length := by rw [issOf_succ hi, if_pos rfl]; simp
  have h4 : cntV r r[i].d = ((issOf r r[i].d).length : Nat) := rfl
  omega
theorem find_mem (hL : listedB r = true) {x : Iss} (hx : x ∈ r) : findN x.d x.l r = some x := find_own hL x hx
/-- An issue is there just where its letter is from 1 to the last. -/
theorem find_iff (hL : listedB r = true) (n l : Int) : (findN n l r).isSome = true ↔ inR l 1 (lastV r n) = true := by
  rw [inR, decide_eq_true_eq, last_cnt hL]
  constructor
  · intro h
    obtain ⟨x, hx⟩ := Option.isSome_iff_exists.1 h
    obtain ⟨h1, rfl, rfl⟩ := findN_mem hx
    exact let_bd hL h1
  · rintro ⟨h1, h2⟩
    have h3 : cntV r n = ((issOf r n).length : Nat) := rfl
    obtain ⟨j, hj, rfl, e⟩ := let_ex hL n r.length (Nat.le_refl _) l.toNat (by omega) (by rw [List.take_length]; omega)
    have := find_mem hL (List.getElem_mem hj)
    rw [e, show ((l.toNat : Nat) : Int) = l by omega] at this
    rw [this]; rfl

theorem nums_idx {n : Int} (hn : n ∈ nums r) : (nums r).idxOf n < (nums r).length ∧ (nums r).getD ((nums r).idxOf n) 0 = n := by
  have h1 : (nums r).idxOf n < (nums r).length := List.idxOf_lt_length_iff.2 hn
  exact ⟨h1, by rw [List.getD_eq_getElem?_getD, List.getElem?_eq_getElem h1, List.getElem_idxOf h1]; rfl⟩
theorem tk_some (hL : listedB r = true) {lt : List Int} (h : ltB r lt = true) {n : Int} (hn : n ∈ nums r) : findN n (ltOf r lt n) r = some (tkV r lt n) := by
  simp only [ltB, Bool.and_eq_true, decide_eq_true_eq] at h
  obtain ⟨h1, h2⟩ := nums_idx hn
  have := range_all.1 h.2 _ h1
  rw [h2, ← find_iff hL] at this
  obtain ⟨x, hx⟩ := Option.isSome_iff_exists.1 this
  have e : findN n (ltOf r lt n) r = some x := hx
  rw [tkV, e]; rfl
theorem tk_mem (hL : listedB r = true) {lt : List Int} (h : ltB r lt = true) {n : Int} (hn : n ∈ nums r) : tkV r lt n ∈ r ∧ (tkV r lt n).d = n :=
  let ⟨h1, h2, _⟩ := findN_mem (tk_some hL h hn); ⟨h1, h2⟩
theorem tk_its (hL : listedB r = true) {lt : List Int} (h : ltB r lt = true) {n : Int} (hn : n ∈ nums r) : ∀ y ∈ (tkV r lt n).its, y.1 ∈ nums r := listed_in hL (tk_mem hL h hn).1
theorem iss_kind {x : Iss} (h : issB x = true) : 1 ≤ x.k ∧ x.k ≤ 3 ∧ x.its.length ≤ 8 ∧ (x.k ≠ 1 → x.its = []) := by
  simp only [issB, headB, Bool.and_eq_true, inR, decide_eq_true_eq] at h
  obtain ⟨⟨⟨⟨-, h1⟩, h2⟩, -⟩, -⟩ := h
  refine ⟨by omega, by omega, ?_, fun hk => ?_⟩
  · split at h2
    · simp only [Bool.and_eq_true, decide_eq_true_eq] at h2; omega
    · simp only [Bool.and_eq_true, decide_eq_true_eq] at h2; omega
  · rw [if_neg hk] at h2
    simp only [Bool.and_eq_true, decide_eq_true_eq] at h2
    exact List.length_eq_zero_iff.1 h2.2

/-! ### How deep a drawing is. -/
def dpN (r : List Iss) (n : Int) : Nat := (Dv r ((nums r).length + 1) n).toNat
theorem dpN_bd (ho : openV r = 0) {n : Int} (hn : n ∈ nums r) : 1 ≤ dpN r n ∧ dpN r n ≤ 6 := by
  have hL := open_listed ho
  have h0 := left_none ho
  obtain ⟨h1, h2⟩ := dp_Dv hL h0 hn
  have hb := (DInv.run r (nums r).length).bd _ h1
  have h6 : dpG (dRun r (nums r).length).1 n ≤ 6 := by
    unfold openV at ho
    rw [if_pos hL, if_neg (by omega)] at ho
    split at ho
    · cases ho
    · rename_i h3
      exact Int.not_lt.1 fun h4 => h3 ⟨_, h1, h4⟩
  unfold dpN
  rw [h2]
  simp only at hb
  omega
theorem dpN_lt (ho : openV r = 0) {n c : Int} (hn : n ∈ nums r) (hc : c ∈ C r n) : dpN r c < dpN r n := by
  have hL := open_listed ho
  have h0 := left_none ho
  have hcn : c ∈ nums r := C_in (fun x hx => listed_in hL hx) hc
  obtain ⟨h1, h2⟩ := dp_Dv hL h0 hcn
  have hd := DInv.run r (nums r).length
  have hb := hd.bd _ h1
  have hl := hd.len
  have e := AInv.run (ord_of hL) (fun x hx => listed_in hL hx) _ _ h1 (nums r).length (by simp only at hb ⊢; omega)
  have g1 := Dv_ch (r := r) (nums r).length n hc
  have g2 := (Dv_bd r ((nums r).length + 1) n).1
  have g3 := (Dv_bd r ((nums r).length + 1) c).1
  simp only at e
  unfold dpN
  omega
theorem its_C (hL : listedB r = true) {lt : List Int} (h : ltB r lt = true) {n : Int} (hn : n ∈ nums r) {y : Int × Int} (hy : y ∈ (tkV r lt n).its) : y.1 ∈ C r n := by
  obtain ⟨h1, h2⟩ := tk_mem hL h hn
  exact List.mem_flatMap.2 ⟨_, List.mem_filter.2 ⟨h1, by simpa using h2⟩, List.mem_map.2 ⟨y, hy, rfl⟩⟩
end

/-! ### Parts. -/
def addW (a b : Int) : Int := IntKind.i64.wrap (a + b)
def mulW (a b : Int) : Int := IntKind.i64.wrap (a * b)
/-- Parts by drawings, as the reference reckons. -/
def paV (T : Int → Iss) : Nat → Int → Int → (Int → Int) → (Int → Int)
  | 0, _, _, g => g
  | k + 1, d, m, g => if 1 < (T d).k then (fun n => if n = d then addW (g d) m else g n) else (T d).its.foldl (fun g y => paV T k y.1 (mulW m y.2) g) g
/-- The same, in a list of drawings and counts. -/
def mpG (l : List (Int × Int)) (n : Int) : Int := dpG l n
def mpPut (n v : Int) : List (Int × Int) → List (Int × Int)
  | [] => [(n, v)]
  | p :: l => if p.1 = n then (n, v) :: l else p :: mpPut n v l
def paM (T : Int → Iss) : Nat → Int → Int → List (Int × Int) → List (Int × Int)
  | 0, _, _, l => l
  | k + 1, d, m, l => (T d).its.foldl (fun l y => paM T k y.1 (mulW m y.2) l) (if (T d).k = 1 then l else mpPut d (addW (mpG l d) m) l)
theorem mpG_put (n v : Int) : ∀ (l : List (Int × Int)) (x : Int), mpG (mpPut n v l) x = if x = n then v else mpG l x
  | [], x => by
    simp only [mpPut, mpG, dpG, dpLk]
    by_cases e : x = n
    · rw [if_pos e, if_pos e]; rfl
    · rw [if_neg e, if_neg e]
  | p :: l, x => by
    have ih := mpG_put n v l x
    simp only [mpG, dpG] at ih ⊢
    simp only [mpPut]
    by_cases e : p.1 = n
    · rw [if_pos e]
      simp only [dpLk]
      by_cases e2 : x = n
      · rw [if_pos e2, if_pos e2]; rfl
      · rw [if_neg e2, if_neg e2, if_neg (by rw [e]; exact e2)]
    · rw [if_neg e]
      simp only [dpLk]
      by_cases e2 : x = p.1
      · rw [if_pos e2, if_pos e2, if_neg (by rintro rfl; exact e e2.symm)]
      · rw [if_neg e2, if_neg e2]; exact ih
theorem paM_eq {T : Int → Iss} {D : List Int} (hk : ∀ d ∈ D, 1 ≤ (T d).k ∧ ((T d).k ≠ 1 → (T d).its = [])) (hin : ∀ d ∈ D, ∀ y ∈ (T d).its, y.1 ∈ D) : ∀ (k : Nat) (d m : Int) (l : List (Int × Int)), d ∈ D → mpG (paM T k d m l) = paV T k d m (mpG l)
  | 0, d, m, l, _ => rfl
  | k + 1, d, m, l, hd => by
    obtain ⟨h1, h2⟩ := hk d hd
    simp only [paM, paV]
    by_cases e : (T d).k = 1
    · rw [if_pos e, if_neg (by omega)]
      have key : ∀ (its : List (Int × Int)) (l : List (Int × Int)), (∀ y ∈ its, y.1 ∈ D) → mpG (its.foldl (fun l y => paM T k y.1 (mulW m y.2) l) l) = its.foldl (fun g y => paV T k y.1 (mulW m y.2) g) (mpG l) := by
        intro its
        induction its with
        | nil => intro l _; rfl
        | cons y its ih =>
          intro l hy
          simp only [List.foldl_cons]
          rw [ih _ fun z hz => hy z (List.mem_cons_of_mem _ hz), paM_eq hk hin k y.1 _ l (hy y (List.mem_cons_self ..))]
      exact key _ l (hin d hd)
    · rw [if_neg e, if_pos (by omega), h2 e, List.foldl_nil]
      funext n
      rw [mpG_put]

/-- The parts, in order. -/
def ptN (l : List Int) (g : Int → Int) (i : Nat) : List (Int × Int) := ((l.take i).filter fun n => decide (0 < g n)).map fun n => (n, g n)
theorem ptN_succ {l : List Int} {g : Int → Int} {i : Nat} (h : i < l.length) : ptN l g (i + 1) = if 0 < g l[i] then ptN l g i ++ [(l[i], g l[i])] else ptN l g i := by
  rw [ptN, List.take_succ_eq_append_getElem h, List.filter_append, List.map_append]
  split
  · rename_i e; rw [List.filter_cons_of_pos (by simpa using e)]; rfl
  · rename_i e; rw [List.filter_cons_of_neg (by simpa using e), List.filter_nil, List.map_nil, List.append_nil]; rfl
theorem ptN_len (l : List Int) (g : Int → Int) (i : Nat) : (ptN l g i).length ≤ i := by
  simp only [ptN, List.length_map]
  exact Nat.le_trans (List.length_filter_le _ _) (by simp; omega)
def exV (r : List Iss) (lt : List Int) (n : Int) : List (Int × Int) × Int := if askV r lt n = 0 then (ptN (nums r) (paV (tkV r lt) 6 n 1 fun _ => 0) (nums r).length, 0) else ([], askV r lt n)
theorem ask_0 {r : List Iss} {lt : List Int} {n : Int} (h : askV r lt n = 0) : openV r = 0 ∧ ltB r lt = true ∧ n ∈ nums r := by
  unfold askV at h
  split at h
  · rename_i e; exact absurd h e
  · rename_i e
    split at h
    · cases h
    · rename_i e2
      split at h
      · rename_i e3; exact ⟨by simpa using e, by simpa using e2, e3⟩
      · cases h

/-! ### Trees. -/
structure Brn where
  dep : Int
  d : Int
  l : Int
  c : Int
  deriving DecidableEq, Inhabited
def bra (b : Brn) : List AV := [.int .i64 b.dep, .int .i64 b.d, .int .i64 b.l, .int .i64 b.c]
def trV (T : Int → Iss) : Nat → Int → Int → Int → List Brn
  | 0, _, _, _ => []
  | k + 1, dep, d, c => ⟨dep, d, (T d).l, c⟩ :: (T d).its.flatMap fun y => trV T k (dep + 1) y.1 y.2
def brN (T : Int → Iss) : Nat → Int → Nat
  | 0, _ => 0
  | k + 1, d => (T d).its.foldl (fun a y => a + brN T k y.1) 1
theorem trV_brN {T : Int → Iss} : ∀ (k : Nat) (dep d c : Int), (trV T k dep d c).length = brN T k d
  | 0, _, _, _ => rfl
  | k + 1, dep, d, c => by
    have key : ∀ (its : List (Int × Int)) (a : Nat), its.foldl (fun a y => a + brN T k y.1) a = a + (its.flatMap fun y => trV T k (dep + 1) y.1 y.2).length := by
      intro its
      induction its with
      | nil => intro a; simp
      | cons y its ih =>
        intro a
        rw [List.foldl_cons, ih, List.flatMap_cons, List.length_append, trV_brN k]
        omega
    rw [brN, key]
    simp only [trV, List.length_cons]
    omega
/-- The program stops where there are too many. -/
def grV (T : Int → Iss) : Nat → Int → Int → Int → List Brn → List Brn
  | 0, _, _, _, l => l
  | k + 1, dep, d, c, l => if 500 < l.length then l else (T d).its.foldl (fun l y => grV T k (dep + 1) y.1 y.2 l) (l ++ [⟨dep, d, (T d).l, c⟩])
theorem grV_501 {T : Int → Iss} : ∀ (k : Nat) (dep d c : Int) (l : List Brn), l.length ≤ 501 → (grV T k dep d c l).length ≤ 501
  | 0, _, _, _, _, h => h
  | k + 1, dep, d, c, l, h => by
    simp only [grV]
    split
    · exact h
    · have key : ∀ (its : List (Int × Int)) (l : List Brn), l.length ≤ 501 → (its.foldl (fun l y => grV T k (dep + 1) y.1 y.2 l) l).length ≤ 501 := by
        intro its
        induction its with
        | nil => intro l h; exact h
        | cons y its ih => intro l h; exact ih _ (grV_501 k _ _ _ _ h)
      exact key _ _ (by simp; omega)
theorem grV_eq {T : Int → Iss} : ∀ (k : Nat) (dep d c : Int) (l : List Brn), ((l ++ trV T k dep d c).length ≤ 500 → grV T k dep d c l = l ++ trV T k dep d c) ∧ (500 < (l ++ trV T k dep d c).length → 500 < (grV T k dep d c l).length)
  | 0, dep, d, c, l => by simp [grV, trV]
  | k + 1, dep, d, c, l => by
    simp only [grV]
    by_cases h : 500 < l.length
    · rw [if_pos h]
      exact ⟨fun h2 => by simp at h2; omega, fun _ => h⟩
    · rw [if_neg h]
      have key : ∀ (its : List (Int × Int)) (l : List Brn), ((l ++ its.flatMap fun y => trV T k (dep + 1) y.1 y.2).length ≤ 500 → its.foldl (fun l y => grV T k (dep + 1) y.1 y.2 l) l = l ++ its.flatMap fun y => trV T k (dep + 1) y.1 y.2) ∧
          (500 < (l ++ its.flatMap fun y => trV T k (dep + 1) y.1 y.2).length → 500 < (its.foldl (fun l y => grV T k (dep + 1) y.1 y.2 l) l).length) := by
        intro its
        induction its with
        | nil => intro l; simp
        | cons y its ih =>
          intro l
          obtain ⟨g1, g2⟩ := grV_eq (T := T) k (dep + 1) y.1 y.2 l
          obtain ⟨i1, i2⟩ := ih (grV T k (dep + 1) y.1 y.2 l)
          simp only [List.foldl_cons, List.flatMap_cons]
          rw [← List.append_assoc]
          by_cases c1 : (l ++ trV T k (dep + 1) y.1 y.2).length ≤ 500
          · rw [g1 c1] at i1 i2 ⊢
            exact ⟨i1, i2⟩
          · have c2 := g2 (by omega)
            refine ⟨fun h2 => by simp only [List.length_append] at h2 c1; omega, fun _ => i2 ?_⟩
            simp only [List.length_append]; omega
      have := key (T d).its (l ++ [⟨dep, d, (T d).l, c⟩])
      simp only [trV]
      rw [List.append_assoc, List.singleton_append] at this
      exact this
end Go.Proofs.YtdpmioiamcgfkaaDoor

/-! Parts and trees: what the reference's functions compute: letters, the error, the issue that is taken, branches, trees. -/
namespace Go.Proofs.YtdpmioiamcgfkaaDoor
open Go.RowKit

section
variable {G : Nat → Option (List AV)}

theorem dp_pos {r : List Iss} (ho : openV r = 0) {n : Int} (hn : n ∈ nums r) (h : dpN r n ≤ 0) : False := by have := dpN_bd ho hn; omega
theorem dp_its {r : List Iss} {lt : List Int} (ho : openV r = 0) (hlt : ltB r lt = true) {n : Int} (hn : n ∈ nums r) {k : Nat} (hk : dpN r n ≤ k + 1) {y : Int × Int} (hy : y ∈ (tkV r lt n).its) : y.1 ∈ nums r ∧ dpN r y.1 ≤ k := by
  have hL := open_listed ho
  have := dpN_lt ho hn (its_C hL hlt hn hy)
  exact ⟨tk_its hL hlt hn y hy, by omega⟩
theorem tk_8 {r : List Iss} {lt : List Int} (ho : openV r = 0) (hlt : ltB r lt = true) : ∀ d ∈ nums r, (tkV r lt d).its.length ≤ 8 := fun d hd =>
  (iss_kind (listed_iss (open_listed ho) (tk_mem (open_listed ho) hlt hd).1)).2.2.1
theorem bra_all (l : List Brn) : (l.map bra).all (fun r => r.length == 4) = true ∧ (l.map bra).all (fun r => r.all AV.one) = true ∧ (l.map bra).all (fun r => r.all AV.pure) = true := by
  refine ⟨by simp [bra], by simp [bra, AV.one], by simp [bra, AV.pure]⟩
theorem bra_kept (l : List Brn) (o : List (Nat × AObj)) : keptO o (.row 4 (l.map bra)) = true := by
  simp only [keptO, List.all_eq_true, List.mem_map]
  rintro x ⟨y, -, rfl⟩ v hv
  simp only [bra, List.mem_cons, List.not_mem_nil, or_false] at hv
  rcases hv with rfl | rfl | rfl | rfl <;> simp [keptA, AV.keys]
end
end Go.Proofs.YtdpmioiamcgfkaaDoor

/-! Parts: what the reference's functions compute. -/
namespace Go.Proofs.YtdpmioiamcgfkaaDoor
open Go.RowKit

theorem GO0 {P : Program} {R : Run} {c : RCode} {ks : List KF} {Φ : Exit → St → Prop} {st : St} (h : AR P R c st (RetP P R ks Φ)) : GO P R 0 (.run c) ks Φ st := h

section
variable {G : Nat → Option (List AV)}

theorem ita_kept (l : List (Int × Int)) (o : List (Nat × AObj)) : keptO o (.row 2 (l.map ita)) = true := by
  simp only [keptO, List.all_eq_true, List.mem_map]
  rintro x ⟨y, -, rfl⟩ v hv
  simp only [ita, List.mem_cons, List.not_mem_nil, or_false] at hv
  rcases hv with rfl | rfl <;> simp [keptA, AV.keys]

/-- The tree, or the error. -/
def trE (r : List Iss) (lt : List Int) (n : Int) : List Brn × Int := if askV r lt n = 0 then if 500 < brN (tkV r lt) 6 n then ([], 4) else (trV (tkV r lt) 6 0 n 1, 0) else ([], askV r lt n)
theorem brn_ne {a b : Brn} (h : ¬ a = b) : (!decide (a.dep = b.dep) || (!decide (a.d = b.d) || (!decide (a.l = b.l) || !decide (a.c = b.c)))) = true := by
  cases h5 : (!decide (a.dep = b.dep) || (!decide (a.d = b.d) || (!decide (a.l = b.l) || !decide (a.c = b.c))))
  · simp only [Bool.or_eq_false_iff, Bool.not_eq_false', decide_eq_true_eq] at h5
    cases a; cases b; simp_all
  · rfl
theorem sameBr_pc (a b : List Brn) (ha : Sml a) : PC Tryd.prog G 38 [.vsl (a.map bra), .vsl (b.map bra)] (.bool (decide (a = b))) := by
  (refine pc_ref02_SameBranches (Nat.le_of_ble_eq_true rfl) fun R hG hrd => GO_AR mixed 1000 ?_; subst hG)
  by_cases hl : a.length = b.length
  · have hl' : (a.length : Int) = b.length := by omega
    simp -implicitDefEqProofs [rc_ref02_SameBranches, rr_ref02_SameBranches, hl']
    refine AR_for (fun i => ⟨[(5, .int .i64 i), (0, .vsl (a.map bra)), (1, .vsl (b.map bra))], []⟩) (fun i => ∀ j (h : j < a.length), j < i → a[j] = b[j]) a.length (by (first | exact Weak.tm (by simp [lk]) | exact Weak.sub (by simp [lk, keptA, AV.keys]) (by simp [lk, keptO, keptA, AV.keys]))) (by simp) ?_ ?_
    · intro i hi he
      refine GO_AR mixed 1000 ?_
      unfold Sml at ha
      have hi2 : i < b.length := by omega
      have w1 : IntKind.i64.wrap ((i : Int) + 1) = ((i + 1 : Nat) : Int) := wrapI (by omega) (by omega)
      simp -implicitDefEqProofs [hi, hi2, bra]
      refine ⟨rfl, ?_⟩
      by_cases h2 : a[i] = b[i]
      · simp -implicitDefEqProofs [h2, w1]
        refine ⟨(by (first | exact Weak.tm (by simp [lk]) | exact Weak.sub (by simp [lk, keptA, AV.keys]) (by simp [lk, keptO, keptA, AV.keys]))), fun j h1 h3 => ?_⟩
        by_cases e : j = i
        · subst e; exact h2
        · exact he j h1 (by omega)
      · have h3 : ¬ a = b := fun e => h2 (by subst e; rfl)
        rw [brn_ne h2]
        simp -implicitDefEqProofs []
        refine GO_ret mixed 1000 ?_
        simp -implicitDefEqProofs [h3]
    · intro he
      refine GO_AR mixed 1000 ?_
      have h3 : a = b := List.ext_getElem hl fun j h1 h2 => he j h1 h1
      simp -implicitDefEqProofs []
      refine GO_ret mixed 1000 ?_
      simp -implicitDefEqProofs [h3]
  · have hl' : ¬ (a.length : Int) = b.length := by omega
    have h3 : ¬ a = b := fun e => hl (by rw [e])
    simp -implicitDefEqProofs [rc_ref02_SameBranches, rr_ref02_SameBranches, hl', h3]
end
end Go.Proofs.YtdpmioiamcgfkaaDoor

/-! Parts and trees: what the program's functions compute: the issues that are taken. -/
namespace Go.Proofs.YtdpmioiamcgfkaaDoor
open Go.RowKit

/-! Maps by drawings. -/
def mpA {α : Type} (f : α → AV) (l : List (Int × α)) : List (AV × AV) := l.map fun p => (.int .i64 p.1, f p.2)
def mlk {α : Type} (n : Int) : List (Int × α) → Option α
  | [] => none
  | p :: l => if n = p.1 then some p.2 else mlk n l
theorem find_mp {α : Type} (f : α → AV) (n : Int) : ∀ l : List (Int × α), ∃ o : Option Nat, (KK.i .i64).find (.int .i64 n) (mpA f l) = some o ∧ match o with
    | some j => ∃ v, l[j]? = some (n, v) ∧ mlk n l = some v
    | none => mlk n l = none ∧ ∀ p ∈ l, p.1 ≠ n
  | [] => ⟨none, rfl, rfl, by simp⟩
  | p :: r => by
    obtain ⟨o, h1, h2⟩ := find_mp f n r
    by_cases e : n = p.1
    · refine ⟨some 0, by simp [mpA, KK.find, KK.eq, e], p.2, by simp [e], by simp [mlk, e]⟩
    · refine ⟨o.map (· + 1), ?_, ?_⟩
      · simp only [mpA, List.map_cons, KK.find, KK.eq, and_self, if_true, e, decide_false]
        rw [show r.map (fun p => (AV.int .i64 p.1, f p.2)) = mpA f r from rfl, h1]; rfl
      · cases o with
        | none => exact ⟨by simp only [mlk, e, if_false]; exact h2.1, fun q hq => by
            rcases List.mem_cons.1 hq with rfl | hq
            · exact fun h => e h.symm
            · exact h2.2 q hq⟩
        | some j =>
          obtain ⟨v, h3, h4⟩ := h2
          exact ⟨v, by simpa using h3, by simp only [mlk, e, if_false]; exact h4⟩
theorem get_mp {α : Type} (f : α → AV) (n : Int) (l : List (Int × α)) : (KK.i .i64).get (.int .i64 n) (mpA f l) = some ((mlk n l).map f) := by
  obtain ⟨o, h1, h2⟩ := find_mp f n l
  have hi : (KK.i .i64).is (.int .i64 n) = true := by simp [KK.is]
  unfold KK.get
  rw [if_pos hi, h1]
  cases o with
  | none => simp [h2.1]
  | some j => obtain ⟨v, h3, h4⟩ := h2; simp [mpA, h3, h4]
theorem put_mp {α : Type} (f : α → AV) {n : Int} (v : α) {l : List (Int × α)} (h : n ∉ l.map (·.1)) : (KK.i .i64).put (.int .i64 n) (f v) (mpA f l) = some (mpA f (l ++ [(n, v)])) := by
  obtain ⟨o, h1, h2⟩ := find_mp f n l
  have hi : (KK.i .i64).is (.int .i64 n) = true := by simp [KK.is]
  unfold KK.put
  rw [if_pos hi, h1]
  cases o with
  | none => simp [mpA]
  | some j =>
    obtain ⟨w, h3, h4⟩ := h2
    exact absurd (List.mem_map.2 ⟨_, List.mem_of_getElem? h3, rfl⟩) h
theorem find_ct (n v : Int) : ∀ l : List (Int × Int), ∃ o : Option Nat, (KK.i .i64).find (.int .i64 n) (dpA l) = some o ∧ match o with
    | some j => j < l.length ∧ mpPut n v l = l.set j (n, v)
    | none => mpPut n v l = l ++ [(n, v)]
  | [] => ⟨none, rfl, rfl⟩
  | p :: r => by
    obtain ⟨o, h1, h2⟩ := find_ct n v r
    by_cases e : n = p.1
    · exact ⟨some 0, by simp [dpA, KK.find, KK.eq, e], by simp, by simp [mpPut, e]⟩
    · refine ⟨o.map (· + 1), ?_, ?_⟩
      · simp only [dpA, List.map_cons, KK.find, KK.eq, and_self, if_true, e, decide_false]
        rw [show r.map (fun p => (AV.int .i64 p.1, AV.int .i64 p.2)) = dpA r from rfl, h1]; rfl
      · have e' : ¬ p.1 = n := fun h => e h.symm
        cases o with
        | none => simp only [Option.map_none, mpPut, if_neg e', h2]; rfl
        | some j => exact ⟨by simp only [List.length_cons]; omega, by simp only [mpPut, if_neg e', h2.2]; rfl⟩
theorem put_ct (n v : Int) (l : List (Int × Int)) : (KK.i .i64).put (.int .i64 n) (.int .i64 v) (dpA l) = some (dpA (mpPut n v l)) := by
  obtain ⟨o, h1, h2⟩ := find_ct n v l
  have hi : (KK.i .i64).is (.int .i64 n) = true := by simp [KK.is]
  unfold KK.put
  rw [if_pos hi, h1]
  cases o with
  | none => simp only [h2]; simp [dpA]
  | some j => rw [h2.2]; simp [dpA, List.map_set]

/-- The issues that are taken, by drawings. -/
def byN (r : List Iss) (lt : List Int) (i : Nat) : List (Int × Iss) := ((nums r).take i).map fun n => (n, tkV r lt n)
def isA (x : Iss) : AV := .agg (isa x)
def byA (r : List Iss) (lt : List Int) : AV := .vmap (mpA isA (byN r lt (nums r).length))
theorem byN_succ {r : List Iss} {lt : List Int} {i : Nat} (h : i < (nums r).length) : byN r lt (i + 1) = byN r lt i ++ [((nums r)[i], tkV r lt (nums r)[i])] := by
  rw [byN, List.take_succ_eq_append_getElem h, List.map_append]; rfl
theorem byN_new {r : List Iss} {lt : List Int} (hO : Ord r) {i : Nat} (h : i < (nums r).length) : (nums r)[i] ∉ (byN r lt i).map (·.1) := by
  simp only [byN, List.map_map, List.mem_map, Function.comp]
  rintro ⟨n, hn, e⟩
  obtain ⟨j, hj, rfl⟩ := List.getElem_of_mem hn
  simp only [List.length_take] at hj
  simp only [List.getElem_take] at e
  have := List.pairwise_iff_getElem.1 (nums_lt hO) j i (by omega) h (by omega)
  omega
theorem idxOf_num {r : List Iss} (hO : Ord r) {i : Nat} (h : i < (nums r).length) : (nums r).idxOf (nums r)[i] = i := by
  have h1 : (nums r).idxOf (nums r)[i] < (nums r).length := List.idxOf_lt_length_iff.2 (List.getElem_mem h)
  have h2 := List.getElem_idxOf h1
  rcases Nat.lt_trichotomy ((nums r).idxOf (nums r)[i]) i with c | c | c
  · have := List.pairwise_iff_getElem.1 (nums_lt hO) _ i h1 h c
    omega
  · exact c
  · have := List.pairwise_iff_getElem.1 (nums_lt hO) i _ h h1 c
    omega
theorem byN_pure (r : List Iss) (lt : List Int) (i : Nat) : (mpA isA (byN r lt i)).all (fun p => p.1.pure && p.2.pure) = true := by
  simp only [mpA, List.all_eq_true, List.mem_map]
  rintro _ ⟨y, -, rfl⟩
  simp [isA, isa, AV.pure]
theorem byN_get {r : List Iss} {lt : List Int} {n : Int} (hn : n ∈ nums r) : mlk n (byN r lt (nums r).length) = some (tkV r lt n) := by
  rw [byN, List.take_length]
  have key : ∀ l : List Int, n ∈ l → mlk n (l.map fun n => (n, tkV r lt n)) = some (tkV r lt n) := by
    intro l
    induction l with
    | nil => intro h; cases h
    | cons x l ih =>
      intro h
      simp only [List.map_cons, mlk]
      by_cases e : n = x
      · rw [if_pos e, e]
      · rw [if_neg e]; exact ih ((List.mem_cons.1 h).resolve_left e)
  exact key _ hn
theorem kept_isA (o : List (Nat × AObj)) (l : List (Int × Iss)) : keptO o (.mp (mpA isA l)) = true := by
  simp only [keptO, List.all_eq_true, mpA, List.mem_map]
  rintro _ ⟨y, -, rfl⟩
  simp [isA, isa, keptA, AV.keys]
def takA (r : List Iss) (lt : List Int) (n : Int) : AV := .tup [if askV r lt n = 0 then bkA r (nums r) else .nilp, if askV r lt n = 0 then byA r lt else .nilm, .int .i64 (askV r lt n)]

section
variable {G : Nat → Option (List AV)}

theorem taken_pc (hG : GC G) (r : List Iss) (lt : List Int) (n : Int) (h : Wf r) : PC Tryd.prog G 76 [rega r, .vsl (lt.map ia), .int .i64 n] (takA r lt n) := by
  (refine pc_sheet_taken (Nat.le_of_ble_eq_true rfl) fun R hG hrd => GO_AR mixed 1000 ?_; subst hG)
  simp -implicitDefEqProofs [rc_sheet_taken, rr_sheet_taken, rega]
  (first | refine CallK.of (open_pc hG r h) (by simp) ?_ | refine CallD.of (open_pc hG r h) (by simp) ?_)
  by_cases e : openV r = 0
  case neg => simp -implicitDefEqProofs [openA, e, takA, askV]
  have hL := open_listed e
  have hO := ord_of hL
  have hl := listed_20 hL
  by_cases q : lt.length = (nums r).length
  case neg =>
    have q' : ¬ (lt.length : Int) = (nums r).length := by omega
    have no : askV r lt n = 22 := by simp [askV, e, ltB, q]
    simp -implicitDefEqProofs [openA, e, bkA, q', takA, no]
  have q' : (lt.length : Int) = (nums r).length := by omega
  simp -implicitDefEqProofs [openA, e, bkA, q']
  refine AR_for (fun i => ⟨[(34, .int .i64 i), (33, .int .i64 (nums r).length), (11, .mp 31), (9, bkA r (nums r)), (1, .vsl (lt.map ia)), (2, .int .i64 n)], [(31, .mp (mpA isA (byN r lt i)))]⟩) (fun i => ∀ j, j < i → inR (lt.getD j 0) 1 (lastV r ((nums r).getD j 0)) = true) (nums r).length (by (first | exact Weak.tm (by simp [lk, bkA, mpA, byN]) | exact Weak.sub (by simp [lk, keptA, AV.keys, bkA, mpA, byN]) (by simp [lk, keptO, keptA, AV.keys, bkA, mpA, byN]))) (by simp) ?_ ?_
  · intro i hi he
    refine GO_AR mixed 1000 ?_
    have w1 : IntKind.i64.wrap ((i : Int) + 1) = ((i + 1 : Nat) : Int) := wrapI (by omega) (by omega)
    have hi2 : i < lt.length := by omega
    have e1 : lt.getD i 0 = lt[i] := by simp [List.getD, hi2]
    have e2 : (nums r).getD i 0 = (nums r)[i] := by simp [List.getD, hi]
    simp -implicitDefEqProofs [hi, hi2, ia, bkA]
    (first | refine CallK.of (find_pcS r (nums r) (nums r)[i] lt[i] (ord_map hO) h.1.1 (find_own hL)) (by simp) ?_ | refine CallD.of (find_pcS r (nums r) (nums r)[i] lt[i] (ord_map hO) h.1.1 (find_own hL)) (by simp) ?_)
    cases f : findN (nums r)[i] lt[i] r with
    | none =>
      have no : askV r lt n = 22 := by
        have : ltB r lt = false := by
          cases hI : ltB r lt
          · rfl
          · simp only [ltB, Bool.and_eq_true] at hI
            have := range_all.1 hI.2 i hi
            rw [e1, e2, ← find_iff hL, f] at this; cases this
        simp [askV, e, this]
      simp -implicitDefEqProofs [fndA, noIs]
      refine ⟨rfl, ?_⟩
      refine GO_ret mixed 1000 ?_
      simp -implicitDefEqProofs [takA, no]
    | some x =>
      simp -implicitDefEqProofs [fndA, isa]
      obtain ⟨hm, hd, hl2⟩ := findN_mem f
      have et : tkV r lt (nums r)[i] = x := by
        have : ltOf r lt (nums r)[i] = lt[i] := by rw [ltOf, idxOf_num hO hi, e1]
        rw [tkV, this, f]; rfl
      have pm := put_mp isA x (byN_new (lt := lt) hO hi)
      rw [← et, ← byN_succ hi, et, isA, isa, hd] at pm
      simp -implicitDefEqProofs [hd, pm, w1]
      refine ⟨rfl, ?_, fun j hj => ?_⟩
      · refine Weak.sub (by simp [lk, keptA, AV.keys]) ?_
        simp only [List.mem_cons, List.not_mem_nil, or_false, forall_eq, kept_isA, and_true]
        simp [lk]
      · by_cases ej : j = i
        · subst ej
          simp only [List.getD_eq_getElem?_getD] at e1 e2
          rw [e1, e2, ← find_iff hL, f]; rfl
        · simpa using he j (by omega)
  · intro he
    refine GO_AR mixed 1000 ?_
    have yes : ltB r lt = true := by simp only [ltB, Bool.and_eq_true, decide_eq_true_eq]; exact ⟨q, range_all.2 he⟩
    simp -implicitDefEqProofs []
    refine GO_ret mixed 1000 ?_
    simp -implicitDefEqProofs []
    (first | refine CallK.of (has_pc r (nums r) n (nums_le hO) (nums_sml h.1.1)) (by simp) ?_ | refine CallD.of (has_pc r (nums r) n (nums_le hO) (nums_sml h.1.1)) (by simp) ?_)
    by_cases c : n ∈ nums r
    · have yes2 : askV r lt n = 0 := by simp [askV, e, yes, c]
      simp -implicitDefEqProofs [c, takA, yes2]
      have pu := byN_pure r lt (nums r).length
      simp -implicitDefEqProofs [pu, bkA, byA]
    · have no : askV r lt n = 6 := by simp [askV, e, yes, c]
      simp -implicitDefEqProofs [c, takA, no]
end
end Go.Proofs.YtdpmioiamcgfkaaDoor

/-! Plain functions: where drawings are used, what is above them, how issues differ; and that the program's way and the reference's give the same. -/
namespace Go.Proofs.YtdpmioiamcgfkaaDoor
open Go.RowKit

/-! ### Items. -/
/-- How often a drawing is an item. -/
def ctL (n : Int) : List (Int × Int) → Int
  | [] => 0
  | y :: l => if y.1 = n then y.2 else ctL n l
def needL (n : Int) (l : List (Int × Int)) : Bool := l.any fun y => decide (y.1 = n)
theorem its_at {x : Iss} (h : issB x = true) {j : Nat} (hj : j < x.its.length) : 1 ≤ x.its[j].1 ∧ 1 ≤ x.its[j].2 ∧ x.its[j].2 ≤ 20 ∧ x.its[j].1 ≠ x.d ∧ ∀ i (hi : i < j), x.its[i].1 < x.its[j].1 := by
  simp only [issB, Bool.and_eq_true] at h
  have all := range_all.1 h.1.2
  have at1 : ∀ j (hj : j < x.its.length), itAt x j = x.its[j] := fun j hj => by simp [itAt, List.getD, hj]
  have one : ∀ j (hj : j < x.its.length), 1 ≤ x.its[j].1 ∧ 1 ≤ x.its[j].2 ∧ x.its[j].2 ≤ 20 ∧ x.its[j].1 ≠ x.d ∧ (∀ hi : 0 < j, x.its[j - 1].1 < x.its[j].1) := fun j hj => by
    have h1 := all j hj
    simp only [itOk, at1 j hj, Bool.and_eq_true, inR, decide_eq_true_eq, Bool.not_eq_true', decide_eq_false_iff_not, Bool.or_eq_true, beq_iff_eq] at h1
    refine ⟨by omega, by omega, by omega, h1.1.2, fun hi => ?_⟩
    have h2 := h1.2
    rw [at1 (j - 1) (by omega)] at h2
    omega
  have lt : ∀ (d i : Nat) (h : i + d + 1 < x.its.length), x.its[i].1 < x.its[i + d + 1].1 := by
    intro d
    induction d with
    | zero => intro i h; exact (one (i + 1) h).2.2.2.2 (by omega)
    | succ d ih =>
      intro i h
      have h1 := ih i (by omega)
      have h2 := (one (i + (d + 1) + 1) h).2.2.2.2 (by omega)
      have h3 : i + (d + 1) + 1 - 1 = i + d + 1 := by omega
      simp only [h3] at h2
      omega
  have g := one j hj
  refine ⟨g.1, g.2.1, g.2.2.1, g.2.2.2.1, fun i hi => ?_⟩
  have := lt (j - i - 1) i (by omega)
  have e : i + (j - i - 1) + 1 = j := by omega
  simpa only [e] using this
theorem its_nodup {x : Iss} (h : issB x = true) : (x.its.map (·.1)).Nodup := by
  unfold List.Nodup
  rw [List.pairwise_map, List.pairwise_iff_getElem]
  intro i j hi hj hij
  have := (its_at h hj).2.2.2.2 i hij
  omega
/-! ### Where a drawing is used. -/
def usN (r : List Iss) (n : Int) (i : Nat) : List (Int × Int) := ((r.take i).filter fun x => needL n x.its).map fun x => (x.d, x.l)
theorem usN_succ {r : List Iss} {n : Int} {i : Nat} (h : i < r.length) : usN r n (i + 1) = if needL n r[i].its = true then usN r n i ++ [(r[i].d, r[i].l)] else usN r n i := by
  rw [usN, List.take_succ_eq_append_getElem h, List.filter_append, List.map_append]
  split
  · rename_i e; simp [usN, List.filter_cons, e]
  · rename_i e; simp [usN, List.filter_cons, e]
theorem usN_len (r : List Iss) (n : Int) (i : Nat) : (usN r n i).length ≤ i := by
  simp only [usN, List.length_map]
  exact Nat.le_trans (List.length_filter_le _ _) (by simp; omega)
def useE (r : List Iss) (n : Int) : List (Int × Int) × Int := if knV r n = 0 then (usN r n r.length, 0) else ([], knV r n)

/-! ### What is above a drawing. -/
inductive Up (T : Int → Iss) (l : List Int) (d : Int) : Int → Prop
  | base (n : Int) (hn : n ∈ l) (h : needL d (T n).its = true) : Up T l d n
  | step (n m : Int) (hn : n ∈ l) (h : needL m (T n).its = true) (hm : Up T l d m) : Up T l d n
theorem Up.trans {T : Int → Iss} {l : List Int} {d m n : Int} (h1 : Up T l d m) (h2 : Up T l m n) : Up T l d n := by
  induction h2 with
  | base n hn h => exact .step n m hn h h1
  | step n k hn h _ ih => exact .step n k hn h ih
theorem Up.mem {T : Int → Iss} {l : List Int} {d n : Int} (h : Up T l d n) : n ∈ l := by cases h <;> assumption

/-- The program's way. -/
def upV (T : Int → Iss) (l : List Int) : Nat → Int → List Int → List Int
  | 0, _, s => s
  | k + 1, d, s => l.foldl (fun s n => if decide (n ∈ s) = false ∧ needL d (T n).its = true then upV T l k n (s ++ [n]) else s) s
theorem upV_sub {T : Int → Iss} {l : List Int} : ∀ (k : Nat) (d : Int) (s : List Int) (x : Int), x ∈ s → x ∈ upV T l k d s
  | 0, _, _, _, h => h
  | k + 1, d, s, x, h => by
    have key : ∀ (l1 s : List Int), x ∈ s → x ∈ l1.foldl (fun s n => if decide (n ∈ s) = false ∧ needL d (T n).its = true then upV T l k n (s ++ [n]) else s) s := by
      intro l1
      induction l1 with
      | nil => intro s h; exact h
      | cons n l1 ih =>
        intro s h
        rw [List.foldl_cons]
        refine ih _ ?_
        split
        · exact upV_sub k n _ x (List.mem_append.2 (.inl h))
        · exact h
    exact key l s h
/-- How many are left. -/
def leftN (l s : List Int) : Nat := (l.filter fun n => !decide (n ∈ s)).length
theorem leftN_mono {l s s' : List Int} (h : ∀ x ∈ s, x ∈ s') : leftN l s' ≤ leftN l s := by
  unfold leftN
  induction l with
  | nil => exact Nat.le_refl _
  | cons n l ih =>
    have b := h n
    by_cases a : n ∈ s
    · simp only [a, b a, List.filter_cons, decide_true, Bool.not_true, if_false, Bool.false_eq_true]; exact ih
    · by_cases b : n ∈ s' <;> simp [List.filter_cons, a, b] <;> omega
theorem leftN_lt {l s : List Int} {n : Int} (hn : n ∈ l) (hs : n ∉ s) : leftN l (s ++ [n]) < leftN l s := by
  unfold leftN
  induction l with
  | nil => cases hn
  | cons m l ih =>
    have mono := leftN_mono (l := l) (s := s) (s' := s ++ [n]) fun x hx => List.mem_append.2 (.inl hx)
    unfold leftN at mono
    by_cases e : m = n
    · subst e
      rw [List.filter_cons_of_neg (by simp), List.filter_cons_of_pos (by simpa using hs), List.length_cons]; omega
    · have hn := (List.mem_cons.1 hn).resolve_left (fun h => e h.symm)
      have := ih hn
      by_cases a : m ∈ s
      · rw [List.filter_cons_of_neg (by simp [a]), List.filter_cons_of_neg (by simpa using a)]; exact this
      · rw [List.filter_cons_of_pos (by simp [a, e]), List.filter_cons_of_pos (by simpa using a), List.length_cons, List.length_cons]; omega
theorem leftN_le (l s : List Int) : leftN l s ≤ l.length := List.length_filter_le _ _
def abV (r : List Iss) (lt : List Int) (d : Int) : List Int := (nums r).filter fun n => decide (n ∈ upV (tkV r lt) (nums r) ((nums r).length + 1) d [])
def abE (r : List Iss) (lt : List Int) (d : Int) : List Int × Int := if askV r lt d = 0 then (abV r lt d, 0) else ([], askV r lt d)
end Go.Proofs.YtdpmioiamcgfkaaDoor

/-! Where drawings are used, and what is above them: what the reference's functions compute. -/
namespace Go.Proofs.YtdpmioiamcgfkaaDoor
open Go.RowKit

theorem ia_kept (l : List Int) (o : List (Nat × AObj)) : keptO o (.row 1 (l.map ia)) = true := by
  simp only [keptO, List.all_eq_true, List.mem_map]
  rintro x ⟨y, -, rfl⟩ v hv
  simp only [ia, List.mem_cons, List.not_mem_nil, or_false] at hv
  subst hv; simp [keptA, AV.keys]
/-- A filtered list, in its making. -/
def flN (l : List Int) (g : Int → Bool) (i : Nat) : List Int := (l.take i).filter g
theorem flN_succ {l : List Int} {g : Int → Bool} {i : Nat} (h : i < l.length) : flN l g (i + 1) = if g l[i] = true then flN l g i ++ [l[i]] else flN l g i := by
  rw [flN, List.take_succ_eq_append_getElem h, List.filter_append]
  split
  · rename_i e; simp [flN, List.filter_cons, e]
  · rename_i e; simp [flN, List.filter_cons, e]
theorem flN_len (l : List Int) (g : Int → Bool) (i : Nat) : (flN l g i).length ≤ i := Nat.le_trans (List.length_filter_le _ _) (by simp; omega)
section
variable {G : Nat → Option (List AV)}

theorem sameRefs_pc (a b : List (Int × Int)) (ha : Sml a) : PC Tryd.prog G 43 [.vsl (a.map ita), .vsl (b.map ita)] (.bool (decide (a = b))) := by
  (refine pc_ref02_SameRefs (Nat.le_of_ble_eq_true rfl) fun R hG hrd => GO_AR mixed 1000 ?_; subst hG)
  by_cases hl : a.length = b.length
  · have hl' : (a.length : Int) = b.length := by omega
    simp -implicitDefEqProofs [rc_ref02_SameRefs, rr_ref02_SameRefs, hl']
    refine AR_for (fun i => ⟨[(5, .int .i64 i), (0, .vsl (a.map ita)), (1, .vsl (b.map ita))], []⟩) (fun i => ∀ j (h : j < a.length), j < i → a[j] = b[j]) a.length (by (first | exact Weak.tm (by simp [lk]) | exact Weak.sub (by simp [lk, keptA, AV.keys]) (by simp [lk, keptO, keptA, AV.keys]))) (by simp) ?_ ?_
    · intro i hi he
      refine GO_AR mixed 1000 ?_
      unfold Sml at ha
      have hi2 : i < b.length := by omega
      have w1 : IntKind.i64.wrap ((i : Int) + 1) = ((i + 1 : Nat) : Int) := wrapI (by omega) (by omega)
      simp -implicitDefEqProofs [hi, hi2, ita]
      refine ⟨rfl, ?_⟩
      by_cases h2 : a[i] = b[i]
      · simp -implicitDefEqProofs [h2, w1]
        refine ⟨(by (first | exact Weak.tm (by simp [lk]) | exact Weak.sub (by simp [lk, keptA, AV.keys]) (by simp [lk, keptO, keptA, AV.keys]))), fun j h1 h3 => ?_⟩
        by_cases e : j = i
        · subst e; exact h2
        · exact he j h1 (by omega)
      · have h3 : ¬ a = b := fun e => h2 (by subst e; rfl)
        rw [pair_ne h2]
        simp -implicitDefEqProofs []
        refine GO_ret mixed 1000 ?_
        simp -implicitDefEqProofs [h3]
    · intro he
      refine GO_AR mixed 1000 ?_
      have h3 : a = b := List.ext_getElem hl fun j h1 h2 => he j h1 h1
      simp -implicitDefEqProofs []
      refine GO_ret mixed 1000 ?_
      simp -implicitDefEqProofs [h3]
  · have hl' : ¬ (a.length : Int) = b.length := by omega
    have h3 : ¬ a = b := fun e => hl (by rw [e])
    simp -implicitDefEqProofs [rc_ref02_SameRefs, rr_ref02_SameRefs, hl', h3]

theorem sameChg_pc (a b : List Dm) (ha : Sml a) : PC Tryd.prog G 46 [.vsl (a.map dma), .vsl (b.map dma)] (.bool (decide (a = b))) := by
  (refine pc_ref02_SameChanges (Nat.le_of_ble_eq_true rfl) fun R hG hrd => GO_AR mixed 1000 ?_; subst hG)
  by_cases hl : a.length = b.length
  · have hl' : (a.length : Int) = b.length := by omega
    simp -implicitDefEqProofs [rc_ref02_SameChanges, rr_ref02_SameChanges, hl']
    refine AR_for (fun i => ⟨[(5, .int .i64 i), (0, .vsl (a.map dma)), (1, .vsl (b.map dma))], []⟩) (fun i => ∀ j (h : j < a.length), j < i → a[j] = b[j]) a.length (by (first | exact Weak.tm (by simp [lk]) | exact Weak.sub (by simp [lk, keptA, AV.keys]) (by simp [lk, keptO, keptA, AV.keys]))) (by simp) ?_ ?_
    · intro i hi he
      refine GO_AR mixed 1000 ?_
      unfold Sml at ha
      have hi2 : i < b.length := by omega
      have w1 : IntKind.i64.wrap ((i : Int) + 1) = ((i + 1 : Nat) : Int) := wrapI (by omega) (by omega)
      simp -implicitDefEqProofs [hi, hi2, dma]
      refine ⟨rfl, ?_⟩
      by_cases h2 : a[i] = b[i]
      · simp -implicitDefEqProofs [h2, w1]
        refine ⟨(by (first | exact Weak.tm (by simp [lk]) | exact Weak.sub (by simp [lk, keptA, AV.keys]) (by simp [lk, keptO, keptA, AV.keys]))), fun j h1 h3 => ?_⟩
        by_cases e : j = i
        · subst e; exact h2
        · exact he j h1 (by omega)
      · have h3 : ¬ a = b := fun e => h2 (by subst e; rfl)
        rw [dm_ne h2]
        simp -implicitDefEqProofs []
        refine GO_ret mixed 1000 ?_
        simp -implicitDefEqProofs [h3]
    · intro he
      refine GO_AR mixed 1000 ?_
      have h3 : a = b := List.ext_getElem hl fun j h1 h2 => he j h1 h1
      simp -implicitDefEqProofs []
      refine GO_ret mixed 1000 ?_
      simp -implicitDefEqProofs [h3]
  · have hl' : ¬ (a.length : Int) = b.length := by omega
    have h3 : ¬ a = b := fun e => hl (by rw [e])
    simp -implicitDefEqProofs [rc_ref02_SameChanges, rr_ref02_SameChanges, hl', h3]

end
end Go.Proofs.YtdpmioiamcgfkaaDoor

/-! How two issues differ: plain functions; what the reference's Differ computes. -/
namespace Go.Proofs.YtdpmioiamcgfkaaDoor
open Go.RowKit

/-- The changes of items, in their making. -/
def dfN (l : List Int) (f g : Int → Int) (i : Nat) : List Dm := ((l.take i).filter fun n => !decide (f n = g n)).map fun n => ⟨n, f n, g n⟩
theorem dfN_succ {l : List Int} {f g : Int → Int} {i : Nat} (h : i < l.length) : dfN l f g (i + 1) = if f l[i] = g l[i] then dfN l f g i else dfN l f g i ++ [⟨l[i], f l[i], g l[i]⟩] := by
  rw [dfN, List.take_succ_eq_append_getElem h, List.filter_append, List.map_append]
  split
  · rename_i e; simp [dfN, List.filter_cons, e]
  · rename_i e; simp [dfN, List.filter_cons, e]
theorem dfN_len (l : List Int) (f g : Int → Int) (i : Nat) : (dfN l f g i).length ≤ i := by
  simp only [dfN, List.length_map]
  exact Nat.le_trans (List.length_filter_le _ _) (by simp; omega)
/-- Whether sizes differ at a place; all places where they do. -/
def dsB (a b : List Dm) (j : Nat) : Bool := decide (a.length ≤ j) || decide (b.length ≤ j) || !decide (a.getD j Dm.zero = b.getD j Dm.zero)
def dsN (a b : List Dm) (i : Nat) : List Int := ((List.range i).filter (dsB a b)).map fun (j : Nat) => (j : Int)
theorem dsN_succ {a b : List Dm} {i : Nat} : dsN a b (i + 1) = if dsB a b i = true then dsN a b i ++ [(i : Int)] else dsN a b i := by
  rw [dsN, List.range_succ, List.filter_append, List.map_append]
  split
  · rename_i e; simp [dsN, List.filter_cons, e]
  · rename_i e; simp [dsN, List.filter_cons, e]
theorem dsN_len (a b : List Dm) (i : Nat) : (dsN a b i).length ≤ i := by
  simp only [dsN, List.length_map]
  exact Nat.le_trans (List.length_filter_le _ _) (by simp)
theorem dsB_at {a b : List Dm} {j : Nat} (ha : j < a.length) (hb : j < b.length) : dsB a b j = !decide (a[j] = b[j]) := by
  have h1 : ¬ a.length ≤ j := by omega
  have h2 : ¬ b.length ≤ j := by omega
  simp [dsB, h1, h2, List.getD, ha, hb]
def difE (r : List Iss) (d n m : Int) : List Dm × List Int × Int := if openV r = 0 then match findN d n r, findN d m r with
    | some a, some b => (dfN (nums r) (fun n => ctL n a.its) (fun n => ctL n b.its) (nums r).length, dsN a.dms b.dms (max a.dms.length b.dms.length), 0)
    | _, _ => ([], [], 6)
  else ([], [], openV r)
/-- A list that may be nil. -/
def orNil (l : List (List AV)) : AV := if l = [] then .nils else .vsl l
theorem nz_orNil (l : List (List AV)) : nz (orNil l) = .vsl l := by unfold orNil; split <;> simp_all [nz]
theorem orNil_keys (l : List (List AV)) : (orNil l).keys = [] := by unfold orNil; split <;> simp [AV.keys]
theorem orNil_snap (l : List (List AV)) (ok : Nat → Bool) (st : St) (n : Nat) : snapF ok st n (orNil l) = some (orNil l) := by unfold orNil; split <;> cases n <;> simp [snapF, AV.pure]
theorem dma_all (l : List Dm) : (l.map dma).all (fun r => r.all AV.pure) = true := by simp [dma, AV.pure]
theorem ia_all (l : List Int) : (l.map ia).all (fun r => r.all AV.pure) = true := by simp [ia, AV.pure]
theorem dma_kept (l : List Dm) (o : List (Nat × AObj)) : keptO o (.row 3 (l.map dma)) = true := by
  simp only [keptO, List.all_eq_true, List.mem_map]
  rintro x ⟨y, -, rfl⟩ v hv
  simp only [dma, List.mem_cons, List.not_mem_nil, or_false] at hv
  rcases hv with rfl | rfl | rfl <;> simp [keptA, AV.keys]

/-- Parts of code: what stands behind some parts; the first part; the loop that stands last. -/
def dropS : Nat → RCode → RCode
  | n + 1, .seq _ b => dropS n b
  | _, c => c
def headS : RCode → RCode
  | .seq a _ => a
  | c => c
def endLp : RCode → RCode
  | .seq _ b => endLp b
  | .block _ b => b
  | c => c
section
variable {G : Nat → Option (List AV)}

end
end Go.Proofs.YtdpmioiamcgfkaaDoor

/-! What is above a drawing: what the reference's functions compute. -/
namespace Go.Proofs.YtdpmioiamcgfkaaDoor
open Go.RowKit

section
variable {G : Nat → Option (List AV)}

end
end Go.Proofs.YtdpmioiamcgfkaaDoor

/-! Parts: what the program's Explode computes. -/
namespace Go.Proofs.YtdpmioiamcgfkaaDoor
open Go.RowKit

theorem ren_dpA (ρ : Nat → Nat) (l : List (Int × Int)) : (AObj.mp (dpA l)).ren ρ = .mp (dpA l) := by
  simp only [AObj.ren, dpA, List.map_map]
  congr 2; funext p; simp [AV.ren]
theorem map_dpA (ρ : Nat → Nat) (l : List (Int × Int)) : (dpA l).map (fun p => (p.1.ren ρ, p.2.ren ρ)) = dpA l := by
  simp only [dpA, List.map_map]; congr 1; funext p; simp [AV.ren]
theorem frz_dpA (ok : Nat → Bool) (st : St) (l : List (Int × Int)) : frzO ok st (.mp (dpA l)) = .mp (dpA l) := by
  simp only [frzO, dpA, List.map_map]
  congr 2; funext p; simp [frzA, frz, AV.keys]
theorem kept_dpA (o : List (Nat × AObj)) (l : List (Int × Int)) : keptO o (.mp (dpA l)) = true := by
  simp only [keptO, List.all_eq_true, dpA, List.mem_map]
  rintro x ⟨y, -, rfl⟩
  simp [keptA, AV.keys]
theorem ren_byA (ρ : Nat → Nat) (r : List Iss) (lt : List Int) : (byA r lt).ren ρ = byA r lt := by simp [byA, AV.ren]
theorem frz_byA (ok : Nat → Bool) (st : St) (r : List Iss) (lt : List Int) : frzA ok st (byA r lt) = byA r lt := by simp [byA, frzA, frz, AV.keys]
theorem frz_b1 (ok : Nat → Bool) (st : St) (r : List Iss) (lt : List Int) : frzO ok st (.box [byA r lt]) = .box [byA r lt] := by simp [frzO, frz_byA]
theorem frz_b2 (st : St) {ok : Nat → Bool} {k : Nat} (h : ok k = false) : frzO ok st (.box [.mp k]) = .box [.mp k] := by simp [frzO, frzA, frz, h]
theorem frz_b3 (st : St) {ok : Nat → Bool} {f : Fn} {a b c : Nat} (h1 : ok a = false) (h2 : ok b = false) (h3 : ok c = false) : frzO ok st (.box [.func f [] [.ptr a 0, .ptr b 0, .ptr c 0]]) = .box [.func f [] [.ptr a 0, .ptr b 0, .ptr c 0]] := by simp [frzO, frzA, frz, h1, h2, h3]
theorem keys_byA (r : List Iss) (lt : List Int) : (byA r lt).keys = [] := by simp [byA, AV.keys]
theorem one_byA (r : List Iss) (lt : List Int) : (byA r lt).one = true := by simp [byA, AV.one, AV.known]
/-- What Explode's own function is handed. -/
def exO (r : List Iss) (lt : List Int) (l : List (Int × Int)) : List (Nat × AObj) :=
  [(1009, .box [byA r lt]), (1011, .box [.mp 1027]), (1012, .box [.func (.func 77) [] [.ptr 1009 0, .ptr 1011 0, .ptr 1012 0]]), (1027, .mp (dpA l))]

theorem exO_in (r : List Iss) (lt : List Int) (l : List (Int × Int)) : ∀ p ∈ exO r lt l, keptO (exO r lt l) p.2 = true := by
  simp only [exO, List.mem_cons, List.not_mem_nil, or_false, forall_eq_or_imp, forall_eq, kept_dpA, and_true]
  simp [lk, keptO, keptA, AV.keys, keys_byA]

section
variable {G : Nat → Option (List AV)}

/-- The state of the loop over the items. -/
def exS (r : List Iss) (lt : List Int) (m : Int) (x : Iss) (l : List (Int × Int)) (i : Nat) : St := ⟨[(24, .int .i64 i), (23, .int .i64 x.its.length), (22, .vsl (x.its.map ita)), (1, .int .i64 m), (4, .ptr 1012 0)], exO r lt l⟩
/-- The loop that stands last. -/
def lastLp : RCode → RCode
  | .seq _ b => lastLp b
  | .block _ b => b
  | c => c

theorem add_pb (r : List Iss) (lt : List Int) (ho : openV r = 0) (hlt : ltB r lt = true) : ∀ (k : Nat) (n m : Int) (l : List (Int × Int)), n ∈ nums r → dpN r n ≤ k →
    PB Tryd.prog G 77 (exO r lt l) [.int .i64 n, .int .i64 m, .ptr 1009 0, .ptr 1011 0, .ptr 1012 0] (.tup []) (exO r lt (paM (tkV r lt) k n m l))
  | 0, n, _, _, hn, hd => (dp_pos ho hn hd).elim
  | k + 1, n, m, l, hn, hd => by
    have hL := open_listed ho
    have hrec := fun y (hy : y ∈ (tkV r lt n).its) => fun m l => add_pb r lt ho hlt k y.1 m l (dp_its ho hlt hn hd hy).1 (dp_its ho hlt hn hd hy).2
    have gb := get_mp isA n (byN r lt (nums r).length)
    rw [byN_get hn] at gb
    have h8 := tk_8 ho hlt n hn
    have gc := get_dp n l
    rw [paM]
    generalize tkV r lt n = x at *
    have pc := put_ct n (addW (mpG l n) m) l
    (refine pb_sheet_Explode_1 (Nat.le_of_ble_eq_true rfl) fun R hG hrd => GO_AR mixed 1000 ?_; subst hG)
    have key : ∀ (l1 : List (Int × Int)) (st : St), Weak st (exS r lt m x l1 0) → AR Tryd.prog R (lastLp rc_sheet_Explode_1) st (RetP Tryd.prog R [KF.bk 0] (FinB [] (.tup []) (exO r lt (x.its.foldl (fun l y => paM (tkV r lt) k y.1 (mulW m y.2) l) l1)))) := by
      intro l1 st hw
      refine AR_for (fun i => exS r lt m x ((x.its.take i).foldl (fun l y => paM (tkV r lt) k y.1 (mulW m y.2) l) l1) i) (fun _ => True) x.its.length (by simpa using hw) trivial ?_ ?_
      · intro i hi _
        refine GO_AR mixed 1000 ?_
        have w1 : IntKind.i64.wrap ((i : Int) + 1) = ((i + 1 : Nat) : Int) := wrapI (by omega) (by omega)
        have ft := fold_take (fun l (y : Int × Int) => paM (tkV r lt) k y.1 (mulW m y.2) l) l1 x.its i hi
        have hr := hrec x.its[i] (List.getElem_mem hi) (mulW m x.its[i].2) ((x.its.take i).foldl (fun l y => paM (tkV r lt) k y.1 (mulW m y.2) l) l1)
        generalize (x.its.take i).foldl (fun l y => paM (tkV r lt) k y.1 (mulW m y.2) l) l1 = l2 at *
        simp -implicitDefEqProofs [lastLp, rc_sheet_Explode_1, exS, exO, hi, ita]
        refine CallK.sem (CallSem.byref hr id (by simp [exO]) (by simp [exO]) (by simp [exO, St.get, lk, ren_dpA, AObj.ren, AV.ren, ren_byA, map_dpA]) (exO_in _ _ _) (by simp [exO, keptA, AV.keys, lk]) rfl (by simp [AV.ren, mulW]) rfl rfl) ?_
        simp -implicitDefEqProofs [setsB, exO, ren_dpA, AObj.ren, AV.ren, ren_byA, map_dpA, w1]
        ((try simp only [exS, exO, byA, ft]); refine Weak.sub (by simp [lk, keptA, AV.keys, exS, exO, byA, ft]) ?_; simp only [exS, exO, byA, ft, List.cons_append, List.nil_append, List.mem_cons, List.not_mem_nil, or_false, forall_eq_or_imp, forall_eq, kept_dpA, and_true]; (try simp [lk, keptO, keptA, AV.keys, exS, exO, byA, ft]))
      · intro _
        refine GO_AR mixed 1000 ?_
        simp -implicitDefEqProofs [lastLp, rc_sheet_Explode_1, exS, exO]
        refine GO_ret mixed 1000 ?_
        simp -implicitDefEqProofs [FinB, frzSt, newK, frz_dpA, frz_b1, frz_b2, frz_b3, exO]
    by_cases e : x.k = 1
    · rw [if_pos e]
      simp -implicitDefEqProofs [rc_sheet_Explode_1, rr_sheet_Explode_1, exO, byA, gb, isA, isa, e]
      exact key l _ (by ((try simp only [exS, exO, byA]); refine Weak.sub (by simp [lk, keptA, AV.keys, exS, exO, byA]) ?_; simp only [exS, exO, byA, List.cons_append, List.nil_append, List.mem_cons, List.not_mem_nil, or_false, forall_eq_or_imp, forall_eq, kept_dpA, and_true]; (try simp [lk, keptO, keptA, AV.keys, exS, exO, byA])))
    · rw [if_neg e]
      generalize mpPut n (addW (mpG l n) m) l = l1 at *
      cases q : dpLk n l
      · have q2 : mpG l n = 0 := by simp [mpG, dpG, q]
        simp only [q2, addW, Int.zero_add] at pc
        simp -implicitDefEqProofs [rc_sheet_Explode_1, rr_sheet_Explode_1, exO, byA, gb, isA, isa, e, gc, q, pc]
        exact key l1 _ (by ((try simp only [exS, exO, byA]); refine Weak.sub (by simp [lk, keptA, AV.keys, exS, exO, byA]) ?_; simp only [exS, exO, byA, List.cons_append, List.nil_append, List.mem_cons, List.not_mem_nil, or_false, forall_eq_or_imp, forall_eq, kept_dpA, and_true]; (try simp [lk, keptO, keptA, AV.keys, exS, exO, byA])))
      · rename_i v
        have q2 : mpG l n = v := by simp [mpG, dpG, q]
        simp only [q2, addW] at pc
        simp -implicitDefEqProofs [rc_sheet_Explode_1, rr_sheet_Explode_1, exO, byA, gb, isA, isa, e, gc, q, pc]
        exact key l1 _ (by ((try simp only [exS, exO, byA]); refine Weak.sub (by simp [lk, keptA, AV.keys, exS, exO, byA]) ?_; simp only [exS, exO, byA, List.cons_append, List.nil_append, List.mem_cons, List.not_mem_nil, or_false, forall_eq_or_imp, forall_eq, kept_dpA, and_true]; (try simp [lk, keptO, keptA, AV.keys, exS, exO, byA])))
end
end Go.Proofs.YtdpmioiamcgfkaaDoor

/-! Where drawings are used, and what is above them: what the program's functions compute. -/
namespace Go.Proofs.YtdpmioiamcgfkaaDoor
open Go.RowKit

theorem map_lfA (ρ : Nat → Nat) (l : List Int) : (lfA l).map (fun p => (p.1.ren ρ, p.2.ren ρ)) = lfA l := by
  simp only [lfA, List.map_map]; congr 1; funext p; simp [AV.ren]
theorem frz_lfA (ok : Nat → Bool) (st : St) (l : List Int) : frzO ok st (.mp (lfA l)) = .mp (lfA l) := by
  simp only [frzO, lfA, List.map_map]
  congr 2; funext p; simp [frzA, frz, AV.keys]
theorem kept_lfA (o : List (Nat × AObj)) (l : List Int) : keptO o (.mp (lfA l)) = true := by
  simp only [keptO, List.all_eq_true, lfA, List.mem_map]
  rintro x ⟨y, -, rfl⟩
  simp [keptA, AV.keys]
theorem ren_bkA (ρ : Nat → Nat) (r : List Iss) (ds : List Int) : (bkA r ds).ren ρ = bkA r ds := by simp [bkA, AV.ren]
theorem keys_bkA (r : List Iss) (ds : List Int) : (bkA r ds).keys = [] := by simp [bkA, AV.keys]
theorem frz_bk (ok : Nat → Bool) (st : St) (r : List Iss) (ds : List Int) : frzO ok st (.box [bkA r ds]) = .box [bkA r ds] := by simp [frzO, frzA, frz, bkA, AV.keys]
theorem frz_f4 (st : St) {ok : Nat → Bool} {f : Fn} {a b c d : Nat} (h1 : ok a = false) (h2 : ok b = false) (h3 : ok c = false) (h4 : ok d = false) : frzO ok st (.box [.func f [] [.ptr a 0, .ptr b 0, .ptr c 0, .ptr d 0]]) = .box [.func f [] [.ptr a 0, .ptr b 0, .ptr c 0, .ptr d 0]] := by simp [frzO, frzA, frz, h1, h2, h3, h4]
/-- What Above's own function is handed. -/
def abO (r : List Iss) (lt : List Int) (s : List Int) : List (Nat × AObj) :=
  [(1008, .box [bkA r (nums r)]), (1011, .box [.mp 1027]), (1009, .box [byA r lt]), (1012, .box [.func (.func 85) [] [.ptr 1008 0, .ptr 1011 0, .ptr 1009 0, .ptr 1012 0]]), (1027, .mp (lfA s))]
theorem abO_in (r : List Iss) (lt : List Int) (l : List Int) : ∀ p ∈ abO r lt l, keptO (abO r lt l) p.2 = true := by
  simp only [abO, List.mem_cons, List.not_mem_nil, or_false, forall_eq_or_imp, forall_eq, kept_lfA, and_true]
  simp [lk, keptO, keptA, AV.keys, keys_byA, keys_bkA]
def abS (r : List Iss) (lt : List Int) (d : Int) (s : List Int) (i : Nat) : St := ⟨[(13, .int .i64 i), (12, .int .i64 (nums r).length), (11, .vsl ((nums r).map ia)), (0, .int .i64 d), (2, .ptr 1011 0), (3, .ptr 1009 0), (4, .ptr 1012 0)], abO r lt s⟩
/-- The states of the last loops. -/
def abF (l S : List Int) (i : Nat) : St := if flN l (fun n => decide (n ∈ S)) i = [] then ⟨[(37, .int .i64 i), (36, .int .i64 l.length), (35, .vsl (l.map ia)), (11, .ptr 11 0), (13, .nils)], [(11, .box [.mp 27]), (27, .mp (lfA S))]⟩
  else ⟨[(37, .int .i64 i), (36, .int .i64 l.length), (35, .vsl (l.map ia)), (11, .ptr 11 0), (13, .osl 47 (flN l (fun n => decide (n ∈ S)) i).length)], [(11, .box [.mp 27]), (27, .mp (lfA S)), (47, .row 1 ((flN l (fun n => decide (n ∈ S)) i).map ia))]⟩
def upS (r : List Iss) (n : Int) (i : Nat) : St := if usN r n i = [] then ⟨[(26, .int .i64 i), (25, .int .i64 r.length), (24, .vsl (r.map isa)), (8, .nils), (1, .int .i64 n)], []⟩
  else ⟨[(26, .int .i64 i), (25, .int .i64 r.length), (24, .vsl (r.map isa)), (8, .osl 37 (usN r n i).length), (1, .int .i64 n)], [(37, .row 2 ((usN r n i).map ita))]⟩

def upF (T : Int → Iss) (l : List Int) (k : Nat) (d : Int) (s : List Int) (n : Int) : List Int := if decide (n ∈ s) = false ∧ needL d (T n).its = true then upV T l k n (s ++ [n]) else s
theorem upV_succ {T : Int → Iss} {l : List Int} {k : Nat} {d : Int} {s : List Int} : upV T l (k + 1) d s = l.foldl (upF T l k d) s := rfl
theorem upF_in {T : Int → Iss} {l : List Int} {k : Nat} {d : Int} {s : List Int} {n : Int} (h : n ∈ s) : upF T l k d s n = s := by simp [upF, h]
theorem upF_no {T : Int → Iss} {l : List Int} {k : Nat} {d : Int} {s : List Int} {n : Int} (h : needL d (T n).its = false) : upF T l k d s n = s := by simp [upF, h]
theorem upF_yes {T : Int → Iss} {l : List Int} {k : Nat} {d : Int} {s : List Int} {n : Int} (h : n ∉ s) (h2 : needL d (T n).its = true) : upF T l k d s n = upV T l k n (s ++ [n]) := by simp [upF, h, h2]
theorem upF_sub {T : Int → Iss} {l : List Int} {k : Nat} {d : Int} {s : List Int} {n x : Int} (h : x ∈ s) : x ∈ upF T l k d s n := by
  unfold upF
  split
  · exact upV_sub _ _ _ _ (List.mem_append.2 (.inl h))
  · exact h

section
variable {G : Nat → Option (List AV)}

theorem needs1_pc (y : Int × Int) (n : Int) : PC Tryd.prog G 113 [.agg [.int .i64 y.1, .int .i64 y.2], .vptr [.int .i64 n] 0] (.bool (decide (y.1 = n))) := by
  (refine pc_sheet_needs_1 (Nat.le_of_ble_eq_true rfl) fun R hG hrd => GO_AR mixed 1000 ?_; subst hG)
  simp -implicitDefEqProofs [rc_sheet_needs_1, rr_sheet_needs_1]
theorem needs_pc (x : Iss) (n : Int) (h : Sml x.its) : PC Tryd.prog G 83 [.agg (isa x), .int .i64 n] (.bool (needL n x.its)) := by
  (refine pc_sheet_needs (Nat.le_of_ble_eq_true rfl) fun R hG hrd => GO_AR mixed 1000 ?_; subst hG)
  simp -implicitDefEqProofs [rc_sheet_needs, rr_sheet_needs, isa]
  (first | refine CallK.flat (containsT_pc 113 [.vptr [.int .i64 n] 0] (fun y => decide (y.1 = n)) x.its (by simp [AV.pure]) h (fun y _ => needs1_pc y n)) (by simp [AV.flat]) (by simp) ?_ | refine CallD.flat (containsT_pc 113 [.vptr [.int .i64 n] 0] (fun y => decide (y.1 = n)) x.its (by simp [AV.pure]) h (fun y _ => needs1_pc y n)) (by simp [AV.flat]) (by simp) ?_)
  simp -implicitDefEqProofs [needL]

theorem usesP_pc (hG : GC G) (r : List Iss) (n : Int) (h : Wf r) : PC Tryd.prog G 39 [rega r, .int .i64 n] (.tup [.vsl ((useE r n).1.map ita), .int .i64 (useE r n).2]) := by
  by_cases k : knV r n = 0
  case neg =>
    refine PC.nzR (v := .tup [.nils, .int .i64 (knV r n)]) ?_ (by simp [nz, useE, k])
    (refine pc_sheet_Uses (Nat.le_of_ble_eq_true rfl) fun R hG hrd => GO_AR mixed 1000 ?_; subst hG)
    simp -implicitDefEqProofs [rc_sheet_Uses, rr_sheet_Uses, rega]
    (first | refine CallK.of (known_pc hG r n h) (by simp) ?_ | refine CallD.of (known_pc hG r n h) (by simp) ?_)
    simp -implicitDefEqProofs [k]
  have ev : useE r n = (usN r n r.length, 0) := by simp [useE, k]
  have hs := h.1.1
  unfold Sml at hs
  rw [ev]
  refine PC.nzR (v := .tup [if usN r n r.length = [] then .nils else .vsl ((usN r n r.length).map ita), .int .i64 0]) ?_ (by split <;> simp_all [nz])
  (refine pc_sheet_Uses (Nat.le_of_ble_eq_true rfl) fun R hG hrd => GO_AR mixed 1000 ?_; subst hG)
  simp -implicitDefEqProofs [rc_sheet_Uses, rr_sheet_Uses, rega]
  (first | refine CallK.of (known_pc hG r n h) (by simp) ?_ | refine CallD.of (known_pc hG r n h) (by simp) ?_)
  simp -implicitDefEqProofs [k, bkA]
  refine AR_for (upS r n) (fun _ => True) r.length ?_ trivial ?_ ?_
  · have e0 : usN r n 0 = [] := rfl
    simp only [upS, e0, if_true]
    (first | exact Weak.tm (by simp [lk]) | exact Weak.sub (by simp [lk, keptA, AV.keys]) (by simp [lk, keptO, keptA, AV.keys]))
  · intro i hi _
    refine GO_AR mixed 1000 ?_
    have w1 : IntKind.i64.wrap ((i : Int) + 1) = ((i + 1 : Nat) : Int) := wrapI (by omega) (by omega)
    have hx := h.1.2 r[i] (List.getElem_mem hi)
    have hs := usN_succ (n := n) hi
    have bl := usN_len r n i
    have bb : ((usN r n i).length + 1) * 16 ≤ 70368744177664 := by omega
    cases q : needL n r[i].its
    · rw [if_neg (by simp [q])] at hs
      by_cases z : usN r n i = []
      · rw [z] at hs
        simp -implicitDefEqProofs [upS, z, hi, isa]
        (first | refine CallK.of (needs_pc r[i] n hx.1) (by simp) ?_ | refine CallD.of (needs_pc r[i] n hx.1) (by simp) ?_)
        simp -implicitDefEqProofs [upS, q, w1, hs]
        ((try simp only [ita]); refine Weak.sub (by simp [lk, keptA, AV.keys, ita]) ?_; simp only [ita, List.cons_append, List.nil_append, List.mem_cons, List.not_mem_nil, or_false, forall_eq_or_imp, forall_eq, ita_kept, and_true]; (try simp [lk, keptO, keptA, AV.keys, ita]))
      · simp -implicitDefEqProofs [upS, z, hi, isa]
        (first | refine CallK.of (needs_pc r[i] n hx.1) (by simp) ?_ | refine CallD.of (needs_pc r[i] n hx.1) (by simp) ?_)
        simp -implicitDefEqProofs [upS, q, w1, hs, z]
        ((try simp only [ita]); refine Weak.sub (by simp [lk, keptA, AV.keys, ita]) ?_; simp only [ita, List.cons_append, List.nil_append, List.mem_cons, List.not_mem_nil, or_false, forall_eq_or_imp, forall_eq, ita_kept, and_true]; (try simp [lk, keptO, keptA, AV.keys, ita]))
    · rw [if_pos q] at hs
      by_cases z : usN r n i = []
      · rw [z] at hs
        simp -implicitDefEqProofs [upS, z, hi, isa]
        (first | refine CallK.of (needs_pc r[i] n hx.1) (by simp) ?_ | refine CallD.of (needs_pc r[i] n hx.1) (by simp) ?_)
        simp -implicitDefEqProofs [q]
        (first | refine CallK.of (name_pc r[i]) (by simp) ?_ | refine CallD.of (name_pc r[i]) (by simp) ?_)
        simp -implicitDefEqProofs [upS, w1, hs]
        ((try simp only [ita]); refine Weak.sub (by simp [lk, keptA, AV.keys, ita]) ?_; simp only [ita, List.cons_append, List.nil_append, List.mem_cons, List.not_mem_nil, or_false, forall_eq_or_imp, forall_eq, ita_kept, and_true]; (try simp [lk, keptO, keptA, AV.keys, ita]))
      · simp -implicitDefEqProofs [upS, z, hi, isa]
        (first | refine CallK.of (needs_pc r[i] n hx.1) (by simp) ?_ | refine CallD.of (needs_pc r[i] n hx.1) (by simp) ?_)
        simp -implicitDefEqProofs [q]
        (first | refine CallK.of (name_pc r[i]) (by simp) ?_ | refine CallD.of (name_pc r[i]) (by simp) ?_)
        simp -implicitDefEqProofs [upS, w1, hs, z, bb]
        ((try simp only [ita]); refine Weak.sub (by simp [lk, keptA, AV.keys, ita]) ?_; simp only [ita, List.cons_append, List.nil_append, List.mem_cons, List.not_mem_nil, or_false, forall_eq_or_imp, forall_eq, ita_kept, and_true]; (try simp [lk, keptO, keptA, AV.keys, ita]))
  · intro _
    refine GO_AR mixed 1000 ?_
    by_cases z : usN r n r.length = []
    · simp -implicitDefEqProofs [upS, z]
      refine GO_ret mixed 1000 ?_
      simp -implicitDefEqProofs [z]
    · have pu : ((usN r n r.length).map ita).all (fun r => r.all AV.pure) = true := by simp [ita, AV.pure]
      simp -implicitDefEqProofs [upS, z]
      refine GO_ret mixed 1000 ?_
      simp -implicitDefEqProofs [z, pu]

theorem up_pb (r : List Iss) (lt : List Int) (h : Wf r) (ho : openV r = 0) (hlt : ltB r lt = true) : ∀ (k : Nat) (d : Int) (s : List Int), leftN (nums r) s < k →
    PB Tryd.prog G 85 (abO r lt s) [.int .i64 d, .ptr 1008 0, .ptr 1011 0, .ptr 1009 0, .ptr 1012 0] (.tup []) (abO r lt (upV (tkV r lt) (nums r) k d s))
  | 0, _, _, hk => by omega
  | k + 1, d, s, hk => by
    have hL := open_listed ho
    have hl := listed_20 hL
    have hrec := fun n s1 (c : leftN (nums r) s1 < k) => up_pb r lt h ho hlt k n s1 c
    rw [upV_succ]
    (refine pb_sheet_Above_1 (Nat.le_of_ble_eq_true rfl) fun R hG hrd => GO_AR mixed 1000 ?_; subst hG)
    simp -implicitDefEqProofs [rc_sheet_Above_1, rr_sheet_Above_1, abO, bkA]
    refine AR_for (fun i => abS r lt d (((nums r).take i).foldl (upF (tkV r lt) (nums r) k d) s) i) (fun i => ∀ x ∈ s, x ∈ ((nums r).take i).foldl (upF (tkV r lt) (nums r) k d) s) (nums r).length ?_ (by simp) ?_ ?_
    · ((try simp only [abS, abO, bkA, byA, List.take_zero, List.foldl_nil]); refine Weak.sub (by simp [lk, keptA, AV.keys, abS, abO, bkA, byA, List.take_zero, List.foldl_nil]) ?_; simp only [abS, abO, bkA, byA, List.take_zero, List.foldl_nil, List.cons_append, List.nil_append, List.mem_cons, List.not_mem_nil, or_false, forall_eq_or_imp, forall_eq, kept_lfA, and_true]; (try simp [lk, keptO, keptA, AV.keys, abS, abO, bkA, byA, List.take_zero, List.foldl_nil]))
    · intro i hi hsub
      refine GO_AR mixed 1000 ?_
      have w1 : IntKind.i64.wrap ((i : Int) + 1) = ((i + 1 : Nat) : Int) := wrapI (by omega) (by omega)
      have ft := fold_take (upF (tkV r lt) (nums r) k d) s (nums r) i hi
      have hsub2 : ∀ x ∈ s, x ∈ ((nums r).take (i + 1)).foldl (upF (tkV r lt) (nums r) k d) s := fun x hx => by rw [ft]; exact upF_sub (hsub x hx)
      generalize ((nums r).take i).foldl (upF (tkV r lt) (nums r) k d) s = s1 at *
      have hn := List.getElem_mem hi
      have gl := get_lf (nums r)[i] s1
      have gb := get_mp isA (nums r)[i] (byN r lt (nums r).length)
      rw [byN_get hn] at gb
      have hx := tk_mem hL hlt hn
      have hsz := h.1.2 _ hx.1
      by_cases q : (nums r)[i] ∈ s1
      · rw [if_pos q] at gl
        rw [upF_in q] at ft
        simp -implicitDefEqProofs [abS, abO, hi, ia, gl, w1]
        exact ⟨(by ((try simp only [abS, abO, bkA, byA, ft]); refine Weak.sub (by simp [lk, keptA, AV.keys, abS, abO, bkA, byA, ft]) ?_; simp only [abS, abO, bkA, byA, ft, List.cons_append, List.nil_append, List.mem_cons, List.not_mem_nil, or_false, forall_eq_or_imp, forall_eq, kept_lfA, and_true]; (try simp [lk, keptO, keptA, AV.keys, abS, abO, bkA, byA, ft]))), hsub2⟩
      · rw [if_neg q] at gl
        have hleft := leftN_lt hn q
        have hmo := leftN_mono (l := nums r) hsub
        have hr := hrec (nums r)[i] (s1 ++ [(nums r)[i]]) (by omega)
        have pl := put_lf q
        have f1 := upF_no (T := tkV r lt) (l := nums r) (k := k) (d := d) (s := s1) (n := (nums r)[i])
        have f2 := upF_yes (T := tkV r lt) (l := nums r) (k := k) (d := d) (n := (nums r)[i]) q
        generalize tkV r lt (nums r)[i] = x at *
        simp -implicitDefEqProofs [abS, abO, hi, ia, gl, byA, gb, isA, isa]
        (first | refine CallK.of (needs_pc x d hsz.1) (by simp) ?_ | refine CallD.of (needs_pc x d hsz.1) (by simp) ?_)
        cases q2 : needL d x.its
        · rw [f1 q2] at ft
          simp -implicitDefEqProofs [w1, abS, abO]
          exact ⟨(by ((try simp only [abS, abO, bkA, byA, ft]); refine Weak.sub (by simp [lk, keptA, AV.keys, abS, abO, bkA, byA, ft]) ?_; simp only [abS, abO, bkA, byA, ft, List.cons_append, List.nil_append, List.mem_cons, List.not_mem_nil, or_false, forall_eq_or_imp, forall_eq, kept_lfA, and_true]; (try simp [lk, keptO, keptA, AV.keys, abS, abO, bkA, byA, ft]))), hsub2⟩
        · rw [f2 q2] at ft
          simp -implicitDefEqProofs [pl]
          refine CallK.sem (CallSem.byref hr id (by simp [abO]) (by simp [abO]) (by simp [abO, St.get, lk, AObj.ren, AV.ren, ren_byA, ren_bkA, map_lfA, byA, bkA]) (abO_in _ _ _) (by simp [abO, keptA, AV.keys, lk]) rfl (by simp [AV.ren]) rfl rfl) ?_
          simp -implicitDefEqProofs [setsB, abO, AObj.ren, AV.ren, ren_byA, ren_bkA, map_lfA, w1, abS]
          exact ⟨(by ((try simp only [abS, abO, bkA, byA, ft]); refine Weak.sub (by simp [lk, keptA, AV.keys, abS, abO, bkA, byA, ft]) ?_; simp only [abS, abO, bkA, byA, ft, List.cons_append, List.nil_append, List.mem_cons, List.not_mem_nil, or_false, forall_eq_or_imp, forall_eq, kept_lfA, and_true]; (try simp [lk, keptO, keptA, AV.keys, abS, abO, bkA, byA, ft]))), hsub2⟩
    · intro _
      refine GO_AR mixed 1000 ?_
      simp -implicitDefEqProofs [abS, abO]
      refine GO_ret mixed 1000 ?_
      simp -implicitDefEqProofs [FinB, frzSt, newK, frz_lfA, frz_b1, frz_b2, frz_bk, frz_f4, abO]
      rfl

theorem aboveP_pc (hG : GC G) (r : List Iss) (lt : List Int) (d : Int) (h : Wf r) : PC Tryd.prog G 41 [rega r, .vsl (lt.map ia), .int .i64 d] (.tup [.vsl ((abE r lt d).1.map ia), .int .i64 (abE r lt d).2]) := by
  by_cases e : askV r lt d = 0
  case neg =>
    refine PC.nzR (v := .tup [.nils, .int .i64 (askV r lt d)]) ?_ (by simp [nz, abE, e])
    (refine pc_sheet_Above (Nat.le_of_ble_eq_true rfl) fun R hG hrd => GO_AR mixed 1000 ?_; subst hG)
    simp -implicitDefEqProofs [rc_sheet_Above, rr_sheet_Above, rega]
    (first | refine CallK.of (taken_pc hG r lt d h) (by simp) ?_ | refine CallD.of (taken_pc hG r lt d h) (by simp) ?_)
    simp -implicitDefEqProofs [takA, e]
  obtain ⟨ho, hlt, hn⟩ := ask_0 e
  have hl := listed_20 (open_listed ho)
  have hp := up_pb (G := G) r lt h ho hlt ((nums r).length + 1) d [] (Nat.lt_succ_of_le (leftN_le _ _))
  have ev : abE r lt d = (flN (nums r) (fun n => decide (n ∈ upV (tkV r lt) (nums r) ((nums r).length + 1) d [])) (nums r).length, 0) := by rw [abE, if_pos e, flN, List.take_length]; rfl
  rw [ev]
  generalize upV (tkV r lt) (nums r) ((nums r).length + 1) d [] = S at *
  refine PC.nzR (v := .tup [if flN (nums r) (fun n => decide (n ∈ S)) (nums r).length = [] then .nils else .vsl ((flN (nums r) (fun n => decide (n ∈ S)) (nums r).length).map ia), .int .i64 0]) ?_ (by by_cases q : flN (nums r) (fun n => decide (n ∈ S)) (nums r).length = [] <;> simp only [q, if_true, if_false] <;> simp [nz])
  (refine pc_sheet_Above (Nat.le_of_ble_eq_true rfl) fun R hG hrd => GO_AR mixed 1000 ?_; subst hG)
  simp -implicitDefEqProofs [rc_sheet_Above, rr_sheet_Above, rega]
  (first | refine CallK.of (taken_pc hG r lt d h) (by simp) ?_ | refine CallD.of (taken_pc hG r lt d h) (by simp) ?_)
  simp -implicitDefEqProofs [takA, e, one_byA, bkA, byA]
  refine CallK.sem (CallSem.byref hp (fun k => k - 1000) (by simp [abO]) (by simp [abO]) (by simp [abO, St.get, lk, AObj.ren, AV.ren, ren_byA, ren_bkA, map_lfA, byA, bkA]; try simp [lfA]) (abO_in _ _ _) (by simp [abO, keptA, AV.keys, lk]) rfl (by simp [AV.ren]) rfl rfl) ?_
  simp -implicitDefEqProofs [setsB, abO, AObj.ren, AV.ren, ren_byA, ren_bkA, map_lfA, bkA]
  refine AR_for (abF (nums r) S) (fun _ => True) (nums r).length ?_ trivial ?_ ?_
  · have e0 : flN (nums r) (fun n => decide (n ∈ S)) 0 = [] := rfl
    simp only [abF, e0, if_true]
    ((try simp only [byA]); refine Weak.sub (by simp [lk, keptA, AV.keys, byA]) ?_; simp only [byA, List.cons_append, List.nil_append, List.mem_cons, List.not_mem_nil, or_false, forall_eq_or_imp, forall_eq, kept_lfA, and_true]; (try simp [lk, keptO, keptA, AV.keys, byA]))
  · intro i hi _
    refine GO_AR mixed 1000 ?_
    have w1 : IntKind.i64.wrap ((i : Int) + 1) = ((i + 1 : Nat) : Int) := wrapI (by omega) (by omega)
    have gl := get_lf (nums r)[i] S
    have hs := flN_succ (g := fun n => decide (n ∈ S)) hi
    have bl := flN_len (nums r) (fun n => decide (n ∈ S)) i
    have hA : ∀ i, abF (nums r) S i = if flN (nums r) (fun n => decide (n ∈ S)) i = [] then ⟨[(37, .int .i64 i), (36, .int .i64 (nums r).length), (35, .vsl ((nums r).map ia)), (11, .ptr 11 0), (13, .nils)], [(11, .box [.mp 27]), (27, .mp (lfA S))]⟩
      else ⟨[(37, .int .i64 i), (36, .int .i64 (nums r).length), (35, .vsl ((nums r).map ia)), (11, .ptr 11 0), (13, .osl 47 (flN (nums r) (fun n => decide (n ∈ S)) i).length)], [(11, .box [.mp 27]), (27, .mp (lfA S)), (47, .row 1 ((flN (nums r) (fun n => decide (n ∈ S)) i).map ia))]⟩ := fun _ => rfl
    simp only [decide_eq_true_eq] at hs
    generalize flN (nums r) (fun n => decide (n ∈ S)) = F at *
    have bb : ((F i).length + 1) * 8 ≤ 70368744177664 := by omega
    by_cases q : (nums r)[i] ∈ S
    · rw [if_pos q] at hs gl
      by_cases z : F i = []
      · rw [z] at hs
        simp -implicitDefEqProofs [hA, z, hi, ia, gl, w1, hs]
        ((try simp only [ia]); refine Weak.sub (by simp [lk, keptA, AV.keys, ia]) ?_; simp only [ia, List.cons_append, List.nil_append, List.mem_cons, List.not_mem_nil, or_false, forall_eq_or_imp, forall_eq, kept_lfA, ia_kept, and_true]; (try simp [lk, keptO, keptA, AV.keys, ia]))
      · simp -implicitDefEqProofs [hA, z, hi, ia, gl, w1, hs, bb]
        ((try simp only [ia]); refine Weak.sub (by simp [lk, keptA, AV.keys, ia]) ?_; simp only [ia, List.cons_append, List.nil_append, List.mem_cons, List.not_mem_nil, or_false, forall_eq_or_imp, forall_eq, kept_lfA, ia_kept, and_true]; (try simp [lk, keptO, keptA, AV.keys, ia]))
    · rw [if_neg q] at hs gl
      by_cases z : F i = []
      · rw [z] at hs
        simp -implicitDefEqProofs [hA, z, hi, ia, gl, w1, hs]
        ((try simp only [ia]); refine Weak.sub (by simp [lk, keptA, AV.keys, ia]) ?_; simp only [ia, List.cons_append, List.nil_append, List.mem_cons, List.not_mem_nil, or_false, forall_eq_or_imp, forall_eq, kept_lfA, ia_kept, and_true]; (try simp [lk, keptO, keptA, AV.keys, ia]))
      · simp -implicitDefEqProofs [hA, z, hi, ia, gl, w1, hs]
        ((try simp only [ia]); refine Weak.sub (by simp [lk, keptA, AV.keys, ia]) ?_; simp only [ia, List.cons_append, List.nil_append, List.mem_cons, List.not_mem_nil, or_false, forall_eq_or_imp, forall_eq, kept_lfA, ia_kept, and_true]; (try simp [lk, keptO, keptA, AV.keys, ia]))
  · intro _
    refine GO_AR mixed 1000 ?_
    have hA : abF (nums r) S (nums r).length = if flN (nums r) (fun n => decide (n ∈ S)) (nums r).length = [] then ⟨[(37, .int .i64 (nums r).length), (36, .int .i64 (nums r).length), (35, .vsl ((nums r).map ia)), (11, .ptr 11 0), (13, .nils)], [(11, .box [.mp 27]), (27, .mp (lfA S))]⟩
      else ⟨[(37, .int .i64 (nums r).length), (36, .int .i64 (nums r).length), (35, .vsl ((nums r).map ia)), (11, .ptr 11 0), (13, .osl 47 (flN (nums r) (fun n => decide (n ∈ S)) (nums r).length).length)], [(11, .box [.mp 27]), (27, .mp (lfA S)), (47, .row 1 ((flN (nums r) (fun n => decide (n ∈ S)) (nums r).length).map ia))]⟩ := rfl
    generalize flN (nums r) (fun n => decide (n ∈ S)) (nums r).length = F at *
    by_cases z : F = []
    · simp -implicitDefEqProofs [hA, z]
      refine GO_ret mixed 1000 ?_
      simp -implicitDefEqProofs [z]
    · have pu : (F.map ia).all (fun r => r.all AV.pure) = true := by simp [ia, AV.pure]
      simp -implicitDefEqProofs [hA, z]
      refine GO_ret mixed 1000 ?_
      simp -implicitDefEqProofs [z, pu]
end
end Go.Proofs.YtdpmioiamcgfkaaDoor

/-! How two issues differ: what the program's Differ computes. -/
namespace Go.Proofs.YtdpmioiamcgfkaaDoor
open Go.RowKit

/-! Maps by drawings, where values are put anew. -/
def mpP {α : Type} (n : Int) (v : α) : List (Int × α) → List (Int × α)
  | [] => [(n, v)]
  | p :: l => if n = p.1 then (n, v) :: l else p :: mpP n v l
theorem mlk_mpP {α : Type} (n : Int) (v : α) : ∀ (l : List (Int × α)) (m : Int), mlk m (mpP n v l) = if m = n then some v else mlk m l
  | [], m => by simp [mpP, mlk]
  | p :: l, m => by
    have ih := mlk_mpP n v l m
    simp only [mpP]
    by_cases e : n = p.1
    · rw [if_pos e]
      simp only [mlk]
      by_cases e2 : m = n
      · rw [if_pos e2, if_pos e2]
      · rw [if_neg e2, if_neg e2, if_neg (by rw [← e]; exact e2)]
    · rw [if_neg e]
      simp only [mlk]
      by_cases e2 : m = p.1
      · rw [if_pos e2, if_pos e2, if_neg (by rintro rfl; exact e e2)]
      · rw [if_neg e2, if_neg e2]; exact ih
theorem find_mpP {α : Type} (f : α → AV) (n : Int) (v : α) : ∀ l : List (Int × α), ∃ o : Option Nat, (KK.i .i64).find (.int .i64 n) (mpA f l) = some o ∧ match o with
    | some j => mpP n v l = l.set j (n, v)
    | none => mpP n v l = l ++ [(n, v)]
  | [] => ⟨none, rfl, rfl⟩
  | p :: r => by
    obtain ⟨o, h1, h2⟩ := find_mpP f n v r
    by_cases e : n = p.1
    · exact ⟨some 0, by simp [mpA, KK.find, KK.eq, e], by simp [mpP, e]⟩
    · refine ⟨o.map (· + 1), ?_, ?_⟩
      · simp only [mpA, List.map_cons, KK.find, KK.eq, and_self, if_true, e, decide_false]
        rw [show r.map (fun p => (AV.int .i64 p.1, f p.2)) = mpA f r from rfl, h1]; rfl
      · cases o with
        | none => simp only [Option.map_none, mpP, if_neg e, h2]; rfl
        | some j => simp only [Option.map_some, mpP, if_neg e, h2]; rfl
theorem put_mpP {α : Type} (f : α → AV) (n : Int) (v : α) (l : List (Int × α)) : (KK.i .i64).put (.int .i64 n) (f v) (mpA f l) = some (mpA f (mpP n v l)) := by
  obtain ⟨o, h1, h2⟩ := find_mpP f n v l
  have hi : (KK.i .i64).is (.int .i64 n) = true := by simp [KK.is]
  unfold KK.put
  rw [if_pos hi, h1]
  cases o with
  | none => simp only [h2]; simp [mpA]
  | some j => rw [h2]; simp [mpA, List.map_set]
/-- A change, as a value. -/
def dA (d : Dm) : AV := .agg (dma d)
theorem kept_dA (o : List (Nat × AObj)) (l : List (Int × Dm)) : keptO o (.mp (mpA dA l)) = true := by
  simp only [keptO, List.all_eq_true, mpA, List.mem_map]
  rintro _ ⟨y, -, rfl⟩
  simp [dA, dma, keptA, AV.keys]

/-- A map tells how often drawings are items of both. -/
def Cnt (l : List (Int × Dm)) (f g : Int → Int) : Prop := ∀ n, (mlk n l = none ∧ f n = 0 ∧ g n = 0) ∨ mlk n l = some ⟨n, f n, g n⟩
theorem ct_take {l : List (Int × Int)} (hn : (l.map (·.1)).Nodup) {i : Nat} (h : i < l.length) (n : Int) : ctL n (l.take (i + 1)) = if n = l[i].1 then l[i].2 else ctL n (l.take i) := by
  have app : ∀ (l1 : List (Int × Int)) (y : Int × Int), y.1 ∉ l1.map (·.1) → ctL n (l1 ++ [y]) = if n = y.1 then y.2 else ctL n l1 := by
    intro l1 y
    induction l1 with
    | nil =>
      intro _
      simp only [List.nil_append, ctL]
      by_cases e : n = y.1
      · rw [if_pos e, if_pos e.symm]
      · rw [if_neg e, if_neg fun q => e q.symm]
    | cons z l1 ih =>
      intro h
      simp only [List.map_cons, List.mem_cons, not_or] at h
      simp only [List.cons_append, ctL, ih h.2]
      by_cases e : z.1 = n
      · rw [if_pos e, if_pos e, if_neg (fun q => h.1 (by rw [e, q]))]
      · rw [if_neg e, if_neg e]
  rw [List.take_succ_eq_append_getElem h]
  refine app _ _ fun hm => ?_
  obtain ⟨y, hy, e⟩ := List.mem_map.1 hm
  obtain ⟨j, hj, rfl⟩ := List.getElem_of_mem hy
  simp only [List.length_take] at hj
  simp only [List.getElem_take] at e
  have h1 := List.pairwise_iff_getElem.1 hn j i (by simp; omega) (by simpa using h) (by omega)
  simp only [List.getElem_map] at h1
  exact h1 e
/-- The first loop's map, and the second one's. -/
def by1 (its : List (Int × Int)) (i : Nat) : List (Int × Dm) := (its.take i).foldl (fun l y => mpP y.1 ⟨y.1, y.2, 0⟩ l) []
def by2 (l : List (Int × Dm)) (its : List (Int × Int)) (i : Nat) : List (Int × Dm) := (its.take i).foldl (fun l y => mpP y.1 ⟨y.1, ((mlk y.1 l).getD Dm.zero).l, y.2⟩ l) l
theorem by1_succ {its : List (Int × Int)} {i : Nat} (h : i < its.length) : by1 its (i + 1) = mpP its[i].1 ⟨its[i].1, its[i].2, 0⟩ (by1 its i) := fold_take _ _ _ _ h
theorem by2_succ {l : List (Int × Dm)} {its : List (Int × Int)} {i : Nat} (h : i < its.length) : by2 l its (i + 1) = mpP its[i].1 ⟨its[i].1, ((mlk its[i].1 (by2 l its i)).getD Dm.zero).l, its[i].2⟩ (by2 l its i) := fold_take (fun (l : List (Int × Dm)) (y : Int × Int) => mpP y.1 ⟨y.1, ((mlk y.1 l).getD Dm.zero).l, y.2⟩ l) _ _ _ h
theorem by1_cnt {its : List (Int × Int)} (hn : (its.map (·.1)).Nodup) : ∀ i, i ≤ its.length → Cnt (by1 its i) (fun n => ctL n (its.take i)) fun _ => 0
  | 0, _ => fun n => .inl ⟨rfl, by simp [ctL], rfl⟩
  | i + 1, hi => fun n => by
    have hlt : i < its.length := by omega
    have ih := by1_cnt hn i (by omega) n
    rw [by1_succ hlt, mlk_mpP]
    simp only [ct_take hn hlt n]
    by_cases e : n = its[i].1
    · rw [if_pos e, if_pos e]; exact .inr (by rw [e])
    · rw [if_neg e, if_neg e]; simpa using ih
theorem by2_cnt {l : List (Int × Dm)} {f : Int → Int} (h0 : Cnt l f fun _ => 0) {its : List (Int × Int)} (hn : (its.map (·.1)).Nodup) : ∀ i, i ≤ its.length → Cnt (by2 l its i) f fun n => ctL n (its.take i)
  | 0, _ => fun n => by have := h0 n; simpa [by2, ctL] using this
  | i + 1, hi => fun n => by
    have hlt : i < its.length := by omega
    have ih := by2_cnt h0 hn i (by omega)
    rw [by2_succ hlt, mlk_mpP]
    simp only [ct_take hn hlt n]
    by_cases e : n = its[i].1
    · rw [if_pos e, if_pos e]
      refine .inr ?_
      rcases ih its[i].1 with ⟨h1, h2, -⟩ | h1
      · rw [h1, e, h2]; rfl
      · rw [h1, e]; rfl
    · rw [if_neg e, if_neg e]; exact ih n

/-- The states of the program's loops. -/
def f1S (r : List Iss) (a b : Iss) (l : List (Int × Dm)) (i : Nat) : St := ⟨[(59, .int .i64 i), (58, .int .i64 a.its.length), (57, .vsl (a.its.map ita)), (16, .mp 55), (11, bkA r (nums r)), (12, .ptr 12 0), (14, .ptr 14 0), (8, .nils), (9, .nils)], [(12, .box (isa a)), (14, .box (isa b)), (55, .mp (mpA dA l))]⟩
def f2S (r : List Iss) (a b : Iss) (l : List (Int × Dm)) (i : Nat) : St := ⟨[(75, .int .i64 i), (74, .int .i64 b.its.length), (73, .vsl (b.its.map ita)), (16, .mp 55), (11, bkA r (nums r)), (12, .ptr 12 0), (14, .ptr 14 0), (8, .nils), (9, .nils)], [(12, .box (isa a)), (14, .box (isa b)), (55, .mp (mpA dA l))]⟩
def f3S (l : List Int) (a b : Iss) (m : List (Int × Dm)) (D : List Dm) (i : Nat) : St := if D = [] then ⟨[(98, .int .i64 i), (97, .int .i64 l.length), (96, .vsl (l.map ia)), (16, .mp 55), (12, .ptr 12 0), (14, .ptr 14 0), (8, .nils), (9, .nils)], [(12, .box (isa a)), (14, .box (isa b)), (55, .mp (mpA dA m))]⟩
  else ⟨[(98, .int .i64 i), (97, .int .i64 l.length), (96, .vsl (l.map ia)), (16, .mp 55), (12, .ptr 12 0), (14, .ptr 14 0), (8, .osl 113 D.length), (9, .nils)], [(12, .box (isa a)), (14, .box (isa b)), (55, .mp (mpA dA m)), (113, .row 3 (D.map dma))]⟩
def f4S (C : AV) (a b : Iss) (i : Nat) : St := if dsN a.dms b.dms i = [] then ⟨[(122, .int .i64 i), (121, .int .i64 (max a.dms.length b.dms.length : Nat)), (8, C), (9, .nils), (12, .ptr 12 0), (14, .ptr 14 0)], [(12, .box (isa a)), (14, .box (isa b))]⟩
  else ⟨[(122, .int .i64 i), (121, .int .i64 (max a.dms.length b.dms.length : Nat)), (8, C), (9, .osl 150 (dsN a.dms b.dms i).length), (12, .ptr 12 0), (14, .ptr 14 0)], [(12, .box (isa a)), (14, .box (isa b)), (150, .row 1 ((dsN a.dms b.dms i).map ia))]⟩
theorem cnt_ch {l : List (Int × Dm)} {f g : Int → Int} (h : Cnt l f g) (n : Int) : ((mlk n l).getD Dm.zero).l = f n ∧ ((mlk n l).getD Dm.zero).u = g n ∧ (f n ≠ g n → mlk n l = some ⟨n, f n, g n⟩) := by
  rcases h n with ⟨h1, h2, h3⟩ | h1
  · rw [h1, h2, h3]; exact ⟨rfl, rfl, fun h => absurd rfl h⟩
  · rw [h1]; exact ⟨rfl, rfl, fun _ => rfl⟩

section
variable {G : Nat → Option (List AV)}

set_option maxRecDepth 4000 in
set_option maxHeartbeats 4000000 in
theorem differP_pc (hG : GC G) (r : List Iss) (d n m : Int) (h : Wf r) : PC Tryd.prog G 44 [rega r, .int .i64 d, .int .i64 n, .int .i64 m] (.tup [.vsl ((difE r d n m).1.map dma), .vsl ((difE r d n m).2.1.map ia), .int .i64 (difE r d n m).2.2]) := by
  by_cases e : openV r = 0
  case neg =>
    refine PC.nzR (v := .tup [.nils, .nils, .int .i64 (openV r)]) ?_ (by simp [nz, difE, e])
    (refine pc_sheet_Differ (Nat.le_of_ble_eq_true rfl) fun R hG hrd => GO_AR mixed 1000 ?_; subst hG)
    simp -implicitDefEqProofs [rc_sheet_Differ, rr_sheet_Differ, rega]
    (first | refine CallK.of (open_pc hG r h) (by simp) ?_ | refine CallD.of (open_pc hG r h) (by simp) ?_)
    simp -implicitDefEqProofs [openA, e]
  have hL := open_listed e
  have hO := ord_of hL
  have hl := listed_20 hL
  cases fa : findN d n r with
  | none =>
    have ev : difE r d n m = ([], [], 6) := by simp [difE, e, fa]
    refine PC.nzR (v := .tup [.nils, .nils, .int .i64 6]) ?_ (by simp [nz, ev])
    (refine pc_sheet_Differ (Nat.le_of_ble_eq_true rfl) fun R hG hrd => GO_AR mixed 1000 ?_; subst hG)
    simp -implicitDefEqProofs [rc_sheet_Differ, rr_sheet_Differ, rega]
    (first | refine CallK.of (open_pc hG r h) (by simp) ?_ | refine CallD.of (open_pc hG r h) (by simp) ?_)
    simp -implicitDefEqProofs [openA, e]
    (first | refine CallK.of (find_pcS r (nums r) d n (ord_map hO) h.1.1 (find_own hL)) (by simp) ?_ | refine CallD.of (find_pcS r (nums r) d n (ord_map hO) h.1.1 (find_own hL)) (by simp) ?_)
    simp -implicitDefEqProofs [fa, fndA, noIs]
    (first | refine CallK.of (find_pcS r (nums r) d m (ord_map hO) h.1.1 (find_own hL)) (by simp) ?_ | refine CallD.of (find_pcS r (nums r) d m (ord_map hO) h.1.1 (find_own hL)) (by simp) ?_)
    cases fb : findN d m r <;> simp -implicitDefEqProofs [fb, fndA, noIs, isa]
  | some a =>
  cases fb : findN d m r with
  | none =>
    have ev : difE r d n m = ([], [], 6) := by simp [difE, e, fa, fb]
    refine PC.nzR (v := .tup [.nils, .nils, .int .i64 6]) ?_ (by simp [nz, ev])
    (refine pc_sheet_Differ (Nat.le_of_ble_eq_true rfl) fun R hG hrd => GO_AR mixed 1000 ?_; subst hG)
    simp -implicitDefEqProofs [rc_sheet_Differ, rr_sheet_Differ, rega]
    (first | refine CallK.of (open_pc hG r h) (by simp) ?_ | refine CallD.of (open_pc hG r h) (by simp) ?_)
    simp -implicitDefEqProofs [openA, e]
    (first | refine CallK.of (find_pcS r (nums r) d n (ord_map hO) h.1.1 (find_own hL)) (by simp) ?_ | refine CallD.of (find_pcS r (nums r) d n (ord_map hO) h.1.1 (find_own hL)) (by simp) ?_)
    simp -implicitDefEqProofs [fa, fndA, isa]
    (first | refine CallK.of (find_pcS r (nums r) d m (ord_map hO) h.1.1 (find_own hL)) (by simp) ?_ | refine CallD.of (find_pcS r (nums r) d m (ord_map hO) h.1.1 (find_own hL)) (by simp) ?_)
    simp -implicitDefEqProofs [fb, fndA, noIs]
  | some b =>
  have ha := h.1.2 a (findN_mem fa).1
  have hb := h.1.2 b (findN_mem fb).1
  have na := its_nodup (listed_iss hL (findN_mem fa).1)
  have nb := its_nodup (listed_iss hL (findN_mem fb).1)
  have h8a := (iss_kind (listed_iss hL (findN_mem fa).1)).2.2.1
  have h8b := (iss_kind (listed_iss hL (findN_mem fb).1)).2.2.1
  have ev : difE r d n m = (dfN (nums r) (fun n => ctL n a.its) (fun n => ctL n b.its) (nums r).length, dsN a.dms b.dms (max a.dms.length b.dms.length), 0) := by simp [difE, e, fa, fb]
  rw [ev]
  refine PC.nzR (v := .tup [orNil ((dfN (nums r) (fun n => ctL n a.its) (fun n => ctL n b.its) (nums r).length).map dma), orNil ((dsN a.dms b.dms (max a.dms.length b.dms.length)).map ia), .int .i64 0]) ?_ (by simp only [nz_tup, List.map_cons, List.map_nil, nz_orNil]; simp [nz])
  (refine pc_sheet_Differ (Nat.le_of_ble_eq_true rfl) fun R hG hrd => GO_AR mixed 1000 ?_; subst hG)
  simp -implicitDefEqProofs [rc_sheet_Differ, rr_sheet_Differ, rega]
  (first | refine CallK.of (open_pc hG r h) (by simp) ?_ | refine CallD.of (open_pc hG r h) (by simp) ?_)
  simp -implicitDefEqProofs [openA, e]
  (first | refine CallK.of (find_pcS r (nums r) d n (ord_map hO) h.1.1 (find_own hL)) (by simp) ?_ | refine CallD.of (find_pcS r (nums r) d n (ord_map hO) h.1.1 (find_own hL)) (by simp) ?_)
  simp -implicitDefEqProofs [fa, fndA, isa]
  (first | refine CallK.of (find_pcS r (nums r) d m (ord_map hO) h.1.1 (find_own hL)) (by simp) ?_ | refine CallD.of (find_pcS r (nums r) d m (ord_map hO) h.1.1 (find_own hL)) (by simp) ?_)
  simp -implicitDefEqProofs [fb, fndA, isa]
  refine AR_for (fun i => f1S r a b (by1 a.its i) i) (fun _ => True) a.its.length ?_ trivial ?_ ?_
  · ((try simp only [f1S, isa, by1, List.take_zero, List.foldl_nil, mpA, List.map_nil, bkA]); refine Weak.sub (by simp [lk, keptA, AV.keys, f1S, isa, by1, List.take_zero, List.foldl_nil, mpA, List.map_nil, bkA]) ?_; simp only [f1S, isa, by1, List.take_zero, List.foldl_nil, mpA, List.map_nil, bkA, List.cons_append, List.nil_append, List.mem_cons, List.not_mem_nil, or_false, forall_eq_or_imp, forall_eq, kept_dA, and_true]; (try simp [lk, keptO, keptA, AV.keys, f1S, isa, by1, List.take_zero, List.foldl_nil, mpA, List.map_nil, bkA]))
  · intro i hi _
    refine GO_AR mixed 1000 ?_
    have w1 : IntKind.i64.wrap ((i : Int) + 1) = ((i + 1 : Nat) : Int) := wrapI (by omega) (by omega)
    have pm := put_mpP dA a.its[i].1 ⟨a.its[i].1, a.its[i].2, 0⟩ (by1 a.its i)
    rw [← by1_succ hi, dA, dma] at pm
    simp -implicitDefEqProofs [f1S, hi, ita, pm, w1]
    ((try simp only [f1S, isa, bkA]); refine Weak.sub (by simp [lk, keptA, AV.keys, f1S, isa, bkA]) ?_; simp only [f1S, isa, bkA, List.cons_append, List.nil_append, List.mem_cons, List.not_mem_nil, or_false, forall_eq_or_imp, forall_eq, kept_dA, and_true]; (try simp [lk, keptO, keptA, AV.keys, f1S, isa, bkA]))
  intro _
  refine GO_AR mixed 1000 ?_
  simp -implicitDefEqProofs [f1S, isa]
  refine GO_ret mixed 1000 ?_
  simp -implicitDefEqProofs []
  refine AR_for (fun i => f2S r a b (by2 (by1 a.its a.its.length) b.its i) i) (fun _ => True) b.its.length ?_ trivial ?_ ?_
  · ((try simp only [f2S, isa, by2, List.take_zero, List.foldl_nil, bkA]); refine Weak.sub (by simp [lk, keptA, AV.keys, f2S, isa, by2, List.take_zero, List.foldl_nil, bkA]) ?_; simp only [f2S, isa, by2, List.take_zero, List.foldl_nil, bkA, List.cons_append, List.nil_append, List.mem_cons, List.not_mem_nil, or_false, forall_eq_or_imp, forall_eq, kept_dA, and_true]; (try simp [lk, keptO, keptA, AV.keys, f2S, isa, by2, List.take_zero, List.foldl_nil, bkA]))
  · intro i hi _
    refine GO_AR mixed 1000 ?_
    have w1 : IntKind.i64.wrap ((i : Int) + 1) = ((i + 1 : Nat) : Int) := wrapI (by omega) (by omega)
    have bs := by2_succ (l := by1 a.its a.its.length) hi
    generalize by2 (by1 a.its a.its.length) b.its i = L at *
    have pm := put_mpP dA b.its[i].1 ⟨b.its[i].1, ((mlk b.its[i].1 L).getD Dm.zero).l, b.its[i].2⟩ L
    rw [← bs, dA, dma] at pm
    have gm := get_mp dA b.its[i].1 L
    cases q : mlk b.its[i].1 L with
    | none =>
      rw [q] at gm pm
      simp only [Option.getD_none, Dm.zero] at pm
      simp -implicitDefEqProofs [f2S, hi, ita, gm, pm, w1]
      ((try simp only [f2S, isa, bkA]); refine Weak.sub (by simp [lk, keptA, AV.keys, f2S, isa, bkA]) ?_; simp only [f2S, isa, bkA, List.cons_append, List.nil_append, List.mem_cons, List.not_mem_nil, or_false, forall_eq_or_imp, forall_eq, kept_dA, and_true]; (try simp [lk, keptO, keptA, AV.keys, f2S, isa, bkA]))
    | some v =>
      rw [q] at gm pm
      simp only [Option.getD_some] at pm
      simp -implicitDefEqProofs [f2S, hi, ita, gm, dA, dma, pm, w1]
      ((try simp only [f2S, isa, bkA]); refine Weak.sub (by simp [lk, keptA, AV.keys, f2S, isa, bkA]) ?_; simp only [f2S, isa, bkA, List.cons_append, List.nil_append, List.mem_cons, List.not_mem_nil, or_false, forall_eq_or_imp, forall_eq, kept_dA, and_true]; (try simp [lk, keptO, keptA, AV.keys, f2S, isa, bkA]))
  intro _
  refine GO_AR mixed 1000 ?_
  have hC := by2_cnt (by1_cnt na _ (Nat.le_refl _)) nb _ (Nat.le_refl b.its.length)
  simp only [List.take_length] at hC
  generalize by2 (by1 a.its a.its.length) b.its b.its.length = M at *
  simp -implicitDefEqProofs [f2S, isa]
  refine GO_ret mixed 1000 ?_
  simp -implicitDefEqProofs [bkA]
  refine AR_for (fun i => f3S (nums r) a b M (dfN (nums r) (fun n => ctL n a.its) (fun n => ctL n b.its) i) i) (fun _ => True) (nums r).length ?_ trivial ?_ ?_
  · have e0 : dfN (nums r) (fun n => ctL n a.its) (fun n => ctL n b.its) 0 = [] := rfl
    simp only [f3S, e0, if_true]
    ((try simp only [isa]); refine Weak.sub (by simp [lk, keptA, AV.keys, isa]) ?_; simp only [isa, List.cons_append, List.nil_append, List.mem_cons, List.not_mem_nil, or_false, forall_eq_or_imp, forall_eq, kept_dA, and_true]; (try simp [lk, keptO, keptA, AV.keys, isa]))
  · intro i hi _
    refine GO_AR mixed 1000 ?_
    have w1 : IntKind.i64.wrap ((i : Int) + 1) = ((i + 1 : Nat) : Int) := wrapI (by omega) (by omega)
    have hs := dfN_succ (f := fun n => ctL n a.its) (g := fun n => ctL n b.its) hi
    have bl := dfN_len (nums r) (fun n => ctL n a.its) (fun n => ctL n b.its) i
    obtain ⟨c1, c2, c3⟩ := cnt_ch hC (nums r)[i]
    have gm := get_mp dA (nums r)[i] M
    generalize dfN (nums r) (fun n => ctL n a.its) (fun n => ctL n b.its) i = D at *
    have bb : (D.length + 1) * 24 ≤ 70368744177664 := by omega
    by_cases q : ctL (nums r)[i] a.its = ctL (nums r)[i] b.its
    · rw [if_pos q] at hs
      rw [← c1, ← c2] at q
      cases k : mlk (nums r)[i] M with
      | none =>
        rw [k] at gm
        by_cases z : D = []
        · simp -implicitDefEqProofs [f3S, z, hi, ia, gm, w1]
          simp only [f3S, hs, z, if_true]
          ((try simp only [isa]); refine Weak.sub (by simp [lk, keptA, AV.keys, isa]) ?_; simp only [isa, List.cons_append, List.nil_append, List.mem_cons, List.not_mem_nil, or_false, forall_eq_or_imp, forall_eq, dma_kept, kept_dA, and_true]; (try simp [lk, keptO, keptA, AV.keys, isa]))
        · simp -implicitDefEqProofs [f3S, z, hi, ia, gm, w1]
          simp only [f3S, hs, z, if_false]
          ((try simp only [isa]); refine Weak.sub (by simp [lk, keptA, AV.keys, isa]) ?_; simp only [isa, List.cons_append, List.nil_append, List.mem_cons, List.not_mem_nil, or_false, forall_eq_or_imp, forall_eq, dma_kept, kept_dA, and_true]; (try simp [lk, keptO, keptA, AV.keys, isa]))
      | some v =>
        rw [k] at gm q
        simp only [Option.getD_some] at q
        by_cases z : D = []
        · simp -implicitDefEqProofs [f3S, z, hi, ia, gm, dA, dma, q, w1]
          simp only [f3S, hs, z, if_true]
          ((try simp only [isa]); refine Weak.sub (by simp [lk, keptA, AV.keys, isa]) ?_; simp only [isa, List.cons_append, List.nil_append, List.mem_cons, List.not_mem_nil, or_false, forall_eq_or_imp, forall_eq, dma_kept, kept_dA, and_true]; (try simp [lk, keptO, keptA, AV.keys, isa]))
        · simp -implicitDefEqProofs [f3S, z, hi, ia, gm, dA, dma, q, w1]
          simp only [f3S, hs, z, if_false]
          ((try simp only [isa]); refine Weak.sub (by simp [lk, keptA, AV.keys, isa]) ?_; simp only [isa, List.cons_append, List.nil_append, List.mem_cons, List.not_mem_nil, or_false, forall_eq_or_imp, forall_eq, dma_kept, kept_dA, and_true]; (try simp [lk, keptO, keptA, AV.keys, isa]))
    · rw [if_neg q] at hs
      have k := c3 q
      rw [k] at gm
      by_cases z : D = []
      · simp -implicitDefEqProofs [f3S, z, hi, ia, gm, dA, dma, q, w1]
        simp only [f3S, hs, z, List.nil_append, List.cons_ne_nil, if_false]
        ((try simp only [isa, dma]); refine Weak.sub (by simp [lk, keptA, AV.keys, isa, dma]) ?_; simp only [isa, dma, List.cons_append, List.nil_append, List.mem_cons, List.not_mem_nil, or_false, forall_eq_or_imp, forall_eq, dma_kept, kept_dA, and_true]; (try simp [lk, keptO, keptA, AV.keys, isa, dma]))
      · simp -implicitDefEqProofs [f3S, z, hi, ia, gm, dA, dma, q, w1, bb]
        simp only [f3S, hs, List.append_eq_nil_iff, List.cons_ne_nil, and_false, if_false]
        ((try simp only [isa, dma]); refine Weak.sub (by simp [lk, keptA, AV.keys, isa, dma]) ?_; simp only [isa, dma, List.cons_append, List.nil_append, List.mem_cons, List.not_mem_nil, or_false, forall_eq_or_imp, forall_eq, dma_kept, kept_dA, and_true]; (try simp [lk, keptO, keptA, AV.keys, isa, dma]))
  intro _
  refine GO_AR mixed 1000 ?_
  obtain ⟨C, hC⟩ : ∃ C, C = orNil ((dfN (nums r) (fun n => ctL n a.its) (fun n => ctL n b.its) (nums r).length).map dma) := ⟨_, rfl⟩
  have hCk : C.keys = [] := by rw [hC]; exact orNil_keys _
  have hCs : ∀ ok st n, snapF ok st n C = some C := by rw [hC]; exact orNil_snap _
  have hmx : max (a.dms.length : Int) (b.dms.length : Int) = ((max a.dms.length b.dms.length : Nat) : Int) := by omega
  have key : ∀ st : St, Weak st (f4S C a b 0) → AR Tryd.prog R (endLp (headS (dropS 10 rc_sheet_Differ))) st (RetP Tryd.prog R [KF.bk 6, KF.sq (dropS 11 rc_sheet_Differ)] (Fin rr_sheet_Differ (.tup [C, orNil ((dsN a.dms b.dms (max a.dms.length b.dms.length)).map ia), .int .i64 0]))) := by
    intro st hw
    refine AR_for (f4S C a b) (fun _ => True) (max a.dms.length b.dms.length) hw trivial ?_ ?_
    · intro i hi _
      refine GO_AR mixed 1000 ?_
      have hza := ha.2
      have hzb := hb.2
      unfold Sml at hza hzb
      have w1 : IntKind.i64.wrap ((i : Int) + 1) = ((i + 1 : Nat) : Int) := wrapI (by omega) (by omega)
      have hs := dsN_succ (a := a.dms) (b := b.dms) (i := i)
      have bl := dsN_len a.dms b.dms i
      have bb : ((dsN a.dms b.dms i).length + 1) * 8 ≤ 70368744177664 := by omega
      by_cases ca : i < a.dms.length
      · by_cases cb : i < b.dms.length
        · have cm : ¬ min (a.dms.length : Int) (b.dms.length : Int) ≤ (i : Int) := by omega
          rw [dsB_at ca cb] at hs
          by_cases q : a.dms[i] = b.dms[i]
          · rw [if_neg (by simp [q])] at hs
            by_cases z : dsN a.dms b.dms i = []
            · rw [z] at hs
              simp -implicitDefEqProofs [endLp, headS, dropS, rc_sheet_Differ, f4S, z, isa, dma, ca, cb, cm, q, hi, w1]
              refine ⟨rfl, ?_⟩
              simp only [f4S, hs, z, if_true, if_false]
              ((try simp only [isa, hCk, ia]); refine Weak.sub (by simp [lk, keptA, AV.keys, isa, hCk, ia]) ?_; simp only [isa, hCk, ia, List.cons_append, List.nil_append, List.mem_cons, List.not_mem_nil, or_false, forall_eq_or_imp, forall_eq, ia_kept, and_true]; (try simp [lk, keptO, keptA, AV.keys, isa, hCk, ia]))
            · simp -implicitDefEqProofs [endLp, headS, dropS, rc_sheet_Differ, f4S, z, isa, dma, ca, cb, cm, q, hi, w1]
              refine ⟨rfl, ?_⟩
              simp only [f4S, hs, z, if_true, if_false]
              ((try simp only [isa, hCk, ia]); refine Weak.sub (by simp [lk, keptA, AV.keys, isa, hCk, ia]) ?_; simp only [isa, hCk, ia, List.cons_append, List.nil_append, List.mem_cons, List.not_mem_nil, or_false, forall_eq_or_imp, forall_eq, ia_kept, and_true]; (try simp [lk, keptO, keptA, AV.keys, isa, hCk, ia]))
          · rw [if_pos (by simp [q])] at hs
            by_cases z : dsN a.dms b.dms i = []
            · rw [z] at hs
              simp -implicitDefEqProofs [endLp, headS, dropS, rc_sheet_Differ, f4S, z, isa, dma, ca, cb, cm, hi]
              refine ⟨rfl, ?_⟩
              rw [dm_ne q]
              simp -implicitDefEqProofs [w1]
              simp only [f4S, hs, List.nil_append, List.append_eq_nil_iff, List.cons_ne_nil, and_false, if_false]
              ((try simp only [isa, hCk, ia]); refine Weak.sub (by simp [lk, keptA, AV.keys, isa, hCk, ia]) ?_; simp only [isa, hCk, ia, List.cons_append, List.nil_append, List.mem_cons, List.not_mem_nil, or_false, forall_eq_or_imp, forall_eq, ia_kept, and_true]; (try simp [lk, keptO, keptA, AV.keys, isa, hCk, ia]))
            · simp -implicitDefEqProofs [endLp, headS, dropS, rc_sheet_Differ, f4S, z, isa, dma, ca, cb, cm, hi]
              refine ⟨rfl, ?_⟩
              rw [dm_ne q]
              simp -implicitDefEqProofs [w1, bb]
              simp only [f4S, hs, List.nil_append, List.append_eq_nil_iff, List.cons_ne_nil, and_false, if_false]
              ((try simp only [isa, hCk, ia]); refine Weak.sub (by simp [lk, keptA, AV.keys, isa, hCk, ia]) ?_; simp only [isa, hCk, ia, List.cons_append, List.nil_append, List.mem_cons, List.not_mem_nil, or_false, forall_eq_or_imp, forall_eq, ia_kept, and_true]; (try simp [lk, keptO, keptA, AV.keys, isa, hCk, ia]))
        · have cm : min (a.dms.length : Int) (b.dms.length : Int) ≤ (i : Int) := by omega
          have cb2 : b.dms.length ≤ i := by omega
          rw [if_pos (by simp [dsB, cb2])] at hs
          by_cases z : dsN a.dms b.dms i = []
          · rw [z] at hs
            simp -implicitDefEqProofs [endLp, headS, dropS, rc_sheet_Differ, f4S, z, isa, dma, cm, hi, w1]
            refine ⟨rfl, ?_⟩
            simp only [f4S, hs, List.nil_append, List.append_eq_nil_iff, List.cons_ne_nil, and_false, if_false]
            ((try simp only [isa, hCk, ia]); refine Weak.sub (by simp [lk, keptA, AV.keys, isa, hCk, ia]) ?_; simp only [isa, hCk, ia, List.cons_append, List.nil_append, List.mem_cons, List.not_mem_nil, or_false, forall_eq_or_imp, forall_eq, ia_kept, and_true]; (try simp [lk, keptO, keptA, AV.keys, isa, hCk, ia]))
          · simp -implicitDefEqProofs [endLp, headS, dropS, rc_sheet_Differ, f4S, z, isa, dma, cm, hi, bb, w1]
            refine ⟨rfl, ?_⟩
            simp only [f4S, hs, List.nil_append, List.append_eq_nil_iff, List.cons_ne_nil, and_false, if_false]
            ((try simp only [isa, hCk, ia]); refine Weak.sub (by simp [lk, keptA, AV.keys, isa, hCk, ia]) ?_; simp only [isa, hCk, ia, List.cons_append, List.nil_append, List.mem_cons, List.not_mem_nil, or_false, forall_eq_or_imp, forall_eq, ia_kept, and_true]; (try simp [lk, keptO, keptA, AV.keys, isa, hCk, ia]))
      · have cm : min (a.dms.length : Int) (b.dms.length : Int) ≤ (i : Int) := by omega
        have ca2 : a.dms.length ≤ i := by omega
        rw [if_pos (by simp [dsB, ca2])] at hs
        by_cases z : dsN a.dms b.dms i = []
        · rw [z] at hs
          simp -implicitDefEqProofs [endLp, headS, dropS, rc_sheet_Differ, f4S, z, isa, dma, cm, hi, w1]
          refine ⟨rfl, ?_⟩
          simp only [f4S, hs, List.nil_append, List.append_eq_nil_iff, List.cons_ne_nil, and_false, if_false]
          ((try simp only [isa, hCk, ia]); refine Weak.sub (by simp [lk, keptA, AV.keys, isa, hCk, ia]) ?_; simp only [isa, hCk, ia, List.cons_append, List.nil_append, List.mem_cons, List.not_mem_nil, or_false, forall_eq_or_imp, forall_eq, ia_kept, and_true]; (try simp [lk, keptO, keptA, AV.keys, isa, hCk, ia]))
        · simp -implicitDefEqProofs [endLp, headS, dropS, rc_sheet_Differ, f4S, z, isa, dma, cm, hi, bb, w1]
          refine ⟨rfl, ?_⟩
          simp only [f4S, hs, List.nil_append, List.append_eq_nil_iff, List.cons_ne_nil, and_false, if_false]
          ((try simp only [isa, hCk, ia]); refine Weak.sub (by simp [lk, keptA, AV.keys, isa, hCk, ia]) ?_; simp only [isa, hCk, ia, List.cons_append, List.nil_append, List.mem_cons, List.not_mem_nil, or_false, forall_eq_or_imp, forall_eq, ia_kept, and_true]; (try simp [lk, keptO, keptA, AV.keys, isa, hCk, ia]))
    · intro _
      refine GO_AR mixed 1000 ?_
      have hM : ∀ i, f4S C a b i = if dsN a.dms b.dms i = [] then ⟨[(122, .int .i64 i), (121, .int .i64 (max a.dms.length b.dms.length : Nat)), (8, C), (9, .nils), (12, .ptr 12 0), (14, .ptr 14 0)], [(12, .box (isa a)), (14, .box (isa b))]⟩
        else ⟨[(122, .int .i64 i), (121, .int .i64 (max a.dms.length b.dms.length : Nat)), (8, C), (9, .osl 150 (dsN a.dms b.dms i).length), (12, .ptr 12 0), (14, .ptr 14 0)], [(12, .box (isa a)), (14, .box (isa b)), (150, .row 1 ((dsN a.dms b.dms i).map ia))]⟩ := fun _ => rfl
      generalize max a.dms.length b.dms.length = M at *
      by_cases z : dsN a.dms b.dms M = []
      · simp -implicitDefEqProofs [endLp, headS, dropS, rc_sheet_Differ, hM, z, isa]
        refine GO_ret mixed 1000 ?_
        simp -implicitDefEqProofs [dropS, rc_sheet_Differ, rr_sheet_Differ, orNil, hCs]
      · have pu := ia_all (dsN a.dms b.dms M)
        simp -implicitDefEqProofs [endLp, headS, dropS, rc_sheet_Differ, hM, z, isa]
        refine GO_ret mixed 1000 ?_
        simp -implicitDefEqProofs [dropS, rc_sheet_Differ, rr_sheet_Differ, orNil, hCs, z, pu]
  rw [← hC]
  by_cases z : dfN (nums r) (fun n => ctL n a.its) (fun n => ctL n b.its) (nums r).length = []
  · rw [z] at hC
    simp -implicitDefEqProofs [f3S, z, isa]
    refine GO_ret mixed 1000 ?_
    simp -implicitDefEqProofs [hmx]
    refine key _ ?_
    simp only [f4S, hC, orNil, if_true, List.map_nil, dsN, List.range_zero, List.filter_nil]
    (first | exact Weak.tm (by simp [lk, isa]) | exact Weak.sub (by simp [lk, keptA, AV.keys, isa]) (by simp [lk, keptO, keptA, AV.keys, isa]))
  · have pu := dma_all (dfN (nums r) (fun n => ctL n a.its) (fun n => ctL n b.its) (nums r).length)
    simp -implicitDefEqProofs [f3S, z, isa]
    refine GO_ret mixed 1000 ?_
    simp -implicitDefEqProofs [hmx]
    refine key _ (Weak.trans (b := ⟨[(122, .int .i64 0), (121, .int .i64 (max a.dms.length b.dms.length : Nat)), (8, .osl 113 (dfN (nums r) (fun n => ctL n a.its) (fun n => ctL n b.its) (nums r).length).length), (9, .nils), (12, .ptr 12 0), (14, .ptr 14 0)], [(12, .box (isa a)), (14, .box (isa b)), (113, .row 3 ((dfN (nums r) (fun n => ctL n a.its) (fun n => ctL n b.its) (nums r).length).map dma))]⟩) (by ((try simp only [isa]); refine Weak.sub (by simp [lk, keptA, AV.keys, isa]) ?_; simp only [isa, List.cons_append, List.nil_append, List.mem_cons, List.not_mem_nil, or_false, forall_eq_or_imp, forall_eq, dma_kept, and_true]; (try simp [lk, keptO, keptA, AV.keys, isa]))) (Weak.trans (Weak.frz (fun k => k == 113) _) ?_))
    rw [hC]
    generalize dfN (nums r) (fun n => ctL n a.its) (fun n => ctL n b.its) (nums r).length = L at *
    simp only [f4S, orNil, List.map_eq_nil_iff, z, if_false, if_true, List.map_nil, dsN, List.range_zero, List.filter_nil]
    ((try simp only [frzSt, frzA, frzO, frz, snapF, snapL, St.get, pu, isa]); refine Weak.sub (by simp [lk, keptA, AV.keys, frzSt, frzA, frzO, frz, snapF, snapL, St.get, pu, isa]) ?_; simp only [frzSt, frzA, frzO, frz, snapF, snapL, St.get, pu, isa, List.cons_append, List.nil_append, List.mem_cons, List.not_mem_nil, or_false, forall_eq_or_imp, forall_eq, and_true, and_true]; (try simp [lk, keptO, keptA, AV.keys, frzSt, frzA, frzO, frz, snapF, snapL, St.get, pu, isa]))
end
end Go.Proofs.YtdpmioiamcgfkaaDoor
