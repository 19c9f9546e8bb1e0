/-
  Books: whether there is a drawing; issues; the last letter; an issue, by the abstract machine.
-/
import Derived.Test.YtdpmioiamcgfkaaDoorEd
namespace Go.Proofs.YtdpmioiamcgfkaaDoor
open Go.RowKit

/-- A book, as a tree. -/
def bkA (r : List Iss) (ds : List Int) : AV := .vptr [.vsl (r.map isa), .vsl (ds.map ia)] 0
theorem bkA_pure (r : List Iss) (ds : List Int) : (bkA r ds).pure = true := by simp [bkA, AV.pure]
attribute [simp] bkA_pure

section
variable {G : Nat → Option (List AV)}

theorem has_pc (r : List Iss) (ds : List Int) (n : Int) (hs : ds.Pairwise (· ≤ ·)) (hl : Sml ds) : PC Tryd.prog G 104 [bkA r ds, .int .i64 n] (.bool (decide (n ∈ ds))) := by
  (refine pc_sheet_book_has (Nat.le_of_ble_eq_true rfl) fun R hG hrd => GO_AR mixed 1000 ?_; subst hG)
  simp -implicitDefEqProofs [rc_sheet_book_has, rr_sheet_book_has, bkA]
  (first | refine CallK.of (bsearch_pc ds n hs hl) (by simp) ?_ | refine CallD.of (bsearch_pc ds n hs hl) (by simp) ?_)
  simp -implicitDefEqProofs []

theorem openC_pc (r : List Iss) (ds : List Int) (y : Int × Int) (hs : ds.Pairwise (· ≤ ·)) (hl : Sml ds) : PC Tryd.prog G 103 [.agg [.int .i64 y.1, .int .i64 y.2], .vptr [bkA r ds] 0] (.bool (!decide (y.1 ∈ ds))) := by
  (refine pc_sheet_open_1 (Nat.le_of_ble_eq_true rfl) fun R hG hrd => GO_AR mixed 1000 ?_; subst hG)
  simp -implicitDefEqProofs [rc_sheet_open_1, rr_sheet_open_1]
  (first | refine CallK.of (has_pc r ds y.1 hs hl) (by simp) ?_ | refine CallD.of (has_pc r ds y.1 hs hl) (by simp) ?_)
  simp -implicitDefEqProofs []

theorem issues_pc (r : List Iss) (ds : List Int) (n : Int) : PC Tryd.prog G 105 [bkA r ds, .int .i64 n] (.func (.func 122) [] [.vptr [bkA r ds] 0, .vptr [.int .i64 n] 0]) := by
  (refine pc_sheet_book_issues (Nat.le_of_ble_eq_true rfl) fun R hG hrd => GO_AR mixed 1000 ?_; subst hG)
  simp -implicitDefEqProofs [rc_sheet_book_issues, rr_sheet_book_issues, bkA]

/-- How many issues a drawing has. -/
def cntV (r : List Iss) (n : Int) : Int := ((r.filter (fun x => decide (x.d = n))).length : Nat)

theorem last_pc (r : List Iss) (ds : List Int) (n : Int) (hs : (r.map (·.d)).Pairwise (· ≤ ·)) (hl : Sml r) : PC Tryd.prog G 69 [bkA r ds, .int .i64 n] (.int .i64 (cntV r n)) := by
  (refine pc_sheet_book_last (Nat.le_of_ble_eq_true rfl) fun R hG hrd => GO_AR mixed 1000 ?_; subst hG)
  simp -implicitDefEqProofs [rc_sheet_book_last, rr_sheet_book_last]
  (first | refine CallK.of (issues_pc r ds n) (by simp) ?_ | refine CallD.of (issues_pc r ds n) (by simp) ?_)
  simp -implicitDefEqProofs []
  have hel : (elsOf r n).length = (r.filter (fun x => decide (x.d = n))).length := by simp [elsOf]
  have hle : (r.filter (fun x => decide (x.d = n))).length ≤ 16777216 := Nat.le_trans (List.length_filter_le _ _) hl
  refine AR_rngf hrd (issuesIt r n (.vsl (ds.map ia)) hs hl) (by simp [evA, St.tmp, lk, bkA]) (by simp [AV.pure]) (fun k => if k = 1000 then 5 else k) [(5, .ptr 1000 0)] (fun k => [(1000, .box [.int .i64 k])]) [1000] (fun _ => True) trivial (fun _ => rfl) (by simp) (by simp) (by simp [setsB, St.set, putO, AObj.ren, AV.ren]) (by simp [keptO, keptA, AV.keys]) (by simp [lk, AV.ren, AV.keys]) ?_ ?_
  · intro k x hx _ R' hG hN
    refine GO_AR mixed 1000 ?_
    simp -implicitDefEqProofs []
    intro R'' hG'' hN''
    refine GO_AR mixed 1000 ?_
    have hk : k < (elsOf r n).length := (List.getElem?_eq_some_iff.1 hx).1
    have w1 : IntKind.i64.wrap ((k : Int) + 1) = ((k + 1 : Nat) : Int) := wrapI (by omega) (by omega)
    simp -implicitDefEqProofs [w1, RndB, frzSt, newK, frzO, frzA, frz, AV.keys]
  · intro _
    simp -implicitDefEqProofs [setsB, AObj.ren, AV.ren]
    refine GO_ret mixed 1000 ?_
    simp -implicitDefEqProofs [hel, cntV]

theorem find_pcS (r : List Iss) (ds : List Int) (d l : Int) (hs : (r.map (·.d)).Pairwise (· ≤ ·)) (hl : Sml r) (hu : ∀ y ∈ r, findN y.d y.l r = some y) : PC Tryd.prog G 72 [bkA r ds, .agg [.int .i64 d, .int .i64 l]] (fndA (findN d l r)) := by
  (refine pc_sheet_book_find (Nat.le_of_ble_eq_true rfl) fun R hG hrd => GO_AR mixed 1000 ?_; subst hG)
  simp -implicitDefEqProofs [rc_sheet_book_find, rr_sheet_book_find]
  (first | refine CallK.of (issues_pc r ds d) (by simp) ?_ | refine CallD.of (issues_pc r ds d) (by simp) ?_)
  simp -implicitDefEqProofs []
  refine AR_rngf hrd (issuesIt r d (.vsl (ds.map ia)) hs hl) (by simp [evA, St.tmp, lk, bkA]) (by simp [AV.pure]) (fun k => k - 1000) [(3, .ptr 1003 0), (4, .ptr 1004 0), (5, .ptr 1005 0)] (fun _ => [(1003, .box [.int .i64 d, .int .i64 l]), (1004, .box [.int .i64 0, .int .i64 0, .int .u8 0, .nils, .nils]), (1005, .box [.bool false])])
    [1003, 1004, 1005] (fun k => ∀ j, j < k → ∀ y, (r.filter (fun x => decide (x.d = d)))[j]? = some y → y.l ≠ l) (by simp) (fun _ => rfl) (by simp) (by simp) (by simp [setsB, St.set, putO, AObj.ren, AV.ren]) (by simp [keptO, keptA, AV.keys]) (by simp [lk, AV.ren, AV.keys]) ?_ ?_
  · intro k x hx hI R' hG hN
    obtain ⟨y, hy, rfl⟩ : ∃ y, (r.filter (fun x => decide (x.d = d)))[k]? = some y ∧ x = .agg (isa y) := by
      simp only [elsOf, List.getElem?_map, Option.map_eq_some_iff] at hx
      obtain ⟨y, h1, h2⟩ := hx
      exact ⟨y, h1, h2.symm⟩
    have hym := List.mem_filter.1 (List.mem_of_getElem? hy)
    have hyd : y.d = d := of_decide_eq_true hym.2
    refine GO_AR mixed 1000 ?_
    simp -implicitDefEqProofs [isa]
    intro R'' hG'' hN''
    refine GO_AR mixed 1000 ?_
    simp -implicitDefEqProofs []
    (first | refine CallK.of (name_pc y) (by simp) ?_ | refine CallD.of (name_pc y) (by simp) ?_)
    simp -implicitDefEqProofs []
    refine ⟨rfl, ?_⟩
    by_cases e : y.l = l
    · simp -implicitDefEqProofs [hyd, e, RndB, frzSt, newK, frzO, frzA, frz, AV.keys, setsB, AObj.ren, AV.ren]
      refine GO_ret mixed 1000 ?_
      have hf : findN d l r = some y := by
        have := hu y hym.1
        rw [hyd, e] at this; exact this
      simp -implicitDefEqProofs [hf, fndA, isa, hyd, e]
    · simp -implicitDefEqProofs [hyd, e, RndB, frzSt, newK, frzO, frzA, frz, AV.keys]
      intro j hj z hz
      by_cases e2 : j = k
      · subst e2; rw [hy] at hz; cases hz; exact e
      · exact hI j (by omega) z hz
  · intro hI
    have hn : findN d l r = none := by
      cases hf : findN d l r with
      | none => rfl
      | some y =>
        obtain ⟨h1, h2, h3⟩ := findN_mem hf
        obtain ⟨j, hj, he⟩ := List.getElem_of_mem (show y ∈ r.filter (fun x => decide (x.d = d)) from List.mem_filter.2 ⟨h1, decide_eq_true h2⟩)
        exact absurd h3 (hI j (by simp [elsOf]; exact hj) y (by rw [List.getElem?_eq_getElem hj, he]))
    simp -implicitDefEqProofs [setsB, AObj.ren, AV.ren]
    refine GO_ret mixed 1000 ?_
    simp -implicitDefEqProofs [hn, fndA, noIs]
end
end Go.Proofs.YtdpmioiamcgfkaaDoor
