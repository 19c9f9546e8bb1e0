/-
  How the program takes the depths: the walk.
-/
import Derived.Test.YtdpmioiamcgfkaaDoorEf
namespace Go.Proofs.YtdpmioiamcgfkaaDoor
open Go.RowKit

section
variable {G : Nat → Option (List AV)}

set_option maxRecDepth 8000 in
theorem depths_pc (r : List Iss) (hw : Wf r) (hO : Ord r) (hn : (nums r).length ≤ 20) : PC Tryd.prog G 75 [bkA r (nums r)] (.tup [.vmap (dpA (dRun r (nums r).length).1), .bool (decide (0 < (dRun r (nums r).length).2.length))]) := by
  (refine pc_sheet_book_depths (Nat.le_of_ble_eq_true rfl) fun R hG hrd => GO_AR mixed 1000 ?_; subst hG)
  have hs : (r.map (·.d)).Pairwise (· ≤ ·) := by
    rw [List.pairwise_map, List.pairwise_iff_getElem]
    intro i j hi hj hij
    have := hO.mono (Nat.le_of_lt hij) hj
    rwa [at_eq hi, at_eq hj] at this
  have hl := hw.1.1
  have hnd := nums_nodup hO
  simp -implicitDefEqProofs [rc_sheet_book_depths, rr_sheet_book_depths, bkA]
  refine AR_for (fun i => ⟨[(22, .int .i64 i), (21, .int .i64 (nums r).length), (20, .vsl ((nums r).map ia)), (5, .ptr 5 0), (4, .ptr 4 0), (0, bkA r (nums r))], [(15, .mp []), (4, .box [.mp 15]), (16, .mp (lfA ((nums r).take i))), (5, .box [.mp 16])]⟩) (fun _ => True) (nums r).length (by (first | exact Weak.tm (by simp [lk, lfA, bkA]) | exact Weak.sub (by simp [lk, keptA, AV.keys, lfA, bkA]) (by simp [lk, keptO, keptA, AV.keys, lfA, bkA]))) trivial ?_ ?_
  · intro i hi _
    refine GO_AR mixed 1000 ?_
    have w1 : IntKind.i64.wrap ((i : Int) + 1) = ((i + 1 : Nat) : Int) := wrapI (by omega) (by omega)
    have hni : (nums r)[i] ∉ (nums r).take i := by
      intro hm
      obtain ⟨j, hj, e⟩ := List.getElem_of_mem hm
      simp only [List.length_take] at hj
      simp only [List.getElem_take] at e
      have := (List.getElem_inj hnd).1 e
      omega
    have hp := put_lf hni
    rw [← List.take_succ_eq_append_getElem hi] at hp
    simp -implicitDefEqProofs [hi, w1, ia, hp]
    exact (by (first | exact Weak.tm (by simp [lk, bkA]) | exact Weak.sub (by simp [lk, keptA, AV.keys, bkA]) (by simp [lk, keptO, keptA, AV.keys, bkA])))
  · intro _
    refine GO_AR mixed 1000 ?_
    simp -implicitDefEqProofs []
    refine GO_ret mixed 1000 ?_
    simp -implicitDefEqProofs [bkA]
    refine AR_for (fun k => ⟨[(34, .int .i64 k), (33, .int .i64 (nums r).length), (5, .ptr 5 0), (4, .ptr 4 0), (0, bkA r (nums r))], [(15, .mp (dpA (dRun r k).1)), (4, .box [.mp 15]), (16, .mp (lfA (dRun r k).2)), (5, .box [.mp 16])]⟩) (fun _ => True) (nums r).length (by (first | exact Weak.tm (by simp [lk, dRun, dpA, bkA]) | exact Weak.sub (by simp [lk, keptA, AV.keys, dRun, dpA, bkA]) (by simp [lk, keptO, keptA, AV.keys, dRun, dpA, bkA]))) trivial ?_ ?_
    · intro k hk _
      refine GO_AR mixed 1000 ?_
      have w1 : IntKind.i64.wrap ((k : Int) + 1) = ((k + 1 : Nat) : Int) := wrapI (by omega) (by omega)
      simp -implicitDefEqProofs [hk, bkA]
      refine AR_for (fun i => ⟨[(41, .int .i64 i), (40, .int .i64 (nums r).length), (39, .vsl ((nums r).map ia)), (34, .int .i64 k), (33, .int .i64 (nums r).length), (5, .ptr 5 0), (4, .ptr 4 0), (0, bkA r (nums r))],
        [(15, .mp (dpA (((nums r).take i).foldl (dStep r) (dRun r k)).1)), (4, .box [.mp 15]), (16, .mp (lfA (((nums r).take i).foldl (dStep r) (dRun r k)).2)), (5, .box [.mp 16])]⟩) (fun _ => True) (nums r).length (by (first | exact Weak.tm (by simp [lk, bkA]) | exact Weak.sub (by simp [lk, keptA, AV.keys, bkA]) (by simp [lk, keptO, keptA, AV.keys, bkA]))) trivial ?_ ?_
      · intro i hi _
        refine GO_AR mixed 1000 ?_
        have w2 : IntKind.i64.wrap ((i : Int) + 1) = ((i + 1 : Nat) : Int) := wrapI (by omega) (by omega)
        obtain ⟨s, hsd⟩ : ∃ s, s = ((nums r).take i).foldl (dStep r) (dRun r k) := ⟨_, rfl⟩
        have hI : DInv r s := by rw [hsd]; exact (DInv.run r k).fold _
        have hst := fold_take (dStep r) (dRun r k) (nums r) i hi
        rw [← hsd] at hst ⊢
        obtain ⟨n, hne⟩ : ∃ n, n = (nums r)[i] := ⟨_, rfl⟩
        rw [← hne] at hst
        have hgl := get_lf n s.2
        cases hm : decide (n ∈ s.2)
        · have hm' : ¬ n ∈ s.2 := of_decide_eq_false hm
          rw [if_neg hm'] at hgl
          simp -implicitDefEqProofs [hi, ia, ← hne, hgl]
          refine ⟨rfl, ?_⟩
          (first | refine CallK.of (issues_pc r (nums r) n) (by simp) ?_ | refine CallD.of (issues_pc r (nums r) n) (by simp) ?_)
          simp -implicitDefEqProofs []
          refine AR_rngf hrd (issuesIt r n (.vsl ((nums r).map ia)) hs hl) (by simp [evA, St.tmp, lk, bkA]) (by simp [AV.pure]) (fun k => k - 1000) [(4, .ptr 1004 0), (5, .ptr 1005 0), (10, .ptr 1010 0), (11, .ptr 1011 0)]
            (fun q => [(1015, .mp (dpA s.1)), (1004, .box [.mp 1015]), (1016, .mp (lfA s.2)), (1005, .box [.mp 1016]), (1010, .box [.int .i64 (msN s.1 0 ((issOf r n).take q))]), (1011, .box [.bool (rdN s.2 false ((issOf r n).take q))])])
            [1015, 1004, 1016, 1005, 1010, 1011] (fun _ => True) trivial (fun _ => rfl) (by simp) (by simp) (by simp [setsB, St.set, putO, AObj.ren, AV.ren, dpA, lfA, msN, rdN, Function.comp_def]) (by simp [keptO, keptA, AV.keys, dpA, lfA, lk]) (by simp [lk, AV.ren, AV.keys]) ?_ ?_
          · intro q x hx _ R' hG hN
            obtain ⟨y, hq, hy, rfl⟩ : ∃ y, ∃ hq : q < (issOf r n).length, (issOf r n)[q] = y ∧ x = .agg (isa y) := by
              simp only [elsOf, List.getElem?_map, Option.map_eq_some_iff] at hx
              obtain ⟨y, h1, h2⟩ := hx
              obtain ⟨h3, h4⟩ := List.getElem?_eq_some_iff.1 h1
              exact ⟨y, h3, h4, h2.symm⟩
            have hyr : y ∈ r := by rw [← hy]; exact (List.mem_filter.1 (List.getElem_mem hq)).1
            have hyl := (hw.1.2 y hyr).1
            unfold Sml at hyl
            have tm := msN_take s.1 0 (issOf r n) q hq
            have tr := rdN_take s.2 false (issOf r n) q hq
            rw [hy] at tm tr
            generalize msN s.1 0 ((issOf r n).take q) = m0 at tm ⊢
            generalize rdN s.2 false ((issOf r n).take q) = b0 at tr ⊢
            refine GO_AR mixed 1000 ?_
            simp -implicitDefEqProofs [isa]
            intro R'' hG'' hN''
            refine GO_AR mixed 1000 ?_
            simp -implicitDefEqProofs []
            refine AR_for (fun m => ⟨[(55, .int .i64 m), (54, .int .i64 y.its.length), (53, .vsl (y.its.map ita)), (12, .ptr 12 0), (4, .ptr 1004 0), (5, .ptr 1005 0), (10, .ptr 1010 0), (11, .ptr 1011 0)],
              [(1015, .mp (dpA s.1)), (1004, .box [.mp 1015]), (1016, .mp (lfA s.2)), (1005, .box [.mp 1016]), (1010, .box [.int .i64 (msIt s.1 m0 (y.its.take m))]), (1011, .box [.bool (rdIt s.2 b0 (y.its.take m))]), (12, .box (isa y))]⟩) (fun _ => True) y.its.length (by (first | exact Weak.tm (by simp [lk, isa, dpA, lfA, msIt, rdIt]) | exact Weak.sub (by simp [lk, keptA, AV.keys, isa, dpA, lfA, msIt, rdIt]) (by simp [lk, keptO, keptA, AV.keys, isa, dpA, lfA, msIt, rdIt]))) trivial ?_ ?_
            · intro m hm _
              refine GO_AR mixed 1000 ?_
              have w3 : IntKind.i64.wrap ((m : Int) + 1) = ((m + 1 : Nat) : Int) := wrapI (by omega) (by omega)
              have um := msIt_take s.1 m0 y.its m hm
              have ur := rdIt_take s.2 b0 y.its m hm
              generalize msIt s.1 m0 (y.its.take m) = m1 at um ⊢
              generalize rdIt s.2 b0 (y.its.take m) = b1 at ur ⊢
              have gd := get_dp y.its[m].1 s.1
              have gl := get_lf y.its[m].1 s.2
              have wkE : ∀ c1 c2 : Prop, c1 → c2 → c1 ∧ c2 := fun _ _ a b => ⟨a, b⟩
              cases b1
              · simp only [Bool.false_and] at ur
                cases hk1 : dpLk y.its[m].1 s.1 with
                | none =>
                  rw [hk1] at gd
                  simp only [dpG, hk1, Option.getD_none] at um
                  simp -implicitDefEqProofs [hm, ita, w3, gd]
                  exact Weak.sub (by simp [lk, keptA, AV.keys]) (by simp [lk, keptO, keptA, AV.keys, dpA, lfA, um, ur, isa])
                | some v =>
                  rw [hk1] at gd
                  simp only [dpG, hk1, Option.getD_some] at um
                  simp -implicitDefEqProofs [hm, ita, w3, gd]
                  exact Weak.sub (by simp [lk, keptA, AV.keys]) (by simp [lk, keptO, keptA, AV.keys, dpA, lfA, um, ur, isa])
              · by_cases hin : y.its[m].1 ∈ s.2
                · rw [if_pos hin] at gl
                  simp only [hin, decide_true, Bool.not_true, Bool.and_false] at ur
                  cases hk1 : dpLk y.its[m].1 s.1 with
                  | none =>
                    rw [hk1] at gd
                    simp only [dpG, hk1, Option.getD_none] at um
                    simp -implicitDefEqProofs [hm, ita, w3, gd, gl]
                    exact Weak.sub (by simp [lk, keptA, AV.keys]) (by simp [lk, keptO, keptA, AV.keys, dpA, lfA, um, ur, isa])
                  | some v =>
                    rw [hk1] at gd
                    simp only [dpG, hk1, Option.getD_some] at um
                    simp -implicitDefEqProofs [hm, ita, w3, gd, gl]
                    exact Weak.sub (by simp [lk, keptA, AV.keys]) (by simp [lk, keptO, keptA, AV.keys, dpA, lfA, um, ur, isa])
                · rw [if_neg hin] at gl
                  simp only [hin, decide_false, Bool.not_false, Bool.and_true] at ur
                  cases hk1 : dpLk y.its[m].1 s.1 with
                  | none =>
                    rw [hk1] at gd
                    simp only [dpG, hk1, Option.getD_none] at um
                    simp -implicitDefEqProofs [hm, ita, w3, gd, gl]
                    exact Weak.sub (by simp [lk, keptA, AV.keys]) (by simp [lk, keptO, keptA, AV.keys, dpA, lfA, um, ur, isa])
                  | some v =>
                    rw [hk1] at gd
                    simp only [dpG, hk1, Option.getD_some] at um
                    simp -implicitDefEqProofs [hm, ita, w3, gd, gl]
                    exact Weak.sub (by simp [lk, keptA, AV.keys]) (by simp [lk, keptO, keptA, AV.keys, dpA, lfA, um, ur, isa])
            · intro _
              refine GO_AR mixed 1000 ?_
              simp -implicitDefEqProofs []
              refine GO_ret mixed 1000 ?_
              simp -implicitDefEqProofs [RndB, frzSt, newK, frzO, frzA, frz, AV.keys, tm, tr, dpA, lfA, Function.comp_def]
              try trivial
          · intro _
            have hel : (elsOf r n).length = (issOf r n).length := by simp [elsOf, issOf]
            have etk : (issOf r n).take (issOf r n).length = issOf r n := List.take_of_length_le (Nat.le_refl _)
            have hbd := msN_bd hI (issOf r n) 0 (Int.le_refl _) (by omega)
            have hlen := hI.len
            have w4 : IntKind.i64.wrap (msN s.1 0 (issOf r n) + 1) = msN s.1 0 (issOf r n) + 1 := wrapI (by omega) (by omega)
            have rdpA : ∀ dp, AObj.ren (fun k => k - 1000) (.mp (dpA dp)) = .mp (dpA dp) := fun dp => by simp [AObj.ren, dpA, AV.ren, Function.comp_def]
            have rlfA : ∀ lf, AObj.ren (fun k => k - 1000) (.mp (lfA lf)) = .mp (lfA lf) := fun lf => by simp [AObj.ren, lfA, AV.ren, Function.comp_def]
            have rbx : ∀ cs, AObj.ren (fun k => k - 1000) (.box cs) = .box (cs.map (AV.ren fun k => k - 1000)) := fun _ => rfl
            cases hrd2 : rdN s.2 false (issOf r n)
            · have hst2 : dStep r s n = s := by simp [dStep, hm, hrd2]
              rw [hst2] at hst
              simp -implicitDefEqProofs [setsB, rdpA, rlfA, rbx, AV.ren, hel, etk, hrd2]
              refine GO_ret mixed 1000 ?_
              simp -implicitDefEqProofs [w2]
              rw [hst]
              exact Weak.sub (by simp [lk, keptA, AV.keys, bkA]) (by simp [lk, keptO, keptA, AV.keys, dpA, lfA])
            · have hmem : n ∈ s.2 := rdN_mem (by rw [hm]; exact hrd2)
              have hst2 : dStep r s n = (s.1 ++ [(n, msN s.1 0 (issOf r n) + 1)], s.2.erase n) := by simp [dStep, hm, hrd2]
              rw [hst2] at hst
              have hnk : n ∉ s.1.map (·.1) := fun hin => by
                have := (List.nodup_append.1 (hI.perm.nodup_iff.2 hnd)).2.2 n hin n hmem
                exact this rfl
              have pd := put_dp (msN s.1 0 (issOf r n) + 1) hnk
              have dl := del_lf hmem
              simp -implicitDefEqProofs [setsB, rdpA, rlfA, rbx, AV.ren, hel, etk, hrd2]
              refine GO_ret mixed 1000 ?_
              simp -implicitDefEqProofs [w2, w4, pd, dl]
              rw [hst]
              exact Weak.sub (by simp [lk, keptA, AV.keys, bkA]) (by simp [lk, keptO, keptA, AV.keys, dpA, lfA])
        · have hm' : n ∈ s.2 := of_decide_eq_true hm
          rw [if_pos hm'] at hgl
          simp -implicitDefEqProofs [hi, ia, ← hne, hgl]
          refine ⟨rfl, ?_⟩
          (first | refine CallK.of (issues_pc r (nums r) n) (by simp) ?_ | refine CallD.of (issues_pc r (nums r) n) (by simp) ?_)
          simp -implicitDefEqProofs []
          refine AR_rngf hrd (issuesIt r n (.vsl ((nums r).map ia)) hs hl) (by simp [evA, St.tmp, lk, bkA]) (by simp [AV.pure]) (fun k => k - 1000) [(4, .ptr 1004 0), (5, .ptr 1005 0), (10, .ptr 1010 0), (11, .ptr 1011 0)]
            (fun q => [(1015, .mp (dpA s.1)), (1004, .box [.mp 1015]), (1016, .mp (lfA s.2)), (1005, .box [.mp 1016]), (1010, .box [.int .i64 (msN s.1 0 ((issOf r n).take q))]), (1011, .box [.bool (rdN s.2 true ((issOf r n).take q))])])
            [1015, 1004, 1016, 1005, 1010, 1011] (fun _ => True) trivial (fun _ => rfl) (by simp) (by simp) (by simp [setsB, St.set, putO, AObj.ren, AV.ren, dpA, lfA, msN, rdN, Function.comp_def]) (by simp [keptO, keptA, AV.keys, dpA, lfA, lk]) (by simp [lk, AV.ren, AV.keys]) ?_ ?_
          · intro q x hx _ R' hG hN
            obtain ⟨y, hq, hy, rfl⟩ : ∃ y, ∃ hq : q < (issOf r n).length, (issOf r n)[q] = y ∧ x = .agg (isa y) := by
              simp only [elsOf, List.getElem?_map, Option.map_eq_some_iff] at hx
              obtain ⟨y, h1, h2⟩ := hx
              obtain ⟨h3, h4⟩ := List.getElem?_eq_some_iff.1 h1
              exact ⟨y, h3, h4, h2.symm⟩
            have hyr : y ∈ r := by rw [← hy]; exact (List.mem_filter.1 (List.getElem_mem hq)).1
            have hyl := (hw.1.2 y hyr).1
            unfold Sml at hyl
            have tm := msN_take s.1 0 (issOf r n) q hq
            have tr := rdN_take s.2 true (issOf r n) q hq
            rw [hy] at tm tr
            generalize msN s.1 0 ((issOf r n).take q) = m0 at tm ⊢
            generalize rdN s.2 true ((issOf r n).take q) = b0 at tr ⊢
            refine GO_AR mixed 1000 ?_
            simp -implicitDefEqProofs [isa]
            intro R'' hG'' hN''
            refine GO_AR mixed 1000 ?_
            simp -implicitDefEqProofs []
            refine AR_for (fun m => ⟨[(55, .int .i64 m), (54, .int .i64 y.its.length), (53, .vsl (y.its.map ita)), (12, .ptr 12 0), (4, .ptr 1004 0), (5, .ptr 1005 0), (10, .ptr 1010 0), (11, .ptr 1011 0)],
              [(1015, .mp (dpA s.1)), (1004, .box [.mp 1015]), (1016, .mp (lfA s.2)), (1005, .box [.mp 1016]), (1010, .box [.int .i64 (msIt s.1 m0 (y.its.take m))]), (1011, .box [.bool (rdIt s.2 b0 (y.its.take m))]), (12, .box (isa y))]⟩) (fun _ => True) y.its.length (by (first | exact Weak.tm (by simp [lk, isa, dpA, lfA, msIt, rdIt]) | exact Weak.sub (by simp [lk, keptA, AV.keys, isa, dpA, lfA, msIt, rdIt]) (by simp [lk, keptO, keptA, AV.keys, isa, dpA, lfA, msIt, rdIt]))) trivial ?_ ?_
            · intro m hm _
              refine GO_AR mixed 1000 ?_
              have w3 : IntKind.i64.wrap ((m : Int) + 1) = ((m + 1 : Nat) : Int) := wrapI (by omega) (by omega)
              have um := msIt_take s.1 m0 y.its m hm
              have ur := rdIt_take s.2 b0 y.its m hm
              generalize msIt s.1 m0 (y.its.take m) = m1 at um ⊢
              generalize rdIt s.2 b0 (y.its.take m) = b1 at ur ⊢
              have gd := get_dp y.its[m].1 s.1
              have gl := get_lf y.its[m].1 s.2
              have wkE : ∀ c1 c2 : Prop, c1 → c2 → c1 ∧ c2 := fun _ _ a b => ⟨a, b⟩
              cases b1
              · simp only [Bool.false_and] at ur
                cases hk1 : dpLk y.its[m].1 s.1 with
                | none =>
                  rw [hk1] at gd
                  simp only [dpG, hk1, Option.getD_none] at um
                  simp -implicitDefEqProofs [hm, ita, w3, gd]
                  exact Weak.sub (by simp [lk, keptA, AV.keys]) (by simp [lk, keptO, keptA, AV.keys, dpA, lfA, um, ur, isa])
                | some v =>
                  rw [hk1] at gd
                  simp only [dpG, hk1, Option.getD_some] at um
                  simp -implicitDefEqProofs [hm, ita, w3, gd]
                  exact Weak.sub (by simp [lk, keptA, AV.keys]) (by simp [lk, keptO, keptA, AV.keys, dpA, lfA, um, ur, isa])
              · by_cases hin : y.its[m].1 ∈ s.2
                · rw [if_pos hin] at gl
                  simp only [hin, decide_true, Bool.not_true, Bool.and_false] at ur
                  cases hk1 : dpLk y.its[m].1 s.1 with
                  | none =>
                    rw [hk1] at gd
                    simp only [dpG, hk1, Option.getD_none] at um
                    simp -implicitDefEqProofs [hm, ita, w3, gd, gl]
                    exact Weak.sub (by simp [lk, keptA, AV.keys]) (by simp [lk, keptO, keptA, AV.keys, dpA, lfA, um, ur, isa])
                  | some v =>
                    rw [hk1] at gd
                    simp only [dpG, hk1, Option.getD_some] at um
                    simp -implicitDefEqProofs [hm, ita, w3, gd, gl]
                    exact Weak.sub (by simp [lk, keptA, AV.keys]) (by simp [lk, keptO, keptA, AV.keys, dpA, lfA, um, ur, isa])
                · rw [if_neg hin] at gl
                  simp only [hin, decide_false, Bool.not_false, Bool.and_true] at ur
                  cases hk1 : dpLk y.its[m].1 s.1 with
                  | none =>
                    rw [hk1] at gd
                    simp only [dpG, hk1, Option.getD_none] at um
                    simp -implicitDefEqProofs [hm, ita, w3, gd, gl]
                    exact Weak.sub (by simp [lk, keptA, AV.keys]) (by simp [lk, keptO, keptA, AV.keys, dpA, lfA, um, ur, isa])
                  | some v =>
                    rw [hk1] at gd
                    simp only [dpG, hk1, Option.getD_some] at um
                    simp -implicitDefEqProofs [hm, ita, w3, gd, gl]
                    exact Weak.sub (by simp [lk, keptA, AV.keys]) (by simp [lk, keptO, keptA, AV.keys, dpA, lfA, um, ur, isa])
            · intro _
              refine GO_AR mixed 1000 ?_
              simp -implicitDefEqProofs []
              refine GO_ret mixed 1000 ?_
              simp -implicitDefEqProofs [RndB, frzSt, newK, frzO, frzA, frz, AV.keys, tm, tr, dpA, lfA, Function.comp_def]
              try trivial
          · intro _
            have hel : (elsOf r n).length = (issOf r n).length := by simp [elsOf, issOf]
            have etk : (issOf r n).take (issOf r n).length = issOf r n := List.take_of_length_le (Nat.le_refl _)
            have hbd := msN_bd hI (issOf r n) 0 (Int.le_refl _) (by omega)
            have hlen := hI.len
            have w4 : IntKind.i64.wrap (msN s.1 0 (issOf r n) + 1) = msN s.1 0 (issOf r n) + 1 := wrapI (by omega) (by omega)
            have rdpA : ∀ dp, AObj.ren (fun k => k - 1000) (.mp (dpA dp)) = .mp (dpA dp) := fun dp => by simp [AObj.ren, dpA, AV.ren, Function.comp_def]
            have rlfA : ∀ lf, AObj.ren (fun k => k - 1000) (.mp (lfA lf)) = .mp (lfA lf) := fun lf => by simp [AObj.ren, lfA, AV.ren, Function.comp_def]
            have rbx : ∀ cs, AObj.ren (fun k => k - 1000) (.box cs) = .box (cs.map (AV.ren fun k => k - 1000)) := fun _ => rfl
            cases hrd2 : rdN s.2 true (issOf r n)
            · have hst2 : dStep r s n = s := by simp [dStep, hm, hrd2]
              rw [hst2] at hst
              simp -implicitDefEqProofs [setsB, rdpA, rlfA, rbx, AV.ren, hel, etk, hrd2]
              refine GO_ret mixed 1000 ?_
              simp -implicitDefEqProofs [w2]
              rw [hst]
              exact Weak.sub (by simp [lk, keptA, AV.keys, bkA]) (by simp [lk, keptO, keptA, AV.keys, dpA, lfA])
            · have hmem : n ∈ s.2 := rdN_mem (by rw [hm]; exact hrd2)
              have hst2 : dStep r s n = (s.1 ++ [(n, msN s.1 0 (issOf r n) + 1)], s.2.erase n) := by simp [dStep, hm, hrd2]
              rw [hst2] at hst
              have hnk : n ∉ s.1.map (·.1) := fun hin => by
                have := (List.nodup_append.1 (hI.perm.nodup_iff.2 hnd)).2.2 n hin n hmem
                exact this rfl
              have pd := put_dp (msN s.1 0 (issOf r n) + 1) hnk
              have dl := del_lf hmem
              simp -implicitDefEqProofs [setsB, rdpA, rlfA, rbx, AV.ren, hel, etk, hrd2]
              refine GO_ret mixed 1000 ?_
              simp -implicitDefEqProofs [w2, w4, pd, dl]
              rw [hst]
              exact Weak.sub (by simp [lk, keptA, AV.keys, bkA]) (by simp [lk, keptO, keptA, AV.keys, dpA, lfA])
      · intro _
        refine GO_AR mixed 1000 ?_
        have etk : (nums r).take (nums r).length = nums r := List.take_of_length_le (Nat.le_refl _)
        simp -implicitDefEqProofs []
        refine GO_ret mixed 1000 ?_
        have e : (nums r).foldl (dStep r) (dRun r k) = dRun r (k + 1) := rfl
        simp -implicitDefEqProofs [w1, e]
        exact Weak.sub (by simp [lk, keptA, AV.keys, bkA]) (by simp [lk, keptO, keptA, AV.keys, dpA, lfA])
    · intro _
      refine GO_AR mixed 1000 ?_
      simp -implicitDefEqProofs []
      refine GO_ret mixed 1000 ?_
      have hla : (lfA (dRun r (nums r).length).2).length = (dRun r (nums r).length).2.length := by simp [lfA]
      have hpu : (dpA (dRun r (nums r).length).1).all (fun p => p.1.pure && p.2.pure) = true := by simp [dpA, AV.pure]
      simp -implicitDefEqProofs [hla, hpu]
end
end Go.Proofs.YtdpmioiamcgfkaaDoor
