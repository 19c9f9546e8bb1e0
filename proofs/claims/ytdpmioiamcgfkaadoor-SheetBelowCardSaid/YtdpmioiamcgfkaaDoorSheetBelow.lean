/-
  SheetBelow: the row and the card.
-/
import Derived.Test.YtdpmioiamcgfkaaDoorJJdToJd
import Derived.Test.YtdpmioiamcgfkaaDoorJFfToIg
import Derived.Test.YtdpmioiamcgfkaaDoorTie
import Derived.Test.YtdpmioiamcgfkaaDoorCards
set_option linter.unusedSimpArgs false
set_option linter.unusedVariables false
namespace Go.Proofs.YtdpmioiamcgfkaaDoor
open Go.ChangeShapes Go.WideShapes Go.ChangeAt Go.WideMaps Go.WideElems Go.RowKit Go.Deep

set_option maxRecDepth 100000 in
theorem sheetBelow_lifted (os : Os) (started : os.Started) (H : Type) (enc : TypeId × Value → H) :
    ReturnsInHanded {} Tryd.checked os 13 .any (fun w args => (Rows.sheetBelowSpec.pre enc Tryd.prog Tryd.f13 [] false w args ∧ laidMetH Tryd.prog laid2 w) ∧ sizedMet enc Tryd.prog Tryd.f13 (OpenSpec.ofChange Rows.sheetBelowSpec) false w args)
      (Rows.sheetBelowSpec.post enc Tryd.prog Tryd.f13 false true false false) := by
  refine returnsInHanded_of_change_and (C := Tryd.checked) (X := fun w _ => laidMetH Tryd.prog laid2 w) (fun _ _ _ hh h => h.of_heap hh) own started (by kernel_rfl) Tryd.func13
    (ChangeSpec.witness_shaped (enc := enc) (C := Tryd.checked) (os := os) (X := fun w _ => laidMetH Tryd.prog laid2 w) false (World.doorLaid Tryd.prog 41 os) #[.agg #[.slice none 0 0], .slice none 0 0, .int .u8 0] 8 rfl (World.shaped_of_RefB (by kernel_rfl) (by kernel_rfl)) (by kernel_rfl) (by kernel_rfl) (by kernel_rfl) (door_met os _)) ?_
  intro W base args ds gs before hval0 hW _ _ hL _
  have hval : ∀ (j : Nat) t v, Tryd.f13.params[j]? = some t → args[j]? = some v → Value.okWide Tryd.prog W .any base t v := hval0
  have hW' := hW
  obtain ⟨p, q, hA0, hV, rfl, hfz, hnd⟩ := hW
  have hA : DataW.TrodAll enc Tryd.prog W 0 (fun _ => true) true Tryd.f13.params.toList args.toList ds p := hA0
  rw [Tryd.params13] at hA hval
  obtain ⟨args⟩ := args
  obtain ⟨v0, aa, d0, ds0, p0, q0, rfl, rfl, rfl, h0, hA⟩ := trodAll_cons hA
  obtain ⟨v1, aa, d1, ds1, p1, q1, rfl, rfl, rfl, h1, hA⟩ := trodAll_cons hA
  obtain ⟨v2, aa, d2, ds2, p2, q2, rfl, rfl, rfl, h2, hA⟩ := trodAll_cons hA
  obtain ⟨rfl, rfl, rfl⟩ := trodAll_nil hA
  obtain ⟨rfl, rfl⟩ := trodVars_none hV
  obtain ⟨xs, t0, g0⟩ := open_row Tryd.underlying24 (ks := [.sl isK2]) (by kernel_rfl) (hval 0 24 v0 rfl rfl) h0
  obtain ⟨r, e0, hk0⟩ := reg_inv t0
  rw [e0] at g0
  obtain ⟨x1, t1, g1⟩ := open_cell (t := 90) (k := .sl [.int .u32]) (by kernel_rfl) (by kernel_rfl) (hval 1 90 v1 rfl rfl) h1
  obtain ⟨rows, rfl, -, hr⟩ := t1.sl_inv
  obtain ⟨b, rfl, hu1⟩ := rows_mapP (f := ua) fun r h => u32_inv (hr r h)
  obtain ⟨x2, t2, g2⟩ := open_cell (t := 5) (k := .int .u8) (by kernel_rfl) (by kernel_rfl) (hval 2 5 v2 rfl rfl) h2
  obtain ⟨w, rfl, hb2⟩ := t2.int_inv
  refine (law_calls (below_pc gc_of r b w hk0 hu1 (bounds_u8 hb2)) (gr_of (of_laid hL)) rfl (fun i x u hx hu => by
    match i, hx, hu with
    | 0, hx, hu => cases hx; cases hu; exact g0
    | 1, hx, hu => cases hx; cases hu; exact g1
    | 2, hx, hu => cases hx; cases hu; exact g2)).mono fun e W' ⟨he, hE⟩ => ?_
  subst he
  exact ⟨_, rfl, law_post laidOut (by kernel_rfl) Tryd.underlying4 rfl rfl (by
    intro t ht
    have hall : (Tryd.f13.params.toList.all fun t => Tryd.checked.prog.readableRec t && decide (t < Tryd.checked.prog.types.size)) = true := by kernel_rfl
    have h3 := List.all_eq_true.1 hall t ht
    rw [Bool.and_eq_true] at h3
    exact ⟨h3.1, of_decide_eq_true h3.2⟩) hW' hE⟩

theorem sheetBelow_holds : Rows.SheetBelowSaid :=
  OpenClaim.holds_of_wide 13 Tryd.f13 rfl rfl rfl rfl rfl rfl rfl ⟨rfl, rfl, rfl, rfl, rfl⟩ rfl rfl rfl rfl rfl (by kernel_rfl) Tryd.func13 (by kernel_rfl)
    (of_decide_eq_true (by kernel_rfl)) (by unfold Func.isWrapper; first | (rw [if_pos (by decide +kernel)]; kernel_rfl) | (rw [if_neg (by decide +kernel)]; exact ⟨rfl, rfl⟩))
    (fun os started H enc _ => sheetBelow_lifted os started H enc)

theorem sheetBelow_card : Rows.SheetBelowCardSaid :=
  Claim7.holds_tied_plain_at .later [] [.funcs] true (true, "68b0b52e5f4d7bb0deeed450532ad97e6ccb5e88dc4ddccbada435b9973a0d18") false
    sheetBelow_holds (fun _ h => by cases h) (by kernel_rfl) (fun _ h => by cases h) sheetBelow_row_tie rfl ⟨rfl, rfl⟩ (by kernel_rfl) rfl
    (fun f fn hf hfn => by
      obtain rfl : f = 13 := Option.some.inj ((show Tryd.prog.funcNamed "blueline/bluelinelaw02.SheetBelow" = some 13 by kernel_rfl).symm.trans hf) |>.symm
      obtain rfl : fn = Tryd.f13 := (Option.some.inj (Tryd.func13.symm.trans hfn)).symm
      exact ⟨by kernel_rfl, fun j t ht => by
        have hall : (Tryd.f13.params.toList.all fun u => !Tryd.prog.wantsStandIn u) = true := by kernel_rfl
        have hm : t ∈ Tryd.f13.params.toList := by simpa using Array.mem_of_getElem? ht
        exact (show Tryd.prog.wantsStandIn t = false by simpa using List.all_eq_true.1 hall t hm)⟩)
    (by kernel_rfl)

end Go.Proofs.YtdpmioiamcgfkaaDoor

