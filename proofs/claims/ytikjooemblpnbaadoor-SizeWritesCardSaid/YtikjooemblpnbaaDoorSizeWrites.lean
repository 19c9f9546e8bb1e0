/-
  SizeWrites: the row and the card.
-/
import Derived.Test.YtikjooemblpnbaaDoorRn
import Derived.Test.YtikjooemblpnbaaDoorGs
import Derived.Test.YtikjooemblpnbaaDoorTie
import Derived.Test.YtikjooemblpnbaaDoorCards
namespace Go.Proofs.YtikjooemblpnbaaDoor
open Go.ChangeShapes Go.WideShapes Go.ChangeAt Go.WideMaps Go.WideElems Go.RowKit Go.Deep

set_option maxRecDepth 100000 in
theorem sizeWrites_lifted (os : Os) (started : os.Started) (H : Type) (enc : TypeId × Value → H) :
    ReturnsInHanded {} Tryd.checked os 5 .any (fun w args => (Rows.sizeWritesSpec.pre enc Tryd.prog Tryd.f5 [] false w args ∧ laidMetH Tryd.prog laid3 w) ∧ sizedMet enc Tryd.prog Tryd.f5 (OpenSpec.ofChange Rows.sizeWritesSpec) false w args)
      (Rows.sizeWritesSpec.post enc Tryd.prog Tryd.f5 false true false false) := by
  refine returns_shaped (C := Tryd.checked) (X := fun w _ => laidMetH Tryd.prog laid3 w) (fun _ _ _ hh h => h.of_heap hh) own started (by kernel_rfl) Tryd.func5
    (ChangeSpec.witness_shaped (enc := enc) (C := Tryd.checked) (os := os) (X := fun w _ => laidMetH Tryd.prog laid3 w) false ((World.doorLaid Tryd.prog 41 os).layVars Tryd.prog [("unicode/utf8.first", Rows.laid_unicode_utf8_first)]) #[.agg #[.int .i64 0, .int .i64 0, .int .i64 0], .int .u8 0, .string ⟨#[]⟩] 8 rfl (World.shaped_of_RefB (by kernel_rfl) (by kernel_rfl)) (by kernel_rfl) (by kernel_rfl) (by kernel_rfl) (door_met3 os _)) ?_
  intro W base args ds gs before hval0 hW hL hsh
  have hval : ∀ (j : Nat) t v, Tryd.f5.params[j]? = some t → args[j]? = some v → Value.okWide Tryd.prog W .any base t v := hval0
  have hW' := hW
  obtain ⟨p, q, hA0, hV, rfl, hfz, hnd⟩ := hW
  have hA : DataW.TrodAll enc Tryd.prog W 0 (fun _ => true) true Tryd.f5.params.toList args.toList ds p := hA0
  rw [Tryd.params5] at hA hval
  obtain ⟨args⟩ := args
  obtain ⟨v0, aa, d0, ds0, p0, q0, rfl, rfl, rfl, h0, hA⟩ := trodAll_cons hA
  obtain ⟨v1, aa, d1, ds1, p1, q1, rfl, rfl, rfl, h1, hA⟩ := trodAll_cons hA
  obtain ⟨v2, aa, d2, ds2, p2, q2, rfl, rfl, rfl, h2, hA⟩ := trodAll_cons hA
  obtain ⟨rfl, rfl, rfl⟩ := trodAll_nil hA
  obtain ⟨rfl, rfl⟩ := trodVars_none hV
  obtain ⟨xs, t0, g0⟩ := open_row Tryd.underlying23 (ks := [.int .i64, .int .i64, .int .i64]) (by kernel_rfl) (hval 0 23 v0 rfl rfl) h0
  obtain ⟨d, rfl⟩ := dm_inv t0
  obtain ⟨x1, t1, g1⟩ := open_cell (t := 5) (k := .int .u8) (by kernel_rfl) (by kernel_rfl) (hval 1 5 v1 rfl rfl) h1
  obtain ⟨k, rfl, hb1⟩ := t1.int_inv
  obtain ⟨lo1, up1⟩ := bounds_u8 hb1
  obtain ⟨x2, t2, g2⟩ := open_cell (t := 9) (k := .str) (by kernel_rfl) (by kernel_rfl) (hval 2 9 v2 rfl rfl) h2
  obtain ⟨s, rfl, sz2⟩ := t2.str_inv
  obtain ⟨m, hm⟩ := maxLen_of hsh
  refine (law_calls (sizeWrites_pc (gs_of m) d k s lo1 up1 sz2) (gr_of (of_laid3 hL) hm) rfl (fun i x u hx hu => by
    match i, hx, hu with
    | 0, hx, hu => cases hx; cases hu; exact g0
    | 1, hx, hu => cases hx; cases hu; exact g1
    | 2, hx, hu => cases hx; cases hu; exact g2)).mono fun e W' ⟨he, hE⟩ => ?_
  subst he
  exact ⟨_, rfl, law_post laidOut (by kernel_rfl) Tryd.underlying4 rfl rfl (by
    intro t ht
    have hall : (Tryd.f5.params.toList.all fun t => Tryd.checked.prog.readableRec t && decide (t < Tryd.checked.prog.types.size)) = true := by kernel_rfl
    have h3 := List.all_eq_true.1 hall t ht
    rw [Bool.and_eq_true] at h3
    exact ⟨h3.1, of_decide_eq_true h3.2⟩) hW' hE⟩

theorem sizeWrites_holds : Rows.SizeWritesSaid :=
  OpenClaim.holds_of_wide 5 Tryd.f5 rfl rfl rfl rfl rfl rfl rfl ⟨rfl, rfl, rfl, rfl, rfl⟩ rfl rfl rfl rfl rfl (by kernel_rfl) Tryd.func5 (by kernel_rfl)
    (of_decide_eq_true (by kernel_rfl)) (by unfold Func.isWrapper; first | (rw [if_pos (by decide +kernel)]; kernel_rfl) | (rw [if_neg (by decide +kernel)]; exact ⟨rfl, rfl⟩))
    (fun os started H enc _ => sizeWrites_lifted os started H enc)

theorem sizeWrites_card : Rows.SizeWritesCardSaid :=
  Claim7.holds_tied_plain_at .later [] [.data, .funcs, .pinned] true (true, "95f6d4a103b13fb4b92192bd0794d829aaa187f585ca4ab9bc6e7cf16a7b3839") true
    sizeWrites_holds (fun _ h => by cases h) (by kernel_rfl) (fun _ h => by cases h) sizeWrites_row_tie rfl ⟨rfl, rfl⟩ (by kernel_rfl) rfl
    (fun f fn hf hfn => by
      obtain rfl : f = 5 := Option.some.inj ((show Tryd.prog.funcNamed "blueline/bluelinelaw01.SizeWrites" = some 5 by kernel_rfl).symm.trans hf) |>.symm
      obtain rfl : fn = Tryd.f5 := (Option.some.inj (Tryd.func5.symm.trans hfn)).symm
      exact ⟨by kernel_rfl, fun j t ht => by
        have hall : (Tryd.f5.params.toList.all fun u => !Tryd.prog.wantsStandIn u) = true := by kernel_rfl
        have hm : t ∈ Tryd.f5.params.toList := by simpa using Array.mem_of_getElem? ht
        exact (show Tryd.prog.wantsStandIn t = false by simpa using List.all_eq_true.1 hall t hm)⟩)
    (by kernel_rfl)

end Go.Proofs.YtikjooemblpnbaaDoor
