/-
  SizeMeets: the row and the card.
-/
import Derived.Test.YtikjooemblpnbaaDoorLg
import Derived.Test.YtikjooemblpnbaaDoorGs
import Derived.Test.YtikjooemblpnbaaDoorTie
import Derived.Test.YtikjooemblpnbaaDoorCards
namespace Go.Proofs.YtikjooemblpnbaaDoor
open Go.ChangeShapes Go.WideShapes Go.ChangeAt Go.WideMaps Go.WideElems Go.RowKit Go.Deep

set_option maxRecDepth 100000 in
theorem sizeMeets_lifted (os : Os) (started : os.Started) (H : Type) (enc : TypeId × Value → H) :
    ReturnsInHanded {} Tryd.checked os 14 .any (fun w args => (Rows.sizeMeetsSpec.pre enc Tryd.prog Tryd.f14 [] false w args ∧ laidMetH Tryd.prog laid3 w) ∧ sizedMet enc Tryd.prog Tryd.f14 (OpenSpec.ofChange Rows.sizeMeetsSpec) false w args)
      (Rows.sizeMeetsSpec.post enc Tryd.prog Tryd.f14 false true false false) := by
  refine returns_shaped (C := Tryd.checked) (X := fun w _ => laidMetH Tryd.prog laid3 w) (fun _ _ _ hh h => h.of_heap hh) own started (by kernel_rfl) Tryd.func14
    (ChangeSpec.witness_shaped (enc := enc) (C := Tryd.checked) (os := os) (X := fun w _ => laidMetH Tryd.prog laid3 w) false ((World.doorLaid Tryd.prog 41 os).layVars Tryd.prog [("unicode/utf8.first", Rows.laid_unicode_utf8_first)]) #[.slice none 0 0, .agg #[.int .i64 0, .int .i64 0, .int .i64 0], .int .i64 0, .int .u8 0] 8 rfl (World.shaped_of_RefB (by kernel_rfl) (by kernel_rfl)) (by kernel_rfl) (by kernel_rfl) (by kernel_rfl) (door_met3 os _)) ?_
  intro W base args ds gs before hval0 hW hL hsh
  have hval : ∀ (j : Nat) t v, Tryd.f14.params[j]? = some t → args[j]? = some v → Value.okWide Tryd.prog W .any base t v := hval0
  have hW' := hW
  obtain ⟨p, q, hA0, hV, rfl, hfz, hnd⟩ := hW
  have hA : DataW.TrodAll enc Tryd.prog W 0 (fun _ => true) true Tryd.f14.params.toList args.toList ds p := hA0
  rw [Tryd.params14] at hA hval
  obtain ⟨args⟩ := args
  obtain ⟨v0, aa, d0, ds0, p0, q0, rfl, rfl, rfl, h0, hA⟩ := trodAll_cons hA
  obtain ⟨v1, aa, d1, ds1, p1, q1, rfl, rfl, rfl, h1, hA⟩ := trodAll_cons hA
  obtain ⟨v2, aa, d2, ds2, p2, q2, rfl, rfl, rfl, h2, hA⟩ := trodAll_cons hA
  obtain ⟨v3, aa, d3, ds3, p3, q3, rfl, rfl, rfl, h3, hA⟩ := trodAll_cons hA
  obtain ⟨rfl, rfl, rfl⟩ := trodAll_nil hA
  obtain ⟨rfl, rfl⟩ := trodVars_none hV
  obtain ⟨x0, t0, g0⟩ := open_cell (t := 39) (k := .sl [.int .i64, .int .i64, .int .i64]) (by kernel_rfl) (by kernel_rfl) (hval 0 39 v0 rfl rfl) h0
  obtain ⟨rows, rfl, -, hr⟩ := t0.sl_inv
  obtain ⟨l, rfl⟩ := rows_map (f := Dm.cs) fun r h => dm_inv (hr r h)
  obtain ⟨xs, t1, g1⟩ := open_row Tryd.underlying23 (ks := [.int .i64, .int .i64, .int .i64]) (by kernel_rfl) (hval 1 23 v1 rfl rfl) h1
  obtain ⟨more, rfl⟩ := dm_inv t1
  obtain ⟨x2, t2, g2⟩ := open_cell (t := 3) (k := .int .i64) (by kernel_rfl) (by kernel_rfl) (hval 2 3 v2 rfl rfl) h2
  obtain ⟨n, rfl, hb2⟩ := t2.int_inv
  obtain ⟨lo2, up2⟩ := bounds_i64 hb2
  obtain ⟨x3, t3, g3⟩ := open_cell (t := 5) (k := .int .u8) (by kernel_rfl) (by kernel_rfl) (hval 3 5 v3 rfl rfl) h3
  obtain ⟨turn, rfl, hb3⟩ := t3.int_inv
  obtain ⟨lo3, up3⟩ := bounds_u8 hb3
  obtain ⟨m, hm⟩ := maxLen_of hsh
  refine (law_calls (sizeMeets_pc (gs_of m) l more n turn lo2 up2 lo3 up3) (gr_of (of_laid3 hL) hm) rfl (fun i x u hx hu => by
    match i, hx, hu with
    | 0, hx, hu => cases hx; cases hu; exact g0
    | 1, hx, hu => cases hx; cases hu; exact g1
    | 2, hx, hu => cases hx; cases hu; exact g2
    | 3, hx, hu => cases hx; cases hu; exact g3)).mono fun e W' ⟨he, hE⟩ => ?_
  subst he
  exact ⟨_, rfl, law_post laidOut (by kernel_rfl) Tryd.underlying4 rfl rfl (by
    intro t ht
    have hall : (Tryd.f14.params.toList.all fun t => Tryd.checked.prog.readableRec t && decide (t < Tryd.checked.prog.types.size)) = true := by kernel_rfl
    have h3 := List.all_eq_true.1 hall t ht
    rw [Bool.and_eq_true] at h3
    exact ⟨h3.1, of_decide_eq_true h3.2⟩) hW' hE⟩

theorem sizeMeets_holds : Rows.SizeMeetsSaid :=
  OpenClaim.holds_of_wide 14 Tryd.f14 rfl rfl rfl rfl rfl rfl rfl ⟨rfl, rfl, rfl, rfl, rfl⟩ rfl rfl rfl rfl rfl (by kernel_rfl) Tryd.func14 (by kernel_rfl)
    (of_decide_eq_true (by kernel_rfl)) (by unfold Func.isWrapper; first | (rw [if_pos (by decide +kernel)]; kernel_rfl) | (rw [if_neg (by decide +kernel)]; exact ⟨rfl, rfl⟩))
    (fun os started H enc _ => sizeMeets_lifted os started H enc)

theorem sizeMeets_card : Rows.SizeMeetsCardSaid :=
  Claim7.holds_tied_plain_at .later [] [.data, .funcs, .pinned] true (true, "95f6d4a103b13fb4b92192bd0794d829aaa187f585ca4ab9bc6e7cf16a7b3839") true
    sizeMeets_holds (fun _ h => by cases h) (by kernel_rfl) (fun _ h => by cases h) sizeMeets_row_tie rfl ⟨rfl, rfl⟩ (by kernel_rfl) rfl
    (fun f fn hf hfn => by
      obtain rfl : f = 14 := Option.some.inj ((show Tryd.prog.funcNamed "blueline/bluelinelaw01.SizeMeets" = some 14 by kernel_rfl).symm.trans hf) |>.symm
      obtain rfl : fn = Tryd.f14 := (Option.some.inj (Tryd.func14.symm.trans hfn)).symm
      exact ⟨by kernel_rfl, fun j t ht => by
        have hall : (Tryd.f14.params.toList.all fun u => !Tryd.prog.wantsStandIn u) = true := by kernel_rfl
        have hm : t ∈ Tryd.f14.params.toList := by simpa using Array.mem_of_getElem? ht
        exact (show Tryd.prog.wantsStandIn t = false by simpa using List.all_eq_true.1 hall t hm)⟩)
    (by kernel_rfl)

end Go.Proofs.YtikjooemblpnbaaDoor
