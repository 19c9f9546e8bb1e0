/-
  SwapExamples: the row and the card.
-/
import Derived.Test.YtjogcghofinemaaGreatDoorJYnToYn
import Derived.Test.YtjogcghofinemaaGreatDoorJWaToYo
import Derived.Test.YtjogcghofinemaaGreatDoorTie
import Derived.Test.YtjogcghofinemaaGreatDoorCards
set_option linter.all false
set_option linter.unusedSimpArgs false
set_option linter.unusedVariables false
set_option linter.unusedSectionVars false
namespace Go.Proofs.YtjogcghofinemaaGreatDoor
open Go.ChangeShapes Go.WideShapes Go.ChangeAt Go.WideMaps Go.WideElems Go.RowKit Go.Deep
set_option maxRecDepth 100000 in
theorem swapExamples_lifted (os:Os) (started:os.Started) (H:Type) (enc:TypeId×Value->H) :
  ReturnsInHanded {} Tryz.checked os 12 .any (λw args=>(Rows.swapExamplesSpec.pre enc Tryz.prog Tryz.f12 [] false w args/\laidMetH Tryz.prog laid5 w)/\sizedMet enc Tryz.prog Tryz.f12 (OpenSpec.ofChange Rows.swapExamplesSpec) false w args)
   (Rows.swapExamplesSpec.post enc Tryz.prog Tryz.f12 false true false false):=by
 refine returnsInHanded_of_change_and (C:=Tryz.checked) (X:=λw _=>laidMetH Tryz.prog laid5 w) (λ_ _ _ hh h=>h.of_heap hh) own started (by kernel_rfl) Tryz.func12
  (ChangeSpec.witness_shaped (enc:=enc) (C:=Tryz.checked) (os:=os) (X:=λw _=>laidMetH Tryz.prog laid5 w) false (World.doorLaid Tryz.prog 41 os) #[] 8 rfl (World.shaped_of_RefB (by kernel_rfl) (by kernel_rfl)) (by kernel_rfl) (by kernel_rfl) (by kernel_rfl) (Znh os _)) ?_
 intro W base args ds gs before hval0 hW _ _ hL _;have hval:∀ (j:Nat) t v,Tryz.f12.params[j]? = some t->args[j]? = some v->Value.okWide Tryz.prog W .any base t v:=hval0;have hW':=hW;obtain ⟨p,q,hA0,hV,rfl,hfz,hnd⟩:=hW;have hA:DataW.TrodAll enc Tryz.prog W 0 (λ_=>true) true Tryz.f12.params.toList args.toList ds p:=hA0;rw[Tryz.params12]at hA hval;obtain ⟨args⟩:=args;obtain ⟨rfl,rfl,rfl⟩:=trodAll_nil hA;obtain ⟨rfl,rfl⟩:=trodVars_none hV
 refine (Zmq (ZoC Znn Zno Znp ) (Znq hL) rfl (λi x u hx hu=>by
  simp at hx)).mono λe W' ⟨he,hE⟩=>?_
 subst he
 exact ⟨_,rfl,Zmo Zmp (by kernel_rfl) Tryz.underlying4 rfl rfl (by
  intro t ht;have hall:(Tryz.f12.params.toList.all λt=>Tryz.checked.prog.readableRec t&&decide (t<Tryz.checked.prog.types.size))=true:=(by kernel_rfl);have h3:=List.all_eq_true.1 hall t ht;rw[Bool.and_eq_true]at h3;exact ⟨h3.1,of_decide_eq_true h3.2⟩) hW' hE⟩
theorem swapExamples_holds:Rows.SwapExamplesSaid :=
 OpenClaim.holds_of_wide 12 Tryz.f12 rfl rfl rfl rfl rfl rfl rfl ⟨rfl,rfl,rfl,rfl,rfl⟩ rfl rfl rfl rfl rfl (by kernel_rfl) Tryz.func12 (by kernel_rfl)
  (of_decide_eq_true (by kernel_rfl)) (by unfold Func.isWrapper;first|(rw[if_pos (by decide +kernel)];kernel_rfl)|(rw[if_neg (by decide +kernel)];exact ⟨rfl,rfl⟩))
  (λos started H enc _=>swapExamples_lifted os started H enc)
theorem swapExamples_card:Rows.SwapExamplesCardSaid :=
 Claim7.holds_tied_plain_at .later [] [.funcs,.funcs,.funcs] true (true, "a7c7fdb8bf71b350a889fd4614f778c3c8a79eed60248f62fd1a4618fb07f57f") false
  swapExamples_holds (λ_ h=>by cases h) (by kernel_rfl) (λ_ h=>by cases h) swapExamples_row_tie rfl ⟨rfl,rfl⟩ (by kernel_rfl) rfl
  (λf fn hf hfn=>by
   obtain rfl:f=12:=Option.some.inj ((show Tryz.prog.funcNamed "blueline/bluelinelaw05.SwapExamples" = some 12 by kernel_rfl).symm.trans hf) |>.symm
   obtain rfl:fn=Tryz.f12:=(Option.some.inj (Tryz.func12.symm.trans hfn)).symm
   exact ⟨by kernel_rfl,λj t ht=>by
    have hall:(Tryz.f12.params.toList.all λu=>!Tryz.prog.wantsStandIn u)=true:=(by kernel_rfl);have hm:t∈Tryz.f12.params.toList:=(by simpa using Array.mem_of_getElem? ht);exact (show Tryz.prog.wantsStandIn t=false by simpa using List.all_eq_true.1 hall t hm)⟩)
  (by kernel_rfl)
end Go.Proofs.YtjogcghofinemaaGreatDoor

