/-
  SheetExamples: the row and the card.
-/
import Derived.Test.YthlcppdbldkldaaDoorLGfToKe
import Derived.Test.YthlcppdbldkldaaDoorTie
import Derived.Test.YthlcppdbldkldaaDoorCards
set_option linter.all false
set_option maxHeartbeats 8000000
namespace Go.Proofs.YthlcppdbldkldaaDoor
open Go.Proofs.Tryd (prog)
open Go.ChangeShapes Go.WideShapes Go.ChangeAt Go.WideMaps Go.WideElems Go.RowKit Go.Deep
set_option maxRecDepth 100000 in
theorem sheetExamples_lifted (os:Os) (started:os.Started) (H:Type) (enc:TypeId×Value->H) :
  ReturnsInHanded {} Tryd.checked os 5 .any (λw args=>(Rows.sheetExamplesSpec.pre enc prog Tryd.f5 [] false w args/\laidMetH prog laid2 w)/\sizedMet enc prog Tryd.f5 (OpenSpec.ofChange Rows.sheetExamplesSpec) false w args)
   (Rows.sheetExamplesSpec.post enc prog Tryd.f5 false true false false):=by
 refine returnsInHanded_of_change_and (C:=Tryd.checked) (X:=λw _=>laidMetH prog laid2 w) (λ_ _ _ hh h=>h.of_heap hh) own started (by kernel_rfl) Tryd.func5
  (ChangeSpec.witness_shaped (enc:=enc) (C:=Tryd.checked) (os:=os) (X:=λw _=>laidMetH prog laid2 w) false (World.doorLaid prog 41 os) #[] 8 rfl (World.shaped_of_RefB (by kernel_rfl) (by kernel_rfl)) (by kernel_rfl) (by kernel_rfl) (by kernel_rfl) (ZdP os _)) ?_
 intro W base args ds gs before hval0 hW _ _ hL _;have hval:∀ (j:Nat) t v,Tryd.f5.params[j]? = some t->args[j]? = some v->Value.okWide prog W .any base t v:=hval0;have hW':=hW;obtain ⟨p,q,hA0,hV,rfl,hfz,hnd⟩:=hW;have hA:DataW.TrodAll enc prog W 0 (λ_=>true) true Tryd.f5.params.toList args.toList ds p:=hA0;rw[Tryd.params5]at hA hval;obtain ⟨args⟩:=args;obtain ⟨rfl,rfl,rfl⟩:=trodAll_nil hA;obtain ⟨rfl,rfl⟩:=trodVars_none hV
 refine (ZdT (Zfx gc_of ) (gr_of (ZdS hL)) rfl (λi x u hx hu=>by
  simp at hx)).mono λe W' ⟨he,hE⟩=>?_
 subst he
 exact ⟨_,rfl,ZdL ZdM (by kernel_rfl) Tryd.underlying4 rfl rfl (by
  intro t ht;have hall:(Tryd.f5.params.toList.all λt=>Tryd.checked.prog.readableRec t&&decide (t<Tryd.checked.prog.types.size))=true:=(by kernel_rfl);have h3:=W03.1 hall t ht;rw[W01]at h3;exact ⟨h3.1,W0X h3.2⟩) hW' hE⟩
theorem sheetExamples_holds:Rows.SheetExamplesSaid :=
 OpenClaim.holds_of_wide 5 Tryd.f5 rfl rfl rfl rfl rfl rfl rfl ⟨rfl,rfl,rfl,rfl,rfl⟩ rfl rfl rfl rfl rfl (by kernel_rfl) Tryd.func5 (by kernel_rfl)
  (W0X (by kernel_rfl)) (by unfold Func.isWrapper;first|(rw[if_pos (by decide +kernel)];kernel_rfl)|(rw[if_neg (by decide +kernel)];exact ⟨rfl,rfl⟩))
  (λos started H enc _=>sheetExamples_lifted os started H enc)
theorem sheetExamples_card:Rows.SheetExamplesCardSaid :=
 Claim7.holds_tied_plain_at .later [] [.funcs] true (true, "d517623fa445c8d7842824aa1d8693b0ba3c41d17ee45cbf183d18b500cb37b1") false
  sheetExamples_holds (λ_ h=>by cases h) (by kernel_rfl) (λ_ h=>by cases h) sheetExamples_row_tie rfl ⟨rfl,rfl⟩ (by kernel_rfl) rfl
  (λf fn hf hfn=>by
   obtain rfl:f=5:=W1G ((show prog.funcNamed "blueline/bluelinelaw02.SheetExamples" = some 5 by kernel_rfl).symm.trans hf) |>.symm
   obtain rfl:fn=Tryd.f5:=(W1G (Tryd.func5.symm.trans hfn)).symm
   exact ⟨by kernel_rfl,λj t ht=>by
    have hall:(Tryd.f5.params.toList.all λu=>!prog.wantsStandIn u)=true:=(by kernel_rfl);have hm:t∈Tryd.f5.params.toList:=(by simpa using Array.mem_of_getElem? ht);exact (show prog.wantsStandIn t=false by simpa using W03.1 hall t hm)⟩)
  (by kernel_rfl)
end Go.Proofs.YthlcppdbldkldaaDoor

