/-
  RecallExamples: the row and the card.
-/
import Derived.Test.YtcdlimgkliklhaaGreatDoorMP4ToPu
import Derived.Test.YtcdlimgkliklhaaGreatDoorMPvToPv
set_option linter.all false
set_option maxHeartbeats 8000000
namespace Go.Proofs.YtcdlimgkliklhaaGreatDoor
open Go.Proofs.Tryz (prog)
open Go.ChangeShapes Go.WideShapes Go.ChangeAt Go.WideMaps Go.WideElems Go.RowKit Go.Deep
set_option maxRecDepth 100000 in
theorem recallExamples_lifted (os:Os) (started:os.Started) (H:Type) (enc:TypeId×Value->H) :
  ReturnsInHanded {} Tryz.checked os 7 .any (λw args=>(Rows.recallExamplesSpec.pre enc prog Tryz.f7 [] false w args/\laidMetH prog laid7 w)/\sizedMet enc prog Tryz.f7 (OpenSpec.ofChange Rows.recallExamplesSpec) false w args)
   (Rows.recallExamplesSpec.post enc prog Tryz.f7 false true false false):=by
 refine returnsInHanded_of_change_and (C:=Tryz.checked) (X:=λw _=>laidMetH prog laid7 w) (λ_ _ _ hh h=>h.of_heap hh) own started (by kernel_rfl) Tryz.func7
  (ChangeSpec.witness_shaped (enc:=enc) (C:=Tryz.checked) (os:=os) (X:=λw _=>laidMetH prog laid7 w) false (World.doorLaid prog 41 os) #[] 8 rfl (World.shaped_of_RefB (by kernel_rfl) (by kernel_rfl)) (by kernel_rfl) (by kernel_rfl) (by kernel_rfl) (Zmp os _)) ?_
 intro W base args ds gs before hval0 hW _ _ hL _;have hval:∀ (j:Nat) t v,Tryz.f7.params[j]? = some t->args[j]? = some v->Value.okWide prog W .any base t v:=hval0;have hW':=hW;obtain ⟨p,q,hA0,hV,rfl,hfz,hnd⟩:=hW;have hA:DataW.TrodAll enc prog W 0 (λ_=>true) true Tryz.f7.params.toList args.toList ds p:=hA0;rw[Tryz.params7]at hA hval;obtain ⟨args⟩:=args;obtain ⟨rfl,rfl,rfl⟩:=trodAll_nil hA;obtain ⟨rfl,rfl⟩:=trodVars_none hV
 refine (Ziz (Zmo Zmv Zmw Zmx ) (Zmy hL) rfl (λi x u hx hu=>by
  simp at hx)).mono λe W' ⟨he,hE⟩=>?_
 subst he
 exact ⟨_,rfl,Zix Ziy (by kernel_rfl) Tryz.underlying4 rfl rfl (by
  intro t ht;have hall:(Tryz.f7.params.toList.all λt=>Tryz.checked.prog.readableRec t&&decide (t<Tryz.checked.prog.types.size))=true:=(by kernel_rfl);have h3:=W03.1 hall t ht;rw[W01]at h3;exact ⟨h3.1,W0X h3.2⟩) hW' hE⟩
theorem recallExamples_wf:Rows.recallExamplesRow.wf (OpenSpec.ofChange Rows.recallExamplesSpec)=true:=by kernel_rfl
theorem recallExamples_name:prog.funcNamed "blueline/bluelinelaw07.RecallExamples" = some 7:=by kernel_rfl
theorem recallExamples_inPlace:(Rows.recallExamplesRow.inPlace == prog.inPlace 7)=true:=by kernel_rfl
theorem recallExamples_unfollowed:(Rows.recallExamplesRow.unfollowed == prog.unfollowed 7)=true:=by kernel_rfl
theorem recallExamples_recurses:(Rows.recallExamplesRow.recurses == prog.recurses 7)=true:=by kernel_rfl
theorem recallExamples_named:(Rows.recallExamplesRow.named == prog.varsNamed 7)=true:=by kernel_rfl
theorem recallExamples_goes:false=Rows.recallExamplesRow.goesBy prog:=by kernel_rfl
theorem recallExamples_text:Rows.recallExamplesRow.wfByText (.ofChange Rows.recallExamplesSpec)=true:=by kernel_rfl
theorem recallExamples_joined:joinedFacts prog 7 Tryz.f7 Rows.recallExamplesSpec Rows.recallExamplesRow=true :=
 Zmz recallExamples_wf ZmA ZmB (by kernel_rfl) recallExamples_inPlace recallExamples_unfollowed recallExamples_recurses recallExamples_named (by kernel_rfl) ZmC rfl ZmD ZmE ZmF ZmG (by kernel_rfl)
theorem recallExamples_holds:Rows.RecallExamplesSaid :=
 OpenClaim.holds_of_wide 7 Tryz.f7 rfl rfl rfl rfl rfl rfl rfl ⟨rfl,rfl,rfl,rfl,rfl⟩ rfl rfl rfl rfl rfl recallExamples_name Tryz.func7 recallExamples_joined
  (W0X (by kernel_rfl)) (by unfold Func.isWrapper;first|(rw[if_pos (by decide +kernel)];kernel_rfl)|(rw[if_neg (by decide +kernel)];exact ⟨rfl,rfl⟩))
  (λos started H enc _=>recallExamples_lifted os started H enc)
theorem recallExamples_card:Rows.RecallExamplesCardSaid :=
 Claim7.holds_tied_plain_at .later [] [.funcs,.funcs,.funcs] true (true, "c78c3ff270fe74a990be3be0c8d074bef76ac0378b180a9ded0d213bc229583d") false
  recallExamples_holds (λ_ h=>by cases h) recallExamples_text (λ_ h=>by cases h) recallExamples_row_tie rfl ⟨rfl,rfl⟩ ZmH rfl
  (λf fn hf hfn=>by
   obtain rfl:f=7:=W1L (recallExamples_name.symm.trans hf) |>.symm
   obtain rfl:fn=Tryz.f7:=(W1L (Tryz.func7.symm.trans hfn)).symm
   exact ⟨ZmI,λj t ht=>by
    have hall:(Tryz.f7.params.toList.all λu=>!prog.wantsStandIn u)=true:=(by kernel_rfl);have hm:t∈Tryz.f7.params.toList:=(by simpa using Array.mem_of_getElem? ht);exact (show prog.wantsStandIn t=false by simpa using W03.1 hall t hm)⟩)
  recallExamples_goes
end Go.Proofs.YtcdlimgkliklhaaGreatDoor

