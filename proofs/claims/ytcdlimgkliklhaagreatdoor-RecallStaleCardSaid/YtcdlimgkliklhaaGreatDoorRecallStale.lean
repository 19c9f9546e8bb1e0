/-
  RecallStale: the row and the card.
-/
import Derived.Test.YtcdlimgkliklhaaGreatDoorJPsToPv
set_option linter.all false
set_option linter.unusedSimpArgs false
set_option linter.unusedVariables false
set_option linter.unusedSectionVars false
namespace Go.Proofs.YtcdlimgkliklhaaGreatDoor
open Go.ChangeShapes Go.WideShapes Go.ChangeAt Go.WideMaps Go.WideElems Go.RowKit Go.Deep
set_option maxRecDepth 100000 in
theorem recallStale_lifted (os:Os) (started:os.Started) (H:Type) (enc:TypeId×Value->H) :
  ReturnsInHanded {} Tryz.checked os 5 .any (λw args=>(Rows.recallStaleSpec.pre enc Tryz.prog Tryz.f5 [] false w args/\laidMetH Tryz.prog laid7 w)/\sizedMet enc Tryz.prog Tryz.f5 (OpenSpec.ofChange Rows.recallStaleSpec) false w args)
   (Rows.recallStaleSpec.post enc Tryz.prog Tryz.f5 false true false false):=by
 refine returnsInHanded_of_change_and (C:=Tryz.checked) (X:=λw _=>laidMetH Tryz.prog laid7 w) (λ_ _ _ hh h=>h.of_heap hh) own started (by kernel_rfl) Tryz.func5
  (ChangeSpec.witness_shaped (enc:=enc) (C:=Tryz.checked) (os:=os) (X:=λw _=>laidMetH Tryz.prog laid7 w) false (World.doorLaid Tryz.prog 41 os) #[.agg #[.slice none 0 0,.slice none 0 0,.slice none 0 0,.slice none 0 0],.int .i64 0] 8 rfl (World.shaped_of_RefB (by kernel_rfl) (by kernel_rfl)) (by kernel_rfl) (by kernel_rfl) (by kernel_rfl) (ZnK os _)) ?_
 intro W base args ds gs before hval0 hW _ _ hL _;have hval:∀ (j:Nat) t v,Tryz.f5.params[j]? = some t->args[j]? = some v->Value.okWide Tryz.prog W .any base t v:=hval0;have hW':=hW;obtain ⟨p,q,hA0,hV,rfl,hfz,hnd⟩:=hW;have hA:DataW.TrodAll enc Tryz.prog W 0 (λ_=>true) true Tryz.f5.params.toList args.toList ds p:=hA0;rw[Tryz.params5]at hA hval;obtain ⟨args⟩:=args;obtain ⟨v0,aa,d0,ds0,p0,q0,rfl,rfl,rfl,h0,hA⟩:=trodAll_cons hA;obtain ⟨v1,aa,d1,ds1,p1,q1,rfl,rfl,rfl,h1,hA⟩:=trodAll_cons hA;obtain ⟨rfl,rfl,rfl⟩:=trodAll_nil hA;obtain ⟨rfl,rfl⟩:=trodVars_none hV;obtain ⟨xs,t0,g0⟩:=Zlf Tryz.underlying31 (ks:=prsK) (by kernel_rfl) (hval 0 31 v0 rfl rfl) h0;obtain ⟨r,l,hs,ps,e0,hk0,hl0,hp0⟩:=ZnX t0;rw[e0]at g0;obtain ⟨x1,t1,g1⟩:=Zlg (t:=3) (k:=.int .i64) (by kernel_rfl) (by kernel_rfl) (hval 1 3 v1 rfl rfl) h1;obtain ⟨day,rfl,hb1⟩:=t1.int_inv
 refine (Zll (ZnI ZnQ ZnR ZnS r l hs ps day hk0 hl0 hp0) (ZnT hL) rfl (λi x u hx hu=>by
  match i,hx,hu with
  |0,hx,hu=>cases hx;cases hu;exact g0
  |1,hx,hu=>cases hx;cases hu;exact g1)).mono λe W' ⟨he,hE⟩=>?_
 subst he
 exact ⟨_,rfl,Zlj Zlk (by kernel_rfl) Tryz.underlying4 rfl rfl (by
  intro t ht;have hall:(Tryz.f5.params.toList.all λt=>Tryz.checked.prog.readableRec t&&decide (t<Tryz.checked.prog.types.size))=true:=(by kernel_rfl);have h3:=W03.1 hall t ht;rw[W01]at h3;exact ⟨h3.1,W0X h3.2⟩) hW' hE⟩
theorem recallStale_wf:Rows.recallStaleRow.wf (OpenSpec.ofChange Rows.recallStaleSpec)=true:=by kernel_rfl
theorem recallStale_name:Tryz.prog.funcNamed "blueline/bluelinelaw07.RecallStale" = some 5:=by kernel_rfl
theorem recallStale_inPlace:(Rows.recallStaleRow.inPlace == Tryz.prog.inPlace 5)=true:=by kernel_rfl
theorem recallStale_unfollowed:(Rows.recallStaleRow.unfollowed == Tryz.prog.unfollowed 5)=true:=by kernel_rfl
theorem recallStale_recurses:(Rows.recallStaleRow.recurses == Tryz.prog.recurses 5)=true:=by kernel_rfl
theorem recallStale_named:(Rows.recallStaleRow.named == Tryz.prog.varsNamed 5)=true:=by kernel_rfl
theorem recallStale_goes:false=Rows.recallStaleRow.goesBy Tryz.prog:=by kernel_rfl
theorem recallStale_text:Rows.recallStaleRow.wfByText (.ofChange Rows.recallStaleSpec)=true:=by kernel_rfl
theorem recallStale_joined:joinedFacts Tryz.prog 5 Tryz.f5 Rows.recallStaleSpec Rows.recallStaleRow=true :=
 ZnY recallStale_wf ZnZ Zo0 (by kernel_rfl) recallStale_inPlace recallStale_unfollowed recallStale_recurses recallStale_named (by kernel_rfl) Zo1 rfl Zo2 Zo3 Zo4 Zo5 (by kernel_rfl)
theorem recallStale_holds:Rows.RecallStaleSaid :=
 OpenClaim.holds_of_wide 5 Tryz.f5 rfl rfl rfl rfl rfl rfl rfl ⟨rfl,rfl,rfl,rfl,rfl⟩ rfl rfl rfl rfl rfl recallStale_name Tryz.func5 recallStale_joined
  (W0X (by kernel_rfl)) (by unfold Func.isWrapper;first|(rw[if_pos (by decide +kernel)];kernel_rfl)|(rw[if_neg (by decide +kernel)];exact ⟨rfl,rfl⟩))
  (λos started H enc _=>recallStale_lifted os started H enc)
theorem recallStale_card:Rows.RecallStaleCardSaid :=
 Claim7.holds_tied_plain_at .later [] [.funcs,.funcs,.funcs] true (true, "c78c3ff270fe74a990be3be0c8d074bef76ac0378b180a9ded0d213bc229583d") false
  recallStale_holds (λ_ h=>by cases h) recallStale_text (λ_ h=>by cases h) recallStale_row_tie rfl ⟨rfl,rfl⟩ Zo6 rfl
  (λf fn hf hfn=>by
   obtain rfl:f=5:=W1M (recallStale_name.symm.trans hf) |>.symm
   obtain rfl:fn=Tryz.f5:=(W1M (Tryz.func5.symm.trans hfn)).symm
   exact ⟨Zo7,λj t ht=>by
    have hall:(Tryz.f5.params.toList.all λu=>!Tryz.prog.wantsStandIn u)=true:=(by kernel_rfl);have hm:t∈Tryz.f5.params.toList:=(by simpa using Array.mem_of_getElem? ht);exact (show Tryz.prog.wantsStandIn t=false by simpa using W03.1 hall t hm)⟩)
  recallStale_goes
end Go.Proofs.YtcdlimgkliklhaaGreatDoor

