/-
  RecallCalled: the row and the card.
-/
import Derived.Test.YtcdlimgkliklhaaGreatDoorJPxToPv
set_option linter.all false
set_option linter.unusedSimpArgs false
set_option linter.unusedVariables false
set_option linter.unusedSectionVars false
namespace Go.Proofs.YtcdlimgkliklhaaGreatDoor
open Go.ChangeShapes Go.WideShapes Go.ChangeAt Go.WideMaps Go.WideElems Go.RowKit Go.Deep
set_option maxRecDepth 100000 in
theorem recallCalled_lifted (os:Os) (started:os.Started) (H:Type) (enc:TypeId×Value->H) :
  ReturnsInHanded {} Tryz.checked os 8 .any (λw args=>(Rows.recallCalledSpec.pre enc Tryz.prog Tryz.f8 [] false w args/\laidMetH Tryz.prog laid7 w)/\sizedMet enc Tryz.prog Tryz.f8 (OpenSpec.ofChange Rows.recallCalledSpec) false w args)
   (Rows.recallCalledSpec.post enc Tryz.prog Tryz.f8 false true false false):=by
 refine returnsInHanded_of_change_and (C:=Tryz.checked) (X:=λw _=>laidMetH Tryz.prog laid7 w) (λ_ _ _ hh h=>h.of_heap hh) own started (by kernel_rfl) Tryz.func8
  (ChangeSpec.witness_shaped (enc:=enc) (C:=Tryz.checked) (os:=os) (X:=λw _=>laidMetH Tryz.prog laid7 w) false (World.doorLaid Tryz.prog 41 os) #[.agg #[.slice none 0 0,.slice none 0 0,.slice none 0 0,.slice none 0 0],.int .u16 0] 8 rfl (World.shaped_of_RefB (by kernel_rfl) (by kernel_rfl)) (by kernel_rfl) (by kernel_rfl) (by kernel_rfl) (ZoS os _)) ?_
 intro W base args ds gs before hval0 hW _ _ hL _;have hval:∀ (j:Nat) t v,Tryz.f8.params[j]? = some t->args[j]? = some v->Value.okWide Tryz.prog W .any base t v:=hval0;have hW':=hW;obtain ⟨p,q,hA0,hV,rfl,hfz,hnd⟩:=hW;have hA:DataW.TrodAll enc Tryz.prog W 0 (λ_=>true) true Tryz.f8.params.toList args.toList ds p:=hA0;rw[Tryz.params8]at hA hval;obtain ⟨args⟩:=args;obtain ⟨v0,aa,d0,ds0,p0,q0,rfl,rfl,rfl,h0,hA⟩:=trodAll_cons hA;obtain ⟨v1,aa,d1,ds1,p1,q1,rfl,rfl,rfl,h1,hA⟩:=trodAll_cons hA;obtain ⟨rfl,rfl,rfl⟩:=trodAll_nil hA;obtain ⟨rfl,rfl⟩:=trodVars_none hV;obtain ⟨xs,t0,g0⟩:=ZkN Tryz.underlying31 (ks:=prsK) (by kernel_rfl) (hval 0 31 v0 rfl rfl) h0;obtain ⟨r,l,hs,ps,e0,hk0,hl0,hp0⟩:=Zp5 t0;rw[e0]at g0;obtain ⟨x1,t1,g1⟩:=ZkO (t:=88) (k:=.int .u16) (by kernel_rfl) (by kernel_rfl) (hval 1 88 v1 rfl rfl) h1;obtain ⟨d,rfl,hb1⟩:=t1.int_inv
 refine (ZkT (ZoQ ZoY ZoZ Zp0 r l hs ps d hk0 hl0 hp0 (bounds_u16 hb1)) (Zp1 hL) rfl (λi x u hx hu=>by
  match i,hx,hu with
  |0,hx,hu=>cases hx;cases hu;exact g0
  |1,hx,hu=>cases hx;cases hu;exact g1)).mono λe W' ⟨he,hE⟩=>?_
 subst he
 exact ⟨_,rfl,ZkR ZkS (by kernel_rfl) Tryz.underlying4 rfl rfl (by
  intro t ht;have hall:(Tryz.f8.params.toList.all λt=>Tryz.checked.prog.readableRec t&&decide (t<Tryz.checked.prog.types.size))=true:=(by kernel_rfl);have h3:=W03.1 hall t ht;rw[W01]at h3;exact ⟨h3.1,W0X h3.2⟩) hW' hE⟩
theorem recallCalled_wf:Rows.recallCalledRow.wf (OpenSpec.ofChange Rows.recallCalledSpec)=true:=by kernel_rfl
theorem recallCalled_name:Tryz.prog.funcNamed "blueline/bluelinelaw07.RecallCalled" = some 8:=by kernel_rfl
theorem recallCalled_inPlace:(Rows.recallCalledRow.inPlace == Tryz.prog.inPlace 8)=true:=by kernel_rfl
theorem recallCalled_unfollowed:(Rows.recallCalledRow.unfollowed == Tryz.prog.unfollowed 8)=true:=by kernel_rfl
theorem recallCalled_recurses:(Rows.recallCalledRow.recurses == Tryz.prog.recurses 8)=true:=by kernel_rfl
theorem recallCalled_named:(Rows.recallCalledRow.named == Tryz.prog.varsNamed 8)=true:=by kernel_rfl
theorem recallCalled_goes:false=Rows.recallCalledRow.goesBy Tryz.prog:=by kernel_rfl
theorem recallCalled_text:Rows.recallCalledRow.wfByText (.ofChange Rows.recallCalledSpec)=true:=by kernel_rfl
theorem recallCalled_joined:joinedFacts Tryz.prog 8 Tryz.f8 Rows.recallCalledSpec Rows.recallCalledRow=true :=
 Zp6 recallCalled_wf Zp7 Zp8 (by kernel_rfl) recallCalled_inPlace recallCalled_unfollowed recallCalled_recurses recallCalled_named (by kernel_rfl) Zp9 rfl Zpa Zpb Zpc Zpd (by kernel_rfl)
theorem recallCalled_holds:Rows.RecallCalledSaid :=
 OpenClaim.holds_of_wide 8 Tryz.f8 rfl rfl rfl rfl rfl rfl rfl ⟨rfl,rfl,rfl,rfl,rfl⟩ rfl rfl rfl rfl rfl recallCalled_name Tryz.func8 recallCalled_joined
  (W0X (by kernel_rfl)) (by unfold Func.isWrapper;first|(rw[if_pos (by decide +kernel)];kernel_rfl)|(rw[if_neg (by decide +kernel)];exact ⟨rfl,rfl⟩))
  (λos started H enc _=>recallCalled_lifted os started H enc)
theorem recallCalled_card:Rows.RecallCalledCardSaid :=
 Claim7.holds_tied_plain_at .later [] [.funcs,.funcs,.funcs] true (true, "c78c3ff270fe74a990be3be0c8d074bef76ac0378b180a9ded0d213bc229583d") false
  recallCalled_holds (λ_ h=>by cases h) recallCalled_text (λ_ h=>by cases h) recallCalled_row_tie rfl ⟨rfl,rfl⟩ Zpe rfl
  (λf fn hf hfn=>by
   obtain rfl:f=8:=W1L (recallCalled_name.symm.trans hf) |>.symm
   obtain rfl:fn=Tryz.f8:=(W1L (Tryz.func8.symm.trans hfn)).symm
   exact ⟨Zpf,λj t ht=>by
    have hall:(Tryz.f8.params.toList.all λu=>!Tryz.prog.wantsStandIn u)=true:=(by kernel_rfl);have hm:t∈Tryz.f8.params.toList:=(by simpa using Array.mem_of_getElem? ht);exact (show Tryz.prog.wantsStandIn t=false by simpa using W03.1 hall t hm)⟩)
  recallCalled_goes
end Go.Proofs.YtcdlimgkliklhaaGreatDoor

