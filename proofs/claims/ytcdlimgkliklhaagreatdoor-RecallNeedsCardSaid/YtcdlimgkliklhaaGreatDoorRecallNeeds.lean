/-
  RecallNeeds: the row and the card.
-/
import Derived.Test.YtcdlimgkliklhaaGreatDoorJQmToPv
set_option linter.all false
set_option linter.unusedSimpArgs false
set_option linter.unusedVariables false
set_option linter.unusedSectionVars false
namespace Go.Proofs.YtcdlimgkliklhaaGreatDoor
open Go.ChangeShapes Go.WideShapes Go.ChangeAt Go.WideMaps Go.WideElems Go.RowKit Go.Deep
set_option maxRecDepth 100000 in
theorem recallNeeds_lifted (os:Os) (started:os.Started) (H:Type) (enc:TypeId×Value->H) :
  ReturnsInHanded {} Tryz.checked os 4 .any (λw args=>(Rows.recallNeedsSpec.pre enc Tryz.prog Tryz.f4 [] false w args/\laidMetH Tryz.prog laid7 w)/\sizedMet enc Tryz.prog Tryz.f4 (OpenSpec.ofChange Rows.recallNeedsSpec) false w args)
   (Rows.recallNeedsSpec.post enc Tryz.prog Tryz.f4 false true false false):=by
 refine returnsInHanded_of_change_and (C:=Tryz.checked) (X:=λw _=>laidMetH Tryz.prog laid7 w) (λ_ _ _ hh h=>h.of_heap hh) own started (by kernel_rfl) Tryz.func4
  (ChangeSpec.witness_shaped (enc:=enc) (C:=Tryz.checked) (os:=os) (X:=λw _=>laidMetH Tryz.prog laid7 w) false (World.doorLaid Tryz.prog 41 os) #[.agg #[.slice none 0 0,.slice none 0 0,.slice none 0 0,.slice none 0 0],.int .i64 0,.int .i64 0,.int .i64 0,.int .i64 0] 8 rfl (World.shaped_of_RefB (by kernel_rfl) (by kernel_rfl)) (by kernel_rfl) (by kernel_rfl) (by kernel_rfl) (Zmn os _)) ?_
 intro W base args ds gs before hval0 hW _ _ hL _;have hval:∀ (j:Nat) t v,Tryz.f4.params[j]? = some t->args[j]? = some v->Value.okWide Tryz.prog W .any base t v:=hval0;have hW':=hW;obtain ⟨p,q,hA0,hV,rfl,hfz,hnd⟩:=hW;have hA:DataW.TrodAll enc Tryz.prog W 0 (λ_=>true) true Tryz.f4.params.toList args.toList ds p:=hA0;rw[Tryz.params4]at hA hval;obtain ⟨args⟩:=args;obtain ⟨v0,aa,d0,ds0,p0,q0,rfl,rfl,rfl,h0,hA⟩:=trodAll_cons hA;obtain ⟨v1,aa,d1,ds1,p1,q1,rfl,rfl,rfl,h1,hA⟩:=trodAll_cons hA;obtain ⟨v2,aa,d2,ds2,p2,q2,rfl,rfl,rfl,h2,hA⟩:=trodAll_cons hA;obtain ⟨v3,aa,d3,ds3,p3,q3,rfl,rfl,rfl,h3,hA⟩:=trodAll_cons hA;obtain ⟨v4,aa,d4,ds4,p4,q4,rfl,rfl,rfl,h4,hA⟩:=trodAll_cons hA;obtain ⟨rfl,rfl,rfl⟩:=trodAll_nil hA;obtain ⟨rfl,rfl⟩:=trodVars_none hV;obtain ⟨xs,t0,g0⟩:=Zll Tryz.underlying31 (ks:=prsK) (by kernel_rfl) (hval 0 31 v0 rfl rfl) h0;obtain ⟨r,l,hs,ps,e0,hk0,hl0,hp0⟩:=ZmA t0;rw[e0]at g0;obtain ⟨x1,t1,g1⟩:=Zlm (t:=3) (k:=.int .i64) (by kernel_rfl) (by kernel_rfl) (hval 1 3 v1 rfl rfl) h1;obtain ⟨day,rfl,hb1⟩:=t1.int_inv;obtain ⟨x2,t2,g2⟩:=Zlm (t:=3) (k:=.int .i64) (by kernel_rfl) (by kernel_rfl) (hval 2 3 v2 rfl rfl) h2;obtain ⟨id,rfl,hb2⟩:=t2.int_inv;obtain ⟨x3,t3,g3⟩:=Zlm (t:=3) (k:=.int .i64) (by kernel_rfl) (by kernel_rfl) (hval 3 3 v3 rfl rfl) h3;obtain ⟨d,rfl,hb3⟩:=t3.int_inv;obtain ⟨x4,t4,g4⟩:=Zlm (t:=3) (k:=.int .i64) (by kernel_rfl) (by kernel_rfl) (hval 4 3 v4 rfl rfl) h4;obtain ⟨m,rfl,hb4⟩:=t4.int_inv
 refine (Zlr (Zml Zmt Zmu Zmv r l hs ps day id d m hk0 hl0 hp0) (Zmw hL) rfl (λi x u hx hu=>by
  match i,hx,hu with
  |0,hx,hu=>cases hx;cases hu;exact g0
  |1,hx,hu=>cases hx;cases hu;exact g1
  |2,hx,hu=>cases hx;cases hu;exact g2
  |3,hx,hu=>cases hx;cases hu;exact g3
  |4,hx,hu=>cases hx;cases hu;exact g4)).mono λe W' ⟨he,hE⟩=>?_
 subst he
 exact ⟨_,rfl,Zlp Zlq (by kernel_rfl) Tryz.underlying4 rfl rfl (by
  intro t ht;have hall:(Tryz.f4.params.toList.all λt=>Tryz.checked.prog.readableRec t&&decide (t<Tryz.checked.prog.types.size))=true:=(by kernel_rfl);have h3:=List.all_eq_true.1 hall t ht;rw[Bool.and_eq_true]at h3;exact ⟨h3.1,of_decide_eq_true h3.2⟩) hW' hE⟩
theorem recallNeeds_wf:Rows.recallNeedsRow.wf (OpenSpec.ofChange Rows.recallNeedsSpec)=true:=by kernel_rfl
theorem recallNeeds_name:Tryz.prog.funcNamed "blueline/bluelinelaw07.RecallNeeds" = some 4:=by kernel_rfl
theorem recallNeeds_inPlace:(Rows.recallNeedsRow.inPlace == Tryz.prog.inPlace 4)=true:=by kernel_rfl
theorem recallNeeds_unfollowed:(Rows.recallNeedsRow.unfollowed == Tryz.prog.unfollowed 4)=true:=by kernel_rfl
theorem recallNeeds_recurses:(Rows.recallNeedsRow.recurses == Tryz.prog.recurses 4)=true:=by kernel_rfl
theorem recallNeeds_named:(Rows.recallNeedsRow.named == Tryz.prog.varsNamed 4)=true:=by kernel_rfl
theorem recallNeeds_goes:false=Rows.recallNeedsRow.goesBy Tryz.prog:=by kernel_rfl
theorem recallNeeds_text:Rows.recallNeedsRow.wfByText (.ofChange Rows.recallNeedsSpec)=true:=by kernel_rfl
theorem recallNeeds_joined:joinedFacts Tryz.prog 4 Tryz.f4 Rows.recallNeedsSpec Rows.recallNeedsRow=true :=
 ZmB recallNeeds_wf ZmC ZmD (by kernel_rfl) recallNeeds_inPlace recallNeeds_unfollowed recallNeeds_recurses recallNeeds_named (by kernel_rfl) ZmE rfl ZmF ZmG ZmH ZmI (by kernel_rfl)
theorem recallNeeds_holds:Rows.RecallNeedsSaid :=
 OpenClaim.holds_of_wide 4 Tryz.f4 rfl rfl rfl rfl rfl rfl rfl ⟨rfl,rfl,rfl,rfl,rfl⟩ rfl rfl rfl rfl rfl recallNeeds_name Tryz.func4 recallNeeds_joined
  (of_decide_eq_true (by kernel_rfl)) (by unfold Func.isWrapper;first|(rw[if_pos (by decide +kernel)];kernel_rfl)|(rw[if_neg (by decide +kernel)];exact ⟨rfl,rfl⟩))
  (λos started H enc _=>recallNeeds_lifted os started H enc)
theorem recallNeeds_card:Rows.RecallNeedsCardSaid :=
 Claim7.holds_tied_plain_at .later [] [.funcs,.funcs,.funcs] true (true, "c78c3ff270fe74a990be3be0c8d074bef76ac0378b180a9ded0d213bc229583d") false
  recallNeeds_holds (λ_ h=>by cases h) recallNeeds_text (λ_ h=>by cases h) recallNeeds_row_tie rfl ⟨rfl,rfl⟩ ZmJ rfl
  (λf fn hf hfn=>by
   obtain rfl:f=4:=Option.some.inj (recallNeeds_name.symm.trans hf) |>.symm
   obtain rfl:fn=Tryz.f4:=(Option.some.inj (Tryz.func4.symm.trans hfn)).symm
   exact ⟨ZmK,λj t ht=>by
    have hall:(Tryz.f4.params.toList.all λu=>!Tryz.prog.wantsStandIn u)=true:=(by kernel_rfl);have hm:t∈Tryz.f4.params.toList:=(by simpa using Array.mem_of_getElem? ht);exact (show Tryz.prog.wantsStandIn t=false by simpa using List.all_eq_true.1 hall t hm)⟩)
  recallNeeds_goes
end Go.Proofs.YtcdlimgkliklhaaGreatDoor

