/-
  RecallSettled: the row and the card.
-/
import Derived.Test.YtcdlimgkliklhaaGreatDoorLPuToPu
import Derived.Test.YtcdlimgkliklhaaGreatDoorLPvToPv
set_option linter.all false
set_option maxHeartbeats 8000000
namespace Go.Proofs.YtcdlimgkliklhaaGreatDoor
open Go.Proofs.Tryz (prog)
open Go.ChangeShapes Go.WideShapes Go.ChangeAt Go.WideMaps Go.WideElems Go.RowKit Go.Deep
set_option maxRecDepth 100000 in
theorem recallSettled_lifted (os:Os) (started:os.Started) (H:Type) (enc:TypeId×Value->H) :
  ReturnsInHanded {} Tryz.checked os 16 .any (λw args=>(Rows.recallSettledSpec.pre enc prog Tryz.f16 [] false w args/\laidMetH prog laid7 w)/\sizedMet enc prog Tryz.f16 (OpenSpec.ofChange Rows.recallSettledSpec) false w args)
   (Rows.recallSettledSpec.post enc prog Tryz.f16 false true false false):=by
 refine returnsInHanded_of_change_and (C:=Tryz.checked) (X:=λw _=>laidMetH prog laid7 w) (λ_ _ _ hh h=>h.of_heap hh) own started (by kernel_rfl) Tryz.func16
  (ChangeSpec.witness_shaped (enc:=enc) (C:=Tryz.checked) (os:=os) (X:=λw _=>laidMetH prog laid7 w) false (World.doorLaid prog 41 os) #[.agg #[.slice none 0 0,.slice none 0 0,.slice none 0 0,.slice none 0 0],.int .u16 0,.int .u8 0,.bool false] 8 rfl (World.shaped_of_RefB (by kernel_rfl) (by kernel_rfl)) (by kernel_rfl) (by kernel_rfl) (by kernel_rfl) (ZpK os _)) ?_
 intro W base args ds gs before hval0 hW _ _ hL _;have hval:∀ (j:Nat) t v,Tryz.f16.params[j]? = some t->args[j]? = some v->Value.okWide prog W .any base t v:=hval0;have hW':=hW;obtain ⟨p,q,hA0,hV,rfl,hfz,hnd⟩:=hW;have hA:DataW.TrodAll enc prog W 0 (λ_=>true) true Tryz.f16.params.toList args.toList ds p:=hA0;rw[Tryz.params16]at hA hval;obtain ⟨args⟩:=args;obtain ⟨v0,aa,d0,ds0,p0,q0,rfl,rfl,rfl,h0,hA⟩:=trodAll_cons hA;obtain ⟨v1,aa,d1,ds1,p1,q1,rfl,rfl,rfl,h1,hA⟩:=trodAll_cons hA;obtain ⟨v2,aa,d2,ds2,p2,q2,rfl,rfl,rfl,h2,hA⟩:=trodAll_cons hA;obtain ⟨v3,aa,d3,ds3,p3,q3,rfl,rfl,rfl,h3,hA⟩:=trodAll_cons hA;obtain ⟨rfl,rfl,rfl⟩:=trodAll_nil hA;obtain ⟨rfl,rfl⟩:=trodVars_none hV;obtain ⟨xs,t0,g0⟩:=Zld Tryz.underlying31 (ks:=prsK) (by kernel_rfl) (hval 0 31 v0 rfl rfl) h0;obtain ⟨r,l,hs,ps,e0,hk0,hl0,hp0⟩:=ZpX t0;rw[e0]at g0;obtain ⟨x1,t1,g1⟩:=Zle (t:=88) (k:=.int .u16) (by kernel_rfl) (by kernel_rfl) (hval 1 88 v1 rfl rfl) h1;obtain ⟨d,rfl,hb1⟩:=t1.int_inv;obtain ⟨x2,t2,g2⟩:=Zle (t:=5) (k:=.int .u8) (by kernel_rfl) (by kernel_rfl) (hval 2 5 v2 rfl rfl) h2;obtain ⟨wh,rfl,hb2⟩:=t2.int_inv;obtain ⟨x3,t3,g3⟩:=Zle (t:=4) (k:=.bool) (by kernel_rfl) (by kernel_rfl) (hval 3 4 v3 rfl rfl) h3;obtain ⟨way,rfl⟩:=t3.bool_inv
 refine (Zlj (ZpI ZpQ ZpR ZpS r l hs ps d wh way hk0 hl0 hp0 (bounds_u16 hb1) (bounds_u8 hb2)) (ZpT hL) rfl (λi x u hx hu=>by
  match i,hx,hu with
  |0,hx,hu=>cases hx;cases hu;exact g0
  |1,hx,hu=>cases hx;cases hu;exact g1
  |2,hx,hu=>cases hx;cases hu;exact g2
  |3,hx,hu=>cases hx;cases hu;exact g3)).mono λe W' ⟨he,hE⟩=>?_
 subst he
 exact ⟨_,rfl,Zlh Zli (by kernel_rfl) Tryz.underlying4 rfl rfl (by
  intro t ht;have hall:(Tryz.f16.params.toList.all λt=>Tryz.checked.prog.readableRec t&&decide (t<Tryz.checked.prog.types.size))=true:=(by kernel_rfl);have h3:=W03.1 hall t ht;rw[W01]at h3;exact ⟨h3.1,W0X h3.2⟩) hW' hE⟩
theorem recallSettled_wf:Rows.recallSettledRow.wf (OpenSpec.ofChange Rows.recallSettledSpec)=true:=by kernel_rfl
theorem recallSettled_name:prog.funcNamed "blueline/bluelinelaw07.RecallSettled" = some 16:=by kernel_rfl
theorem recallSettled_inPlace:(Rows.recallSettledRow.inPlace == prog.inPlace 16)=true:=by kernel_rfl
theorem recallSettled_unfollowed:(Rows.recallSettledRow.unfollowed == prog.unfollowed 16)=true:=by kernel_rfl
theorem recallSettled_recurses:(Rows.recallSettledRow.recurses == prog.recurses 16)=true:=by kernel_rfl
theorem recallSettled_named:(Rows.recallSettledRow.named == prog.varsNamed 16)=true:=by kernel_rfl
theorem recallSettled_goes:false=Rows.recallSettledRow.goesBy prog:=by kernel_rfl
theorem recallSettled_text:Rows.recallSettledRow.wfByText (.ofChange Rows.recallSettledSpec)=true:=by kernel_rfl
theorem recallSettled_joined:joinedFacts prog 16 Tryz.f16 Rows.recallSettledSpec Rows.recallSettledRow=true :=
 ZpY recallSettled_wf ZpZ Zq0 (by kernel_rfl) recallSettled_inPlace recallSettled_unfollowed recallSettled_recurses recallSettled_named (by kernel_rfl) Zq1 rfl Zq2 Zq3 Zq4 Zq5 (by kernel_rfl)
theorem recallSettled_holds:Rows.RecallSettledSaid :=
 OpenClaim.holds_of_wide 16 Tryz.f16 rfl rfl rfl rfl rfl rfl rfl ⟨rfl,rfl,rfl,rfl,rfl⟩ rfl rfl rfl rfl rfl recallSettled_name Tryz.func16 recallSettled_joined
  (W0X (by kernel_rfl)) (by unfold Func.isWrapper;first|(rw[if_pos (by decide +kernel)];kernel_rfl)|(rw[if_neg (by decide +kernel)];exact ⟨rfl,rfl⟩))
  (λos started H enc _=>recallSettled_lifted os started H enc)
theorem recallSettled_card:Rows.RecallSettledCardSaid :=
 Claim7.holds_tied_plain_at .later [] [.funcs,.funcs,.funcs] true (true, "c78c3ff270fe74a990be3be0c8d074bef76ac0378b180a9ded0d213bc229583d") false
  recallSettled_holds (λ_ h=>by cases h) recallSettled_text (λ_ h=>by cases h) recallSettled_row_tie rfl ⟨rfl,rfl⟩ Zq6 rfl
  (λf fn hf hfn=>by
   obtain rfl:f=16:=W1M (recallSettled_name.symm.trans hf) |>.symm
   obtain rfl:fn=Tryz.f16:=(W1M (Tryz.func16.symm.trans hfn)).symm
   exact ⟨Zq7,λj t ht=>by
    have hall:(Tryz.f16.params.toList.all λu=>!prog.wantsStandIn u)=true:=(by kernel_rfl);have hm:t∈Tryz.f16.params.toList:=(by simpa using Array.mem_of_getElem? ht);exact (show prog.wantsStandIn t=false by simpa using W03.1 hall t hm)⟩)
  recallSettled_goes
end Go.Proofs.YtcdlimgkliklhaaGreatDoor

