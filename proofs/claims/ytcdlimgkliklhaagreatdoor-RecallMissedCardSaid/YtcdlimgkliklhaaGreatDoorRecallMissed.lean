/-
  RecallMissed: the row and the card.
-/
import Derived.Test.YtcdlimgkliklhaaGreatDoorNRcvToY5
import Derived.Test.YtcdlimgkliklhaaGreatDoorNPvToPv
set_option linter.all false
set_option maxHeartbeats 8000000
namespace Go.Proofs.YtcdlimgkliklhaaGreatDoor
open Go.Proofs.Tryz (prog)
open Go.ChangeShapes Go.WideShapes Go.ChangeAt Go.WideMaps Go.WideElems Go.RowKit Go.Deep
set_option maxRecDepth 100000 in
theorem recallMissed_lifted (os:Os) (started:os.Started) (H:Type) (enc:TypeId×Value->H) :
  ReturnsInHanded {} Tryz.checked os 12 .any (λw args=>(Rows.recallMissedSpec.pre enc prog Tryz.f12 [] false w args/\laidMetH prog laid7 w)/\sizedMet enc prog Tryz.f12 (OpenSpec.ofChange Rows.recallMissedSpec) false w args)
   (Rows.recallMissedSpec.post enc prog Tryz.f12 false true false false):=by
 refine returnsInHanded_of_change_and (C:=Tryz.checked) (X:=λw _=>laidMetH prog laid7 w) (λ_ _ _ hh h=>h.of_heap hh) own started (by kernel_rfl) Tryz.func12
  (ChangeSpec.witness_shaped (enc:=enc) (C:=Tryz.checked) (os:=os) (X:=λw _=>laidMetH prog laid7 w) false (World.doorLaid prog 41 os) #[.agg #[.slice none 0 0,.slice none 0 0,.slice none 0 0,.slice none 0 0],.int .u16 0,.int .u8 0] 8 rfl (World.shaped_of_RefB (by kernel_rfl) (by kernel_rfl)) (by kernel_rfl) (by kernel_rfl) (by kernel_rfl) (Zpd os _)) ?_
 intro W base args ds gs before hval0 hW _ _ hL _;have hval:∀ (j:Nat) t v,Tryz.f12.params[j]? = some t->args[j]? = some v->Value.okWide prog W .any base t v:=hval0;have hW':=hW;obtain ⟨p,q,hA0,hV,rfl,hfz,hnd⟩:=hW;have hA:DataW.TrodAll enc prog W 0 (λ_=>true) true Tryz.f12.params.toList args.toList ds p:=hA0;rw[Tryz.params12]at hA hval;obtain ⟨args⟩:=args;obtain ⟨v0,aa,d0,ds0,p0,q0,rfl,rfl,rfl,h0,hA⟩:=trodAll_cons hA;obtain ⟨v1,aa,d1,ds1,p1,q1,rfl,rfl,rfl,h1,hA⟩:=trodAll_cons hA;obtain ⟨v2,aa,d2,ds2,p2,q2,rfl,rfl,rfl,h2,hA⟩:=trodAll_cons hA;obtain ⟨rfl,rfl,rfl⟩:=trodAll_nil hA;obtain ⟨rfl,rfl⟩:=trodVars_none hV;obtain ⟨xs,t0,g0⟩:=ZkC Tryz.underlying31 (ks:=prsK) (by kernel_rfl) (hval 0 31 v0 rfl rfl) h0;obtain ⟨r,l,hs,ps,e0,hk0,hl0,hp0⟩:=Zpq t0;rw[e0]at g0;obtain ⟨x1,t1,g1⟩:=ZkD (t:=88) (k:=.int .u16) (by kernel_rfl) (by kernel_rfl) (hval 1 88 v1 rfl rfl) h1;obtain ⟨d,rfl,hb1⟩:=t1.int_inv;obtain ⟨x2,t2,g2⟩:=ZkD (t:=5) (k:=.int .u8) (by kernel_rfl) (by kernel_rfl) (hval 2 5 v2 rfl rfl) h2;obtain ⟨wh,rfl,hb2⟩:=t2.int_inv
 refine (ZkI (ZpE Zpj Zpk Zpl r l hs ps d wh hk0 hl0 hp0 (bounds_u16 hb1) (bounds_u8 hb2)) (Zpm hL) rfl (λi x u hx hu=>by
  match i,hx,hu with
  |0,hx,hu=>cases hx;cases hu;exact g0
  |1,hx,hu=>cases hx;cases hu;exact g1
  |2,hx,hu=>cases hx;cases hu;exact g2)).mono λe W' ⟨he,hE⟩=>?_
 subst he
 exact ⟨_,rfl,ZkG ZkH (by kernel_rfl) Tryz.underlying4 rfl rfl (by
  intro t ht;have hall:(Tryz.f12.params.toList.all λt=>Tryz.checked.prog.readableRec t&&decide (t<Tryz.checked.prog.types.size))=true:=(by kernel_rfl);have h3:=W03.1 hall t ht;rw[W01]at h3;exact ⟨h3.1,W0X h3.2⟩) hW' hE⟩
theorem recallMissed_wf:Rows.recallMissedRow.wf (OpenSpec.ofChange Rows.recallMissedSpec)=true:=by kernel_rfl
theorem recallMissed_name:prog.funcNamed "blueline/bluelinelaw07.RecallMissed" = some 12:=by kernel_rfl
theorem recallMissed_inPlace:(Rows.recallMissedRow.inPlace == prog.inPlace 12)=true:=by kernel_rfl
theorem recallMissed_unfollowed:(Rows.recallMissedRow.unfollowed == prog.unfollowed 12)=true:=by kernel_rfl
theorem recallMissed_recurses:(Rows.recallMissedRow.recurses == prog.recurses 12)=true:=by kernel_rfl
theorem recallMissed_named:(Rows.recallMissedRow.named == prog.varsNamed 12)=true:=by kernel_rfl
theorem recallMissed_goes:false=Rows.recallMissedRow.goesBy prog:=by kernel_rfl
theorem recallMissed_text:Rows.recallMissedRow.wfByText (.ofChange Rows.recallMissedSpec)=true:=by kernel_rfl
theorem recallMissed_joined:joinedFacts prog 12 Tryz.f12 Rows.recallMissedSpec Rows.recallMissedRow=true :=
 Zp2 recallMissed_wf Zp3 Zp4 (by kernel_rfl) recallMissed_inPlace recallMissed_unfollowed recallMissed_recurses recallMissed_named (by kernel_rfl) Zp5 rfl Zp6 Zp7 Zp8 Zp9 (by kernel_rfl)
theorem recallMissed_holds:Rows.RecallMissedSaid :=
 OpenClaim.holds_of_wide 12 Tryz.f12 rfl rfl rfl rfl rfl rfl rfl ⟨rfl,rfl,rfl,rfl,rfl⟩ rfl rfl rfl rfl rfl recallMissed_name Tryz.func12 recallMissed_joined
  (W0X (by kernel_rfl)) (by unfold Func.isWrapper;first|(rw[if_pos (by decide +kernel)];kernel_rfl)|(rw[if_neg (by decide +kernel)];exact ⟨rfl,rfl⟩))
  (λos started H enc _=>recallMissed_lifted os started H enc)
theorem recallMissed_card:Rows.RecallMissedCardSaid :=
 Claim7.holds_tied_plain_at .later [] [.funcs,.funcs,.funcs] true (true, "c78c3ff270fe74a990be3be0c8d074bef76ac0378b180a9ded0d213bc229583d") false
  recallMissed_holds (λ_ h=>by cases h) recallMissed_text (λ_ h=>by cases h) recallMissed_row_tie rfl ⟨rfl,rfl⟩ Zpa rfl
  (λf fn hf hfn=>by
   obtain rfl:f=12:=W1L (recallMissed_name.symm.trans hf) |>.symm
   obtain rfl:fn=Tryz.f12:=(W1L (Tryz.func12.symm.trans hfn)).symm
   exact ⟨Zpb,λj t ht=>by
    have hall:(Tryz.f12.params.toList.all λu=>!prog.wantsStandIn u)=true:=(by kernel_rfl);have hm:t∈Tryz.f12.params.toList:=(by simpa using Array.mem_of_getElem? ht);exact (show prog.wantsStandIn t=false by simpa using W03.1 hall t hm)⟩)
  recallMissed_goes
end Go.Proofs.YtcdlimgkliklhaaGreatDoor

