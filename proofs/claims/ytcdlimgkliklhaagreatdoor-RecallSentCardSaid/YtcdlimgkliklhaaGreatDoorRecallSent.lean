/-
  RecallSent: the row and the card.
-/
import Derived.Test.YtcdlimgkliklhaaGreatDoorNRcuToY4
import Derived.Test.YtcdlimgkliklhaaGreatDoorNPvToPv
set_option linter.all false
set_option maxHeartbeats 8000000
namespace Go.Proofs.YtcdlimgkliklhaaGreatDoor
open Go.Proofs.Tryz (prog)
open Go.ChangeShapes Go.WideShapes Go.ChangeAt Go.WideMaps Go.WideElems Go.RowKit Go.Deep
set_option maxRecDepth 100000 in
theorem recallSent_lifted (os:Os) (started:os.Started) (H:Type) (enc:TypeId×Value->H) :
  ReturnsInHanded {} Tryz.checked os 13 .any (λw args=>(Rows.recallSentSpec.pre enc prog Tryz.f13 [] false w args/\laidMetH prog laid7 w)/\sizedMet enc prog Tryz.f13 (OpenSpec.ofChange Rows.recallSentSpec) false w args)
   (Rows.recallSentSpec.post enc prog Tryz.f13 false true false false):=by
 refine returnsInHanded_of_change_and (C:=Tryz.checked) (X:=λw _=>laidMetH prog laid7 w) (λ_ _ _ hh h=>h.of_heap hh) own started (by kernel_rfl) Tryz.func13
  (ChangeSpec.witness_shaped (enc:=enc) (C:=Tryz.checked) (os:=os) (X:=λw _=>laidMetH prog laid7 w) false (World.doorLaid prog 41 os) #[.agg #[.slice none 0 0,.slice none 0 0,.slice none 0 0,.slice none 0 0],.agg #[.int .i64 0,.int .i64 0,.int .i64 0,.int .i64 0,.int .i64 0,.int .i64 0,.int .u8 0],.int .u16 0] 8 rfl (World.shaped_of_RefB (by kernel_rfl) (by kernel_rfl)) (by kernel_rfl) (by kernel_rfl) (by kernel_rfl) (Zpd os _)) ?_
 intro W base args ds gs before hval0 hW _ _ hL _;have hval:∀ (j:Nat) t v,Tryz.f13.params[j]? = some t->args[j]? = some v->Value.okWide prog W .any base t v:=hval0;have hW':=hW;obtain ⟨p,q,hA0,hV,rfl,hfz,hnd⟩:=hW;have hA:DataW.TrodAll enc prog W 0 (λ_=>true) true Tryz.f13.params.toList args.toList ds p:=hA0;rw[Tryz.params13]at hA hval;obtain ⟨args⟩:=args;obtain ⟨v0,aa,d0,ds0,p0,q0,rfl,rfl,rfl,h0,hA⟩:=trodAll_cons hA;obtain ⟨v1,aa,d1,ds1,p1,q1,rfl,rfl,rfl,h1,hA⟩:=trodAll_cons hA;obtain ⟨v2,aa,d2,ds2,p2,q2,rfl,rfl,rfl,h2,hA⟩:=trodAll_cons hA;obtain ⟨rfl,rfl,rfl⟩:=trodAll_nil hA;obtain ⟨rfl,rfl⟩:=trodVars_none hV;obtain ⟨xs,t0,g0⟩:=ZkC Tryz.underlying31 (ks:=prsK) (by kernel_rfl) (hval 0 31 v0 rfl rfl) h0;obtain ⟨r,l,hs,ps,e0,hk0,hl0,hp0⟩:=Zpq t0;rw[e0]at g0;obtain ⟨xs,t1,g1⟩:=ZkC Tryz.underlying70 (ks:=prtK) (by kernel_rfl) (hval 1 70 v1 rfl rfl) h1;obtain ⟨x,e1,hk1⟩:=Zpp t1;rw[e1]at g1;obtain ⟨x2,t2,g2⟩:=ZkD (t:=88) (k:=.int .u16) (by kernel_rfl) (by kernel_rfl) (hval 2 88 v2 rfl rfl) h2;obtain ⟨d,rfl,hb2⟩:=t2.int_inv
 refine (ZkI (ZpM Zpj Zpk Zpl r l hs ps x d hk0 hl0 hp0 hk1 (bounds_u16 hb2)) (Zpm hL) rfl (λi x u hx hu=>by
  match i,hx,hu with
  |0,hx,hu=>cases hx;cases hu;exact g0
  |1,hx,hu=>cases hx;cases hu;exact g1
  |2,hx,hu=>cases hx;cases hu;exact g2)).mono λe W' ⟨he,hE⟩=>?_
 subst he
 exact ⟨_,rfl,ZkG ZkH (by kernel_rfl) Tryz.underlying4 rfl rfl (by
  intro t ht;have hall:(Tryz.f13.params.toList.all λt=>Tryz.checked.prog.readableRec t&&decide (t<Tryz.checked.prog.types.size))=true:=(by kernel_rfl);have h3:=W03.1 hall t ht;rw[W01]at h3;exact ⟨h3.1,W0X h3.2⟩) hW' hE⟩
theorem recallSent_wf:Rows.recallSentRow.wf (OpenSpec.ofChange Rows.recallSentSpec)=true:=by kernel_rfl
theorem recallSent_name:prog.funcNamed "blueline/bluelinelaw07.RecallSent" = some 13:=by kernel_rfl
theorem recallSent_inPlace:(Rows.recallSentRow.inPlace == prog.inPlace 13)=true:=by kernel_rfl
theorem recallSent_unfollowed:(Rows.recallSentRow.unfollowed == prog.unfollowed 13)=true:=by kernel_rfl
theorem recallSent_recurses:(Rows.recallSentRow.recurses == prog.recurses 13)=true:=by kernel_rfl
theorem recallSent_named:(Rows.recallSentRow.named == prog.varsNamed 13)=true:=by kernel_rfl
theorem recallSent_goes:false=Rows.recallSentRow.goesBy prog:=by kernel_rfl
theorem recallSent_text:Rows.recallSentRow.wfByText (.ofChange Rows.recallSentSpec)=true:=by kernel_rfl
theorem recallSent_joined:joinedFacts prog 13 Tryz.f13 Rows.recallSentSpec Rows.recallSentRow=true :=
 Zp2 recallSent_wf Zp3 Zp4 (by kernel_rfl) recallSent_inPlace recallSent_unfollowed recallSent_recurses recallSent_named (by kernel_rfl) Zp5 rfl Zp6 Zp7 Zp8 Zp9 (by kernel_rfl)
theorem recallSent_holds:Rows.RecallSentSaid :=
 OpenClaim.holds_of_wide 13 Tryz.f13 rfl rfl rfl rfl rfl rfl rfl ⟨rfl,rfl,rfl,rfl,rfl⟩ rfl rfl rfl rfl rfl recallSent_name Tryz.func13 recallSent_joined
  (W0X (by kernel_rfl)) (by unfold Func.isWrapper;first|(rw[if_pos (by decide +kernel)];kernel_rfl)|(rw[if_neg (by decide +kernel)];exact ⟨rfl,rfl⟩))
  (λos started H enc _=>recallSent_lifted os started H enc)
theorem recallSent_card:Rows.RecallSentCardSaid :=
 Claim7.holds_tied_plain_at .later [] [.funcs,.funcs,.funcs] true (true, "c78c3ff270fe74a990be3be0c8d074bef76ac0378b180a9ded0d213bc229583d") false
  recallSent_holds (λ_ h=>by cases h) recallSent_text (λ_ h=>by cases h) recallSent_row_tie rfl ⟨rfl,rfl⟩ Zpa rfl
  (λf fn hf hfn=>by
   obtain rfl:f=13:=W1L (recallSent_name.symm.trans hf) |>.symm
   obtain rfl:fn=Tryz.f13:=(W1L (Tryz.func13.symm.trans hfn)).symm
   exact ⟨Zpb,λj t ht=>by
    have hall:(Tryz.f13.params.toList.all λu=>!prog.wantsStandIn u)=true:=(by kernel_rfl);have hm:t∈Tryz.f13.params.toList:=(by simpa using Array.mem_of_getElem? ht);exact (show prog.wantsStandIn t=false by simpa using W03.1 hall t hm)⟩)
  recallSent_goes
end Go.Proofs.YtcdlimgkliklhaaGreatDoor

