/-
  RecallReason: the row and the card.
-/
import Derived.Test.YtcdlimgkliklhaaGreatDoorKPzToPu
import Derived.Test.YtcdlimgkliklhaaGreatDoorKPvToPv
set_option linter.all false
set_option maxHeartbeats 8000000
namespace Go.Proofs.YtcdlimgkliklhaaGreatDoor
open Go.Proofs.Tryz (prog)
open Go.ChangeShapes Go.WideShapes Go.ChangeAt Go.WideMaps Go.WideElems Go.RowKit Go.Deep
set_option maxRecDepth 100000 in
theorem recallReason_lifted (os:Os) (started:os.Started) (H:Type) (enc:TypeId×Value->H) :
  ReturnsInHanded {} Tryz.checked os 15 .any (λw args=>(Rows.recallReasonSpec.pre enc prog Tryz.f15 [] false w args/\laidMetH prog laid7 w)/\sizedMet enc prog Tryz.f15 (OpenSpec.ofChange Rows.recallReasonSpec) false w args)
   (Rows.recallReasonSpec.post enc prog Tryz.f15 false true false false):=by
 refine returnsInHanded_of_change_and (C:=Tryz.checked) (X:=λw _=>laidMetH prog laid7 w) (λ_ _ _ hh h=>h.of_heap hh) own started (by kernel_rfl) Tryz.func15
  (ChangeSpec.witness_shaped (enc:=enc) (C:=Tryz.checked) (os:=os) (X:=λw _=>laidMetH prog laid7 w) false (World.doorLaid prog 41 os) #[.agg #[.slice none 0 0,.slice none 0 0,.slice none 0 0,.slice none 0 0],.int .u16 0,.int .u8 0,.int .u16 0,.int .u8 0] 8 rfl (World.shaped_of_RefB (by kernel_rfl) (by kernel_rfl)) (by kernel_rfl) (by kernel_rfl) (by kernel_rfl) (Zq3 os _)) ?_
 intro W base args ds gs before hval0 hW _ _ hL _;have hval:∀ (j:Nat) t v,Tryz.f15.params[j]? = some t->args[j]? = some v->Value.okWide prog W .any base t v:=hval0;have hW':=hW;obtain ⟨p,q,hA0,hV,rfl,hfz,hnd⟩:=hW;have hA:DataW.TrodAll enc prog W 0 (λ_=>true) true Tryz.f15.params.toList args.toList ds p:=hA0;rw[Tryz.params15]at hA hval;obtain ⟨args⟩:=args;obtain ⟨v0,aa,d0,ds0,p0,q0,rfl,rfl,rfl,h0,hA⟩:=trodAll_cons hA;obtain ⟨v1,aa,d1,ds1,p1,q1,rfl,rfl,rfl,h1,hA⟩:=trodAll_cons hA;obtain ⟨v2,aa,d2,ds2,p2,q2,rfl,rfl,rfl,h2,hA⟩:=trodAll_cons hA;obtain ⟨v3,aa,d3,ds3,p3,q3,rfl,rfl,rfl,h3,hA⟩:=trodAll_cons hA;obtain ⟨v4,aa,d4,ds4,p4,q4,rfl,rfl,rfl,h4,hA⟩:=trodAll_cons hA;obtain ⟨rfl,rfl,rfl⟩:=trodAll_nil hA;obtain ⟨rfl,rfl⟩:=trodVars_none hV;obtain ⟨xs,t0,g0⟩:=ZlA Tryz.underlying31 (ks:=prsK) (by kernel_rfl) (hval 0 31 v0 rfl rfl) h0;obtain ⟨r,l,hs,ps,e0,hk0,hl0,hp0⟩:=Zqg t0;rw[e0]at g0;obtain ⟨x1,t1,g1⟩:=ZlB (t:=88) (k:=.int .u16) (by kernel_rfl) (by kernel_rfl) (hval 1 88 v1 rfl rfl) h1;obtain ⟨d,rfl,hb1⟩:=t1.int_inv;obtain ⟨x2,t2,g2⟩:=ZlB (t:=5) (k:=.int .u8) (by kernel_rfl) (by kernel_rfl) (hval 2 5 v2 rfl rfl) h2;obtain ⟨wh,rfl,hb2⟩:=t2.int_inv;obtain ⟨x3,t3,g3⟩:=ZlB (t:=88) (k:=.int .u16) (by kernel_rfl) (by kernel_rfl) (hval 3 88 v3 rfl rfl) h3;obtain ⟨m,rfl,hb3⟩:=t3.int_inv;obtain ⟨x4,t4,g4⟩:=ZlB (t:=5) (k:=.int .u8) (by kernel_rfl) (by kernel_rfl) (hval 4 5 v4 rfl rfl) h4;obtain ⟨t,rfl,hb4⟩:=t4.int_inv
 refine (ZlG (Zq1 Zq9 Zqa Zqb r l hs ps d wh m t hk0 hl0 hp0 (bounds_u16 hb1) (bounds_u8 hb2) (bounds_u16 hb3) (bounds_u8 hb4)) (Zqc hL) rfl (λi x u hx hu=>by
  match i,hx,hu with
  |0,hx,hu=>cases hx;cases hu;exact g0
  |1,hx,hu=>cases hx;cases hu;exact g1
  |2,hx,hu=>cases hx;cases hu;exact g2
  |3,hx,hu=>cases hx;cases hu;exact g3
  |4,hx,hu=>cases hx;cases hu;exact g4)).mono λe W' ⟨he,hE⟩=>?_
 subst he
 exact ⟨_,rfl,ZlE ZlF (by kernel_rfl) Tryz.underlying4 rfl rfl (by
  intro t ht;have hall:(Tryz.f15.params.toList.all λt=>Tryz.checked.prog.readableRec t&&decide (t<Tryz.checked.prog.types.size))=true:=(by kernel_rfl);have h3:=W03.1 hall t ht;rw[W01]at h3;exact ⟨h3.1,W0X h3.2⟩) hW' hE⟩
theorem recallReason_wf:Rows.recallReasonRow.wf (OpenSpec.ofChange Rows.recallReasonSpec)=true:=by kernel_rfl
theorem recallReason_name:prog.funcNamed "blueline/bluelinelaw07.RecallReason" = some 15:=by kernel_rfl
theorem recallReason_inPlace:(Rows.recallReasonRow.inPlace == prog.inPlace 15)=true:=by kernel_rfl
theorem recallReason_unfollowed:(Rows.recallReasonRow.unfollowed == prog.unfollowed 15)=true:=by kernel_rfl
theorem recallReason_recurses:(Rows.recallReasonRow.recurses == prog.recurses 15)=true:=by kernel_rfl
theorem recallReason_named:(Rows.recallReasonRow.named == prog.varsNamed 15)=true:=by kernel_rfl
theorem recallReason_goes:false=Rows.recallReasonRow.goesBy prog:=by kernel_rfl
theorem recallReason_text:Rows.recallReasonRow.wfByText (.ofChange Rows.recallReasonSpec)=true:=by kernel_rfl
theorem recallReason_joined:joinedFacts prog 15 Tryz.f15 Rows.recallReasonSpec Rows.recallReasonRow=true :=
 Zqh recallReason_wf Zqi Zqj (by kernel_rfl) recallReason_inPlace recallReason_unfollowed recallReason_recurses recallReason_named (by kernel_rfl) Zqk rfl Zql Zqm Zqn Zqo (by kernel_rfl)
theorem recallReason_holds:Rows.RecallReasonSaid :=
 OpenClaim.holds_of_wide 15 Tryz.f15 rfl rfl rfl rfl rfl rfl rfl ⟨rfl,rfl,rfl,rfl,rfl⟩ rfl rfl rfl rfl rfl recallReason_name Tryz.func15 recallReason_joined
  (W0X (by kernel_rfl)) (by unfold Func.isWrapper;first|(rw[if_pos (by decide +kernel)];kernel_rfl)|(rw[if_neg (by decide +kernel)];exact ⟨rfl,rfl⟩))
  (λos started H enc _=>recallReason_lifted os started H enc)
theorem recallReason_card:Rows.RecallReasonCardSaid :=
 Claim7.holds_tied_plain_at .later [] [.funcs,.funcs,.funcs] true (true, "c78c3ff270fe74a990be3be0c8d074bef76ac0378b180a9ded0d213bc229583d") false
  recallReason_holds (λ_ h=>by cases h) recallReason_text (λ_ h=>by cases h) recallReason_row_tie rfl ⟨rfl,rfl⟩ Zqp rfl
  (λf fn hf hfn=>by
   obtain rfl:f=15:=W1M (recallReason_name.symm.trans hf) |>.symm
   obtain rfl:fn=Tryz.f15:=(W1M (Tryz.func15.symm.trans hfn)).symm
   exact ⟨Zqq,λj t ht=>by
    have hall:(Tryz.f15.params.toList.all λu=>!prog.wantsStandIn u)=true:=(by kernel_rfl);have hm:t∈Tryz.f15.params.toList:=(by simpa using Array.mem_of_getElem? ht);exact (show prog.wantsStandIn t=false by simpa using W03.1 hall t hm)⟩)
  recallReason_goes
end Go.Proofs.YtcdlimgkliklhaaGreatDoor

