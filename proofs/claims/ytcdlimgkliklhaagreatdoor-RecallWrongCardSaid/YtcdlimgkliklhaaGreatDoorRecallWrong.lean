/-
  RecallWrong: the row and the card.
-/
import Derived.Test.YtcdlimgkliklhaaGreatDoorJZnToQ3
import Derived.Test.YtcdlimgkliklhaaGreatDoorJPvToPv
set_option linter.all false
set_option maxHeartbeats 8000000
namespace Go.Proofs.YtcdlimgkliklhaaGreatDoor
open Go.Proofs.Tryz (prog)
open Go.ChangeShapes Go.WideShapes Go.ChangeAt Go.WideMaps Go.WideElems Go.RowKit Go.Deep
set_option maxRecDepth 100000 in
theorem recallWrong_lifted (os:Os) (started:os.Started) (H:Type) (enc:TypeId×Value->H) :
  ReturnsInHanded {} Tryz.checked os 14 .any (λw args=>(Rows.recallWrongSpec.pre enc prog Tryz.f14 [] false w args/\laidMetH prog laid7 w)/\sizedMet enc prog Tryz.f14 (OpenSpec.ofChange Rows.recallWrongSpec) false w args)
   (Rows.recallWrongSpec.post enc prog Tryz.f14 false true false false):=by
 refine returnsInHanded_of_change_and (C:=Tryz.checked) (X:=λw _=>laidMetH prog laid7 w) (λ_ _ _ hh h=>h.of_heap hh) own started (by kernel_rfl) Tryz.func14
  (ChangeSpec.witness_shaped (enc:=enc) (C:=Tryz.checked) (os:=os) (X:=λw _=>laidMetH prog laid7 w) false (World.doorLaid prog 41 os) #[.agg #[.slice none 0 0,.slice none 0 0,.slice none 0 0,.slice none 0 0],.int .u16 0,.int .u8 0,.int .u8 0,.int .u16 0] 8 rfl (World.shaped_of_RefB (by kernel_rfl) (by kernel_rfl)) (by kernel_rfl) (by kernel_rfl) (by kernel_rfl) (Zq8 os _)) ?_
 intro W base args ds gs before hval0 hW _ _ hL _;have hval:∀ (j:Nat) t v,Tryz.f14.params[j]? = some t->args[j]? = some v->Value.okWide prog W .any base t v:=hval0;have hW':=hW;obtain ⟨p,q,hA0,hV,rfl,hfz,hnd⟩:=hW;have hA:DataW.TrodAll enc prog W 0 (λ_=>true) true Tryz.f14.params.toList args.toList ds p:=hA0;rw[Tryz.params14]at hA hval;obtain ⟨args⟩:=args;obtain ⟨v0,aa,d0,ds0,p0,q0,rfl,rfl,rfl,h0,hA⟩:=trodAll_cons hA;obtain ⟨v1,aa,d1,ds1,p1,q1,rfl,rfl,rfl,h1,hA⟩:=trodAll_cons hA;obtain ⟨v2,aa,d2,ds2,p2,q2,rfl,rfl,rfl,h2,hA⟩:=trodAll_cons hA;obtain ⟨v3,aa,d3,ds3,p3,q3,rfl,rfl,rfl,h3,hA⟩:=trodAll_cons hA;obtain ⟨v4,aa,d4,ds4,p4,q4,rfl,rfl,rfl,h4,hA⟩:=trodAll_cons hA;obtain ⟨rfl,rfl,rfl⟩:=trodAll_nil hA;obtain ⟨rfl,rfl⟩:=trodVars_none hV;obtain ⟨xs,t0,g0⟩:=Zlu Tryz.underlying31 (ks:=prsK) (by kernel_rfl) (hval 0 31 v0 rfl rfl) h0;obtain ⟨r,l,hs,ps,e0,hk0,hl0,hp0⟩:=Zql t0;rw[e0]at g0;obtain ⟨x1,t1,g1⟩:=Zlv (t:=88) (k:=.int .u16) (by kernel_rfl) (by kernel_rfl) (hval 1 88 v1 rfl rfl) h1;obtain ⟨d,rfl,hb1⟩:=t1.int_inv;obtain ⟨x2,t2,g2⟩:=Zlv (t:=5) (k:=.int .u8) (by kernel_rfl) (by kernel_rfl) (hval 2 5 v2 rfl rfl) h2;obtain ⟨wh,rfl,hb2⟩:=t2.int_inv;obtain ⟨x3,t3,g3⟩:=Zlv (t:=5) (k:=.int .u8) (by kernel_rfl) (by kernel_rfl) (hval 3 5 v3 rfl rfl) h3;obtain ⟨f,rfl,hb3⟩:=t3.int_inv;obtain ⟨x4,t4,g4⟩:=Zlv (t:=88) (k:=.int .u16) (by kernel_rfl) (by kernel_rfl) (hval 4 88 v4 rfl rfl) h4;obtain ⟨m,rfl,hb4⟩:=t4.int_inv
 refine (ZlA (Zr4 Zqe Zqf Zqg r l hs ps d wh f m hk0 hl0 hp0 (bounds_u16 hb1) (bounds_u8 hb2) (bounds_u8 hb3) (bounds_u16 hb4)) (Zqh hL) rfl (λi x u hx hu=>by
  match i,hx,hu with
  |0,hx,hu=>cases hx;cases hu;exact g0
  |1,hx,hu=>cases hx;cases hu;exact g1
  |2,hx,hu=>cases hx;cases hu;exact g2
  |3,hx,hu=>cases hx;cases hu;exact g3
  |4,hx,hu=>cases hx;cases hu;exact g4)).mono λe W' ⟨he,hE⟩=>?_
 subst he
 exact ⟨_,rfl,Zly Zlz (by kernel_rfl) Tryz.underlying4 rfl rfl (by
  intro t ht;have hall:(Tryz.f14.params.toList.all λt=>Tryz.checked.prog.readableRec t&&decide (t<Tryz.checked.prog.types.size))=true:=(by kernel_rfl);have h3:=W03.1 hall t ht;rw[W01]at h3;exact ⟨h3.1,W0X h3.2⟩) hW' hE⟩
theorem recallWrong_wf:Rows.recallWrongRow.wf (OpenSpec.ofChange Rows.recallWrongSpec)=true:=by kernel_rfl
theorem recallWrong_name:prog.funcNamed "blueline/bluelinelaw07.RecallWrong" = some 14:=by kernel_rfl
theorem recallWrong_inPlace:(Rows.recallWrongRow.inPlace == prog.inPlace 14)=true:=by kernel_rfl
theorem recallWrong_unfollowed:(Rows.recallWrongRow.unfollowed == prog.unfollowed 14)=true:=by kernel_rfl
theorem recallWrong_recurses:(Rows.recallWrongRow.recurses == prog.recurses 14)=true:=by kernel_rfl
theorem recallWrong_named:(Rows.recallWrongRow.named == prog.varsNamed 14)=true:=by kernel_rfl
theorem recallWrong_goes:false=Rows.recallWrongRow.goesBy prog:=by kernel_rfl
theorem recallWrong_text:Rows.recallWrongRow.wfByText (.ofChange Rows.recallWrongSpec)=true:=by kernel_rfl
theorem recallWrong_joined:joinedFacts prog 14 Tryz.f14 Rows.recallWrongSpec Rows.recallWrongRow=true :=
 ZpG recallWrong_wf ZpH ZpI (by kernel_rfl) recallWrong_inPlace recallWrong_unfollowed recallWrong_recurses recallWrong_named (by kernel_rfl) ZpJ rfl ZpK ZpL ZpM ZpN (by kernel_rfl)
theorem recallWrong_holds:Rows.RecallWrongSaid :=
 OpenClaim.holds_of_wide 14 Tryz.f14 rfl rfl rfl rfl rfl rfl rfl ⟨rfl,rfl,rfl,rfl,rfl⟩ rfl rfl rfl rfl rfl recallWrong_name Tryz.func14 recallWrong_joined
  (W0X (by kernel_rfl)) (by unfold Func.isWrapper;first|(rw[if_pos (by decide +kernel)];kernel_rfl)|(rw[if_neg (by decide +kernel)];exact ⟨rfl,rfl⟩))
  (λos started H enc _=>recallWrong_lifted os started H enc)
theorem recallWrong_card:Rows.RecallWrongCardSaid :=
 Claim7.holds_tied_plain_at .later [] [.funcs,.funcs,.funcs] true (true, "c78c3ff270fe74a990be3be0c8d074bef76ac0378b180a9ded0d213bc229583d") false
  recallWrong_holds (λ_ h=>by cases h) recallWrong_text (λ_ h=>by cases h) recallWrong_row_tie rfl ⟨rfl,rfl⟩ ZpO rfl
  (λf fn hf hfn=>by
   obtain rfl:f=14:=W1L (recallWrong_name.symm.trans hf) |>.symm
   obtain rfl:fn=Tryz.f14:=(W1L (Tryz.func14.symm.trans hfn)).symm
   exact ⟨ZpP,λj t ht=>by
    have hall:(Tryz.f14.params.toList.all λu=>!prog.wantsStandIn u)=true:=(by kernel_rfl);have hm:t∈Tryz.f14.params.toList:=(by simpa using Array.mem_of_getElem? ht);exact (show prog.wantsStandIn t=false by simpa using W03.1 hall t hm)⟩)
  recallWrong_goes
end Go.Proofs.YtcdlimgkliklhaaGreatDoor

