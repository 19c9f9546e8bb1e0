/-
  RecallLost: the row and the card.
-/
import Derived.Test.YtcdlimgkliklhaaGreatDoorJRclToQ8
import Derived.Test.YtcdlimgkliklhaaGreatDoorJPvToPv
set_option linter.all false
set_option maxHeartbeats 8000000
namespace Go.Proofs.YtcdlimgkliklhaaGreatDoor
open Go.Proofs.Tryz (prog)
open Go.ChangeShapes Go.WideShapes Go.ChangeAt Go.WideMaps Go.WideElems Go.RowKit Go.Deep
set_option maxRecDepth 100000 in
theorem recallLost_lifted (os:Os) (started:os.Started) (H:Type) (enc:TypeId×Value->H) :
  ReturnsInHanded {} Tryz.checked os 11 .any (λw args=>(Rows.recallLostSpec.pre enc prog Tryz.f11 [] false w args/\laidMetH prog laid7 w)/\sizedMet enc prog Tryz.f11 (OpenSpec.ofChange Rows.recallLostSpec) false w args)
   (Rows.recallLostSpec.post enc prog Tryz.f11 false true false false):=by
 refine returnsInHanded_of_change_and (C:=Tryz.checked) (X:=λw _=>laidMetH prog laid7 w) (λ_ _ _ hh h=>h.of_heap hh) own started (by kernel_rfl) Tryz.func11
  (ChangeSpec.witness_shaped (enc:=enc) (C:=Tryz.checked) (os:=os) (X:=λw _=>laidMetH prog laid7 w) false (World.doorLaid prog 41 os) #[.agg #[.slice none 0 0,.slice none 0 0,.slice none 0 0,.slice none 0 0],.int .u16 0,.int .u8 0] 8 rfl (World.shaped_of_RefB (by kernel_rfl) (by kernel_rfl)) (by kernel_rfl) (by kernel_rfl) (by kernel_rfl) (Zq8 os _)) ?_
 intro W base args ds gs before hval0 hW _ _ hL _;have hval:∀ (j:Nat) t v,Tryz.f11.params[j]? = some t->args[j]? = some v->Value.okWide prog W .any base t v:=hval0;have hW':=hW;obtain ⟨p,q,hA0,hV,rfl,hfz,hnd⟩:=hW;have hA:DataW.TrodAll enc prog W 0 (λ_=>true) true Tryz.f11.params.toList args.toList ds p:=hA0;rw[Tryz.params11]at hA hval;obtain ⟨args⟩:=args;obtain ⟨v0,aa,d0,ds0,p0,q0,rfl,rfl,rfl,h0,hA⟩:=trodAll_cons hA;obtain ⟨v1,aa,d1,ds1,p1,q1,rfl,rfl,rfl,h1,hA⟩:=trodAll_cons hA;obtain ⟨v2,aa,d2,ds2,p2,q2,rfl,rfl,rfl,h2,hA⟩:=trodAll_cons hA;obtain ⟨rfl,rfl,rfl⟩:=trodAll_nil hA;obtain ⟨rfl,rfl⟩:=trodVars_none hV;obtain ⟨xs,t0,g0⟩:=Zlu Tryz.underlying31 (ks:=prsK) (by kernel_rfl) (hval 0 31 v0 rfl rfl) h0;obtain ⟨r,l,hs,ps,e0,hk0,hl0,hp0⟩:=Zql t0;rw[e0]at g0;obtain ⟨x1,t1,g1⟩:=Zlv (t:=88) (k:=.int .u16) (by kernel_rfl) (by kernel_rfl) (hval 1 88 v1 rfl rfl) h1;obtain ⟨d,rfl,hb1⟩:=t1.int_inv;obtain ⟨x2,t2,g2⟩:=Zlv (t:=5) (k:=.int .u8) (by kernel_rfl) (by kernel_rfl) (hval 2 5 v2 rfl rfl) h2;obtain ⟨wh,rfl,hb2⟩:=t2.int_inv
 refine (ZlA (ZqU Zqe Zqf Zqg r l hs ps d wh hk0 hl0 hp0 (bounds_u16 hb1) (bounds_u8 hb2)) (Zqh hL) rfl (λi x u hx hu=>by
  match i,hx,hu with
  |0,hx,hu=>cases hx;cases hu;exact g0
  |1,hx,hu=>cases hx;cases hu;exact g1
  |2,hx,hu=>cases hx;cases hu;exact g2)).mono λe W' ⟨he,hE⟩=>?_
 subst he
 exact ⟨_,rfl,Zly Zlz (by kernel_rfl) Tryz.underlying4 rfl rfl (by
  intro t ht;have hall:(Tryz.f11.params.toList.all λt=>Tryz.checked.prog.readableRec t&&decide (t<Tryz.checked.prog.types.size))=true:=(by kernel_rfl);have h3:=W03.1 hall t ht;rw[W01]at h3;exact ⟨h3.1,W0X h3.2⟩) hW' hE⟩
theorem recallLost_wf:Rows.recallLostRow.wf (OpenSpec.ofChange Rows.recallLostSpec)=true:=by kernel_rfl
theorem recallLost_name:prog.funcNamed "blueline/bluelinelaw07.RecallLost" = some 11:=by kernel_rfl
theorem recallLost_inPlace:(Rows.recallLostRow.inPlace == prog.inPlace 11)=true:=by kernel_rfl
theorem recallLost_unfollowed:(Rows.recallLostRow.unfollowed == prog.unfollowed 11)=true:=by kernel_rfl
theorem recallLost_recurses:(Rows.recallLostRow.recurses == prog.recurses 11)=true:=by kernel_rfl
theorem recallLost_named:(Rows.recallLostRow.named == prog.varsNamed 11)=true:=by kernel_rfl
theorem recallLost_goes:false=Rows.recallLostRow.goesBy prog:=by kernel_rfl
theorem recallLost_text:Rows.recallLostRow.wfByText (.ofChange Rows.recallLostSpec)=true:=by kernel_rfl
theorem recallLost_joined:joinedFacts prog 11 Tryz.f11 Rows.recallLostSpec Rows.recallLostRow=true :=
 ZpG recallLost_wf ZpH ZpI (by kernel_rfl) recallLost_inPlace recallLost_unfollowed recallLost_recurses recallLost_named (by kernel_rfl) ZpJ rfl ZpK ZpL ZpM ZpN (by kernel_rfl)
theorem recallLost_holds:Rows.RecallLostSaid :=
 OpenClaim.holds_of_wide 11 Tryz.f11 rfl rfl rfl rfl rfl rfl rfl ⟨rfl,rfl,rfl,rfl,rfl⟩ rfl rfl rfl rfl rfl recallLost_name Tryz.func11 recallLost_joined
  (W0X (by kernel_rfl)) (by unfold Func.isWrapper;first|(rw[if_pos (by decide +kernel)];kernel_rfl)|(rw[if_neg (by decide +kernel)];exact ⟨rfl,rfl⟩))
  (λos started H enc _=>recallLost_lifted os started H enc)
theorem recallLost_card:Rows.RecallLostCardSaid :=
 Claim7.holds_tied_plain_at .later [] [.funcs,.funcs,.funcs] true (true, "c78c3ff270fe74a990be3be0c8d074bef76ac0378b180a9ded0d213bc229583d") false
  recallLost_holds (λ_ h=>by cases h) recallLost_text (λ_ h=>by cases h) recallLost_row_tie rfl ⟨rfl,rfl⟩ ZpO rfl
  (λf fn hf hfn=>by
   obtain rfl:f=11:=W1L (recallLost_name.symm.trans hf) |>.symm
   obtain rfl:fn=Tryz.f11:=(W1L (Tryz.func11.symm.trans hfn)).symm
   exact ⟨ZpP,λj t ht=>by
    have hall:(Tryz.f11.params.toList.all λu=>!prog.wantsStandIn u)=true:=(by kernel_rfl);have hm:t∈Tryz.f11.params.toList:=(by simpa using Array.mem_of_getElem? ht);exact (show prog.wantsStandIn t=false by simpa using W03.1 hall t hm)⟩)
  recallLost_goes
end Go.Proofs.YtcdlimgkliklhaaGreatDoor

