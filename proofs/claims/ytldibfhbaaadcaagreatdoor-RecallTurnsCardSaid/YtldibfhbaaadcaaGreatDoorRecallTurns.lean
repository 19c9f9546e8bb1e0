/-
  RecallTurns: the row and the card.
-/
import Derived.Test.YtldibfhbaaadcaaGreatDoorKY8ToPu
import Derived.Test.YtldibfhbaaadcaaGreatDoorKYtToYt
set_option linter.all false
set_option maxHeartbeats 8000000
namespace Go.Proofs.YtldibfhbaaadcaaGreatDoor
open Go.Proofs.Tryz (prog)
open Go.ChangeShapes Go.WideShapes Go.ChangeAt Go.WideMaps Go.WideElems Go.RowKit Go.Deep
set_option maxRecDepth 100000 in
theorem recallTurns_lifted (os:Os) (started:os.Started) (H:Type) (enc:TypeId×Value->H) :
  ReturnsInHanded {} Tryz.checked os 3 .any (λw args=>(Rows.recallTurnsSpec.pre enc prog Tryz.f3 [] false w args/\laidMetH prog laid7 w)/\sizedMet enc prog Tryz.f3 (OpenSpec.ofChange Rows.recallTurnsSpec) false w args)
   (Rows.recallTurnsSpec.post enc prog Tryz.f3 false true false false):=by
 refine returnsInHanded_of_change_and (C:=Tryz.checked) (X:=λw _=>laidMetH prog laid7 w) (λ_ _ _ hh h=>h.of_heap hh) own started (by kernel_rfl) Tryz.func3
  (ChangeSpec.witness_shaped (enc:=enc) (C:=Tryz.checked) (os:=os) (X:=λw _=>laidMetH prog laid7 w) false (World.doorLaid prog 41 os) #[.agg #[.slice none 0 0,.slice none 0 0,.slice none 0 0,.slice none 0 0],.int .i64 0,.slice none 0 0,.slice none 0 0,.agg #[.int .i64 0,.int .i64 0,.int .i64 0,.int .i64 0,.int .i64 0,.int .i64 0,.int .u8 0]] 8 rfl (World.shaped_of_RefB (by kernel_rfl) (by kernel_rfl)) (by kernel_rfl) (by kernel_rfl) (by kernel_rfl) (Zoq os _)) ?_
 intro W base args ds gs before hval0 hW _ _ hL _;have hval:∀ (j:Nat) t v,Tryz.f3.params[j]? = some t->args[j]? = some v->Value.okWide prog W .any base t v:=hval0;have hW':=hW;obtain ⟨p,q,hA0,hV,rfl,hfz,hnd⟩:=hW;have hA:DataW.TrodAll enc prog W 0 (λ_=>true) true Tryz.f3.params.toList args.toList ds p:=hA0;rw[Tryz.params3]at hA hval;obtain ⟨args⟩:=args;obtain ⟨v0,aa,d0,ds0,p0,q0,rfl,rfl,rfl,h0,hA⟩:=trodAll_cons hA;obtain ⟨v1,aa,d1,ds1,p1,q1,rfl,rfl,rfl,h1,hA⟩:=trodAll_cons hA;obtain ⟨v2,aa,d2,ds2,p2,q2,rfl,rfl,rfl,h2,hA⟩:=trodAll_cons hA;obtain ⟨v3,aa,d3,ds3,p3,q3,rfl,rfl,rfl,h3,hA⟩:=trodAll_cons hA;obtain ⟨v4,aa,d4,ds4,p4,q4,rfl,rfl,rfl,h4,hA⟩:=trodAll_cons hA;obtain ⟨rfl,rfl,rfl⟩:=trodAll_nil hA;obtain ⟨rfl,rfl⟩:=trodVars_none hV;obtain ⟨xs,t0,g0⟩:=ZkN Tryz.underlying31 (ks:=prsK) (by kernel_rfl) (hval 0 31 v0 rfl rfl) h0;obtain ⟨r,l,hs,ps,e0,hk0,hl0,hp0⟩:=ZoD t0;rw[e0]at g0;obtain ⟨x1,t1,g1⟩:=ZkO (t:=3) (k:=.int .i64) (by kernel_rfl) (by kernel_rfl) (hval 1 3 v1 rfl rfl) h1;obtain ⟨day,rfl,hb1⟩:=t1.int_inv;obtain ⟨x2,t2,g2⟩:=ZkO (t:=32) (k:=.sl [.int .i64]) (by kernel_rfl) (by kernel_rfl) (hval 2 32 v2 rfl rfl) h2;obtain ⟨rows,rfl,-,hr⟩:=t2.sl_inv;obtain ⟨A,rfl⟩:=ZkP (f:=ia) λr h=>Zop (hr r h)
 obtain ⟨x3,t3,g3⟩:=ZkO (t:=32) (k:=.sl [.int .i64]) (by kernel_rfl) (by kernel_rfl) (hval 3 32 v3 rfl rfl) h3;obtain ⟨rows,rfl,-,hr⟩:=t3.sl_inv;obtain ⟨B,rfl⟩:=ZkP (f:=ia) λr h=>Zop (hr r h)
 obtain ⟨xs,t4,g4⟩:=ZkN Tryz.underlying36 (ks:=prtK) (by kernel_rfl) (hval 4 36 v4 rfl rfl) h4;obtain ⟨x,e4,hk4⟩:=ZoC t4;rw[e4]at g4
 refine (ZkT (Zoo Zow Zox Zoy r l hs ps day A B x hk0 hl0 hp0 hk4) (Zoz hL) rfl (λi x u hx hu=>by
  match i,hx,hu with
  |0,hx,hu=>cases hx;cases hu;exact g0
  |1,hx,hu=>cases hx;cases hu;exact g1
  |2,hx,hu=>cases hx;cases hu;exact g2
  |3,hx,hu=>cases hx;cases hu;exact g3
  |4,hx,hu=>cases hx;cases hu;exact g4)).mono λe W' ⟨he,hE⟩=>?_
 subst he
 exact ⟨_,rfl,ZkR ZkS (by kernel_rfl) Tryz.underlying4 rfl rfl (by
  intro t ht;have hall:(Tryz.f3.params.toList.all λt=>Tryz.checked.prog.readableRec t&&decide (t<Tryz.checked.prog.types.size))=true:=(by kernel_rfl);have h3:=W03.1 hall t ht;rw[W01]at h3;exact ⟨h3.1,W0X h3.2⟩) hW' hE⟩
theorem recallTurns_wf:Rows.recallTurnsRow.wf (OpenSpec.ofChange Rows.recallTurnsSpec)=true:=by kernel_rfl
theorem recallTurns_name:prog.funcNamed "blueline/bluelinelaw07.RecallTurns" = some 3:=by kernel_rfl
theorem recallTurns_inPlace:(Rows.recallTurnsRow.inPlace == prog.inPlace 3)=true:=by kernel_rfl
theorem recallTurns_unfollowed:(Rows.recallTurnsRow.unfollowed == prog.unfollowed 3)=true:=by kernel_rfl
theorem recallTurns_recurses:(Rows.recallTurnsRow.recurses == prog.recurses 3)=true:=by kernel_rfl
theorem recallTurns_named:(Rows.recallTurnsRow.named == prog.varsNamed 3)=true:=by kernel_rfl
theorem recallTurns_goes:false=Rows.recallTurnsRow.goesBy prog:=by kernel_rfl
theorem recallTurns_text:Rows.recallTurnsRow.wfByText (.ofChange Rows.recallTurnsSpec)=true:=by kernel_rfl
theorem recallTurns_joined:joinedFacts prog 3 Tryz.f3 Rows.recallTurnsSpec Rows.recallTurnsRow=true :=
 ZoE recallTurns_wf ZoF ZoG (by kernel_rfl) recallTurns_inPlace recallTurns_unfollowed recallTurns_recurses recallTurns_named (by kernel_rfl) ZoH rfl ZoI ZoJ ZoK ZoL (by kernel_rfl)
theorem recallTurns_holds:Rows.RecallTurnsSaid :=
 OpenClaim.holds_of_wide 3 Tryz.f3 rfl rfl rfl rfl rfl rfl rfl ⟨rfl,rfl,rfl,rfl,rfl⟩ rfl rfl rfl rfl rfl recallTurns_name Tryz.func3 recallTurns_joined
  (W0X (by kernel_rfl)) (by unfold Func.isWrapper;first|(rw[if_pos (by decide +kernel)];kernel_rfl)|(rw[if_neg (by decide +kernel)];exact ⟨rfl,rfl⟩))
  (λos started H enc _=>recallTurns_lifted os started H enc)
theorem recallTurns_card:Rows.RecallTurnsCardSaid :=
 Claim7.holds_tied_plain_at .later [] [.funcs,.funcs,.funcs] true (true, "9274ff8c6d01f60e9bdf2a74495164fef58a7ba4bb9a35bbb621db11e9f633f6") false
  recallTurns_holds (λ_ h=>by cases h) recallTurns_text (λ_ h=>by cases h) recallTurns_row_tie rfl ⟨rfl,rfl⟩ ZoM rfl
  (λf fn hf hfn=>by
   obtain rfl:f=3:=W1L (recallTurns_name.symm.trans hf) |>.symm
   obtain rfl:fn=Tryz.f3:=(W1L (Tryz.func3.symm.trans hfn)).symm
   exact ⟨ZoN,λj t ht=>by
    have hall:(Tryz.f3.params.toList.all λu=>!prog.wantsStandIn u)=true:=(by kernel_rfl);have hm:t∈Tryz.f3.params.toList:=(by simpa using Array.mem_of_getElem? ht);exact (show prog.wantsStandIn t=false by simpa using W03.1 hall t hm)⟩)
  recallTurns_goes
end Go.Proofs.YtldibfhbaaadcaaGreatDoor

