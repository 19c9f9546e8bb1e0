/-
  SwapTurned: the row and the card.
-/
import Derived.Test.YtjogcghofinemaaGreatDoorJWaToYu
import Derived.Test.YtjogcghofinemaaGreatDoorTie
import Derived.Test.YtjogcghofinemaaGreatDoorCards
set_option linter.all false
set_option linter.unusedSimpArgs false
set_option linter.unusedVariables false
set_option linter.unusedSectionVars false
namespace Go.Proofs.YtjogcghofinemaaGreatDoor
open Go.ChangeShapes Go.WideShapes Go.ChangeAt Go.WideMaps Go.WideElems Go.RowKit Go.Deep
set_option maxRecDepth 100000 in
theorem swapTurned_lifted (os:Os) (started:os.Started) (H:Type) (enc:TypeId×Value->H) :
  ReturnsInHanded {} Tryz.checked os 10 .any (λw args=>(Rows.swapTurnedSpec.pre enc Tryz.prog Tryz.f10 [] false w args/\laidMetH Tryz.prog laid5 w)/\sizedMet enc Tryz.prog Tryz.f10 (OpenSpec.ofChange Rows.swapTurnedSpec) false w args)
   (Rows.swapTurnedSpec.post enc Tryz.prog Tryz.f10 false true false false):=by
 refine returnsInHanded_of_change_and (C:=Tryz.checked) (X:=λw _=>laidMetH Tryz.prog laid5 w) (λ_ _ _ hh h=>h.of_heap hh) own started (by kernel_rfl) Tryz.func10
  (ChangeSpec.witness_shaped (enc:=enc) (C:=Tryz.checked) (os:=os) (X:=λw _=>laidMetH Tryz.prog laid5 w) false (World.doorLaid Tryz.prog 41 os) #[.agg #[.slice none 0 0,.slice none 0 0,.slice none 0 0],.int .u8 0,.int .u16 0,.int .u16 0,.int .u8 0,.int .u8 0] 8 rfl (World.shaped_of_RefB (by kernel_rfl) (by kernel_rfl)) (by kernel_rfl) (by kernel_rfl) (by kernel_rfl) (Zo4 os _)) ?_
 intro W base args ds gs before hval0 hW _ _ hL _;have hval:∀ (j:Nat) t v,Tryz.f10.params[j]? = some t->args[j]? = some v->Value.okWide Tryz.prog W .any base t v:=hval0;have hW':=hW;obtain ⟨p,q,hA0,hV,rfl,hfz,hnd⟩:=hW;have hA:DataW.TrodAll enc Tryz.prog W 0 (λ_=>true) true Tryz.f10.params.toList args.toList ds p:=hA0;rw[Tryz.params10]at hA hval;obtain ⟨args⟩:=args;obtain ⟨v0,aa,d0,ds0,p0,q0,rfl,rfl,rfl,h0,hA⟩:=trodAll_cons hA;obtain ⟨v1,aa,d1,ds1,p1,q1,rfl,rfl,rfl,h1,hA⟩:=trodAll_cons hA;obtain ⟨v2,aa,d2,ds2,p2,q2,rfl,rfl,rfl,h2,hA⟩:=trodAll_cons hA;obtain ⟨v3,aa,d3,ds3,p3,q3,rfl,rfl,rfl,h3,hA⟩:=trodAll_cons hA;obtain ⟨v4,aa,d4,ds4,p4,q4,rfl,rfl,rfl,h4,hA⟩:=trodAll_cons hA;obtain ⟨v5,aa,d5,ds5,p5,q5,rfl,rfl,rfl,h5,hA⟩:=trodAll_cons hA;obtain ⟨rfl,rfl,rfl⟩:=trodAll_nil hA;obtain ⟨rfl,rfl⟩:=trodVars_none hV;obtain ⟨xs,t0,g0⟩:=Zmj Tryz.underlying30 (ks:=swpK) (by kernel_rfl) (hval 0 30 v0 rfl rfl) h0;obtain ⟨r,l,q,e0,hk0,hl0⟩:=Zog t0;rw[e0]at g0;obtain ⟨x1,t1,g1⟩:=Zmk (t:=5) (k:=.int .u8) (by kernel_rfl) (by kernel_rfl) (hval 1 5 v1 rfl rfl) h1;obtain ⟨t,rfl,hb1⟩:=t1.int_inv;obtain ⟨x2,t2,g2⟩:=Zmk (t:=31) (k:=.int .u16) (by kernel_rfl) (by kernel_rfl) (hval 2 31 v2 rfl rfl) h2;obtain ⟨m,rfl,hb2⟩:=t2.int_inv;obtain ⟨x3,t3,g3⟩:=Zmk (t:=31) (k:=.int .u16) (by kernel_rfl) (by kernel_rfl) (hval 3 31 v3 rfl rfl) h3;obtain ⟨d,rfl,hb3⟩:=t3.int_inv;obtain ⟨x4,t4,g4⟩:=Zmk (t:=5) (k:=.int .u8) (by kernel_rfl) (by kernel_rfl) (hval 4 5 v4 rfl rfl) h4;obtain ⟨a,rfl,hb4⟩:=t4.int_inv;obtain ⟨x5,t5,g5⟩:=Zmk (t:=5) (k:=.int .u8) (by kernel_rfl) (by kernel_rfl) (hval 5 5 v5 rfl rfl) h5;obtain ⟨b,rfl,hb5⟩:=t5.int_inv
 refine (Zmp (Zo3 Zoa Zob Zoc r l q t m d a b hk0 hl0 (bounds_u8 hb1) (Zoh hb2) (Zoh hb3) (bounds_u8 hb4) (bounds_u8 hb5)) (Zod hL) rfl (λi x u hx hu=>by
  match i,hx,hu with
  |0,hx,hu=>cases hx;cases hu;exact g0
  |1,hx,hu=>cases hx;cases hu;exact g1
  |2,hx,hu=>cases hx;cases hu;exact g2
  |3,hx,hu=>cases hx;cases hu;exact g3
  |4,hx,hu=>cases hx;cases hu;exact g4
  |5,hx,hu=>cases hx;cases hu;exact g5)).mono λe W' ⟨he,hE⟩=>?_
 subst he
 exact ⟨_,rfl,Zmn Zmo (by kernel_rfl) Tryz.underlying4 rfl rfl (by
  intro t ht;have hall:(Tryz.f10.params.toList.all λt=>Tryz.checked.prog.readableRec t&&decide (t<Tryz.checked.prog.types.size))=true:=(by kernel_rfl);have h3:=List.all_eq_true.1 hall t ht;rw[Bool.and_eq_true]at h3;exact ⟨h3.1,of_decide_eq_true h3.2⟩) hW' hE⟩
theorem swapTurned_holds:Rows.SwapTurnedSaid :=
 OpenClaim.holds_of_wide 10 Tryz.f10 rfl rfl rfl rfl rfl rfl rfl ⟨rfl,rfl,rfl,rfl,rfl⟩ rfl rfl rfl rfl rfl (by kernel_rfl) Tryz.func10 (by kernel_rfl)
  (of_decide_eq_true (by kernel_rfl)) (by unfold Func.isWrapper;first|(rw[if_pos (by decide +kernel)];kernel_rfl)|(rw[if_neg (by decide +kernel)];exact ⟨rfl,rfl⟩))
  (λos started H enc _=>swapTurned_lifted os started H enc)
theorem swapTurned_card:Rows.SwapTurnedCardSaid :=
 Claim7.holds_tied_plain_at .later [] [.funcs,.funcs,.funcs] true (true, "a7c7fdb8bf71b350a889fd4614f778c3c8a79eed60248f62fd1a4618fb07f57f") false
  swapTurned_holds (λ_ h=>by cases h) (by kernel_rfl) (λ_ h=>by cases h) swapTurned_row_tie rfl ⟨rfl,rfl⟩ (by kernel_rfl) rfl
  (λf fn hf hfn=>by
   obtain rfl:f=10:=Option.some.inj ((show Tryz.prog.funcNamed "blueline/bluelinelaw05.SwapTurned" = some 10 by kernel_rfl).symm.trans hf) |>.symm
   obtain rfl:fn=Tryz.f10:=(Option.some.inj (Tryz.func10.symm.trans hfn)).symm
   exact ⟨by kernel_rfl,λj t ht=>by
    have hall:(Tryz.f10.params.toList.all λu=>!Tryz.prog.wantsStandIn u)=true:=(by kernel_rfl);have hm:t∈Tryz.f10.params.toList:=(by simpa using Array.mem_of_getElem? ht);exact (show Tryz.prog.wantsStandIn t=false by simpa using List.all_eq_true.1 hall t hm)⟩)
  (by kernel_rfl)
end Go.Proofs.YtjogcghofinemaaGreatDoor

