/-
  SheetSized: the row and the card.
-/
import Derived.Test.YthlcppdbldkldaaDoorKHhToKc
import Derived.Test.YthlcppdbldkldaaDoorTie
import Derived.Test.YthlcppdbldkldaaDoorCards
set_option linter.all false
set_option maxHeartbeats 8000000
namespace Go.Proofs.YthlcppdbldkldaaDoor
open Go.Proofs.Tryd (prog)
open Go.ChangeShapes Go.WideShapes Go.ChangeAt Go.WideMaps Go.WideElems Go.RowKit Go.Deep
set_option maxRecDepth 100000 in
theorem sheetSized_lifted (os:Os) (started:os.Started) (H:Type) (enc:TypeId×Value->H) :
  ReturnsInHanded {} Tryd.checked os 4 .any (λw args=>(Rows.sheetSizedSpec.pre enc prog Tryd.f4 [] false w args/\laidMetH prog laid2 w)/\sizedMet enc prog Tryd.f4 (OpenSpec.ofChange Rows.sheetSizedSpec) false w args)
   (Rows.sheetSizedSpec.post enc prog Tryd.f4 false true false false):=by
 refine returnsInHanded_of_change_and (C:=Tryd.checked) (X:=λw _=>laidMetH prog laid2 w) (λ_ _ _ hh h=>h.of_heap hh) own started (by kernel_rfl) Tryd.func4
  (ChangeSpec.witness_shaped (enc:=enc) (C:=Tryd.checked) (os:=os) (X:=λw _=>laidMetH prog laid2 w) false (World.doorLaid prog 41 os) #[.agg #[.slice none 0 0],.int .u8 0,.agg #[.int .i64 0,.int .i64 0,.int .i64 0]] 8 rfl (World.shaped_of_RefB (by kernel_rfl) (by kernel_rfl)) (by kernel_rfl) (by kernel_rfl) (by kernel_rfl) (ZfE os _)) ?_
 intro W base args ds gs before hval0 hW _ _ hL _;have hval:∀ (j:Nat) t v,Tryd.f4.params[j]? = some t->args[j]? = some v->Value.okWide prog W .any base t v:=hval0;have hW':=hW;obtain ⟨p,q,hA0,hV,rfl,hfz,hnd⟩:=hW;have hA:DataW.TrodAll enc prog W 0 (λ_=>true) true Tryd.f4.params.toList args.toList ds p:=hA0;rw[Tryd.params4]at hA hval;obtain ⟨args⟩:=args;obtain ⟨v0,aa,d0,ds0,p0,q0,rfl,rfl,rfl,h0,hA⟩:=trodAll_cons hA;obtain ⟨v1,aa,d1,ds1,p1,q1,rfl,rfl,rfl,h1,hA⟩:=trodAll_cons hA;obtain ⟨v2,aa,d2,ds2,p2,q2,rfl,rfl,rfl,h2,hA⟩:=trodAll_cons hA;obtain ⟨rfl,rfl,rfl⟩:=trodAll_nil hA;obtain ⟨rfl,rfl⟩:=trodVars_none hV;obtain ⟨xs,t0,g0⟩:=Zfw Tryd.underlying24 (ks:=[.sl isK2]) (by kernel_rfl) (hval 0 24 v0 rfl rfl) h0;obtain ⟨r,e0,hk0⟩:=ZfN t0;rw[e0]at g0;obtain ⟨x1,t1,g1⟩:=Zfx (t:=5) (k:=.int .u8) (by kernel_rfl) (by kernel_rfl) (hval 1 5 v1 rfl rfl) h1;obtain ⟨w,rfl,hb1⟩:=t1.int_inv;obtain ⟨xs2,t2,g2⟩:=Zfw Tryd.underlying46 (ks:=dmK) (by kernel_rfl) (hval 2 46 v2 rfl rfl) h2;obtain ⟨d,rfl⟩:=ZfK t2
 refine (ZfI (Zhe gc_of r w d hk0 (bounds_u8 hb1)) (gr_of (ZfH hL)) rfl (λi x u hx hu=>by
  match i,hx,hu with
  |0,hx,hu=>cases hx;cases hu;exact g0
  |1,hx,hu=>cases hx;cases hu;exact g1
  |2,hx,hu=>cases hx;cases hu;exact g2)).mono λe W' ⟨he,hE⟩=>?_
 subst he
 exact ⟨_,rfl,ZfA ZfB (by kernel_rfl) Tryd.underlying4 rfl rfl (by
  intro t ht;have hall:(Tryd.f4.params.toList.all λt=>Tryd.checked.prog.readableRec t&&decide (t<Tryd.checked.prog.types.size))=true:=(by kernel_rfl);have h3:=W03.1 hall t ht;rw[W01]at h3;exact ⟨h3.1,W0X h3.2⟩) hW' hE⟩
theorem sheetSized_holds:Rows.SheetSizedSaid :=
 OpenClaim.holds_of_wide 4 Tryd.f4 rfl rfl rfl rfl rfl rfl rfl ⟨rfl,rfl,rfl,rfl,rfl⟩ rfl rfl rfl rfl rfl (by kernel_rfl) Tryd.func4 (by kernel_rfl)
  (W0X (by kernel_rfl)) (by unfold Func.isWrapper;first|(rw[if_pos (by decide +kernel)];kernel_rfl)|(rw[if_neg (by decide +kernel)];exact ⟨rfl,rfl⟩))
  (λos started H enc _=>sheetSized_lifted os started H enc)
theorem sheetSized_card:Rows.SheetSizedCardSaid :=
 Claim7.holds_tied_plain_at .later [] [.funcs] true (true, "d517623fa445c8d7842824aa1d8693b0ba3c41d17ee45cbf183d18b500cb37b1") false
  sheetSized_holds (λ_ h=>by cases h) (by kernel_rfl) (λ_ h=>by cases h) sheetSized_row_tie rfl ⟨rfl,rfl⟩ (by kernel_rfl) rfl
  (λf fn hf hfn=>by
   obtain rfl:f=4:=W1H ((show prog.funcNamed "blueline/bluelinelaw02.SheetSized" = some 4 by kernel_rfl).symm.trans hf) |>.symm
   obtain rfl:fn=Tryd.f4:=(W1H (Tryd.func4.symm.trans hfn)).symm
   exact ⟨by kernel_rfl,λj t ht=>by
    have hall:(Tryd.f4.params.toList.all λu=>!prog.wantsStandIn u)=true:=(by kernel_rfl);have hm:t∈Tryd.f4.params.toList:=(by simpa using Array.mem_of_getElem? ht);exact (show prog.wantsStandIn t=false by simpa using W03.1 hall t hm)⟩)
  (by kernel_rfl)
end Go.Proofs.YthlcppdbldkldaaDoor

