/-
  SheetMerges: the row and the card.
-/
import Derived.Test.YthlcppdbldkldaaDoorMY6aToTkn
import Derived.Test.YthlcppdbldkldaaDoorTie
import Derived.Test.YthlcppdbldkldaaDoorCards
set_option linter.all false
set_option maxHeartbeats 8000000
namespace Go.Proofs.YthlcppdbldkldaaDoor
open Go.Proofs.Tryd (prog)
open Go.ChangeShapes Go.WideShapes Go.ChangeAt Go.WideMaps Go.WideElems Go.RowKit Go.Deep
set_option maxRecDepth 100000 in
theorem sheetMerges_lifted (os:Os) (started:os.Started) (H:Type) (enc:TypeId×Value->H) :
  ReturnsInHanded {} Tryd.checked os 3 .any (λw args=>(Rows.sheetMergesSpec.pre enc prog Tryd.f3 [] false w args/\laidMetH prog laid2 w)/\sizedMet enc prog Tryd.f3 (OpenSpec.ofChange Rows.sheetMergesSpec) false w args)
   (Rows.sheetMergesSpec.post enc prog Tryd.f3 false true false false):=by
 refine returnsInHanded_of_change_and (C:=Tryd.checked) (X:=λw _=>laidMetH prog laid2 w) (λ_ _ _ hh h=>h.of_heap hh) own started (by kernel_rfl) Tryd.func3
  (ChangeSpec.witness_shaped (enc:=enc) (C:=Tryd.checked) (os:=os) (X:=λw _=>laidMetH prog laid2 w) false (World.doorLaid prog 41 os) #[.agg #[.slice none 0 0],.agg #[.slice none 0 0]] 8 rfl (World.shaped_of_RefB (by kernel_rfl) (by kernel_rfl)) (by kernel_rfl) (by kernel_rfl) (by kernel_rfl) (Zc3 os _)) ?_
 intro W base args ds gs before hval0 hW _ _ hL _;have hval:∀ (j:Nat) t v,Tryd.f3.params[j]? = some t->args[j]? = some v->Value.okWide prog W .any base t v:=hval0;have hW':=hW;obtain ⟨p,q,hA0,hV,rfl,hfz,hnd⟩:=hW;have hA:DataW.TrodAll enc prog W 0 (λ_=>true) true Tryd.f3.params.toList args.toList ds p:=hA0;rw[Tryd.params3]at hA hval;obtain ⟨args⟩:=args;obtain ⟨v0,aa,d0,ds0,p0,q0,rfl,rfl,rfl,h0,hA⟩:=trodAll_cons hA;obtain ⟨v1,aa,d1,ds1,p1,q1,rfl,rfl,rfl,h1,hA⟩:=trodAll_cons hA;obtain ⟨rfl,rfl,rfl⟩:=trodAll_nil hA;obtain ⟨rfl,rfl⟩:=trodVars_none hV;obtain ⟨xs,t0,g0⟩:=ZbW Tryd.underlying24 (ks:=[.sl isK2]) (by kernel_rfl) (hval 0 24 v0 rfl rfl) h0;obtain ⟨a,e0,hk0⟩:=Zcc t0;rw[e0]at g0;obtain ⟨xs,t1,g1⟩:=ZbW Tryd.underlying24 (ks:=[.sl isK2]) (by kernel_rfl) (hval 1 24 v1 rfl rfl) h1;obtain ⟨b,e1,hk1⟩:=Zcc t1;rw[e1]at g1
 refine (Zc7 (ZfY gc_of a b hk0 hk1) (gr_of (Zc6 hL)) rfl (λi x u hx hu=>by
  match i,hx,hu with
  |0,hx,hu=>cases hx;cases hu;exact g0
  |1,hx,hu=>cases hx;cases hu;exact g1)).mono λe W' ⟨he,hE⟩=>?_
 subst he
 exact ⟨_,rfl,ZbZ Zc0 (by kernel_rfl) Tryd.underlying4 rfl rfl (by
  intro t ht;have hall:(Tryd.f3.params.toList.all λt=>Tryd.checked.prog.readableRec t&&decide (t<Tryd.checked.prog.types.size))=true:=(by kernel_rfl);have h3:=W03.1 hall t ht;rw[W01]at h3;exact ⟨h3.1,W0X h3.2⟩) hW' hE⟩
theorem sheetMerges_holds:Rows.SheetMergesSaid :=
 OpenClaim.holds_of_wide 3 Tryd.f3 rfl rfl rfl rfl rfl rfl rfl ⟨rfl,rfl,rfl,rfl,rfl⟩ rfl rfl rfl rfl rfl (by kernel_rfl) Tryd.func3 (by kernel_rfl)
  (W0X (by kernel_rfl)) (by unfold Func.isWrapper;first|(rw[if_pos (by decide +kernel)];kernel_rfl)|(rw[if_neg (by decide +kernel)];exact ⟨rfl,rfl⟩))
  (λos started H enc _=>sheetMerges_lifted os started H enc)
theorem sheetMerges_card:Rows.SheetMergesCardSaid :=
 Claim7.holds_tied_plain_at .later [] [.funcs] true (true, "d517623fa445c8d7842824aa1d8693b0ba3c41d17ee45cbf183d18b500cb37b1") false
  sheetMerges_holds (λ_ h=>by cases h) (by kernel_rfl) (λ_ h=>by cases h) sheetMerges_row_tie rfl ⟨rfl,rfl⟩ (by kernel_rfl) rfl
  (λf fn hf hfn=>by
   obtain rfl:f=3:=W1G ((show prog.funcNamed "blueline/bluelinelaw02.SheetMerges" = some 3 by kernel_rfl).symm.trans hf) |>.symm
   obtain rfl:fn=Tryd.f3:=(W1G (Tryd.func3.symm.trans hfn)).symm
   exact ⟨by kernel_rfl,λj t ht=>by
    have hall:(Tryd.f3.params.toList.all λu=>!prog.wantsStandIn u)=true:=(by kernel_rfl);have hm:t∈Tryd.f3.params.toList:=(by simpa using Array.mem_of_getElem? ht);exact (show prog.wantsStandIn t=false by simpa using W03.1 hall t hm)⟩)
  (by kernel_rfl)
end Go.Proofs.YthlcppdbldkldaaDoor

