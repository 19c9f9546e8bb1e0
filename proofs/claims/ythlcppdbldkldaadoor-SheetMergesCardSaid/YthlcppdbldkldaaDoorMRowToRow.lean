/-
  Any law: what is left to show once the walk says 'true, and nothing that lay has turned'.
-/
import Derived.Test.YthlcppdbldkldaaDoorMRegToAmD
import Derived.Test.YthlcppdbldkldaaDoorRows
import Derived.ProofKit
import Derived.LaidMore
import Derived.Stop.Joined
import Derived.SevenTiedAt
set_option linter.all false
set_option maxHeartbeats 8000000
namespace Go.Proofs.YthlcppdbldkldaaDoor
open Go.ChangeShapes Go.WideShapes Go.ChangeAt Go.RowKit
def ZbY {H:Type} {enc:TypeId×Value->H} {P:Program} (hl:laidOutB P=true) {W W':World} (hb:Ext W W') :
  ∀ {ts:List TypeId} {vs:List Value} {ds:List (DataW H)} {ps:List MemPlace},DataW.TrodAll enc P W 0 (λ_=>true) true ts vs ds ps->(∀ x∈ps,x.block<W.heap.size) ->
    (∀ t∈ts,P.readableRec t=true/\t<P.types.size)->DataW.TrodAll enc P W' 0 (λb=>decide (b<W.heap.size)) true ts vs ds ps
 | [],_,_,_,h,_,_=>by
   obtain ⟨rfl,rfl,rfl⟩:=trodAll_nil h;exact trodAll_mk0
 | t::ts,_,_,_,h,hlt,hr=>by
   obtain ⟨v,vs1,d,ds1,a,b,rfl,rfl,rfl,h1,h2⟩:=trodAll_cons h;have k1:=Below.trod hl (hr t (by simp)).1 (hr t (by simp)).2 h1 hb (λx hx=>hlt x (by simp[hx]));have k2:=ZbY hl hb h2 (λx hx=>hlt x (by simp[hx])) (λt' ht=>hr t' (by simp[ht]));exact ⟨a,b,k1,k2,rfl⟩
def ZbZ {H:Type} {enc:TypeId×Value->H} {P:Program} {f:Func} {s:ChangeSpec} {fresh handsOn:Bool} {W W':World} {args:Array Value} {ds gs:List (DataW H)} {before:List MemPlace} {tb:TypeId}
  (hlaid:laidOutB P=true) (hr:f.resultTypes = #[tb]) (hb:P.underlying tb=some .bool) (hs:s.vars=[])
  (hfn:s.fn H (ds++gs)={ results:=[.lit (.bool true)],args:=ds }) (hread:∀ t∈f.params.toList,P.readableRec t=true/\t<P.types.size)
  (hW:DataW.Whole enc P f.params.toList s.vars false W args.toList ds gs before) (hE:Ext W W'):s.post enc P f false fresh handsOn false W args (.bool true) W':=by
 have hW':=hW;have hlt:=hW.lt;obtain ⟨p,q,hA,hV,rfl,hfz,hnd⟩:=hW;rw[hs]at hV;obtain ⟨rfl,rfl⟩:=trodVars_none hV;refine ⟨ds,[],_,[],p,[],hW',?_,?_,?_,Below.frame hE _,λh=>by cases h⟩
 . rw[hfn,hr];exact trodAll_mk1 (shut_bool hb true)
 . rw[hfn];exact ZbY hlaid hE hA (λx hx=>hlt x (by simp[hx])) hread
 . rw[hfn,hs];rfl
end Go.Proofs.YthlcppdbldkldaaDoor

