/-
  Facts about the program that the row of RecallTurns asks for, each checked by itself (together they need too much memory).
-/
import Derived.Test.YtldibfhbaaadcaaGreatDoorTie
import Derived.Test.YtldibfhbaaadcaaGreatDoorCards
set_option linter.all false
set_option maxHeartbeats 8000000
namespace Go.Proofs.YtldibfhbaaadcaaGreatDoor
open Go.Proofs.Tryz (prog)
def ZoE {P:Program} {f:FuncId} {fn:Func} {s:ChangeSpec} {c:OpenClaim}
  (h1:c.wf (OpenSpec.ofChange s)=true) (h1a:laidOutB P=true) (h1b:mapsRowed P=true)
  (h2:(fn.params.all (P.readableRec ·)&&namedTie P c.named s.vars&&(c.stops == [])&&(P.stops == [])&&(c.knobs == [])&&(P.stopKnobs == []))=true)
  (h3:(c.inPlace == P.inPlace f)=true) (h4:(c.unfollowed == P.unfollowed f)=true) (h5:(c.recurses == P.recurses f)=true) (h6:(c.named == P.varsNamed f)=true)
  (h7:((c.maps == (fn.params.toList++s.plain.varTypes P).any (P.mapsRec ·))&&(c.ifaces == (fn.params.toList++s.plain.varTypes P).any (P.ifacesRec ·))&&(c.mapsOut == P.mapsAmong fn.resultTypes.toList)&&(c.loops == (fn.params.toList++s.plain.varTypes P).any (P.loopsFrom ·))&&(c.wideKeys == (fn.params.toList++s.plain.varTypes P++fn.resultTypes.toList).any (P.wideKeysFrom ·))&&s.vars.all (P.varReadable ·)&&fn.resultTypes.all (λt=>P.readableRec t&&decide (t<P.types.size))&&(c.ifacesOut == fn.resultTypes.toList.any (P.ifacesRec ·))&&(c.loopsOut == fn.resultTypes.toList.any (P.loopsFrom ·)))=true)
  (h8:(c.plainKeys == P.plainKeys)=true) (h9:c.shortTexts.isNone=true) (h10:P.stopsHeard=true) (h11:P.mayEnter=true) (h12:(c.lifted == P.liftsFinal)=true) (h13:(P.make == some c.make)=true)
  (h14:((c.kinds == (if c.domain.isEmpty then [] else fn.params.toList.map λt=>match P.underlying t with|some (.int k)=>some k|_=>none))&&(c.pinned == c.pinnedBy)&&(c.veiled == (fn.params.toList++s.plain.varTypes P++fn.resultTypes.toList).any (P.veiledRec ·))&&c.veiledFits P fn.params.toList (fn.params.toList++s.plain.varTypes P++fn.resultTypes.toList))=true) :
  joinedFacts P f fn s c=true:=by
 rw[Bool.and_eq_true,Bool.and_eq_true,Bool.and_eq_true,Bool.and_eq_true,Bool.and_eq_true]at h2;rw[Bool.and_eq_true,Bool.and_eq_true,Bool.and_eq_true,Bool.and_eq_true,Bool.and_eq_true,Bool.and_eq_true,Bool.and_eq_true,Bool.and_eq_true]at h7;obtain ⟨⟨⟨⟨⟨a1,a2⟩,a3⟩,a4⟩,a5⟩,a6⟩:=h2;obtain ⟨⟨⟨⟨⟨⟨⟨⟨b1,b2⟩,b3⟩,b4⟩,b5⟩,b6⟩,b7⟩,b8⟩,b9⟩:=h7;unfold joinedFacts;rw[h1,h1a,h1b,a1,a2,a3,a4,a5,a6,h3,h4,h5,h6,b1,b2,b3,b4,b5,b6,b7,b8,b9,h8,h9,h10,h11,h12,h13];simp only[Bool.true_and];exact h14
def ZoF:laidOutB prog=true:=by kernel_rfl
def ZoG:mapsRowed prog=true:=by kernel_rfl
def ZoH:(false == prog.plainKeys)=true:=by kernel_rfl
def ZoI:prog.stopsHeard=true:=by kernel_rfl
def ZoJ:prog.mayEnter=true:=by kernel_rfl
def ZoK:(Rows.recallTurnsRow.lifted == prog.liftsFinal)=true:=by kernel_rfl
def ZoL:(prog.make == some Rows.recallTurnsRow.make)=true:=by kernel_rfl
def ZoM:prog.mainIs=some (true, "9274ff8c6d01f60e9bdf2a74495164fef58a7ba4bb9a35bbb621db11e9f633f6".toList):=by kernel_rfl
def ZoN:false=prog.looks []:=by kernel_rfl
end Go.Proofs.YtldibfhbaaadcaaGreatDoor

