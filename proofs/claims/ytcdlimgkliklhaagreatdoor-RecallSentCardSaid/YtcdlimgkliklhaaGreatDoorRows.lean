/-
  NARROWER THAN 'FOR EVERY INPUT', by the rows' own cells (each row's printed sentence says how): RecallHolds: laid · RecallNeeds: laid · RecallStale: laid · RecallTurns: laid · RecallExamples: laid · RecallCalled: laid · RecallFewest: laid · RecallHeld: laid · RecallLost: laid · RecallMissed: laid · RecallSent: laid · RecallWrong: laid · RecallReason: laid · RecallSettled: laid.
  DERIVED. THE GIVEN ROWS OF THIS SEAT. 14 by the template 'for every input the law returns true; each argument reads behind the call as it read before'; 0 by the template 'total and deterministic' (their statements: YtcdlimgkliklhaaGreatDoorTotals.lean).
  GIVEN WITH THE SEED: the statements are not yours to turn. If you find one false, say at which input.
  Laid BY PROGRAM, IN A SANDBOX (cutbox-rows.mjs): the forced cells as the released guide's own fill.sh prints them over the translation 983aba01720b2ea9… (all of the seat's roots in one cut). By AI agents, Wed Nov 11 2026. No macro, syntax, notation, axiom, sorry.
-/
import Derived.Test.YtcdlimgkliklhaaGreatDoorChecked
import GoSem.Claim
import GoSem.ClaimJoined
import GoSem.ClaimMapViews
import Derived.JoinedTies
import Derived.KernelRfl
namespace Go.Proofs.YtcdlimgkliklhaaGreatDoor
/- THE CELL 'sum', in the pinned program and in every row, IS THE sha256 OF THE DUMP (.gsa) THAT YtcdlimgkliklhaaGreatDoorProg.lean LOADS. Nothing in Lean hashes anything: it is a label: what it is worth is what the hold of that sum in a sandbox is worth. -/
noncomputable def Tryz.pinned : Pinned := { name := "ytcdlimgkliklhaagreatdoor", sum := "983aba01720b2ea993b9a282fd08e9409cbdc23fe2c80cf64aa66c1fe809c6b7", checked := Tryz.checked }
namespace Rows
def none {H : Type} : Left H := { results := [], args := [] }

/- WHAT THE LISTED PACKAGE-LEVEL VARIABLES READ AS WHEN THE CALL BEGINS. Each datum BY PROGRAM (the guide's laid-datum.mjs) off the statement by which the dump's own 'gosem.cut.vars' lays the variable. In a bare row this is a premise. The card (YtcdlimgkliklhaaGreatDoorCards.lean) ties it to the program's text. -/
def laid_blueline_sheet_checks {H : Type} : DataW H := .iface "func table" (.agg [.agg [.iface "func" (.lit (.string [98, 108, 117, 101, 108, 105, 110, 101, 47, 115, 104, 101, 101, 116, 46, 99, 104, 101, 99, 107, 115, 36, 49]))], .agg [.iface "func" (.lit (.string [98, 108, 117, 101, 108, 105, 110, 101, 47, 115, 104, 101, 101, 116, 46, 99, 104, 101, 99, 107, 115, 36, 50]))], .agg [.iface "func" (.lit (.string [98, 108, 117, 101, 108, 105, 110, 101, 47, 115, 104, 101, 101, 116, 46, 99, 104, 101, 99, 107, 115, 36, 51]))], .agg [.iface "func" (.lit (.string [98, 108, 117, 101, 108, 105, 110, 101, 47, 115, 104, 101, 101, 116, 46, 99, 104, 101, 99, 107, 115, 36, 52]))]])
def laid_blueline_note_checks {H : Type} : DataW H := .iface "func table" (.agg [.agg [.iface "func" (.lit (.string [98, 108, 117, 101, 108, 105, 110, 101, 47, 110, 111, 116, 101, 46, 99, 104, 101, 99, 107, 115, 36, 49]))], .agg [.iface "func" (.lit (.string [98, 108, 117, 101, 108, 105, 110, 101, 47, 110, 111, 116, 101, 46, 99, 104, 101, 99, 107, 115, 36, 50]))], .agg [.iface "func" (.lit (.string [98, 108, 117, 101, 108, 105, 110, 101, 47, 110, 111, 116, 101, 46, 99, 104, 101, 99, 107, 115, 36, 51]))], .agg [.iface "func" (.lit (.string [98, 108, 117, 101, 108, 105, 110, 101, 47, 110, 111, 116, 101, 46, 99, 104, 101, 99, 107, 115, 36, 52]))], .agg [.iface "func" (.lit (.string [98, 108, 117, 101, 108, 105, 110, 101, 47, 110, 111, 116, 101, 46, 99, 104, 101, 99, 107, 115, 36, 53]))], .agg [.iface "func" (.lit (.string [98, 108, 117, 101, 108, 105, 110, 101, 47, 110, 111, 116, 101, 46, 99, 104, 101, 99, 107, 115, 36, 54]))], .agg [.iface "func" (.lit (.string [98, 108, 117, 101, 108, 105, 110, 101, 47, 110, 111, 116, 101, 46, 99, 104, 101, 99, 107, 115, 36, 55]))], .agg [.iface "func" (.lit (.string [98, 108, 117, 101, 108, 105, 110, 101, 47, 110, 111, 116, 101, 46, 99, 104, 101, 99, 107, 115, 36, 56]))]])
def laid_blueline_recall_checks {H : Type} : DataW H := .iface "func table" (.agg [.agg [.iface "func" (.lit (.string [98, 108, 117, 101, 108, 105, 110, 101, 47, 114, 101, 99, 97, 108, 108, 46, 99, 104, 101, 99, 107, 115, 36, 49]))], .agg [.iface "func" (.lit (.string [98, 108, 117, 101, 108, 105, 110, 101, 47, 114, 101, 99, 97, 108, 108, 46, 99, 104, 101, 99, 107, 115, 36, 50]))], .agg [.iface "func" (.lit (.string [98, 108, 117, 101, 108, 105, 110, 101, 47, 114, 101, 99, 97, 108, 108, 46, 99, 104, 101, 99, 107, 115, 36, 51]))], .agg [.iface "func" (.lit (.string [98, 108, 117, 101, 108, 105, 110, 101, 47, 114, 101, 99, 97, 108, 108, 46, 99, 104, 101, 99, 107, 115, 36, 52]))], .agg [.iface "func" (.lit (.string [98, 108, 117, 101, 108, 105, 110, 101, 47, 114, 101, 99, 97, 108, 108, 46, 99, 104, 101, 99, 107, 115, 36, 53]))]])

/-- 'bluelinelaw07.RecallHolds': WHATEVER THE INPUT: true; the input reads as it did. -/
def recallHoldsSpec : ChangeSpec := { name := "recallHolds", fn := fun _ => fun
  | [d1, d2, d3, d4] => { results := [.lit (.bool true)], args := [d1, d2, d3, d4] }
  | _ => none }
def recallHoldsRow : OpenClaim := { program := "ytcdlimgkliklhaagreatdoor", sum := "983aba01720b2ea993b9a282fd08e9409cbdc23fe2c80cf64aa66c1fe809c6b7", func := "blueline/bluelinelaw07.RecallHolds", spec := "recallHolds", unfollowed := true, recurses := true, named := ["blueline/note.checks", "blueline/sheet.checks", "blueline/recall.checks"], plainKeys := false, apart := false, laid := [("blueline/sheet.checks", laid_blueline_sheet_checks), ("blueline/note.checks", laid_blueline_note_checks), ("blueline/recall.checks", laid_blueline_recall_checks)] }
def RecallHoldsSaid : Prop := recallHoldsRow.holds Tryz.pinned (OpenSpec.ofChange recallHoldsSpec)

/-- ITS FALSE NEIGHBOUR: 'it returns false'. Refute it at one input. -/
def recallHoldsWrong : ChangeSpec := { name := "recallHolds", fn := fun _ => fun
  | [d1, d2, d3, d4] => { results := [.lit (.bool false)], args := [d1, d2, d3, d4] }
  | _ => none }
def RecallHoldsWrongFalsely : Prop := recallHoldsRow.holds Tryz.pinned (OpenSpec.ofChange recallHoldsWrong)

/-- 'bluelinelaw07.RecallNeeds': WHATEVER THE INPUT: true; the input reads as it did. -/
def recallNeedsSpec : ChangeSpec := { name := "recallNeeds", fn := fun _ => fun
  | [d1, d2, d3, d4, d5] => { results := [.lit (.bool true)], args := [d1, d2, d3, d4, d5] }
  | _ => none }
def recallNeedsRow : OpenClaim := { program := "ytcdlimgkliklhaagreatdoor", sum := "983aba01720b2ea993b9a282fd08e9409cbdc23fe2c80cf64aa66c1fe809c6b7", func := "blueline/bluelinelaw07.RecallNeeds", spec := "recallNeeds", unfollowed := true, recurses := true, named := ["blueline/note.checks", "blueline/sheet.checks", "blueline/recall.checks"], plainKeys := false, apart := false, laid := [("blueline/sheet.checks", laid_blueline_sheet_checks), ("blueline/note.checks", laid_blueline_note_checks), ("blueline/recall.checks", laid_blueline_recall_checks)] }
def RecallNeedsSaid : Prop := recallNeedsRow.holds Tryz.pinned (OpenSpec.ofChange recallNeedsSpec)

/-- ITS FALSE NEIGHBOUR: 'it returns false'. Refute it at one input. -/
def recallNeedsWrong : ChangeSpec := { name := "recallNeeds", fn := fun _ => fun
  | [d1, d2, d3, d4, d5] => { results := [.lit (.bool false)], args := [d1, d2, d3, d4, d5] }
  | _ => none }
def RecallNeedsWrongFalsely : Prop := recallNeedsRow.holds Tryz.pinned (OpenSpec.ofChange recallNeedsWrong)

/-- 'bluelinelaw07.RecallStale': WHATEVER THE INPUT: true; the input reads as it did. -/
def recallStaleSpec : ChangeSpec := { name := "recallStale", fn := fun _ => fun
  | [d1, d2] => { results := [.lit (.bool true)], args := [d1, d2] }
  | _ => none }
def recallStaleRow : OpenClaim := { program := "ytcdlimgkliklhaagreatdoor", sum := "983aba01720b2ea993b9a282fd08e9409cbdc23fe2c80cf64aa66c1fe809c6b7", func := "blueline/bluelinelaw07.RecallStale", spec := "recallStale", unfollowed := true, recurses := true, named := ["blueline/note.checks", "blueline/sheet.checks", "blueline/recall.checks"], plainKeys := false, apart := false, laid := [("blueline/sheet.checks", laid_blueline_sheet_checks), ("blueline/note.checks", laid_blueline_note_checks), ("blueline/recall.checks", laid_blueline_recall_checks)] }
def RecallStaleSaid : Prop := recallStaleRow.holds Tryz.pinned (OpenSpec.ofChange recallStaleSpec)

/-- ITS FALSE NEIGHBOUR: 'it returns false'. Refute it at one input. -/
def recallStaleWrong : ChangeSpec := { name := "recallStale", fn := fun _ => fun
  | [d1, d2] => { results := [.lit (.bool false)], args := [d1, d2] }
  | _ => none }
def RecallStaleWrongFalsely : Prop := recallStaleRow.holds Tryz.pinned (OpenSpec.ofChange recallStaleWrong)

/-- 'bluelinelaw07.RecallTurns': WHATEVER THE INPUT: true; the input reads as it did. -/
def recallTurnsSpec : ChangeSpec := { name := "recallTurns", fn := fun _ => fun
  | [d1, d2, d3, d4, d5] => { results := [.lit (.bool true)], args := [d1, d2, d3, d4, d5] }
  | _ => none }
def recallTurnsRow : OpenClaim := { program := "ytcdlimgkliklhaagreatdoor", sum := "983aba01720b2ea993b9a282fd08e9409cbdc23fe2c80cf64aa66c1fe809c6b7", func := "blueline/bluelinelaw07.RecallTurns", spec := "recallTurns", inPlace := ["slices.overlaps[blueline/api.Print]"], unfollowed := true, recurses := true, named := ["blueline/note.checks", "blueline/sheet.checks", "blueline/recall.checks"], plainKeys := false, apart := false, laid := [("blueline/sheet.checks", laid_blueline_sheet_checks), ("blueline/note.checks", laid_blueline_note_checks), ("blueline/recall.checks", laid_blueline_recall_checks)] }
def RecallTurnsSaid : Prop := recallTurnsRow.holds Tryz.pinned (OpenSpec.ofChange recallTurnsSpec)

/-- ITS FALSE NEIGHBOUR: 'it returns false'. Refute it at one input. -/
def recallTurnsWrong : ChangeSpec := { name := "recallTurns", fn := fun _ => fun
  | [d1, d2, d3, d4, d5] => { results := [.lit (.bool false)], args := [d1, d2, d3, d4, d5] }
  | _ => none }
def RecallTurnsWrongFalsely : Prop := recallTurnsRow.holds Tryz.pinned (OpenSpec.ofChange recallTurnsWrong)

/-- 'bluelinelaw07.RecallExamples': WHATEVER THE INPUT: true; the input reads as it did. -/
def recallExamplesSpec : ChangeSpec := { name := "recallExamples", fn := fun _ => fun
  | [] => { results := [.lit (.bool true)], args := [] }
  | _ => none }
def recallExamplesRow : OpenClaim := { program := "ytcdlimgkliklhaagreatdoor", sum := "983aba01720b2ea993b9a282fd08e9409cbdc23fe2c80cf64aa66c1fe809c6b7", func := "blueline/bluelinelaw07.RecallExamples", spec := "recallExamples", inPlace := ["slices.overlaps[blueline/api.Print]"], unfollowed := true, recurses := true, named := ["blueline/note.checks", "blueline/sheet.checks", "blueline/recall.checks"], plainKeys := false, apart := false, laid := [("blueline/sheet.checks", laid_blueline_sheet_checks), ("blueline/note.checks", laid_blueline_note_checks), ("blueline/recall.checks", laid_blueline_recall_checks)] }
def RecallExamplesSaid : Prop := recallExamplesRow.holds Tryz.pinned (OpenSpec.ofChange recallExamplesSpec)

/-- ITS FALSE NEIGHBOUR: 'it returns false'. Refute it at one input. -/
def recallExamplesWrong : ChangeSpec := { name := "recallExamples", fn := fun _ => fun
  | [] => { results := [.lit (.bool false)], args := [] }
  | _ => none }
def RecallExamplesWrongFalsely : Prop := recallExamplesRow.holds Tryz.pinned (OpenSpec.ofChange recallExamplesWrong)

/-- 'bluelinelaw07.RecallCalled': WHATEVER THE INPUT: true; the input reads as it did. -/
def recallCalledSpec : ChangeSpec := { name := "recallCalled", fn := fun _ => fun
  | [d1, d2] => { results := [.lit (.bool true)], args := [d1, d2] }
  | _ => none }
def recallCalledRow : OpenClaim := { program := "ytcdlimgkliklhaagreatdoor", sum := "983aba01720b2ea993b9a282fd08e9409cbdc23fe2c80cf64aa66c1fe809c6b7", func := "blueline/bluelinelaw07.RecallCalled", spec := "recallCalled", inPlace := ["slices.overlaps[blueline/api.Print]"], unfollowed := true, recurses := true, named := ["blueline/note.checks", "blueline/sheet.checks", "blueline/recall.checks"], plainKeys := false, apart := false, laid := [("blueline/sheet.checks", laid_blueline_sheet_checks), ("blueline/note.checks", laid_blueline_note_checks), ("blueline/recall.checks", laid_blueline_recall_checks)] }
def RecallCalledSaid : Prop := recallCalledRow.holds Tryz.pinned (OpenSpec.ofChange recallCalledSpec)

/-- ITS FALSE NEIGHBOUR: 'it returns false'. Refute it at one input. -/
def recallCalledWrong : ChangeSpec := { name := "recallCalled", fn := fun _ => fun
  | [d1, d2] => { results := [.lit (.bool false)], args := [d1, d2] }
  | _ => none }
def RecallCalledWrongFalsely : Prop := recallCalledRow.holds Tryz.pinned (OpenSpec.ofChange recallCalledWrong)

/-- 'bluelinelaw07.RecallFewest': WHATEVER THE INPUT: true; the input reads as it did. -/
def recallFewestSpec : ChangeSpec := { name := "recallFewest", fn := fun _ => fun
  | [d1, d2, d3, d4] => { results := [.lit (.bool true)], args := [d1, d2, d3, d4] }
  | _ => none }
def recallFewestRow : OpenClaim := { program := "ytcdlimgkliklhaagreatdoor", sum := "983aba01720b2ea993b9a282fd08e9409cbdc23fe2c80cf64aa66c1fe809c6b7", func := "blueline/bluelinelaw07.RecallFewest", spec := "recallFewest", inPlace := ["slices.overlaps[blueline/api.Print]"], unfollowed := true, recurses := true, named := ["blueline/note.checks", "blueline/sheet.checks", "blueline/recall.checks"], plainKeys := false, apart := false, laid := [("blueline/sheet.checks", laid_blueline_sheet_checks), ("blueline/note.checks", laid_blueline_note_checks), ("blueline/recall.checks", laid_blueline_recall_checks)] }
def RecallFewestSaid : Prop := recallFewestRow.holds Tryz.pinned (OpenSpec.ofChange recallFewestSpec)

/-- ITS FALSE NEIGHBOUR: 'it returns false'. Refute it at one input. -/
def recallFewestWrong : ChangeSpec := { name := "recallFewest", fn := fun _ => fun
  | [d1, d2, d3, d4] => { results := [.lit (.bool false)], args := [d1, d2, d3, d4] }
  | _ => none }
def RecallFewestWrongFalsely : Prop := recallFewestRow.holds Tryz.pinned (OpenSpec.ofChange recallFewestWrong)

/-- 'bluelinelaw07.RecallHeld': WHATEVER THE INPUT: true; the input reads as it did. -/
def recallHeldSpec : ChangeSpec := { name := "recallHeld", fn := fun _ => fun
  | [d1, d2, d3, d4, d5] => { results := [.lit (.bool true)], args := [d1, d2, d3, d4, d5] }
  | _ => none }
def recallHeldRow : OpenClaim := { program := "ytcdlimgkliklhaagreatdoor", sum := "983aba01720b2ea993b9a282fd08e9409cbdc23fe2c80cf64aa66c1fe809c6b7", func := "blueline/bluelinelaw07.RecallHeld", spec := "recallHeld", inPlace := ["slices.overlaps[blueline/api.Print]"], unfollowed := true, recurses := true, named := ["blueline/note.checks", "blueline/sheet.checks", "blueline/recall.checks"], plainKeys := false, apart := false, laid := [("blueline/sheet.checks", laid_blueline_sheet_checks), ("blueline/note.checks", laid_blueline_note_checks), ("blueline/recall.checks", laid_blueline_recall_checks)] }
def RecallHeldSaid : Prop := recallHeldRow.holds Tryz.pinned (OpenSpec.ofChange recallHeldSpec)

/-- ITS FALSE NEIGHBOUR: 'it returns false'. Refute it at one input. -/
def recallHeldWrong : ChangeSpec := { name := "recallHeld", fn := fun _ => fun
  | [d1, d2, d3, d4, d5] => { results := [.lit (.bool false)], args := [d1, d2, d3, d4, d5] }
  | _ => none }
def RecallHeldWrongFalsely : Prop := recallHeldRow.holds Tryz.pinned (OpenSpec.ofChange recallHeldWrong)

/-- 'bluelinelaw07.RecallLost': WHATEVER THE INPUT: true; the input reads as it did. -/
def recallLostSpec : ChangeSpec := { name := "recallLost", fn := fun _ => fun
  | [d1, d2, d3] => { results := [.lit (.bool true)], args := [d1, d2, d3] }
  | _ => none }
def recallLostRow : OpenClaim := { program := "ytcdlimgkliklhaagreatdoor", sum := "983aba01720b2ea993b9a282fd08e9409cbdc23fe2c80cf64aa66c1fe809c6b7", func := "blueline/bluelinelaw07.RecallLost", spec := "recallLost", inPlace := ["slices.overlaps[blueline/api.Print]"], unfollowed := true, recurses := true, named := ["blueline/note.checks", "blueline/sheet.checks", "blueline/recall.checks"], plainKeys := false, apart := false, laid := [("blueline/sheet.checks", laid_blueline_sheet_checks), ("blueline/note.checks", laid_blueline_note_checks), ("blueline/recall.checks", laid_blueline_recall_checks)] }
def RecallLostSaid : Prop := recallLostRow.holds Tryz.pinned (OpenSpec.ofChange recallLostSpec)

/-- ITS FALSE NEIGHBOUR: 'it returns false'. Refute it at one input. -/
def recallLostWrong : ChangeSpec := { name := "recallLost", fn := fun _ => fun
  | [d1, d2, d3] => { results := [.lit (.bool false)], args := [d1, d2, d3] }
  | _ => none }
def RecallLostWrongFalsely : Prop := recallLostRow.holds Tryz.pinned (OpenSpec.ofChange recallLostWrong)

/-- 'bluelinelaw07.RecallMissed': WHATEVER THE INPUT: true; the input reads as it did. -/
def recallMissedSpec : ChangeSpec := { name := "recallMissed", fn := fun _ => fun
  | [d1, d2, d3] => { results := [.lit (.bool true)], args := [d1, d2, d3] }
  | _ => none }
def recallMissedRow : OpenClaim := { program := "ytcdlimgkliklhaagreatdoor", sum := "983aba01720b2ea993b9a282fd08e9409cbdc23fe2c80cf64aa66c1fe809c6b7", func := "blueline/bluelinelaw07.RecallMissed", spec := "recallMissed", inPlace := ["slices.overlaps[blueline/api.Print]"], unfollowed := true, recurses := true, named := ["blueline/note.checks", "blueline/sheet.checks", "blueline/recall.checks"], plainKeys := false, apart := false, laid := [("blueline/sheet.checks", laid_blueline_sheet_checks), ("blueline/note.checks", laid_blueline_note_checks), ("blueline/recall.checks", laid_blueline_recall_checks)] }
def RecallMissedSaid : Prop := recallMissedRow.holds Tryz.pinned (OpenSpec.ofChange recallMissedSpec)

/-- ITS FALSE NEIGHBOUR: 'it returns false'. Refute it at one input. -/
def recallMissedWrong : ChangeSpec := { name := "recallMissed", fn := fun _ => fun
  | [d1, d2, d3] => { results := [.lit (.bool false)], args := [d1, d2, d3] }
  | _ => none }
def RecallMissedWrongFalsely : Prop := recallMissedRow.holds Tryz.pinned (OpenSpec.ofChange recallMissedWrong)

/-- 'bluelinelaw07.RecallSent': WHATEVER THE INPUT: true; the input reads as it did. -/
def recallSentSpec : ChangeSpec := { name := "recallSent", fn := fun _ => fun
  | [d1, d2, d3] => { results := [.lit (.bool true)], args := [d1, d2, d3] }
  | _ => none }
def recallSentRow : OpenClaim := { program := "ytcdlimgkliklhaagreatdoor", sum := "983aba01720b2ea993b9a282fd08e9409cbdc23fe2c80cf64aa66c1fe809c6b7", func := "blueline/bluelinelaw07.RecallSent", spec := "recallSent", inPlace := ["slices.overlaps[blueline/api.Print]"], unfollowed := true, recurses := true, named := ["blueline/note.checks", "blueline/sheet.checks", "blueline/recall.checks"], plainKeys := false, apart := false, laid := [("blueline/sheet.checks", laid_blueline_sheet_checks), ("blueline/note.checks", laid_blueline_note_checks), ("blueline/recall.checks", laid_blueline_recall_checks)] }
def RecallSentSaid : Prop := recallSentRow.holds Tryz.pinned (OpenSpec.ofChange recallSentSpec)

/-- ITS FALSE NEIGHBOUR: 'it returns false'. Refute it at one input. -/
def recallSentWrong : ChangeSpec := { name := "recallSent", fn := fun _ => fun
  | [d1, d2, d3] => { results := [.lit (.bool false)], args := [d1, d2, d3] }
  | _ => none }
def RecallSentWrongFalsely : Prop := recallSentRow.holds Tryz.pinned (OpenSpec.ofChange recallSentWrong)

/-- 'bluelinelaw07.RecallWrong': WHATEVER THE INPUT: true; the input reads as it did. -/
def recallWrongSpec : ChangeSpec := { name := "recallWrong", fn := fun _ => fun
  | [d1, d2, d3, d4, d5] => { results := [.lit (.bool true)], args := [d1, d2, d3, d4, d5] }
  | _ => none }
def recallWrongRow : OpenClaim := { program := "ytcdlimgkliklhaagreatdoor", sum := "983aba01720b2ea993b9a282fd08e9409cbdc23fe2c80cf64aa66c1fe809c6b7", func := "blueline/bluelinelaw07.RecallWrong", spec := "recallWrong", inPlace := ["slices.overlaps[blueline/api.Print]"], unfollowed := true, recurses := true, named := ["blueline/note.checks", "blueline/sheet.checks", "blueline/recall.checks"], plainKeys := false, apart := false, laid := [("blueline/sheet.checks", laid_blueline_sheet_checks), ("blueline/note.checks", laid_blueline_note_checks), ("blueline/recall.checks", laid_blueline_recall_checks)] }
def RecallWrongSaid : Prop := recallWrongRow.holds Tryz.pinned (OpenSpec.ofChange recallWrongSpec)

/-- ITS FALSE NEIGHBOUR: 'it returns false'. Refute it at one input. -/
def recallWrongWrong : ChangeSpec := { name := "recallWrong", fn := fun _ => fun
  | [d1, d2, d3, d4, d5] => { results := [.lit (.bool false)], args := [d1, d2, d3, d4, d5] }
  | _ => none }
def RecallWrongWrongFalsely : Prop := recallWrongRow.holds Tryz.pinned (OpenSpec.ofChange recallWrongWrong)

/-- 'bluelinelaw07.RecallReason': WHATEVER THE INPUT: true; the input reads as it did. -/
def recallReasonSpec : ChangeSpec := { name := "recallReason", fn := fun _ => fun
  | [d1, d2, d3, d4, d5] => { results := [.lit (.bool true)], args := [d1, d2, d3, d4, d5] }
  | _ => none }
def recallReasonRow : OpenClaim := { program := "ytcdlimgkliklhaagreatdoor", sum := "983aba01720b2ea993b9a282fd08e9409cbdc23fe2c80cf64aa66c1fe809c6b7", func := "blueline/bluelinelaw07.RecallReason", spec := "recallReason", inPlace := ["slices.overlaps[blueline/api.Print]"], unfollowed := true, recurses := true, named := ["blueline/note.checks", "blueline/sheet.checks", "blueline/recall.checks"], plainKeys := false, apart := false, laid := [("blueline/sheet.checks", laid_blueline_sheet_checks), ("blueline/note.checks", laid_blueline_note_checks), ("blueline/recall.checks", laid_blueline_recall_checks)] }
def RecallReasonSaid : Prop := recallReasonRow.holds Tryz.pinned (OpenSpec.ofChange recallReasonSpec)

/-- ITS FALSE NEIGHBOUR: 'it returns false'. Refute it at one input. -/
def recallReasonWrong : ChangeSpec := { name := "recallReason", fn := fun _ => fun
  | [d1, d2, d3, d4, d5] => { results := [.lit (.bool false)], args := [d1, d2, d3, d4, d5] }
  | _ => none }
def RecallReasonWrongFalsely : Prop := recallReasonRow.holds Tryz.pinned (OpenSpec.ofChange recallReasonWrong)

/-- 'bluelinelaw07.RecallSettled': WHATEVER THE INPUT: true; the input reads as it did. -/
def recallSettledSpec : ChangeSpec := { name := "recallSettled", fn := fun _ => fun
  | [d1, d2, d3, d4] => { results := [.lit (.bool true)], args := [d1, d2, d3, d4] }
  | _ => none }
def recallSettledRow : OpenClaim := { program := "ytcdlimgkliklhaagreatdoor", sum := "983aba01720b2ea993b9a282fd08e9409cbdc23fe2c80cf64aa66c1fe809c6b7", func := "blueline/bluelinelaw07.RecallSettled", spec := "recallSettled", inPlace := ["slices.overlaps[blueline/api.Print]"], unfollowed := true, recurses := true, named := ["blueline/note.checks", "blueline/sheet.checks", "blueline/recall.checks"], plainKeys := false, apart := false, laid := [("blueline/sheet.checks", laid_blueline_sheet_checks), ("blueline/note.checks", laid_blueline_note_checks), ("blueline/recall.checks", laid_blueline_recall_checks)] }
def RecallSettledSaid : Prop := recallSettledRow.holds Tryz.pinned (OpenSpec.ofChange recallSettledSpec)

/-- ITS FALSE NEIGHBOUR: 'it returns false'. Refute it at one input. -/
def recallSettledWrong : ChangeSpec := { name := "recallSettled", fn := fun _ => fun
  | [d1, d2, d3, d4] => { results := [.lit (.bool false)], args := [d1, d2, d3, d4] }
  | _ => none }
def RecallSettledWrongFalsely : Prop := recallSettledRow.holds Tryz.pinned (OpenSpec.ofChange recallSettledWrong)

/- THE SECOND FORM. 'bulk': how many values and letters a reading holds, each counted each time it is reached (what is shared counts as often as it is met; a slice's spare places count too). A statement '..UptoSaid' is the law's where the arguments, and the package variables that the reading takes, are together of bulk at most 1048576: NARROWER than '..Said'. Prove '..Said' where nothing that the law and all that it calls make is longer than what came in: it says more and counts as full. Else prove '..UptoSaid'. A law counts once. -/
mutual
def uptoBulk {H : Type} : DataW H → Nat
  | .lit (.string bytes) => bytes.length + 1
  | .lit _ => 1
  | .nil => 1
  | .ptr d => uptoBulk d + 1
  | .slice elems spare => uptoBulkAll elems + uptoBulkAll spare + 1
  | .agg parts => uptoBulkAll parts + 1
  | .iface _ d => uptoBulk d + 1
  | .map entries => uptoBulkEntries entries + 1
  | .held _ => 1
def uptoBulkAll {H : Type} : List (DataW H) → Nat
  | [] => 0
  | d :: r => uptoBulk d + uptoBulkAll r
def uptoBulkEntries {H : Type} : List (Lit × DataW H) → Nat
  | [] => 0
  | x :: r => uptoBulkEntry x + uptoBulkEntries r
def uptoBulkEntry {H : Type} : Lit × DataW H → Nat
  | (.string bytes, d) => bytes.length + uptoBulk d + 1
  | (_, d) => uptoBulk d + 1
 end
def uptoSmall : (H : Type) → List (DataW H) → Bool := fun _ ds => decide (uptoBulkAll ds ≤ 1048576)
def OpenSpec.upto (s : _root_.Go.ChangeSpec) : _root_.Go.OpenSpec := { _root_.Go.OpenSpec.ofChange s with cond := some uptoSmall }

/-- 'bluelinelaw07.RecallHolds', WHERE WHAT IT READS IS OF BULK AT MOST 1048576: true; the input reads as it did. -/
def recallHoldsUptoRow : OpenClaim := { program := "ytcdlimgkliklhaagreatdoor", sum := "983aba01720b2ea993b9a282fd08e9409cbdc23fe2c80cf64aa66c1fe809c6b7", func := "blueline/bluelinelaw07.RecallHolds", spec := "recallHolds", unfollowed := true, recurses := true, named := ["blueline/note.checks", "blueline/sheet.checks", "blueline/recall.checks"], plainKeys := false, apart := false, laid := [("blueline/sheet.checks", laid_blueline_sheet_checks), ("blueline/note.checks", laid_blueline_note_checks), ("blueline/recall.checks", laid_blueline_recall_checks)], narrowed := true }
def RecallHoldsUptoSaid : Prop := recallHoldsUptoRow.holds Tryz.pinned (OpenSpec.upto recallHoldsSpec)

/-- 'bluelinelaw07.RecallNeeds', WHERE WHAT IT READS IS OF BULK AT MOST 1048576: true; the input reads as it did. -/
def recallNeedsUptoRow : OpenClaim := { program := "ytcdlimgkliklhaagreatdoor", sum := "983aba01720b2ea993b9a282fd08e9409cbdc23fe2c80cf64aa66c1fe809c6b7", func := "blueline/bluelinelaw07.RecallNeeds", spec := "recallNeeds", unfollowed := true, recurses := true, named := ["blueline/note.checks", "blueline/sheet.checks", "blueline/recall.checks"], plainKeys := false, apart := false, laid := [("blueline/sheet.checks", laid_blueline_sheet_checks), ("blueline/note.checks", laid_blueline_note_checks), ("blueline/recall.checks", laid_blueline_recall_checks)], narrowed := true }
def RecallNeedsUptoSaid : Prop := recallNeedsUptoRow.holds Tryz.pinned (OpenSpec.upto recallNeedsSpec)

/-- 'bluelinelaw07.RecallStale', WHERE WHAT IT READS IS OF BULK AT MOST 1048576: true; the input reads as it did. -/
def recallStaleUptoRow : OpenClaim := { program := "ytcdlimgkliklhaagreatdoor", sum := "983aba01720b2ea993b9a282fd08e9409cbdc23fe2c80cf64aa66c1fe809c6b7", func := "blueline/bluelinelaw07.RecallStale", spec := "recallStale", unfollowed := true, recurses := true, named := ["blueline/note.checks", "blueline/sheet.checks", "blueline/recall.checks"], plainKeys := false, apart := false, laid := [("blueline/sheet.checks", laid_blueline_sheet_checks), ("blueline/note.checks", laid_blueline_note_checks), ("blueline/recall.checks", laid_blueline_recall_checks)], narrowed := true }
def RecallStaleUptoSaid : Prop := recallStaleUptoRow.holds Tryz.pinned (OpenSpec.upto recallStaleSpec)

/-- 'bluelinelaw07.RecallTurns', WHERE WHAT IT READS IS OF BULK AT MOST 1048576: true; the input reads as it did. -/
def recallTurnsUptoRow : OpenClaim := { program := "ytcdlimgkliklhaagreatdoor", sum := "983aba01720b2ea993b9a282fd08e9409cbdc23fe2c80cf64aa66c1fe809c6b7", func := "blueline/bluelinelaw07.RecallTurns", spec := "recallTurns", inPlace := ["slices.overlaps[blueline/api.Print]"], unfollowed := true, recurses := true, named := ["blueline/note.checks", "blueline/sheet.checks", "blueline/recall.checks"], plainKeys := false, apart := false, laid := [("blueline/sheet.checks", laid_blueline_sheet_checks), ("blueline/note.checks", laid_blueline_note_checks), ("blueline/recall.checks", laid_blueline_recall_checks)], narrowed := true }
def RecallTurnsUptoSaid : Prop := recallTurnsUptoRow.holds Tryz.pinned (OpenSpec.upto recallTurnsSpec)

/-- 'bluelinelaw07.RecallExamples', WHERE WHAT IT READS IS OF BULK AT MOST 1048576: true; the input reads as it did. -/
def recallExamplesUptoRow : OpenClaim := { program := "ytcdlimgkliklhaagreatdoor", sum := "983aba01720b2ea993b9a282fd08e9409cbdc23fe2c80cf64aa66c1fe809c6b7", func := "blueline/bluelinelaw07.RecallExamples", spec := "recallExamples", inPlace := ["slices.overlaps[blueline/api.Print]"], unfollowed := true, recurses := true, named := ["blueline/note.checks", "blueline/sheet.checks", "blueline/recall.checks"], plainKeys := false, apart := false, laid := [("blueline/sheet.checks", laid_blueline_sheet_checks), ("blueline/note.checks", laid_blueline_note_checks), ("blueline/recall.checks", laid_blueline_recall_checks)], narrowed := true }
def RecallExamplesUptoSaid : Prop := recallExamplesUptoRow.holds Tryz.pinned (OpenSpec.upto recallExamplesSpec)

/-- 'bluelinelaw07.RecallCalled', WHERE WHAT IT READS IS OF BULK AT MOST 1048576: true; the input reads as it did. -/
def recallCalledUptoRow : OpenClaim := { program := "ytcdlimgkliklhaagreatdoor", sum := "983aba01720b2ea993b9a282fd08e9409cbdc23fe2c80cf64aa66c1fe809c6b7", func := "blueline/bluelinelaw07.RecallCalled", spec := "recallCalled", inPlace := ["slices.overlaps[blueline/api.Print]"], unfollowed := true, recurses := true, named := ["blueline/note.checks", "blueline/sheet.checks", "blueline/recall.checks"], plainKeys := false, apart := false, laid := [("blueline/sheet.checks", laid_blueline_sheet_checks), ("blueline/note.checks", laid_blueline_note_checks), ("blueline/recall.checks", laid_blueline_recall_checks)], narrowed := true }
def RecallCalledUptoSaid : Prop := recallCalledUptoRow.holds Tryz.pinned (OpenSpec.upto recallCalledSpec)

/-- 'bluelinelaw07.RecallFewest', WHERE WHAT IT READS IS OF BULK AT MOST 1048576: true; the input reads as it did. -/
def recallFewestUptoRow : OpenClaim := { program := "ytcdlimgkliklhaagreatdoor", sum := "983aba01720b2ea993b9a282fd08e9409cbdc23fe2c80cf64aa66c1fe809c6b7", func := "blueline/bluelinelaw07.RecallFewest", spec := "recallFewest", inPlace := ["slices.overlaps[blueline/api.Print]"], unfollowed := true, recurses := true, named := ["blueline/note.checks", "blueline/sheet.checks", "blueline/recall.checks"], plainKeys := false, apart := false, laid := [("blueline/sheet.checks", laid_blueline_sheet_checks), ("blueline/note.checks", laid_blueline_note_checks), ("blueline/recall.checks", laid_blueline_recall_checks)], narrowed := true }
def RecallFewestUptoSaid : Prop := recallFewestUptoRow.holds Tryz.pinned (OpenSpec.upto recallFewestSpec)

/-- 'bluelinelaw07.RecallHeld', WHERE WHAT IT READS IS OF BULK AT MOST 1048576: true; the input reads as it did. -/
def recallHeldUptoRow : OpenClaim := { program := "ytcdlimgkliklhaagreatdoor", sum := "983aba01720b2ea993b9a282fd08e9409cbdc23fe2c80cf64aa66c1fe809c6b7", func := "blueline/bluelinelaw07.RecallHeld", spec := "recallHeld", inPlace := ["slices.overlaps[blueline/api.Print]"], unfollowed := true, recurses := true, named := ["blueline/note.checks", "blueline/sheet.checks", "blueline/recall.checks"], plainKeys := false, apart := false, laid := [("blueline/sheet.checks", laid_blueline_sheet_checks), ("blueline/note.checks", laid_blueline_note_checks), ("blueline/recall.checks", laid_blueline_recall_checks)], narrowed := true }
def RecallHeldUptoSaid : Prop := recallHeldUptoRow.holds Tryz.pinned (OpenSpec.upto recallHeldSpec)

/-- 'bluelinelaw07.RecallLost', WHERE WHAT IT READS IS OF BULK AT MOST 1048576: true; the input reads as it did. -/
def recallLostUptoRow : OpenClaim := { program := "ytcdlimgkliklhaagreatdoor", sum := "983aba01720b2ea993b9a282fd08e9409cbdc23fe2c80cf64aa66c1fe809c6b7", func := "blueline/bluelinelaw07.RecallLost", spec := "recallLost", inPlace := ["slices.overlaps[blueline/api.Print]"], unfollowed := true, recurses := true, named := ["blueline/note.checks", "blueline/sheet.checks", "blueline/recall.checks"], plainKeys := false, apart := false, laid := [("blueline/sheet.checks", laid_blueline_sheet_checks), ("blueline/note.checks", laid_blueline_note_checks), ("blueline/recall.checks", laid_blueline_recall_checks)], narrowed := true }
def RecallLostUptoSaid : Prop := recallLostUptoRow.holds Tryz.pinned (OpenSpec.upto recallLostSpec)

/-- 'bluelinelaw07.RecallMissed', WHERE WHAT IT READS IS OF BULK AT MOST 1048576: true; the input reads as it did. -/
def recallMissedUptoRow : OpenClaim := { program := "ytcdlimgkliklhaagreatdoor", sum := "983aba01720b2ea993b9a282fd08e9409cbdc23fe2c80cf64aa66c1fe809c6b7", func := "blueline/bluelinelaw07.RecallMissed", spec := "recallMissed", inPlace := ["slices.overlaps[blueline/api.Print]"], unfollowed := true, recurses := true, named := ["blueline/note.checks", "blueline/sheet.checks", "blueline/recall.checks"], plainKeys := false, apart := false, laid := [("blueline/sheet.checks", laid_blueline_sheet_checks), ("blueline/note.checks", laid_blueline_note_checks), ("blueline/recall.checks", laid_blueline_recall_checks)], narrowed := true }
def RecallMissedUptoSaid : Prop := recallMissedUptoRow.holds Tryz.pinned (OpenSpec.upto recallMissedSpec)

/-- 'bluelinelaw07.RecallSent', WHERE WHAT IT READS IS OF BULK AT MOST 1048576: true; the input reads as it did. -/
def recallSentUptoRow : OpenClaim := { program := "ytcdlimgkliklhaagreatdoor", sum := "983aba01720b2ea993b9a282fd08e9409cbdc23fe2c80cf64aa66c1fe809c6b7", func := "blueline/bluelinelaw07.RecallSent", spec := "recallSent", inPlace := ["slices.overlaps[blueline/api.Print]"], unfollowed := true, recurses := true, named := ["blueline/note.checks", "blueline/sheet.checks", "blueline/recall.checks"], plainKeys := false, apart := false, laid := [("blueline/sheet.checks", laid_blueline_sheet_checks), ("blueline/note.checks", laid_blueline_note_checks), ("blueline/recall.checks", laid_blueline_recall_checks)], narrowed := true }
def RecallSentUptoSaid : Prop := recallSentUptoRow.holds Tryz.pinned (OpenSpec.upto recallSentSpec)

/-- 'bluelinelaw07.RecallWrong', WHERE WHAT IT READS IS OF BULK AT MOST 1048576: true; the input reads as it did. -/
def recallWrongUptoRow : OpenClaim := { program := "ytcdlimgkliklhaagreatdoor", sum := "983aba01720b2ea993b9a282fd08e9409cbdc23fe2c80cf64aa66c1fe809c6b7", func := "blueline/bluelinelaw07.RecallWrong", spec := "recallWrong", inPlace := ["slices.overlaps[blueline/api.Print]"], unfollowed := true, recurses := true, named := ["blueline/note.checks", "blueline/sheet.checks", "blueline/recall.checks"], plainKeys := false, apart := false, laid := [("blueline/sheet.checks", laid_blueline_sheet_checks), ("blueline/note.checks", laid_blueline_note_checks), ("blueline/recall.checks", laid_blueline_recall_checks)], narrowed := true }
def RecallWrongUptoSaid : Prop := recallWrongUptoRow.holds Tryz.pinned (OpenSpec.upto recallWrongSpec)

/-- 'bluelinelaw07.RecallReason', WHERE WHAT IT READS IS OF BULK AT MOST 1048576: true; the input reads as it did. -/
def recallReasonUptoRow : OpenClaim := { program := "ytcdlimgkliklhaagreatdoor", sum := "983aba01720b2ea993b9a282fd08e9409cbdc23fe2c80cf64aa66c1fe809c6b7", func := "blueline/bluelinelaw07.RecallReason", spec := "recallReason", inPlace := ["slices.overlaps[blueline/api.Print]"], unfollowed := true, recurses := true, named := ["blueline/note.checks", "blueline/sheet.checks", "blueline/recall.checks"], plainKeys := false, apart := false, laid := [("blueline/sheet.checks", laid_blueline_sheet_checks), ("blueline/note.checks", laid_blueline_note_checks), ("blueline/recall.checks", laid_blueline_recall_checks)], narrowed := true }
def RecallReasonUptoSaid : Prop := recallReasonUptoRow.holds Tryz.pinned (OpenSpec.upto recallReasonSpec)

/-- 'bluelinelaw07.RecallSettled', WHERE WHAT IT READS IS OF BULK AT MOST 1048576: true; the input reads as it did. -/
def recallSettledUptoRow : OpenClaim := { program := "ytcdlimgkliklhaagreatdoor", sum := "983aba01720b2ea993b9a282fd08e9409cbdc23fe2c80cf64aa66c1fe809c6b7", func := "blueline/bluelinelaw07.RecallSettled", spec := "recallSettled", inPlace := ["slices.overlaps[blueline/api.Print]"], unfollowed := true, recurses := true, named := ["blueline/note.checks", "blueline/sheet.checks", "blueline/recall.checks"], plainKeys := false, apart := false, laid := [("blueline/sheet.checks", laid_blueline_sheet_checks), ("blueline/note.checks", laid_blueline_note_checks), ("blueline/recall.checks", laid_blueline_recall_checks)], narrowed := true }
def RecallSettledUptoSaid : Prop := recallSettledUptoRow.holds Tryz.pinned (OpenSpec.upto recallSettledSpec)

end Rows
end Go.Proofs.YtcdlimgkliklhaaGreatDoor
