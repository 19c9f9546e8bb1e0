/-
  NARROWER THAN 'FOR EVERY INPUT', by the rows' own cells (each row's printed sentence says how): SheetTells: laid · SheetParts: laid · SheetUses: laid · SheetMerges: laid · SheetEnds: laid · SheetItems: laid · SheetLetter: laid · SheetAbove: laid · SheetDeep: laid · SheetTurned: laid · SheetBelow: laid · SheetSized: laid · SheetExamples: laid · SheetOnce: laid · SheetSides: laid.
  DERIVED. THE GIVEN ROWS OF THIS SEAT. 15 by the template 'for every input the law returns true; each argument reads behind the call as it read before'; 0 by the template 'total and deterministic' (their statements: YtdpmioiamcgfkaaDoorTotals.lean).
  GIVEN WITH THE SEED: the statements are not yours to turn. If you find one false, say at which input.
  Laid BY PROGRAM, IN A SANDBOX (cutbox-rows.mjs): the forced cells as the released guide's own fill.sh prints them over the translation f26a0896604c1738… (all of the seat's roots in one cut). By AI agents, Wed Nov 11 2026. No macro, syntax, notation, axiom, sorry.
-/
import Derived.Test.YtdpmioiamcgfkaaDoorChecked
import GoSem.Claim
import GoSem.ClaimJoined
import GoSem.ClaimMapViews
import Derived.JoinedTies
import Derived.KernelRfl
namespace Go.Proofs.YtdpmioiamcgfkaaDoor
/- THE CELL 'sum', in the pinned program and in every row, IS THE sha256 OF THE DUMP (.gsa) THAT YtdpmioiamcgfkaaDoorProg.lean LOADS. Nothing in Lean hashes anything: it is a label: what it is worth is what the hold of that sum in a sandbox is worth. -/
noncomputable def Tryd.pinned : Pinned := { name := "ytdpmioiamcgfkaadoor", sum := "f26a0896604c173897b36ab56bcced730eacfba3e9c1aa8e12a827f7cc7f010c", checked := Tryd.checked }
namespace Rows
def none {H : Type} : Left H := { results := [], args := [] }

/- WHAT THE LISTED PACKAGE-LEVEL VARIABLES READ AS WHEN THE CALL BEGINS. Each datum BY PROGRAM (the guide's laid-datum.mjs) off the statement by which the dump's own 'gosem.cut.vars' lays the variable. In a bare row this is a premise. The card (YtdpmioiamcgfkaaDoorCards.lean) ties it to the program's text. -/
def laid_blueline_sheet_checks {H : Type} : DataW H := .iface "func table" (.agg [.agg [.iface "func" (.lit (.string [98, 108, 117, 101, 108, 105, 110, 101, 47, 115, 104, 101, 101, 116, 46, 99, 104, 101, 99, 107, 115, 36, 49]))], .agg [.iface "func" (.lit (.string [98, 108, 117, 101, 108, 105, 110, 101, 47, 115, 104, 101, 101, 116, 46, 99, 104, 101, 99, 107, 115, 36, 50]))], .agg [.iface "func" (.lit (.string [98, 108, 117, 101, 108, 105, 110, 101, 47, 115, 104, 101, 101, 116, 46, 99, 104, 101, 99, 107, 115, 36, 51]))], .agg [.iface "func" (.lit (.string [98, 108, 117, 101, 108, 105, 110, 101, 47, 115, 104, 101, 101, 116, 46, 99, 104, 101, 99, 107, 115, 36, 52]))]])

/-- 'bluelinelaw02.SheetTells': WHATEVER THE INPUT: true; the input reads as it did. -/
def sheetTellsSpec : ChangeSpec := { name := "sheetTells", fn := fun _ => fun
  | [d1, d2, d3] => { results := [.lit (.bool true)], args := [d1, d2, d3] }
  | _ => none }
def sheetTellsRow : OpenClaim := { program := "ytdpmioiamcgfkaadoor", sum := "f26a0896604c173897b36ab56bcced730eacfba3e9c1aa8e12a827f7cc7f010c", func := "blueline/bluelinelaw02.SheetTells", spec := "sheetTells", unfollowed := true, recurses := true, named := ["blueline/sheet.checks"], apart := false, laid := [("blueline/sheet.checks", laid_blueline_sheet_checks)] }
def SheetTellsSaid : Prop := sheetTellsRow.holds Tryd.pinned (OpenSpec.ofChange sheetTellsSpec)

/-- ITS FALSE NEIGHBOUR: 'it returns false'. Refute it at one input. -/
def sheetTellsWrong : ChangeSpec := { name := "sheetTells", fn := fun _ => fun
  | [d1, d2, d3] => { results := [.lit (.bool false)], args := [d1, d2, d3] }
  | _ => none }
def SheetTellsWrongFalsely : Prop := sheetTellsRow.holds Tryd.pinned (OpenSpec.ofChange sheetTellsWrong)

/-- 'bluelinelaw02.SheetParts': WHATEVER THE INPUT: true; the input reads as it did. -/
def sheetPartsSpec : ChangeSpec := { name := "sheetParts", fn := fun _ => fun
  | [d1, d2, d3] => { results := [.lit (.bool true)], args := [d1, d2, d3] }
  | _ => none }
def sheetPartsRow : OpenClaim := { program := "ytdpmioiamcgfkaadoor", sum := "f26a0896604c173897b36ab56bcced730eacfba3e9c1aa8e12a827f7cc7f010c", func := "blueline/bluelinelaw02.SheetParts", spec := "sheetParts", unfollowed := true, recurses := true, named := ["blueline/sheet.checks"], apart := false, laid := [("blueline/sheet.checks", laid_blueline_sheet_checks)] }
def SheetPartsSaid : Prop := sheetPartsRow.holds Tryd.pinned (OpenSpec.ofChange sheetPartsSpec)

/-- ITS FALSE NEIGHBOUR: 'it returns false'. Refute it at one input. -/
def sheetPartsWrong : ChangeSpec := { name := "sheetParts", fn := fun _ => fun
  | [d1, d2, d3] => { results := [.lit (.bool false)], args := [d1, d2, d3] }
  | _ => none }
def SheetPartsWrongFalsely : Prop := sheetPartsRow.holds Tryd.pinned (OpenSpec.ofChange sheetPartsWrong)

/-- 'bluelinelaw02.SheetUses': WHATEVER THE INPUT: true; the input reads as it did. -/
def sheetUsesSpec : ChangeSpec := { name := "sheetUses", fn := fun _ => fun
  | [d1, d2, d3, d4, d5] => { results := [.lit (.bool true)], args := [d1, d2, d3, d4, d5] }
  | _ => none }
def sheetUsesRow : OpenClaim := { program := "ytdpmioiamcgfkaadoor", sum := "f26a0896604c173897b36ab56bcced730eacfba3e9c1aa8e12a827f7cc7f010c", func := "blueline/bluelinelaw02.SheetUses", spec := "sheetUses", unfollowed := true, recurses := true, named := ["blueline/sheet.checks"], apart := false, laid := [("blueline/sheet.checks", laid_blueline_sheet_checks)] }
def SheetUsesSaid : Prop := sheetUsesRow.holds Tryd.pinned (OpenSpec.ofChange sheetUsesSpec)

/-- ITS FALSE NEIGHBOUR: 'it returns false'. Refute it at one input. -/
def sheetUsesWrong : ChangeSpec := { name := "sheetUses", fn := fun _ => fun
  | [d1, d2, d3, d4, d5] => { results := [.lit (.bool false)], args := [d1, d2, d3, d4, d5] }
  | _ => none }
def SheetUsesWrongFalsely : Prop := sheetUsesRow.holds Tryd.pinned (OpenSpec.ofChange sheetUsesWrong)

/-- 'bluelinelaw02.SheetMerges': WHATEVER THE INPUT: true; the input reads as it did. -/
def sheetMergesSpec : ChangeSpec := { name := "sheetMerges", fn := fun _ => fun
  | [d1, d2] => { results := [.lit (.bool true)], args := [d1, d2] }
  | _ => none }
def sheetMergesRow : OpenClaim := { program := "ytdpmioiamcgfkaadoor", sum := "f26a0896604c173897b36ab56bcced730eacfba3e9c1aa8e12a827f7cc7f010c", func := "blueline/bluelinelaw02.SheetMerges", spec := "sheetMerges", unfollowed := true, recurses := true, named := ["blueline/sheet.checks"], apart := false, laid := [("blueline/sheet.checks", laid_blueline_sheet_checks)] }
def SheetMergesSaid : Prop := sheetMergesRow.holds Tryd.pinned (OpenSpec.ofChange sheetMergesSpec)

/-- ITS FALSE NEIGHBOUR: 'it returns false'. Refute it at one input. -/
def sheetMergesWrong : ChangeSpec := { name := "sheetMerges", fn := fun _ => fun
  | [d1, d2] => { results := [.lit (.bool false)], args := [d1, d2] }
  | _ => none }
def SheetMergesWrongFalsely : Prop := sheetMergesRow.holds Tryd.pinned (OpenSpec.ofChange sheetMergesWrong)

/-- 'bluelinelaw02.SheetEnds': WHATEVER THE INPUT: true; the input reads as it did. -/
def sheetEndsSpec : ChangeSpec := { name := "sheetEnds", fn := fun _ => fun
  | [d1, d2, d3] => { results := [.lit (.bool true)], args := [d1, d2, d3] }
  | _ => none }
def sheetEndsRow : OpenClaim := { program := "ytdpmioiamcgfkaadoor", sum := "f26a0896604c173897b36ab56bcced730eacfba3e9c1aa8e12a827f7cc7f010c", func := "blueline/bluelinelaw02.SheetEnds", spec := "sheetEnds", unfollowed := true, recurses := true, named := ["blueline/sheet.checks"], apart := false, laid := [("blueline/sheet.checks", laid_blueline_sheet_checks)] }
def SheetEndsSaid : Prop := sheetEndsRow.holds Tryd.pinned (OpenSpec.ofChange sheetEndsSpec)

/-- ITS FALSE NEIGHBOUR: 'it returns false'. Refute it at one input. -/
def sheetEndsWrong : ChangeSpec := { name := "sheetEnds", fn := fun _ => fun
  | [d1, d2, d3] => { results := [.lit (.bool false)], args := [d1, d2, d3] }
  | _ => none }
def SheetEndsWrongFalsely : Prop := sheetEndsRow.holds Tryd.pinned (OpenSpec.ofChange sheetEndsWrong)

/-- 'bluelinelaw02.SheetItems': WHATEVER THE INPUT: true; the input reads as it did. -/
def sheetItemsSpec : ChangeSpec := { name := "sheetItems", fn := fun _ => fun
  | [d1, d2, d3] => { results := [.lit (.bool true)], args := [d1, d2, d3] }
  | _ => none }
def sheetItemsRow : OpenClaim := { program := "ytdpmioiamcgfkaadoor", sum := "f26a0896604c173897b36ab56bcced730eacfba3e9c1aa8e12a827f7cc7f010c", func := "blueline/bluelinelaw02.SheetItems", spec := "sheetItems", unfollowed := true, recurses := true, named := ["blueline/sheet.checks"], apart := false, laid := [("blueline/sheet.checks", laid_blueline_sheet_checks)] }
def SheetItemsSaid : Prop := sheetItemsRow.holds Tryd.pinned (OpenSpec.ofChange sheetItemsSpec)

/-- ITS FALSE NEIGHBOUR: 'it returns false'. Refute it at one input. -/
def sheetItemsWrong : ChangeSpec := { name := "sheetItems", fn := fun _ => fun
  | [d1, d2, d3] => { results := [.lit (.bool false)], args := [d1, d2, d3] }
  | _ => none }
def SheetItemsWrongFalsely : Prop := sheetItemsRow.holds Tryd.pinned (OpenSpec.ofChange sheetItemsWrong)

/-- 'bluelinelaw02.SheetLetter': WHATEVER THE INPUT: true; the input reads as it did. -/
def sheetLetterSpec : ChangeSpec := { name := "sheetLetter", fn := fun _ => fun
  | [d1, d2, d3, d4, d5] => { results := [.lit (.bool true)], args := [d1, d2, d3, d4, d5] }
  | _ => none }
def sheetLetterRow : OpenClaim := { program := "ytdpmioiamcgfkaadoor", sum := "f26a0896604c173897b36ab56bcced730eacfba3e9c1aa8e12a827f7cc7f010c", func := "blueline/bluelinelaw02.SheetLetter", spec := "sheetLetter", unfollowed := true, recurses := true, named := ["blueline/sheet.checks"], apart := false, laid := [("blueline/sheet.checks", laid_blueline_sheet_checks)] }
def SheetLetterSaid : Prop := sheetLetterRow.holds Tryd.pinned (OpenSpec.ofChange sheetLetterSpec)

/-- ITS FALSE NEIGHBOUR: 'it returns false'. Refute it at one input. -/
def sheetLetterWrong : ChangeSpec := { name := "sheetLetter", fn := fun _ => fun
  | [d1, d2, d3, d4, d5] => { results := [.lit (.bool false)], args := [d1, d2, d3, d4, d5] }
  | _ => none }
def SheetLetterWrongFalsely : Prop := sheetLetterRow.holds Tryd.pinned (OpenSpec.ofChange sheetLetterWrong)

/-- 'bluelinelaw02.SheetAbove': WHATEVER THE INPUT: true; the input reads as it did. -/
def sheetAboveSpec : ChangeSpec := { name := "sheetAbove", fn := fun _ => fun
  | [d1, d2, d3, d4] => { results := [.lit (.bool true)], args := [d1, d2, d3, d4] }
  | _ => none }
def sheetAboveRow : OpenClaim := { program := "ytdpmioiamcgfkaadoor", sum := "f26a0896604c173897b36ab56bcced730eacfba3e9c1aa8e12a827f7cc7f010c", func := "blueline/bluelinelaw02.SheetAbove", spec := "sheetAbove", unfollowed := true, recurses := true, named := ["blueline/sheet.checks"], apart := false, laid := [("blueline/sheet.checks", laid_blueline_sheet_checks)] }
def SheetAboveSaid : Prop := sheetAboveRow.holds Tryd.pinned (OpenSpec.ofChange sheetAboveSpec)

/-- ITS FALSE NEIGHBOUR: 'it returns false'. Refute it at one input. -/
def sheetAboveWrong : ChangeSpec := { name := "sheetAbove", fn := fun _ => fun
  | [d1, d2, d3, d4] => { results := [.lit (.bool false)], args := [d1, d2, d3, d4] }
  | _ => none }
def SheetAboveWrongFalsely : Prop := sheetAboveRow.holds Tryd.pinned (OpenSpec.ofChange sheetAboveWrong)

/-- 'bluelinelaw02.SheetDeep': WHATEVER THE INPUT: true; the input reads as it did. -/
def sheetDeepSpec : ChangeSpec := { name := "sheetDeep", fn := fun _ => fun
  | [d1, d2, d3] => { results := [.lit (.bool true)], args := [d1, d2, d3] }
  | _ => none }
def sheetDeepRow : OpenClaim := { program := "ytdpmioiamcgfkaadoor", sum := "f26a0896604c173897b36ab56bcced730eacfba3e9c1aa8e12a827f7cc7f010c", func := "blueline/bluelinelaw02.SheetDeep", spec := "sheetDeep", unfollowed := true, recurses := true, named := ["blueline/sheet.checks"], apart := false, laid := [("blueline/sheet.checks", laid_blueline_sheet_checks)] }
def SheetDeepSaid : Prop := sheetDeepRow.holds Tryd.pinned (OpenSpec.ofChange sheetDeepSpec)

/-- ITS FALSE NEIGHBOUR: 'it returns false'. Refute it at one input. -/
def sheetDeepWrong : ChangeSpec := { name := "sheetDeep", fn := fun _ => fun
  | [d1, d2, d3] => { results := [.lit (.bool false)], args := [d1, d2, d3] }
  | _ => none }
def SheetDeepWrongFalsely : Prop := sheetDeepRow.holds Tryd.pinned (OpenSpec.ofChange sheetDeepWrong)

/-- 'bluelinelaw02.SheetTurned': WHATEVER THE INPUT: true; the input reads as it did. -/
def sheetTurnedSpec : ChangeSpec := { name := "sheetTurned", fn := fun _ => fun
  | [d1, d2, d3, d4] => { results := [.lit (.bool true)], args := [d1, d2, d3, d4] }
  | _ => none }
def sheetTurnedRow : OpenClaim := { program := "ytdpmioiamcgfkaadoor", sum := "f26a0896604c173897b36ab56bcced730eacfba3e9c1aa8e12a827f7cc7f010c", func := "blueline/bluelinelaw02.SheetTurned", spec := "sheetTurned", unfollowed := true, recurses := true, named := ["blueline/sheet.checks"], apart := false, laid := [("blueline/sheet.checks", laid_blueline_sheet_checks)] }
def SheetTurnedSaid : Prop := sheetTurnedRow.holds Tryd.pinned (OpenSpec.ofChange sheetTurnedSpec)

/-- ITS FALSE NEIGHBOUR: 'it returns false'. Refute it at one input. -/
def sheetTurnedWrong : ChangeSpec := { name := "sheetTurned", fn := fun _ => fun
  | [d1, d2, d3, d4] => { results := [.lit (.bool false)], args := [d1, d2, d3, d4] }
  | _ => none }
def SheetTurnedWrongFalsely : Prop := sheetTurnedRow.holds Tryd.pinned (OpenSpec.ofChange sheetTurnedWrong)

/-- 'bluelinelaw02.SheetBelow': WHATEVER THE INPUT: true; the input reads as it did. -/
def sheetBelowSpec : ChangeSpec := { name := "sheetBelow", fn := fun _ => fun
  | [d1, d2, d3] => { results := [.lit (.bool true)], args := [d1, d2, d3] }
  | _ => none }
def sheetBelowRow : OpenClaim := { program := "ytdpmioiamcgfkaadoor", sum := "f26a0896604c173897b36ab56bcced730eacfba3e9c1aa8e12a827f7cc7f010c", func := "blueline/bluelinelaw02.SheetBelow", spec := "sheetBelow", unfollowed := true, recurses := true, named := ["blueline/sheet.checks"], apart := false, laid := [("blueline/sheet.checks", laid_blueline_sheet_checks)] }
def SheetBelowSaid : Prop := sheetBelowRow.holds Tryd.pinned (OpenSpec.ofChange sheetBelowSpec)

/-- ITS FALSE NEIGHBOUR: 'it returns false'. Refute it at one input. -/
def sheetBelowWrong : ChangeSpec := { name := "sheetBelow", fn := fun _ => fun
  | [d1, d2, d3] => { results := [.lit (.bool false)], args := [d1, d2, d3] }
  | _ => none }
def SheetBelowWrongFalsely : Prop := sheetBelowRow.holds Tryd.pinned (OpenSpec.ofChange sheetBelowWrong)

/-- 'bluelinelaw02.SheetSized': WHATEVER THE INPUT: true; the input reads as it did. -/
def sheetSizedSpec : ChangeSpec := { name := "sheetSized", fn := fun _ => fun
  | [d1, d2, d3] => { results := [.lit (.bool true)], args := [d1, d2, d3] }
  | _ => none }
def sheetSizedRow : OpenClaim := { program := "ytdpmioiamcgfkaadoor", sum := "f26a0896604c173897b36ab56bcced730eacfba3e9c1aa8e12a827f7cc7f010c", func := "blueline/bluelinelaw02.SheetSized", spec := "sheetSized", unfollowed := true, recurses := true, named := ["blueline/sheet.checks"], apart := false, laid := [("blueline/sheet.checks", laid_blueline_sheet_checks)] }
def SheetSizedSaid : Prop := sheetSizedRow.holds Tryd.pinned (OpenSpec.ofChange sheetSizedSpec)

/-- ITS FALSE NEIGHBOUR: 'it returns false'. Refute it at one input. -/
def sheetSizedWrong : ChangeSpec := { name := "sheetSized", fn := fun _ => fun
  | [d1, d2, d3] => { results := [.lit (.bool false)], args := [d1, d2, d3] }
  | _ => none }
def SheetSizedWrongFalsely : Prop := sheetSizedRow.holds Tryd.pinned (OpenSpec.ofChange sheetSizedWrong)

/-- 'bluelinelaw02.SheetExamples': WHATEVER THE INPUT: true; the input reads as it did. -/
def sheetExamplesSpec : ChangeSpec := { name := "sheetExamples", fn := fun _ => fun
  | [] => { results := [.lit (.bool true)], args := [] }
  | _ => none }
def sheetExamplesRow : OpenClaim := { program := "ytdpmioiamcgfkaadoor", sum := "f26a0896604c173897b36ab56bcced730eacfba3e9c1aa8e12a827f7cc7f010c", func := "blueline/bluelinelaw02.SheetExamples", spec := "sheetExamples", unfollowed := true, recurses := true, named := ["blueline/sheet.checks"], apart := false, laid := [("blueline/sheet.checks", laid_blueline_sheet_checks)] }
def SheetExamplesSaid : Prop := sheetExamplesRow.holds Tryd.pinned (OpenSpec.ofChange sheetExamplesSpec)

/-- ITS FALSE NEIGHBOUR: 'it returns false'. Refute it at one input. -/
def sheetExamplesWrong : ChangeSpec := { name := "sheetExamples", fn := fun _ => fun
  | [] => { results := [.lit (.bool false)], args := [] }
  | _ => none }
def SheetExamplesWrongFalsely : Prop := sheetExamplesRow.holds Tryd.pinned (OpenSpec.ofChange sheetExamplesWrong)

/-- 'bluelinelaw02.SheetOnce': WHATEVER THE INPUT: true; the input reads as it did. -/
def sheetOnceSpec : ChangeSpec := { name := "sheetOnce", fn := fun _ => fun
  | [d1, d2] => { results := [.lit (.bool true)], args := [d1, d2] }
  | _ => none }
def sheetOnceRow : OpenClaim := { program := "ytdpmioiamcgfkaadoor", sum := "f26a0896604c173897b36ab56bcced730eacfba3e9c1aa8e12a827f7cc7f010c", func := "blueline/bluelinelaw02.SheetOnce", spec := "sheetOnce", unfollowed := true, recurses := true, named := ["blueline/sheet.checks"], apart := false, laid := [("blueline/sheet.checks", laid_blueline_sheet_checks)] }
def SheetOnceSaid : Prop := sheetOnceRow.holds Tryd.pinned (OpenSpec.ofChange sheetOnceSpec)

/-- ITS FALSE NEIGHBOUR: 'it returns false'. Refute it at one input. -/
def sheetOnceWrong : ChangeSpec := { name := "sheetOnce", fn := fun _ => fun
  | [d1, d2] => { results := [.lit (.bool false)], args := [d1, d2] }
  | _ => none }
def SheetOnceWrongFalsely : Prop := sheetOnceRow.holds Tryd.pinned (OpenSpec.ofChange sheetOnceWrong)

/-- 'bluelinelaw02.SheetSides': WHATEVER THE INPUT: true; the input reads as it did. -/
def sheetSidesSpec : ChangeSpec := { name := "sheetSides", fn := fun _ => fun
  | [d1, d2] => { results := [.lit (.bool true)], args := [d1, d2] }
  | _ => none }
def sheetSidesRow : OpenClaim := { program := "ytdpmioiamcgfkaadoor", sum := "f26a0896604c173897b36ab56bcced730eacfba3e9c1aa8e12a827f7cc7f010c", func := "blueline/bluelinelaw02.SheetSides", spec := "sheetSides", unfollowed := true, recurses := true, named := ["blueline/sheet.checks"], apart := false, laid := [("blueline/sheet.checks", laid_blueline_sheet_checks)] }
def SheetSidesSaid : Prop := sheetSidesRow.holds Tryd.pinned (OpenSpec.ofChange sheetSidesSpec)

/-- ITS FALSE NEIGHBOUR: 'it returns false'. Refute it at one input. -/
def sheetSidesWrong : ChangeSpec := { name := "sheetSides", fn := fun _ => fun
  | [d1, d2] => { results := [.lit (.bool false)], args := [d1, d2] }
  | _ => none }
def SheetSidesWrongFalsely : Prop := sheetSidesRow.holds Tryd.pinned (OpenSpec.ofChange sheetSidesWrong)

/- THE SECOND FORM. 'bulk': how many values and letters a reading holds, each counted each time it is reached (what is shared counts as often as it is met; a slice's spare places count too). A statement '..UptoSaid' is the law's where the arguments, and the package variables that the reading takes, are together of bulk at most 1048576: NARROWER than '..Said'. Prove '..Said' where nothing that the law and all that it calls make is longer than what came in: it says more and counts as full. Else prove '..UptoSaid'. A law counts once. -/
mutual
def uptoBulk {H : Type} : DataW H → Nat
  | .lit (.string bytes) => bytes.length + 1
  | .lit _ => 1
  | .nil => 1
  | .ptr d => uptoBulk d + 1
  | .slice elems spare => uptoBulkAll elems + uptoBulkAll spare + 1
  | .agg parts => uptoBulkAll parts + 1
  | .iface _ d => uptoBulk d + 1
  | .map entries => uptoBulkEntries entries + 1
  | .held _ => 1
def uptoBulkAll {H : Type} : List (DataW H) → Nat
  | [] => 0
  | d :: r => uptoBulk d + uptoBulkAll r
def uptoBulkEntries {H : Type} : List (Lit × DataW H) → Nat
  | [] => 0
  | x :: r => uptoBulkEntry x + uptoBulkEntries r
def uptoBulkEntry {H : Type} : Lit × DataW H → Nat
  | (.string bytes, d) => bytes.length + uptoBulk d + 1
  | (_, d) => uptoBulk d + 1
 end
def uptoSmall : (H : Type) → List (DataW H) → Bool := fun _ ds => decide (uptoBulkAll ds ≤ 1048576)
def OpenSpec.upto (s : _root_.Go.ChangeSpec) : _root_.Go.OpenSpec := { _root_.Go.OpenSpec.ofChange s with cond := some uptoSmall }

/-- 'bluelinelaw02.SheetTells', WHERE WHAT IT READS IS OF BULK AT MOST 1048576: true; the input reads as it did. -/
def sheetTellsUptoRow : OpenClaim := { program := "ytdpmioiamcgfkaadoor", sum := "f26a0896604c173897b36ab56bcced730eacfba3e9c1aa8e12a827f7cc7f010c", func := "blueline/bluelinelaw02.SheetTells", spec := "sheetTells", unfollowed := true, recurses := true, named := ["blueline/sheet.checks"], apart := false, laid := [("blueline/sheet.checks", laid_blueline_sheet_checks)], narrowed := true }
def SheetTellsUptoSaid : Prop := sheetTellsUptoRow.holds Tryd.pinned (OpenSpec.upto sheetTellsSpec)

/-- 'bluelinelaw02.SheetParts', WHERE WHAT IT READS IS OF BULK AT MOST 1048576: true; the input reads as it did. -/
def sheetPartsUptoRow : OpenClaim := { program := "ytdpmioiamcgfkaadoor", sum := "f26a0896604c173897b36ab56bcced730eacfba3e9c1aa8e12a827f7cc7f010c", func := "blueline/bluelinelaw02.SheetParts", spec := "sheetParts", unfollowed := true, recurses := true, named := ["blueline/sheet.checks"], apart := false, laid := [("blueline/sheet.checks", laid_blueline_sheet_checks)], narrowed := true }
def SheetPartsUptoSaid : Prop := sheetPartsUptoRow.holds Tryd.pinned (OpenSpec.upto sheetPartsSpec)

/-- 'bluelinelaw02.SheetUses', WHERE WHAT IT READS IS OF BULK AT MOST 1048576: true; the input reads as it did. -/
def sheetUsesUptoRow : OpenClaim := { program := "ytdpmioiamcgfkaadoor", sum := "f26a0896604c173897b36ab56bcced730eacfba3e9c1aa8e12a827f7cc7f010c", func := "blueline/bluelinelaw02.SheetUses", spec := "sheetUses", unfollowed := true, recurses := true, named := ["blueline/sheet.checks"], apart := false, laid := [("blueline/sheet.checks", laid_blueline_sheet_checks)], narrowed := true }
def SheetUsesUptoSaid : Prop := sheetUsesUptoRow.holds Tryd.pinned (OpenSpec.upto sheetUsesSpec)

/-- 'bluelinelaw02.SheetMerges', WHERE WHAT IT READS IS OF BULK AT MOST 1048576: true; the input reads as it did. -/
def sheetMergesUptoRow : OpenClaim := { program := "ytdpmioiamcgfkaadoor", sum := "f26a0896604c173897b36ab56bcced730eacfba3e9c1aa8e12a827f7cc7f010c", func := "blueline/bluelinelaw02.SheetMerges", spec := "sheetMerges", unfollowed := true, recurses := true, named := ["blueline/sheet.checks"], apart := false, laid := [("blueline/sheet.checks", laid_blueline_sheet_checks)], narrowed := true }
def SheetMergesUptoSaid : Prop := sheetMergesUptoRow.holds Tryd.pinned (OpenSpec.upto sheetMergesSpec)

/-- 'bluelinelaw02.SheetEnds', WHERE WHAT IT READS IS OF BULK AT MOST 1048576: true; the input reads as it did. -/
def sheetEndsUptoRow : OpenClaim := { program := "ytdpmioiamcgfkaadoor", sum := "f26a0896604c173897b36ab56bcced730eacfba3e9c1aa8e12a827f7cc7f010c", func := "blueline/bluelinelaw02.SheetEnds", spec := "sheetEnds", unfollowed := true, recurses := true, named := ["blueline/sheet.checks"], apart := false, laid := [("blueline/sheet.checks", laid_blueline_sheet_checks)], narrowed := true }
def SheetEndsUptoSaid : Prop := sheetEndsUptoRow.holds Tryd.pinned (OpenSpec.upto sheetEndsSpec)

/-- 'bluelinelaw02.SheetItems', WHERE WHAT IT READS IS OF BULK AT MOST 1048576: true; the input reads as it did. -/
def sheetItemsUptoRow : OpenClaim := { program := "ytdpmioiamcgfkaadoor", sum := "f26a0896604c173897b36ab56bcced730eacfba3e9c1aa8e12a827f7cc7f010c", func := "blueline/bluelinelaw02.SheetItems", spec := "sheetItems", unfollowed := true, recurses := true, named := ["blueline/sheet.checks"], apart := false, laid := [("blueline/sheet.checks", laid_blueline_sheet_checks)], narrowed := true }
def SheetItemsUptoSaid : Prop := sheetItemsUptoRow.holds Tryd.pinned (OpenSpec.upto sheetItemsSpec)

/-- 'bluelinelaw02.SheetLetter', WHERE WHAT IT READS IS OF BULK AT MOST 1048576: true; the input reads as it did. -/
def sheetLetterUptoRow : OpenClaim := { program := "ytdpmioiamcgfkaadoor", sum := "f26a0896604c173897b36ab56bcced730eacfba3e9c1aa8e12a827f7cc7f010c", func := "blueline/bluelinelaw02.SheetLetter", spec := "sheetLetter", unfollowed := true, recurses := true, named := ["blueline/sheet.checks"], apart := false, laid := [("blueline/sheet.checks", laid_blueline_sheet_checks)], narrowed := true }
def SheetLetterUptoSaid : Prop := sheetLetterUptoRow.holds Tryd.pinned (OpenSpec.upto sheetLetterSpec)

/-- 'bluelinelaw02.SheetAbove', WHERE WHAT IT READS IS OF BULK AT MOST 1048576: true; the input reads as it did. -/
def sheetAboveUptoRow : OpenClaim := { program := "ytdpmioiamcgfkaadoor", sum := "f26a0896604c173897b36ab56bcced730eacfba3e9c1aa8e12a827f7cc7f010c", func := "blueline/bluelinelaw02.SheetAbove", spec := "sheetAbove", unfollowed := true, recurses := true, named := ["blueline/sheet.checks"], apart := false, laid := [("blueline/sheet.checks", laid_blueline_sheet_checks)], narrowed := true }
def SheetAboveUptoSaid : Prop := sheetAboveUptoRow.holds Tryd.pinned (OpenSpec.upto sheetAboveSpec)

/-- 'bluelinelaw02.SheetDeep', WHERE WHAT IT READS IS OF BULK AT MOST 1048576: true; the input reads as it did. -/
def sheetDeepUptoRow : OpenClaim := { program := "ytdpmioiamcgfkaadoor", sum := "f26a0896604c173897b36ab56bcced730eacfba3e9c1aa8e12a827f7cc7f010c", func := "blueline/bluelinelaw02.SheetDeep", spec := "sheetDeep", unfollowed := true, recurses := true, named := ["blueline/sheet.checks"], apart := false, laid := [("blueline/sheet.checks", laid_blueline_sheet_checks)], narrowed := true }
def SheetDeepUptoSaid : Prop := sheetDeepUptoRow.holds Tryd.pinned (OpenSpec.upto sheetDeepSpec)

/-- 'bluelinelaw02.SheetTurned', WHERE WHAT IT READS IS OF BULK AT MOST 1048576: true; the input reads as it did. -/
def sheetTurnedUptoRow : OpenClaim := { program := "ytdpmioiamcgfkaadoor", sum := "f26a0896604c173897b36ab56bcced730eacfba3e9c1aa8e12a827f7cc7f010c", func := "blueline/bluelinelaw02.SheetTurned", spec := "sheetTurned", unfollowed := true, recurses := true, named := ["blueline/sheet.checks"], apart := false, laid := [("blueline/sheet.checks", laid_blueline_sheet_checks)], narrowed := true }
def SheetTurnedUptoSaid : Prop := sheetTurnedUptoRow.holds Tryd.pinned (OpenSpec.upto sheetTurnedSpec)

/-- 'bluelinelaw02.SheetBelow', WHERE WHAT IT READS IS OF BULK AT MOST 1048576: true; the input reads as it did. -/
def sheetBelowUptoRow : OpenClaim := { program := "ytdpmioiamcgfkaadoor", sum := "f26a0896604c173897b36ab56bcced730eacfba3e9c1aa8e12a827f7cc7f010c", func := "blueline/bluelinelaw02.SheetBelow", spec := "sheetBelow", unfollowed := true, recurses := true, named := ["blueline/sheet.checks"], apart := false, laid := [("blueline/sheet.checks", laid_blueline_sheet_checks)], narrowed := true }
def SheetBelowUptoSaid : Prop := sheetBelowUptoRow.holds Tryd.pinned (OpenSpec.upto sheetBelowSpec)

/-- 'bluelinelaw02.SheetSized', WHERE WHAT IT READS IS OF BULK AT MOST 1048576: true; the input reads as it did. -/
def sheetSizedUptoRow : OpenClaim := { program := "ytdpmioiamcgfkaadoor", sum := "f26a0896604c173897b36ab56bcced730eacfba3e9c1aa8e12a827f7cc7f010c", func := "blueline/bluelinelaw02.SheetSized", spec := "sheetSized", unfollowed := true, recurses := true, named := ["blueline/sheet.checks"], apart := false, laid := [("blueline/sheet.checks", laid_blueline_sheet_checks)], narrowed := true }
def SheetSizedUptoSaid : Prop := sheetSizedUptoRow.holds Tryd.pinned (OpenSpec.upto sheetSizedSpec)

/-- 'bluelinelaw02.SheetExamples', WHERE WHAT IT READS IS OF BULK AT MOST 1048576: true; the input reads as it did. -/
def sheetExamplesUptoRow : OpenClaim := { program := "ytdpmioiamcgfkaadoor", sum := "f26a0896604c173897b36ab56bcced730eacfba3e9c1aa8e12a827f7cc7f010c", func := "blueline/bluelinelaw02.SheetExamples", spec := "sheetExamples", unfollowed := true, recurses := true, named := ["blueline/sheet.checks"], apart := false, laid := [("blueline/sheet.checks", laid_blueline_sheet_checks)], narrowed := true }
def SheetExamplesUptoSaid : Prop := sheetExamplesUptoRow.holds Tryd.pinned (OpenSpec.upto sheetExamplesSpec)

/-- 'bluelinelaw02.SheetOnce', WHERE WHAT IT READS IS OF BULK AT MOST 1048576: true; the input reads as it did. -/
def sheetOnceUptoRow : OpenClaim := { program := "ytdpmioiamcgfkaadoor", sum := "f26a0896604c173897b36ab56bcced730eacfba3e9c1aa8e12a827f7cc7f010c", func := "blueline/bluelinelaw02.SheetOnce", spec := "sheetOnce", unfollowed := true, recurses := true, named := ["blueline/sheet.checks"], apart := false, laid := [("blueline/sheet.checks", laid_blueline_sheet_checks)], narrowed := true }
def SheetOnceUptoSaid : Prop := sheetOnceUptoRow.holds Tryd.pinned (OpenSpec.upto sheetOnceSpec)

/-- 'bluelinelaw02.SheetSides', WHERE WHAT IT READS IS OF BULK AT MOST 1048576: true; the input reads as it did. -/
def sheetSidesUptoRow : OpenClaim := { program := "ytdpmioiamcgfkaadoor", sum := "f26a0896604c173897b36ab56bcced730eacfba3e9c1aa8e12a827f7cc7f010c", func := "blueline/bluelinelaw02.SheetSides", spec := "sheetSides", unfollowed := true, recurses := true, named := ["blueline/sheet.checks"], apart := false, laid := [("blueline/sheet.checks", laid_blueline_sheet_checks)], narrowed := true }
def SheetSidesUptoSaid : Prop := sheetSidesUptoRow.holds Tryd.pinned (OpenSpec.upto sheetSidesSpec)

end Rows
end Go.Proofs.YtdpmioiamcgfkaaDoor
