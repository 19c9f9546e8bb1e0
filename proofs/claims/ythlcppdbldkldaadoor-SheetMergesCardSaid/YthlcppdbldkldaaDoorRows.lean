/-
  NARROWER THAN 'FOR EVERY INPUT', by the rows' own cells (each row's printed sentence says how): SheetMerges: laid · SheetSized: laid · SheetExamples: laid.
  DERIVED. THE GIVEN ROWS OF THIS SEAT. 3 by the template 'for every input the law returns true; each argument reads behind the call as it read before'; 0 by the template 'total and deterministic' (their statements: YthlcppdbldkldaaDoorTotals.lean).
  GIVEN WITH THE SEED: the statements are not yours to turn. If you find one false, say at which input.
  Laid BY PROGRAM, IN A SANDBOX (cutbox-rows.mjs): the forced cells as the released guide's own fill.sh prints them over the translation 15133dbc6d3f30ad… (all of the seat's roots in one cut). By AI agents, Wed Nov 11 2026. No macro, syntax, notation, axiom, sorry.
-/
import Derived.Test.YthlcppdbldkldaaDoorChecked
import GoSem.Claim
import GoSem.ClaimJoined
import GoSem.ClaimMapViews
import Derived.JoinedTies
import Derived.KernelRfl
namespace Go.Proofs.YthlcppdbldkldaaDoor
/- THE CELL 'sum', in the pinned program and in every row, IS THE sha256 OF THE DUMP (.gsa) THAT YthlcppdbldkldaaDoorProg.lean LOADS. Nothing in Lean hashes anything: it is a label: what it is worth is what the hold of that sum in a sandbox is worth. -/
noncomputable def Tryd.pinned : Pinned := { name := "ythlcppdbldkldaadoor", sum := "15133dbc6d3f30ad26acb643156bcb3e588c9598ed069e0e3efde6c65569faba", checked := Tryd.checked }
namespace Rows
def none {H : Type} : Left H := { results := [], args := [] }

/- WHAT THE LISTED PACKAGE-LEVEL VARIABLES READ AS WHEN THE CALL BEGINS. Each datum BY PROGRAM (the guide's laid-datum.mjs) off the statement by which the dump's own 'gosem.cut.vars' lays the variable. In a bare row this is a premise. The card (YthlcppdbldkldaaDoorCards.lean) ties it to the program's text. -/
def laid_blueline_sheet_checks {H : Type} : DataW H := .iface "func table" (.agg [.agg [.iface "func" (.lit (.string [98, 108, 117, 101, 108, 105, 110, 101, 47, 115, 104, 101, 101, 116, 46, 99, 104, 101, 99, 107, 115, 36, 49]))], .agg [.iface "func" (.lit (.string [98, 108, 117, 101, 108, 105, 110, 101, 47, 115, 104, 101, 101, 116, 46, 99, 104, 101, 99, 107, 115, 36, 50]))], .agg [.iface "func" (.lit (.string [98, 108, 117, 101, 108, 105, 110, 101, 47, 115, 104, 101, 101, 116, 46, 99, 104, 101, 99, 107, 115, 36, 51]))], .agg [.iface "func" (.lit (.string [98, 108, 117, 101, 108, 105, 110, 101, 47, 115, 104, 101, 101, 116, 46, 99, 104, 101, 99, 107, 115, 36, 52]))]])

/-- 'bluelinelaw02.SheetMerges': WHATEVER THE INPUT: true; the input reads as it did. -/
def sheetMergesSpec : ChangeSpec := { name := "sheetMerges", fn := fun _ => fun
  | [d1, d2] => { results := [.lit (.bool true)], args := [d1, d2] }
  | _ => none }
def sheetMergesRow : OpenClaim := { program := "ythlcppdbldkldaadoor", sum := "15133dbc6d3f30ad26acb643156bcb3e588c9598ed069e0e3efde6c65569faba", func := "blueline/bluelinelaw02.SheetMerges", spec := "sheetMerges", unfollowed := true, recurses := true, named := ["blueline/sheet.checks"], apart := false, laid := [("blueline/sheet.checks", laid_blueline_sheet_checks)] }
def SheetMergesSaid : Prop := sheetMergesRow.holds Tryd.pinned (OpenSpec.ofChange sheetMergesSpec)

/-- ITS FALSE NEIGHBOUR: 'it returns false'. Refute it at one input. -/
def sheetMergesWrong : ChangeSpec := { name := "sheetMerges", fn := fun _ => fun
  | [d1, d2] => { results := [.lit (.bool false)], args := [d1, d2] }
  | _ => none }
def SheetMergesWrongFalsely : Prop := sheetMergesRow.holds Tryd.pinned (OpenSpec.ofChange sheetMergesWrong)

/-- 'bluelinelaw02.SheetSized': WHATEVER THE INPUT: true; the input reads as it did. -/
def sheetSizedSpec : ChangeSpec := { name := "sheetSized", fn := fun _ => fun
  | [d1, d2, d3] => { results := [.lit (.bool true)], args := [d1, d2, d3] }
  | _ => none }
def sheetSizedRow : OpenClaim := { program := "ythlcppdbldkldaadoor", sum := "15133dbc6d3f30ad26acb643156bcb3e588c9598ed069e0e3efde6c65569faba", func := "blueline/bluelinelaw02.SheetSized", spec := "sheetSized", unfollowed := true, recurses := true, named := ["blueline/sheet.checks"], apart := false, laid := [("blueline/sheet.checks", laid_blueline_sheet_checks)] }
def SheetSizedSaid : Prop := sheetSizedRow.holds Tryd.pinned (OpenSpec.ofChange sheetSizedSpec)

/-- ITS FALSE NEIGHBOUR: 'it returns false'. Refute it at one input. -/
def sheetSizedWrong : ChangeSpec := { name := "sheetSized", fn := fun _ => fun
  | [d1, d2, d3] => { results := [.lit (.bool false)], args := [d1, d2, d3] }
  | _ => none }
def SheetSizedWrongFalsely : Prop := sheetSizedRow.holds Tryd.pinned (OpenSpec.ofChange sheetSizedWrong)

/-- 'bluelinelaw02.SheetExamples': WHATEVER THE INPUT: true; the input reads as it did. -/
def sheetExamplesSpec : ChangeSpec := { name := "sheetExamples", fn := fun _ => fun
  | [] => { results := [.lit (.bool true)], args := [] }
  | _ => none }
def sheetExamplesRow : OpenClaim := { program := "ythlcppdbldkldaadoor", sum := "15133dbc6d3f30ad26acb643156bcb3e588c9598ed069e0e3efde6c65569faba", func := "blueline/bluelinelaw02.SheetExamples", spec := "sheetExamples", unfollowed := true, recurses := true, named := ["blueline/sheet.checks"], apart := false, laid := [("blueline/sheet.checks", laid_blueline_sheet_checks)] }
def SheetExamplesSaid : Prop := sheetExamplesRow.holds Tryd.pinned (OpenSpec.ofChange sheetExamplesSpec)

/-- ITS FALSE NEIGHBOUR: 'it returns false'. Refute it at one input. -/
def sheetExamplesWrong : ChangeSpec := { name := "sheetExamples", fn := fun _ => fun
  | [] => { results := [.lit (.bool false)], args := [] }
  | _ => none }
def SheetExamplesWrongFalsely : Prop := sheetExamplesRow.holds Tryd.pinned (OpenSpec.ofChange sheetExamplesWrong)

/- THE SECOND FORM. 'bulk': how many values and letters a reading holds, each counted each time it is reached (what is shared counts as often as it is met; a slice's spare places count too). A statement '..UptoSaid' is the law's where the arguments, and the package variables that the reading takes, are together of bulk at most 1048576: NARROWER than '..Said'. Prove '..Said' where nothing that the law and all that it calls make is longer than what came in: it says more and counts as full. Else prove '..UptoSaid'. A law counts once. -/
mutual
def uptoBulk {H : Type} : DataW H → Nat
  | .lit (.string bytes) => bytes.length + 1
  | .lit _ => 1
  | .nil => 1
  | .ptr d => uptoBulk d + 1
  | .slice elems spare => uptoBulkAll elems + uptoBulkAll spare + 1
  | .agg parts => uptoBulkAll parts + 1
  | .iface _ d => uptoBulk d + 1
  | .map entries => uptoBulkEntries entries + 1
  | .held _ => 1
def uptoBulkAll {H : Type} : List (DataW H) → Nat
  | [] => 0
  | d :: r => uptoBulk d + uptoBulkAll r
def uptoBulkEntries {H : Type} : List (Lit × DataW H) → Nat
  | [] => 0
  | x :: r => uptoBulkEntry x + uptoBulkEntries r
def uptoBulkEntry {H : Type} : Lit × DataW H → Nat
  | (.string bytes, d) => bytes.length + uptoBulk d + 1
  | (_, d) => uptoBulk d + 1
 end
def uptoSmall : (H : Type) → List (DataW H) → Bool := fun _ ds => decide (uptoBulkAll ds ≤ 1048576)
def OpenSpec.upto (s : _root_.Go.ChangeSpec) : _root_.Go.OpenSpec := { _root_.Go.OpenSpec.ofChange s with cond := some uptoSmall }

/-- 'bluelinelaw02.SheetMerges', WHERE WHAT IT READS IS OF BULK AT MOST 1048576: true; the input reads as it did. -/
def sheetMergesUptoRow : OpenClaim := { program := "ythlcppdbldkldaadoor", sum := "15133dbc6d3f30ad26acb643156bcb3e588c9598ed069e0e3efde6c65569faba", func := "blueline/bluelinelaw02.SheetMerges", spec := "sheetMerges", unfollowed := true, recurses := true, named := ["blueline/sheet.checks"], apart := false, laid := [("blueline/sheet.checks", laid_blueline_sheet_checks)], narrowed := true }
def SheetMergesUptoSaid : Prop := sheetMergesUptoRow.holds Tryd.pinned (OpenSpec.upto sheetMergesSpec)

/-- 'bluelinelaw02.SheetSized', WHERE WHAT IT READS IS OF BULK AT MOST 1048576: true; the input reads as it did. -/
def sheetSizedUptoRow : OpenClaim := { program := "ythlcppdbldkldaadoor", sum := "15133dbc6d3f30ad26acb643156bcb3e588c9598ed069e0e3efde6c65569faba", func := "blueline/bluelinelaw02.SheetSized", spec := "sheetSized", unfollowed := true, recurses := true, named := ["blueline/sheet.checks"], apart := false, laid := [("blueline/sheet.checks", laid_blueline_sheet_checks)], narrowed := true }
def SheetSizedUptoSaid : Prop := sheetSizedUptoRow.holds Tryd.pinned (OpenSpec.upto sheetSizedSpec)

/-- 'bluelinelaw02.SheetExamples', WHERE WHAT IT READS IS OF BULK AT MOST 1048576: true; the input reads as it did. -/
def sheetExamplesUptoRow : OpenClaim := { program := "ythlcppdbldkldaadoor", sum := "15133dbc6d3f30ad26acb643156bcb3e588c9598ed069e0e3efde6c65569faba", func := "blueline/bluelinelaw02.SheetExamples", spec := "sheetExamples", unfollowed := true, recurses := true, named := ["blueline/sheet.checks"], apart := false, laid := [("blueline/sheet.checks", laid_blueline_sheet_checks)], narrowed := true }
def SheetExamplesUptoSaid : Prop := sheetExamplesUptoRow.holds Tryd.pinned (OpenSpec.upto sheetExamplesSpec)

end Rows
end Go.Proofs.YthlcppdbldkldaaDoor
