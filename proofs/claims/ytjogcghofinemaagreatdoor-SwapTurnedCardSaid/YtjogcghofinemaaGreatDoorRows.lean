/-
  NARROWER THAN 'FOR EVERY INPUT', by the rows' own cells (each row's printed sentence says how): SwapChain: laid · SwapBroken: laid · SwapByNotes: laid · SwapClosed: laid · SwapClasses: laid · SwapMore: laid · SwapLost: laid · SwapTurned: laid · SwapPlaces: laid · SwapExamples: laid · SwapSure: laid.
  DERIVED. THE GIVEN ROWS OF THIS SEAT. 11 by the template 'for every input the law returns true; each argument reads behind the call as it read before'; 0 by the template 'total and deterministic' (their statements: YtjogcghofinemaaGreatDoorTotals.lean).
  GIVEN WITH THE SEED: the statements are not yours to turn. If you find one false, say at which input.
  Laid BY PROGRAM, IN A SANDBOX (cutbox-rows.mjs): the forced cells as the released guide's own fill.sh prints them over the translation e392e07e17f67d29… (all of the seat's roots in one cut). By AI agents, Wed Nov 11 2026. No macro, syntax, notation, axiom, sorry.
-/
import Derived.Test.YtjogcghofinemaaGreatDoorChecked
import GoSem.Claim
import GoSem.ClaimJoined
import GoSem.ClaimMapViews
import Derived.JoinedTies
import Derived.KernelRfl
namespace Go.Proofs.YtjogcghofinemaaGreatDoor
/- THE CELL 'sum', in the pinned program and in every row, IS THE sha256 OF THE DUMP (.gsa) THAT YtjogcghofinemaaGreatDoorProg.lean LOADS. Nothing in Lean hashes anything: it is a label: what it is worth is what the hold of that sum in a sandbox is worth. -/
noncomputable def Tryz.pinned : Pinned := { name := "ytjogcghofinemaagreatdoor", sum := "e392e07e17f67d298c6039ab14db28eccd9c2d4a8e642293a93cbbff475d705d", checked := Tryz.checked }
namespace Rows
def none {H : Type} : Left H := { results := [], args := [] }

/- WHAT THE LISTED PACKAGE-LEVEL VARIABLES READ AS WHEN THE CALL BEGINS. Each datum BY PROGRAM (the guide's laid-datum.mjs) off the statement by which the dump's own 'gosem.cut.vars' lays the variable. In a bare row this is a premise. The card (YtjogcghofinemaaGreatDoorCards.lean) ties it to the program's text. -/
def laid_blueline_sheet_checks {H : Type} : DataW H := .iface "func table" (.agg [.agg [.iface "func" (.lit (.string [98, 108, 117, 101, 108, 105, 110, 101, 47, 115, 104, 101, 101, 116, 46, 99, 104, 101, 99, 107, 115, 36, 49]))], .agg [.iface "func" (.lit (.string [98, 108, 117, 101, 108, 105, 110, 101, 47, 115, 104, 101, 101, 116, 46, 99, 104, 101, 99, 107, 115, 36, 50]))], .agg [.iface "func" (.lit (.string [98, 108, 117, 101, 108, 105, 110, 101, 47, 115, 104, 101, 101, 116, 46, 99, 104, 101, 99, 107, 115, 36, 51]))], .agg [.iface "func" (.lit (.string [98, 108, 117, 101, 108, 105, 110, 101, 47, 115, 104, 101, 101, 116, 46, 99, 104, 101, 99, 107, 115, 36, 52]))]])
def laid_blueline_note_checks {H : Type} : DataW H := .iface "func table" (.agg [.agg [.iface "func" (.lit (.string [98, 108, 117, 101, 108, 105, 110, 101, 47, 110, 111, 116, 101, 46, 99, 104, 101, 99, 107, 115, 36, 49]))], .agg [.iface "func" (.lit (.string [98, 108, 117, 101, 108, 105, 110, 101, 47, 110, 111, 116, 101, 46, 99, 104, 101, 99, 107, 115, 36, 50]))], .agg [.iface "func" (.lit (.string [98, 108, 117, 101, 108, 105, 110, 101, 47, 110, 111, 116, 101, 46, 99, 104, 101, 99, 107, 115, 36, 51]))], .agg [.iface "func" (.lit (.string [98, 108, 117, 101, 108, 105, 110, 101, 47, 110, 111, 116, 101, 46, 99, 104, 101, 99, 107, 115, 36, 52]))], .agg [.iface "func" (.lit (.string [98, 108, 117, 101, 108, 105, 110, 101, 47, 110, 111, 116, 101, 46, 99, 104, 101, 99, 107, 115, 36, 53]))], .agg [.iface "func" (.lit (.string [98, 108, 117, 101, 108, 105, 110, 101, 47, 110, 111, 116, 101, 46, 99, 104, 101, 99, 107, 115, 36, 54]))], .agg [.iface "func" (.lit (.string [98, 108, 117, 101, 108, 105, 110, 101, 47, 110, 111, 116, 101, 46, 99, 104, 101, 99, 107, 115, 36, 55]))], .agg [.iface "func" (.lit (.string [98, 108, 117, 101, 108, 105, 110, 101, 47, 110, 111, 116, 101, 46, 99, 104, 101, 99, 107, 115, 36, 56]))]])
def laid_blueline_swap_sources {H : Type} : DataW H := .iface "func table" (.agg [.agg [.iface "func" (.lit (.string [40, 98, 108, 117, 101, 108, 105, 110, 101, 47, 115, 119, 97, 112, 46, 109, 111, 109, 101, 110, 116, 41, 46, 98, 121, 78, 111, 116, 101, 115]))], .agg [.iface "func" (.lit (.string [40, 98, 108, 117, 101, 108, 105, 110, 101, 47, 115, 119, 97, 112, 46, 109, 111, 109, 101, 110, 116, 41, 46, 98, 121, 82, 117, 108, 101, 115]))]])

/-- 'bluelinelaw05.SwapChain': WHATEVER THE INPUT: true; the input reads as it did. -/
def swapChainSpec : ChangeSpec := { name := "swapChain", fn := fun _ => fun
  | [d1, d2, d3, d4, d5, d6, d7] => { results := [.lit (.bool true)], args := [d1, d2, d3, d4, d5, d6, d7] }
  | _ => none }
def swapChainRow : OpenClaim := { program := "ytjogcghofinemaagreatdoor", sum := "e392e07e17f67d298c6039ab14db28eccd9c2d4a8e642293a93cbbff475d705d", func := "blueline/bluelinelaw05.SwapChain", spec := "swapChain", unfollowed := true, recurses := true, named := ["blueline/note.checks", "blueline/sheet.checks", "blueline/swap.sources"], plainKeys := false, apart := false, laid := [("blueline/sheet.checks", laid_blueline_sheet_checks), ("blueline/note.checks", laid_blueline_note_checks), ("blueline/swap.sources", laid_blueline_swap_sources)] }
def SwapChainSaid : Prop := swapChainRow.holds Tryz.pinned (OpenSpec.ofChange swapChainSpec)

/-- ITS FALSE NEIGHBOUR: 'it returns false'. Refute it at one input. -/
def swapChainWrong : ChangeSpec := { name := "swapChain", fn := fun _ => fun
  | [d1, d2, d3, d4, d5, d6, d7] => { results := [.lit (.bool false)], args := [d1, d2, d3, d4, d5, d6, d7] }
  | _ => none }
def SwapChainWrongFalsely : Prop := swapChainRow.holds Tryz.pinned (OpenSpec.ofChange swapChainWrong)

/-- 'bluelinelaw05.SwapBroken': WHATEVER THE INPUT: true; the input reads as it did. -/
def swapBrokenSpec : ChangeSpec := { name := "swapBroken", fn := fun _ => fun
  | [d1, d2, d3, d4, d5, d6] => { results := [.lit (.bool true)], args := [d1, d2, d3, d4, d5, d6] }
  | _ => none }
def swapBrokenRow : OpenClaim := { program := "ytjogcghofinemaagreatdoor", sum := "e392e07e17f67d298c6039ab14db28eccd9c2d4a8e642293a93cbbff475d705d", func := "blueline/bluelinelaw05.SwapBroken", spec := "swapBroken", unfollowed := true, recurses := true, named := ["blueline/note.checks", "blueline/sheet.checks", "blueline/swap.sources"], plainKeys := false, apart := false, laid := [("blueline/sheet.checks", laid_blueline_sheet_checks), ("blueline/note.checks", laid_blueline_note_checks), ("blueline/swap.sources", laid_blueline_swap_sources)] }
def SwapBrokenSaid : Prop := swapBrokenRow.holds Tryz.pinned (OpenSpec.ofChange swapBrokenSpec)

/-- ITS FALSE NEIGHBOUR: 'it returns false'. Refute it at one input. -/
def swapBrokenWrong : ChangeSpec := { name := "swapBroken", fn := fun _ => fun
  | [d1, d2, d3, d4, d5, d6] => { results := [.lit (.bool false)], args := [d1, d2, d3, d4, d5, d6] }
  | _ => none }
def SwapBrokenWrongFalsely : Prop := swapBrokenRow.holds Tryz.pinned (OpenSpec.ofChange swapBrokenWrong)

/-- 'bluelinelaw05.SwapByNotes': WHATEVER THE INPUT: true; the input reads as it did. -/
def swapByNotesSpec : ChangeSpec := { name := "swapByNotes", fn := fun _ => fun
  | [d1, d2, d3, d4] => { results := [.lit (.bool true)], args := [d1, d2, d3, d4] }
  | _ => none }
def swapByNotesRow : OpenClaim := { program := "ytjogcghofinemaagreatdoor", sum := "e392e07e17f67d298c6039ab14db28eccd9c2d4a8e642293a93cbbff475d705d", func := "blueline/bluelinelaw05.SwapByNotes", spec := "swapByNotes", unfollowed := true, recurses := true, named := ["blueline/note.checks", "blueline/sheet.checks", "blueline/swap.sources"], plainKeys := false, apart := false, laid := [("blueline/sheet.checks", laid_blueline_sheet_checks), ("blueline/note.checks", laid_blueline_note_checks), ("blueline/swap.sources", laid_blueline_swap_sources)] }
def SwapByNotesSaid : Prop := swapByNotesRow.holds Tryz.pinned (OpenSpec.ofChange swapByNotesSpec)

/-- ITS FALSE NEIGHBOUR: 'it returns false'. Refute it at one input. -/
def swapByNotesWrong : ChangeSpec := { name := "swapByNotes", fn := fun _ => fun
  | [d1, d2, d3, d4] => { results := [.lit (.bool false)], args := [d1, d2, d3, d4] }
  | _ => none }
def SwapByNotesWrongFalsely : Prop := swapByNotesRow.holds Tryz.pinned (OpenSpec.ofChange swapByNotesWrong)

/-- 'bluelinelaw05.SwapClosed': WHATEVER THE INPUT: true; the input reads as it did. -/
def swapClosedSpec : ChangeSpec := { name := "swapClosed", fn := fun _ => fun
  | [d1, d2, d3, d4, d5, d6, d7] => { results := [.lit (.bool true)], args := [d1, d2, d3, d4, d5, d6, d7] }
  | _ => none }
def swapClosedRow : OpenClaim := { program := "ytjogcghofinemaagreatdoor", sum := "e392e07e17f67d298c6039ab14db28eccd9c2d4a8e642293a93cbbff475d705d", func := "blueline/bluelinelaw05.SwapClosed", spec := "swapClosed", unfollowed := true, recurses := true, named := ["blueline/note.checks", "blueline/sheet.checks", "blueline/swap.sources"], plainKeys := false, apart := false, laid := [("blueline/sheet.checks", laid_blueline_sheet_checks), ("blueline/note.checks", laid_blueline_note_checks), ("blueline/swap.sources", laid_blueline_swap_sources)] }
def SwapClosedSaid : Prop := swapClosedRow.holds Tryz.pinned (OpenSpec.ofChange swapClosedSpec)

/-- ITS FALSE NEIGHBOUR: 'it returns false'. Refute it at one input. -/
def swapClosedWrong : ChangeSpec := { name := "swapClosed", fn := fun _ => fun
  | [d1, d2, d3, d4, d5, d6, d7] => { results := [.lit (.bool false)], args := [d1, d2, d3, d4, d5, d6, d7] }
  | _ => none }
def SwapClosedWrongFalsely : Prop := swapClosedRow.holds Tryz.pinned (OpenSpec.ofChange swapClosedWrong)

/-- 'bluelinelaw05.SwapClasses': WHATEVER THE INPUT: true; the input reads as it did. -/
def swapClassesSpec : ChangeSpec := { name := "swapClasses", fn := fun _ => fun
  | [d1, d2, d3, d4, d5, d6] => { results := [.lit (.bool true)], args := [d1, d2, d3, d4, d5, d6] }
  | _ => none }
def swapClassesRow : OpenClaim := { program := "ytjogcghofinemaagreatdoor", sum := "e392e07e17f67d298c6039ab14db28eccd9c2d4a8e642293a93cbbff475d705d", func := "blueline/bluelinelaw05.SwapClasses", spec := "swapClasses", unfollowed := true, recurses := true, named := ["blueline/note.checks", "blueline/sheet.checks", "blueline/swap.sources"], plainKeys := false, apart := false, laid := [("blueline/sheet.checks", laid_blueline_sheet_checks), ("blueline/note.checks", laid_blueline_note_checks), ("blueline/swap.sources", laid_blueline_swap_sources)] }
def SwapClassesSaid : Prop := swapClassesRow.holds Tryz.pinned (OpenSpec.ofChange swapClassesSpec)

/-- ITS FALSE NEIGHBOUR: 'it returns false'. Refute it at one input. -/
def swapClassesWrong : ChangeSpec := { name := "swapClasses", fn := fun _ => fun
  | [d1, d2, d3, d4, d5, d6] => { results := [.lit (.bool false)], args := [d1, d2, d3, d4, d5, d6] }
  | _ => none }
def SwapClassesWrongFalsely : Prop := swapClassesRow.holds Tryz.pinned (OpenSpec.ofChange swapClassesWrong)

/-- 'bluelinelaw05.SwapMore': WHATEVER THE INPUT: true; the input reads as it did. -/
def swapMoreSpec : ChangeSpec := { name := "swapMore", fn := fun _ => fun
  | [d1, d2, d3, d4, d5, d6, d7] => { results := [.lit (.bool true)], args := [d1, d2, d3, d4, d5, d6, d7] }
  | _ => none }
def swapMoreRow : OpenClaim := { program := "ytjogcghofinemaagreatdoor", sum := "e392e07e17f67d298c6039ab14db28eccd9c2d4a8e642293a93cbbff475d705d", func := "blueline/bluelinelaw05.SwapMore", spec := "swapMore", unfollowed := true, recurses := true, named := ["blueline/note.checks", "blueline/sheet.checks", "blueline/swap.sources"], plainKeys := false, apart := false, laid := [("blueline/sheet.checks", laid_blueline_sheet_checks), ("blueline/note.checks", laid_blueline_note_checks), ("blueline/swap.sources", laid_blueline_swap_sources)] }
def SwapMoreSaid : Prop := swapMoreRow.holds Tryz.pinned (OpenSpec.ofChange swapMoreSpec)

/-- ITS FALSE NEIGHBOUR: 'it returns false'. Refute it at one input. -/
def swapMoreWrong : ChangeSpec := { name := "swapMore", fn := fun _ => fun
  | [d1, d2, d3, d4, d5, d6, d7] => { results := [.lit (.bool false)], args := [d1, d2, d3, d4, d5, d6, d7] }
  | _ => none }
def SwapMoreWrongFalsely : Prop := swapMoreRow.holds Tryz.pinned (OpenSpec.ofChange swapMoreWrong)

/-- 'bluelinelaw05.SwapLost': WHATEVER THE INPUT: true; the input reads as it did. -/
def swapLostSpec : ChangeSpec := { name := "swapLost", fn := fun _ => fun
  | [d1, d2, d3, d4, d5, d6, d7] => { results := [.lit (.bool true)], args := [d1, d2, d3, d4, d5, d6, d7] }
  | _ => none }
def swapLostRow : OpenClaim := { program := "ytjogcghofinemaagreatdoor", sum := "e392e07e17f67d298c6039ab14db28eccd9c2d4a8e642293a93cbbff475d705d", func := "blueline/bluelinelaw05.SwapLost", spec := "swapLost", unfollowed := true, recurses := true, named := ["blueline/note.checks", "blueline/sheet.checks", "blueline/swap.sources"], plainKeys := false, apart := false, laid := [("blueline/sheet.checks", laid_blueline_sheet_checks), ("blueline/note.checks", laid_blueline_note_checks), ("blueline/swap.sources", laid_blueline_swap_sources)] }
def SwapLostSaid : Prop := swapLostRow.holds Tryz.pinned (OpenSpec.ofChange swapLostSpec)

/-- ITS FALSE NEIGHBOUR: 'it returns false'. Refute it at one input. -/
def swapLostWrong : ChangeSpec := { name := "swapLost", fn := fun _ => fun
  | [d1, d2, d3, d4, d5, d6, d7] => { results := [.lit (.bool false)], args := [d1, d2, d3, d4, d5, d6, d7] }
  | _ => none }
def SwapLostWrongFalsely : Prop := swapLostRow.holds Tryz.pinned (OpenSpec.ofChange swapLostWrong)

/-- 'bluelinelaw05.SwapTurned': WHATEVER THE INPUT: true; the input reads as it did. -/
def swapTurnedSpec : ChangeSpec := { name := "swapTurned", fn := fun _ => fun
  | [d1, d2, d3, d4, d5, d6] => { results := [.lit (.bool true)], args := [d1, d2, d3, d4, d5, d6] }
  | _ => none }
def swapTurnedRow : OpenClaim := { program := "ytjogcghofinemaagreatdoor", sum := "e392e07e17f67d298c6039ab14db28eccd9c2d4a8e642293a93cbbff475d705d", func := "blueline/bluelinelaw05.SwapTurned", spec := "swapTurned", unfollowed := true, recurses := true, named := ["blueline/note.checks", "blueline/sheet.checks", "blueline/swap.sources"], plainKeys := false, apart := false, laid := [("blueline/sheet.checks", laid_blueline_sheet_checks), ("blueline/note.checks", laid_blueline_note_checks), ("blueline/swap.sources", laid_blueline_swap_sources)] }
def SwapTurnedSaid : Prop := swapTurnedRow.holds Tryz.pinned (OpenSpec.ofChange swapTurnedSpec)

/-- ITS FALSE NEIGHBOUR: 'it returns false'. Refute it at one input. -/
def swapTurnedWrong : ChangeSpec := { name := "swapTurned", fn := fun _ => fun
  | [d1, d2, d3, d4, d5, d6] => { results := [.lit (.bool false)], args := [d1, d2, d3, d4, d5, d6] }
  | _ => none }
def SwapTurnedWrongFalsely : Prop := swapTurnedRow.holds Tryz.pinned (OpenSpec.ofChange swapTurnedWrong)

/-- 'bluelinelaw05.SwapPlaces': WHATEVER THE INPUT: true; the input reads as it did. -/
def swapPlacesSpec : ChangeSpec := { name := "swapPlaces", fn := fun _ => fun
  | [d1, d2, d3, d4] => { results := [.lit (.bool true)], args := [d1, d2, d3, d4] }
  | _ => none }
def swapPlacesRow : OpenClaim := { program := "ytjogcghofinemaagreatdoor", sum := "e392e07e17f67d298c6039ab14db28eccd9c2d4a8e642293a93cbbff475d705d", func := "blueline/bluelinelaw05.SwapPlaces", spec := "swapPlaces", unfollowed := true, recurses := true, named := ["blueline/note.checks", "blueline/sheet.checks", "blueline/swap.sources"], plainKeys := false, apart := false, laid := [("blueline/sheet.checks", laid_blueline_sheet_checks), ("blueline/note.checks", laid_blueline_note_checks), ("blueline/swap.sources", laid_blueline_swap_sources)] }
def SwapPlacesSaid : Prop := swapPlacesRow.holds Tryz.pinned (OpenSpec.ofChange swapPlacesSpec)

/-- ITS FALSE NEIGHBOUR: 'it returns false'. Refute it at one input. -/
def swapPlacesWrong : ChangeSpec := { name := "swapPlaces", fn := fun _ => fun
  | [d1, d2, d3, d4] => { results := [.lit (.bool false)], args := [d1, d2, d3, d4] }
  | _ => none }
def SwapPlacesWrongFalsely : Prop := swapPlacesRow.holds Tryz.pinned (OpenSpec.ofChange swapPlacesWrong)

/-- 'bluelinelaw05.SwapExamples': WHATEVER THE INPUT: true; the input reads as it did. -/
def swapExamplesSpec : ChangeSpec := { name := "swapExamples", fn := fun _ => fun
  | [] => { results := [.lit (.bool true)], args := [] }
  | _ => none }
def swapExamplesRow : OpenClaim := { program := "ytjogcghofinemaagreatdoor", sum := "e392e07e17f67d298c6039ab14db28eccd9c2d4a8e642293a93cbbff475d705d", func := "blueline/bluelinelaw05.SwapExamples", spec := "swapExamples", unfollowed := true, recurses := true, named := ["blueline/note.checks", "blueline/sheet.checks", "blueline/swap.sources"], plainKeys := false, apart := false, laid := [("blueline/sheet.checks", laid_blueline_sheet_checks), ("blueline/note.checks", laid_blueline_note_checks), ("blueline/swap.sources", laid_blueline_swap_sources)] }
def SwapExamplesSaid : Prop := swapExamplesRow.holds Tryz.pinned (OpenSpec.ofChange swapExamplesSpec)

/-- ITS FALSE NEIGHBOUR: 'it returns false'. Refute it at one input. -/
def swapExamplesWrong : ChangeSpec := { name := "swapExamples", fn := fun _ => fun
  | [] => { results := [.lit (.bool false)], args := [] }
  | _ => none }
def SwapExamplesWrongFalsely : Prop := swapExamplesRow.holds Tryz.pinned (OpenSpec.ofChange swapExamplesWrong)

/-- 'bluelinelaw05.SwapSure': WHATEVER THE INPUT: true; the input reads as it did. -/
def swapSureSpec : ChangeSpec := { name := "swapSure", fn := fun _ => fun
  | [d1, d2, d3, d4, d5, d6, d7] => { results := [.lit (.bool true)], args := [d1, d2, d3, d4, d5, d6, d7] }
  | _ => none }
def swapSureRow : OpenClaim := { program := "ytjogcghofinemaagreatdoor", sum := "e392e07e17f67d298c6039ab14db28eccd9c2d4a8e642293a93cbbff475d705d", func := "blueline/bluelinelaw05.SwapSure", spec := "swapSure", unfollowed := true, recurses := true, named := ["blueline/note.checks", "blueline/sheet.checks", "blueline/swap.sources"], plainKeys := false, apart := false, laid := [("blueline/sheet.checks", laid_blueline_sheet_checks), ("blueline/note.checks", laid_blueline_note_checks), ("blueline/swap.sources", laid_blueline_swap_sources)] }
def SwapSureSaid : Prop := swapSureRow.holds Tryz.pinned (OpenSpec.ofChange swapSureSpec)

/-- ITS FALSE NEIGHBOUR: 'it returns false'. Refute it at one input. -/
def swapSureWrong : ChangeSpec := { name := "swapSure", fn := fun _ => fun
  | [d1, d2, d3, d4, d5, d6, d7] => { results := [.lit (.bool false)], args := [d1, d2, d3, d4, d5, d6, d7] }
  | _ => none }
def SwapSureWrongFalsely : Prop := swapSureRow.holds Tryz.pinned (OpenSpec.ofChange swapSureWrong)

/- THE SECOND FORM. 'bulk': how many values and letters a reading holds, each counted each time it is reached (what is shared counts as often as it is met; a slice's spare places count too). A statement '..UptoSaid' is the law's where the arguments, and the package variables that the reading takes, are together of bulk at most 1048576: NARROWER than '..Said'. Prove '..Said' where nothing that the law and all that it calls make is longer than what came in: it says more and counts as full. Else prove '..UptoSaid'. A law counts once. -/
mutual
def uptoBulk {H : Type} : DataW H → Nat
  | .lit (.string bytes) => bytes.length + 1
  | .lit _ => 1
  | .nil => 1
  | .ptr d => uptoBulk d + 1
  | .slice elems spare => uptoBulkAll elems + uptoBulkAll spare + 1
  | .agg parts => uptoBulkAll parts + 1
  | .iface _ d => uptoBulk d + 1
  | .map entries => uptoBulkEntries entries + 1
  | .held _ => 1
def uptoBulkAll {H : Type} : List (DataW H) → Nat
  | [] => 0
  | d :: r => uptoBulk d + uptoBulkAll r
def uptoBulkEntries {H : Type} : List (Lit × DataW H) → Nat
  | [] => 0
  | x :: r => uptoBulkEntry x + uptoBulkEntries r
def uptoBulkEntry {H : Type} : Lit × DataW H → Nat
  | (.string bytes, d) => bytes.length + uptoBulk d + 1
  | (_, d) => uptoBulk d + 1
 end
def uptoSmall : (H : Type) → List (DataW H) → Bool := fun _ ds => decide (uptoBulkAll ds ≤ 1048576)
def OpenSpec.upto (s : _root_.Go.ChangeSpec) : _root_.Go.OpenSpec := { _root_.Go.OpenSpec.ofChange s with cond := some uptoSmall }

/-- 'bluelinelaw05.SwapChain', WHERE WHAT IT READS IS OF BULK AT MOST 1048576: true; the input reads as it did. -/
def swapChainUptoRow : OpenClaim := { program := "ytjogcghofinemaagreatdoor", sum := "e392e07e17f67d298c6039ab14db28eccd9c2d4a8e642293a93cbbff475d705d", func := "blueline/bluelinelaw05.SwapChain", spec := "swapChain", unfollowed := true, recurses := true, named := ["blueline/note.checks", "blueline/sheet.checks", "blueline/swap.sources"], plainKeys := false, apart := false, laid := [("blueline/sheet.checks", laid_blueline_sheet_checks), ("blueline/note.checks", laid_blueline_note_checks), ("blueline/swap.sources", laid_blueline_swap_sources)], narrowed := true }
def SwapChainUptoSaid : Prop := swapChainUptoRow.holds Tryz.pinned (OpenSpec.upto swapChainSpec)

/-- 'bluelinelaw05.SwapBroken', WHERE WHAT IT READS IS OF BULK AT MOST 1048576: true; the input reads as it did. -/
def swapBrokenUptoRow : OpenClaim := { program := "ytjogcghofinemaagreatdoor", sum := "e392e07e17f67d298c6039ab14db28eccd9c2d4a8e642293a93cbbff475d705d", func := "blueline/bluelinelaw05.SwapBroken", spec := "swapBroken", unfollowed := true, recurses := true, named := ["blueline/note.checks", "blueline/sheet.checks", "blueline/swap.sources"], plainKeys := false, apart := false, laid := [("blueline/sheet.checks", laid_blueline_sheet_checks), ("blueline/note.checks", laid_blueline_note_checks), ("blueline/swap.sources", laid_blueline_swap_sources)], narrowed := true }
def SwapBrokenUptoSaid : Prop := swapBrokenUptoRow.holds Tryz.pinned (OpenSpec.upto swapBrokenSpec)

/-- 'bluelinelaw05.SwapByNotes', WHERE WHAT IT READS IS OF BULK AT MOST 1048576: true; the input reads as it did. -/
def swapByNotesUptoRow : OpenClaim := { program := "ytjogcghofinemaagreatdoor", sum := "e392e07e17f67d298c6039ab14db28eccd9c2d4a8e642293a93cbbff475d705d", func := "blueline/bluelinelaw05.SwapByNotes", spec := "swapByNotes", unfollowed := true, recurses := true, named := ["blueline/note.checks", "blueline/sheet.checks", "blueline/swap.sources"], plainKeys := false, apart := false, laid := [("blueline/sheet.checks", laid_blueline_sheet_checks), ("blueline/note.checks", laid_blueline_note_checks), ("blueline/swap.sources", laid_blueline_swap_sources)], narrowed := true }
def SwapByNotesUptoSaid : Prop := swapByNotesUptoRow.holds Tryz.pinned (OpenSpec.upto swapByNotesSpec)

/-- 'bluelinelaw05.SwapClosed', WHERE WHAT IT READS IS OF BULK AT MOST 1048576: true; the input reads as it did. -/
def swapClosedUptoRow : OpenClaim := { program := "ytjogcghofinemaagreatdoor", sum := "e392e07e17f67d298c6039ab14db28eccd9c2d4a8e642293a93cbbff475d705d", func := "blueline/bluelinelaw05.SwapClosed", spec := "swapClosed", unfollowed := true, recurses := true, named := ["blueline/note.checks", "blueline/sheet.checks", "blueline/swap.sources"], plainKeys := false, apart := false, laid := [("blueline/sheet.checks", laid_blueline_sheet_checks), ("blueline/note.checks", laid_blueline_note_checks), ("blueline/swap.sources", laid_blueline_swap_sources)], narrowed := true }
def SwapClosedUptoSaid : Prop := swapClosedUptoRow.holds Tryz.pinned (OpenSpec.upto swapClosedSpec)

/-- 'bluelinelaw05.SwapClasses', WHERE WHAT IT READS IS OF BULK AT MOST 1048576: true; the input reads as it did. -/
def swapClassesUptoRow : OpenClaim := { program := "ytjogcghofinemaagreatdoor", sum := "e392e07e17f67d298c6039ab14db28eccd9c2d4a8e642293a93cbbff475d705d", func := "blueline/bluelinelaw05.SwapClasses", spec := "swapClasses", unfollowed := true, recurses := true, named := ["blueline/note.checks", "blueline/sheet.checks", "blueline/swap.sources"], plainKeys := false, apart := false, laid := [("blueline/sheet.checks", laid_blueline_sheet_checks), ("blueline/note.checks", laid_blueline_note_checks), ("blueline/swap.sources", laid_blueline_swap_sources)], narrowed := true }
def SwapClassesUptoSaid : Prop := swapClassesUptoRow.holds Tryz.pinned (OpenSpec.upto swapClassesSpec)

/-- 'bluelinelaw05.SwapMore', WHERE WHAT IT READS IS OF BULK AT MOST 1048576: true; the input reads as it did. -/
def swapMoreUptoRow : OpenClaim := { program := "ytjogcghofinemaagreatdoor", sum := "e392e07e17f67d298c6039ab14db28eccd9c2d4a8e642293a93cbbff475d705d", func := "blueline/bluelinelaw05.SwapMore", spec := "swapMore", unfollowed := true, recurses := true, named := ["blueline/note.checks", "blueline/sheet.checks", "blueline/swap.sources"], plainKeys := false, apart := false, laid := [("blueline/sheet.checks", laid_blueline_sheet_checks), ("blueline/note.checks", laid_blueline_note_checks), ("blueline/swap.sources", laid_blueline_swap_sources)], narrowed := true }
def SwapMoreUptoSaid : Prop := swapMoreUptoRow.holds Tryz.pinned (OpenSpec.upto swapMoreSpec)

/-- 'bluelinelaw05.SwapLost', WHERE WHAT IT READS IS OF BULK AT MOST 1048576: true; the input reads as it did. -/
def swapLostUptoRow : OpenClaim := { program := "ytjogcghofinemaagreatdoor", sum := "e392e07e17f67d298c6039ab14db28eccd9c2d4a8e642293a93cbbff475d705d", func := "blueline/bluelinelaw05.SwapLost", spec := "swapLost", unfollowed := true, recurses := true, named := ["blueline/note.checks", "blueline/sheet.checks", "blueline/swap.sources"], plainKeys := false, apart := false, laid := [("blueline/sheet.checks", laid_blueline_sheet_checks), ("blueline/note.checks", laid_blueline_note_checks), ("blueline/swap.sources", laid_blueline_swap_sources)], narrowed := true }
def SwapLostUptoSaid : Prop := swapLostUptoRow.holds Tryz.pinned (OpenSpec.upto swapLostSpec)

/-- 'bluelinelaw05.SwapTurned', WHERE WHAT IT READS IS OF BULK AT MOST 1048576: true; the input reads as it did. -/
def swapTurnedUptoRow : OpenClaim := { program := "ytjogcghofinemaagreatdoor", sum := "e392e07e17f67d298c6039ab14db28eccd9c2d4a8e642293a93cbbff475d705d", func := "blueline/bluelinelaw05.SwapTurned", spec := "swapTurned", unfollowed := true, recurses := true, named := ["blueline/note.checks", "blueline/sheet.checks", "blueline/swap.sources"], plainKeys := false, apart := false, laid := [("blueline/sheet.checks", laid_blueline_sheet_checks), ("blueline/note.checks", laid_blueline_note_checks), ("blueline/swap.sources", laid_blueline_swap_sources)], narrowed := true }
def SwapTurnedUptoSaid : Prop := swapTurnedUptoRow.holds Tryz.pinned (OpenSpec.upto swapTurnedSpec)

/-- 'bluelinelaw05.SwapPlaces', WHERE WHAT IT READS IS OF BULK AT MOST 1048576: true; the input reads as it did. -/
def swapPlacesUptoRow : OpenClaim := { program := "ytjogcghofinemaagreatdoor", sum := "e392e07e17f67d298c6039ab14db28eccd9c2d4a8e642293a93cbbff475d705d", func := "blueline/bluelinelaw05.SwapPlaces", spec := "swapPlaces", unfollowed := true, recurses := true, named := ["blueline/note.checks", "blueline/sheet.checks", "blueline/swap.sources"], plainKeys := false, apart := false, laid := [("blueline/sheet.checks", laid_blueline_sheet_checks), ("blueline/note.checks", laid_blueline_note_checks), ("blueline/swap.sources", laid_blueline_swap_sources)], narrowed := true }
def SwapPlacesUptoSaid : Prop := swapPlacesUptoRow.holds Tryz.pinned (OpenSpec.upto swapPlacesSpec)

/-- 'bluelinelaw05.SwapExamples', WHERE WHAT IT READS IS OF BULK AT MOST 1048576: true; the input reads as it did. -/
def swapExamplesUptoRow : OpenClaim := { program := "ytjogcghofinemaagreatdoor", sum := "e392e07e17f67d298c6039ab14db28eccd9c2d4a8e642293a93cbbff475d705d", func := "blueline/bluelinelaw05.SwapExamples", spec := "swapExamples", unfollowed := true, recurses := true, named := ["blueline/note.checks", "blueline/sheet.checks", "blueline/swap.sources"], plainKeys := false, apart := false, laid := [("blueline/sheet.checks", laid_blueline_sheet_checks), ("blueline/note.checks", laid_blueline_note_checks), ("blueline/swap.sources", laid_blueline_swap_sources)], narrowed := true }
def SwapExamplesUptoSaid : Prop := swapExamplesUptoRow.holds Tryz.pinned (OpenSpec.upto swapExamplesSpec)

/-- 'bluelinelaw05.SwapSure', WHERE WHAT IT READS IS OF BULK AT MOST 1048576: true; the input reads as it did. -/
def swapSureUptoRow : OpenClaim := { program := "ytjogcghofinemaagreatdoor", sum := "e392e07e17f67d298c6039ab14db28eccd9c2d4a8e642293a93cbbff475d705d", func := "blueline/bluelinelaw05.SwapSure", spec := "swapSure", unfollowed := true, recurses := true, named := ["blueline/note.checks", "blueline/sheet.checks", "blueline/swap.sources"], plainKeys := false, apart := false, laid := [("blueline/sheet.checks", laid_blueline_sheet_checks), ("blueline/note.checks", laid_blueline_note_checks), ("blueline/swap.sources", laid_blueline_swap_sources)], narrowed := true }
def SwapSureUptoSaid : Prop := swapSureUptoRow.holds Tryz.pinned (OpenSpec.upto swapSureSpec)

end Rows
end Go.Proofs.YtjogcghofinemaaGreatDoor
