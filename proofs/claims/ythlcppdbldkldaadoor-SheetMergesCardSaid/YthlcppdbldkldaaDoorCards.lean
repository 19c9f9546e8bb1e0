/-
  DERIVED. GIVEN WITH THE SEED: THE CARDS: each row of YthlcppdbldkldaaDoorRows.lean that lists a variable, with what it lists TIED to the program's text (the seventh form; the later family's looks); each row that meets fmt, with fmt's text TOLD by the authors' own Lean function (tested against real Go, not proved from fmt's source: count such statements apart). THE CARD IS WHAT COUNTS. Prove the row's statement (the work); the ties are given (YthlcppdbldkldaaDoorTie.lean); close each card by the builder's one call (the guide's Derived/Test/ToyasCard.lean, 'card_holds'). Laid BY PROGRAM, IN A SANDBOX (cutbox-door.mjs). By AI agents, Wed Nov 11 2026. No macro, syntax, notation, axiom, sorry.
-/
import Derived.Test.YthlcppdbldkldaaDoorRows
import GoSem.ClaimSeven
namespace Go.Proofs.YthlcppdbldkldaaDoor
namespace Rows

/-- THE TIED CARD OF 'bluelinelaw02.SheetMerges'. -/
def sheetMergesCard : Claim7 := { stood := { row := sheetMergesRow, standIns := [], harness := (true, "d517623fa445c8d7842824aa1d8693b0ba3c41d17ee45cbf183d18b500cb37b1"), looks := false }, kinds := [], alts := [], laidByText := true, laidKinds := [.funcs], laidTests := true, laidLooks := .later }
def SheetMergesCardSaid : Prop := Claim7.holds Tryd.pinned (.plain (OpenSpec.ofChange sheetMergesSpec)) sheetMergesCard

/-- THE TIED CARD OF 'bluelinelaw02.SheetSized'. -/
def sheetSizedCard : Claim7 := { stood := { row := sheetSizedRow, standIns := [], harness := (true, "d517623fa445c8d7842824aa1d8693b0ba3c41d17ee45cbf183d18b500cb37b1"), looks := false }, kinds := [], alts := [], laidByText := true, laidKinds := [.funcs], laidTests := true, laidLooks := .later }
def SheetSizedCardSaid : Prop := Claim7.holds Tryd.pinned (.plain (OpenSpec.ofChange sheetSizedSpec)) sheetSizedCard

/-- THE TIED CARD OF 'bluelinelaw02.SheetExamples'. -/
def sheetExamplesCard : Claim7 := { stood := { row := sheetExamplesRow, standIns := [], harness := (true, "d517623fa445c8d7842824aa1d8693b0ba3c41d17ee45cbf183d18b500cb37b1"), looks := false }, kinds := [], alts := [], laidByText := true, laidKinds := [.funcs], laidTests := true, laidLooks := .later }
def SheetExamplesCardSaid : Prop := Claim7.holds Tryd.pinned (.plain (OpenSpec.ofChange sheetExamplesSpec)) sheetExamplesCard

/-- THE SECOND FORM's CARD OF 'bluelinelaw02.SheetMerges'. -/
def sheetMergesUptoCard : Claim7 := { stood := { row := sheetMergesUptoRow, standIns := [], harness := (true, "d517623fa445c8d7842824aa1d8693b0ba3c41d17ee45cbf183d18b500cb37b1"), looks := false }, kinds := [], alts := [], laidByText := true, laidKinds := [.funcs], laidTests := true, laidLooks := .later }
def SheetMergesUptoCardSaid : Prop := Claim7.holds Tryd.pinned (.plain (OpenSpec.upto sheetMergesSpec)) sheetMergesUptoCard

/-- THE SECOND FORM's CARD OF 'bluelinelaw02.SheetSized'. -/
def sheetSizedUptoCard : Claim7 := { stood := { row := sheetSizedUptoRow, standIns := [], harness := (true, "d517623fa445c8d7842824aa1d8693b0ba3c41d17ee45cbf183d18b500cb37b1"), looks := false }, kinds := [], alts := [], laidByText := true, laidKinds := [.funcs], laidTests := true, laidLooks := .later }
def SheetSizedUptoCardSaid : Prop := Claim7.holds Tryd.pinned (.plain (OpenSpec.upto sheetSizedSpec)) sheetSizedUptoCard

/-- THE SECOND FORM's CARD OF 'bluelinelaw02.SheetExamples'. -/
def sheetExamplesUptoCard : Claim7 := { stood := { row := sheetExamplesUptoRow, standIns := [], harness := (true, "d517623fa445c8d7842824aa1d8693b0ba3c41d17ee45cbf183d18b500cb37b1"), looks := false }, kinds := [], alts := [], laidByText := true, laidKinds := [.funcs], laidTests := true, laidLooks := .later }
def SheetExamplesUptoCardSaid : Prop := Claim7.holds Tryd.pinned (.plain (OpenSpec.upto sheetExamplesSpec)) sheetExamplesUptoCard
end Rows
end Go.Proofs.YthlcppdbldkldaaDoor
