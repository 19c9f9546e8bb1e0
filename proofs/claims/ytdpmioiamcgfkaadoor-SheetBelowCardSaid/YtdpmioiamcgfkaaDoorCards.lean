/-
  DERIVED. GIVEN WITH THE SEED: THE CARDS: each row of YtdpmioiamcgfkaaDoorRows.lean that lists a variable, with what it lists TIED to the program's text (the seventh form; the later family's looks); each row that meets fmt, with fmt's text TOLD by the authors' own Lean function (tested against real Go, not proved from fmt's source: count such statements apart). THE CARD IS WHAT COUNTS. Prove the row's statement (the work); the ties are given (YtdpmioiamcgfkaaDoorTie.lean); close each card by the builder's one call (the guide's Derived/Test/ToyasCard.lean, 'card_holds'). Laid BY PROGRAM, IN A SANDBOX (cutbox-door.mjs). By AI agents, Wed Nov 11 2026. No macro, syntax, notation, axiom, sorry.
-/
import Derived.Test.YtdpmioiamcgfkaaDoorRows
import GoSem.ClaimSeven
namespace Go.Proofs.YtdpmioiamcgfkaaDoor
namespace Rows

/-- THE TIED CARD OF 'bluelinelaw02.SheetTells'. -/
def sheetTellsCard : Claim7 := { stood := { row := sheetTellsRow, standIns := [], harness := (true, "68b0b52e5f4d7bb0deeed450532ad97e6ccb5e88dc4ddccbada435b9973a0d18"), looks := false }, kinds := [], alts := [], laidByText := true, laidKinds := [.funcs], laidTests := true, laidLooks := .later }
def SheetTellsCardSaid : Prop := Claim7.holds Tryd.pinned (.plain (OpenSpec.ofChange sheetTellsSpec)) sheetTellsCard

/-- THE TIED CARD OF 'bluelinelaw02.SheetParts'. -/
def sheetPartsCard : Claim7 := { stood := { row := sheetPartsRow, standIns := [], harness := (true, "68b0b52e5f4d7bb0deeed450532ad97e6ccb5e88dc4ddccbada435b9973a0d18"), looks := false }, kinds := [], alts := [], laidByText := true, laidKinds := [.funcs], laidTests := true, laidLooks := .later }
def SheetPartsCardSaid : Prop := Claim7.holds Tryd.pinned (.plain (OpenSpec.ofChange sheetPartsSpec)) sheetPartsCard

/-- THE TIED CARD OF 'bluelinelaw02.SheetUses'. -/
def sheetUsesCard : Claim7 := { stood := { row := sheetUsesRow, standIns := [], harness := (true, "68b0b52e5f4d7bb0deeed450532ad97e6ccb5e88dc4ddccbada435b9973a0d18"), looks := false }, kinds := [], alts := [], laidByText := true, laidKinds := [.funcs], laidTests := true, laidLooks := .later }
def SheetUsesCardSaid : Prop := Claim7.holds Tryd.pinned (.plain (OpenSpec.ofChange sheetUsesSpec)) sheetUsesCard

/-- THE TIED CARD OF 'bluelinelaw02.SheetMerges'. -/
def sheetMergesCard : Claim7 := { stood := { row := sheetMergesRow, standIns := [], harness := (true, "68b0b52e5f4d7bb0deeed450532ad97e6ccb5e88dc4ddccbada435b9973a0d18"), looks := false }, kinds := [], alts := [], laidByText := true, laidKinds := [.funcs], laidTests := true, laidLooks := .later }
def SheetMergesCardSaid : Prop := Claim7.holds Tryd.pinned (.plain (OpenSpec.ofChange sheetMergesSpec)) sheetMergesCard

/-- THE TIED CARD OF 'bluelinelaw02.SheetEnds'. -/
def sheetEndsCard : Claim7 := { stood := { row := sheetEndsRow, standIns := [], harness := (true, "68b0b52e5f4d7bb0deeed450532ad97e6ccb5e88dc4ddccbada435b9973a0d18"), looks := false }, kinds := [], alts := [], laidByText := true, laidKinds := [.funcs], laidTests := true, laidLooks := .later }
def SheetEndsCardSaid : Prop := Claim7.holds Tryd.pinned (.plain (OpenSpec.ofChange sheetEndsSpec)) sheetEndsCard

/-- THE TIED CARD OF 'bluelinelaw02.SheetItems'. -/
def sheetItemsCard : Claim7 := { stood := { row := sheetItemsRow, standIns := [], harness := (true, "68b0b52e5f4d7bb0deeed450532ad97e6ccb5e88dc4ddccbada435b9973a0d18"), looks := false }, kinds := [], alts := [], laidByText := true, laidKinds := [.funcs], laidTests := true, laidLooks := .later }
def SheetItemsCardSaid : Prop := Claim7.holds Tryd.pinned (.plain (OpenSpec.ofChange sheetItemsSpec)) sheetItemsCard

/-- THE TIED CARD OF 'bluelinelaw02.SheetLetter'. -/
def sheetLetterCard : Claim7 := { stood := { row := sheetLetterRow, standIns := [], harness := (true, "68b0b52e5f4d7bb0deeed450532ad97e6ccb5e88dc4ddccbada435b9973a0d18"), looks := false }, kinds := [], alts := [], laidByText := true, laidKinds := [.funcs], laidTests := true, laidLooks := .later }
def SheetLetterCardSaid : Prop := Claim7.holds Tryd.pinned (.plain (OpenSpec.ofChange sheetLetterSpec)) sheetLetterCard

/-- THE TIED CARD OF 'bluelinelaw02.SheetAbove'. -/
def sheetAboveCard : Claim7 := { stood := { row := sheetAboveRow, standIns := [], harness := (true, "68b0b52e5f4d7bb0deeed450532ad97e6ccb5e88dc4ddccbada435b9973a0d18"), looks := false }, kinds := [], alts := [], laidByText := true, laidKinds := [.funcs], laidTests := true, laidLooks := .later }
def SheetAboveCardSaid : Prop := Claim7.holds Tryd.pinned (.plain (OpenSpec.ofChange sheetAboveSpec)) sheetAboveCard

/-- THE TIED CARD OF 'bluelinelaw02.SheetDeep'. -/
def sheetDeepCard : Claim7 := { stood := { row := sheetDeepRow, standIns := [], harness := (true, "68b0b52e5f4d7bb0deeed450532ad97e6ccb5e88dc4ddccbada435b9973a0d18"), looks := false }, kinds := [], alts := [], laidByText := true, laidKinds := [.funcs], laidTests := true, laidLooks := .later }
def SheetDeepCardSaid : Prop := Claim7.holds Tryd.pinned (.plain (OpenSpec.ofChange sheetDeepSpec)) sheetDeepCard

/-- THE TIED CARD OF 'bluelinelaw02.SheetTurned'. -/
def sheetTurnedCard : Claim7 := { stood := { row := sheetTurnedRow, standIns := [], harness := (true, "68b0b52e5f4d7bb0deeed450532ad97e6ccb5e88dc4ddccbada435b9973a0d18"), looks := false }, kinds := [], alts := [], laidByText := true, laidKinds := [.funcs], laidTests := true, laidLooks := .later }
def SheetTurnedCardSaid : Prop := Claim7.holds Tryd.pinned (.plain (OpenSpec.ofChange sheetTurnedSpec)) sheetTurnedCard

/-- THE TIED CARD OF 'bluelinelaw02.SheetBelow'. -/
def sheetBelowCard : Claim7 := { stood := { row := sheetBelowRow, standIns := [], harness := (true, "68b0b52e5f4d7bb0deeed450532ad97e6ccb5e88dc4ddccbada435b9973a0d18"), looks := false }, kinds := [], alts := [], laidByText := true, laidKinds := [.funcs], laidTests := true, laidLooks := .later }
def SheetBelowCardSaid : Prop := Claim7.holds Tryd.pinned (.plain (OpenSpec.ofChange sheetBelowSpec)) sheetBelowCard

/-- THE TIED CARD OF 'bluelinelaw02.SheetSized'. -/
def sheetSizedCard : Claim7 := { stood := { row := sheetSizedRow, standIns := [], harness := (true, "68b0b52e5f4d7bb0deeed450532ad97e6ccb5e88dc4ddccbada435b9973a0d18"), looks := false }, kinds := [], alts := [], laidByText := true, laidKinds := [.funcs], laidTests := true, laidLooks := .later }
def SheetSizedCardSaid : Prop := Claim7.holds Tryd.pinned (.plain (OpenSpec.ofChange sheetSizedSpec)) sheetSizedCard

/-- THE TIED CARD OF 'bluelinelaw02.SheetExamples'. -/
def sheetExamplesCard : Claim7 := { stood := { row := sheetExamplesRow, standIns := [], harness := (true, "68b0b52e5f4d7bb0deeed450532ad97e6ccb5e88dc4ddccbada435b9973a0d18"), looks := false }, kinds := [], alts := [], laidByText := true, laidKinds := [.funcs], laidTests := true, laidLooks := .later }
def SheetExamplesCardSaid : Prop := Claim7.holds Tryd.pinned (.plain (OpenSpec.ofChange sheetExamplesSpec)) sheetExamplesCard

/-- THE TIED CARD OF 'bluelinelaw02.SheetOnce'. -/
def sheetOnceCard : Claim7 := { stood := { row := sheetOnceRow, standIns := [], harness := (true, "68b0b52e5f4d7bb0deeed450532ad97e6ccb5e88dc4ddccbada435b9973a0d18"), looks := false }, kinds := [], alts := [], laidByText := true, laidKinds := [.funcs], laidTests := true, laidLooks := .later }
def SheetOnceCardSaid : Prop := Claim7.holds Tryd.pinned (.plain (OpenSpec.ofChange sheetOnceSpec)) sheetOnceCard

/-- THE TIED CARD OF 'bluelinelaw02.SheetSides'. -/
def sheetSidesCard : Claim7 := { stood := { row := sheetSidesRow, standIns := [], harness := (true, "68b0b52e5f4d7bb0deeed450532ad97e6ccb5e88dc4ddccbada435b9973a0d18"), looks := false }, kinds := [], alts := [], laidByText := true, laidKinds := [.funcs], laidTests := true, laidLooks := .later }
def SheetSidesCardSaid : Prop := Claim7.holds Tryd.pinned (.plain (OpenSpec.ofChange sheetSidesSpec)) sheetSidesCard

/-- THE SECOND FORM's CARD OF 'bluelinelaw02.SheetTells'. -/
def sheetTellsUptoCard : Claim7 := { stood := { row := sheetTellsUptoRow, standIns := [], harness := (true, "68b0b52e5f4d7bb0deeed450532ad97e6ccb5e88dc4ddccbada435b9973a0d18"), looks := false }, kinds := [], alts := [], laidByText := true, laidKinds := [.funcs], laidTests := true, laidLooks := .later }
def SheetTellsUptoCardSaid : Prop := Claim7.holds Tryd.pinned (.plain (OpenSpec.upto sheetTellsSpec)) sheetTellsUptoCard

/-- THE SECOND FORM's CARD OF 'bluelinelaw02.SheetParts'. -/
def sheetPartsUptoCard : Claim7 := { stood := { row := sheetPartsUptoRow, standIns := [], harness := (true, "68b0b52e5f4d7bb0deeed450532ad97e6ccb5e88dc4ddccbada435b9973a0d18"), looks := false }, kinds := [], alts := [], laidByText := true, laidKinds := [.funcs], laidTests := true, laidLooks := .later }
def SheetPartsUptoCardSaid : Prop := Claim7.holds Tryd.pinned (.plain (OpenSpec.upto sheetPartsSpec)) sheetPartsUptoCard

/-- THE SECOND FORM's CARD OF 'bluelinelaw02.SheetUses'. -/
def sheetUsesUptoCard : Claim7 := { stood := { row := sheetUsesUptoRow, standIns := [], harness := (true, "68b0b52e5f4d7bb0deeed450532ad97e6ccb5e88dc4ddccbada435b9973a0d18"), looks := false }, kinds := [], alts := [], laidByText := true, laidKinds := [.funcs], laidTests := true, laidLooks := .later }
def SheetUsesUptoCardSaid : Prop := Claim7.holds Tryd.pinned (.plain (OpenSpec.upto sheetUsesSpec)) sheetUsesUptoCard

/-- THE SECOND FORM's CARD OF 'bluelinelaw02.SheetMerges'. -/
def sheetMergesUptoCard : Claim7 := { stood := { row := sheetMergesUptoRow, standIns := [], harness := (true, "68b0b52e5f4d7bb0deeed450532ad97e6ccb5e88dc4ddccbada435b9973a0d18"), looks := false }, kinds := [], alts := [], laidByText := true, laidKinds := [.funcs], laidTests := true, laidLooks := .later }
def SheetMergesUptoCardSaid : Prop := Claim7.holds Tryd.pinned (.plain (OpenSpec.upto sheetMergesSpec)) sheetMergesUptoCard

/-- THE SECOND FORM's CARD OF 'bluelinelaw02.SheetEnds'. -/
def sheetEndsUptoCard : Claim7 := { stood := { row := sheetEndsUptoRow, standIns := [], harness := (true, "68b0b52e5f4d7bb0deeed450532ad97e6ccb5e88dc4ddccbada435b9973a0d18"), looks := false }, kinds := [], alts := [], laidByText := true, laidKinds := [.funcs], laidTests := true, laidLooks := .later }
def SheetEndsUptoCardSaid : Prop := Claim7.holds Tryd.pinned (.plain (OpenSpec.upto sheetEndsSpec)) sheetEndsUptoCard

/-- THE SECOND FORM's CARD OF 'bluelinelaw02.SheetItems'. -/
def sheetItemsUptoCard : Claim7 := { stood := { row := sheetItemsUptoRow, standIns := [], harness := (true, "68b0b52e5f4d7bb0deeed450532ad97e6ccb5e88dc4ddccbada435b9973a0d18"), looks := false }, kinds := [], alts := [], laidByText := true, laidKinds := [.funcs], laidTests := true, laidLooks := .later }
def SheetItemsUptoCardSaid : Prop := Claim7.holds Tryd.pinned (.plain (OpenSpec.upto sheetItemsSpec)) sheetItemsUptoCard

/-- THE SECOND FORM's CARD OF 'bluelinelaw02.SheetLetter'. -/
def sheetLetterUptoCard : Claim7 := { stood := { row := sheetLetterUptoRow, standIns := [], harness := (true, "68b0b52e5f4d7bb0deeed450532ad97e6ccb5e88dc4ddccbada435b9973a0d18"), looks := false }, kinds := [], alts := [], laidByText := true, laidKinds := [.funcs], laidTests := true, laidLooks := .later }
def SheetLetterUptoCardSaid : Prop := Claim7.holds Tryd.pinned (.plain (OpenSpec.upto sheetLetterSpec)) sheetLetterUptoCard

/-- THE SECOND FORM's CARD OF 'bluelinelaw02.SheetAbove'. -/
def sheetAboveUptoCard : Claim7 := { stood := { row := sheetAboveUptoRow, standIns := [], harness := (true, "68b0b52e5f4d7bb0deeed450532ad97e6ccb5e88dc4ddccbada435b9973a0d18"), looks := false }, kinds := [], alts := [], laidByText := true, laidKinds := [.funcs], laidTests := true, laidLooks := .later }
def SheetAboveUptoCardSaid : Prop := Claim7.holds Tryd.pinned (.plain (OpenSpec.upto sheetAboveSpec)) sheetAboveUptoCard

/-- THE SECOND FORM's CARD OF 'bluelinelaw02.SheetDeep'. -/
def sheetDeepUptoCard : Claim7 := { stood := { row := sheetDeepUptoRow, standIns := [], harness := (true, "68b0b52e5f4d7bb0deeed450532ad97e6ccb5e88dc4ddccbada435b9973a0d18"), looks := false }, kinds := [], alts := [], laidByText := true, laidKinds := [.funcs], laidTests := true, laidLooks := .later }
def SheetDeepUptoCardSaid : Prop := Claim7.holds Tryd.pinned (.plain (OpenSpec.upto sheetDeepSpec)) sheetDeepUptoCard

/-- THE SECOND FORM's CARD OF 'bluelinelaw02.SheetTurned'. -/
def sheetTurnedUptoCard : Claim7 := { stood := { row := sheetTurnedUptoRow, standIns := [], harness := (true, "68b0b52e5f4d7bb0deeed450532ad97e6ccb5e88dc4ddccbada435b9973a0d18"), looks := false }, kinds := [], alts := [], laidByText := true, laidKinds := [.funcs], laidTests := true, laidLooks := .later }
def SheetTurnedUptoCardSaid : Prop := Claim7.holds Tryd.pinned (.plain (OpenSpec.upto sheetTurnedSpec)) sheetTurnedUptoCard

/-- THE SECOND FORM's CARD OF 'bluelinelaw02.SheetBelow'. -/
def sheetBelowUptoCard : Claim7 := { stood := { row := sheetBelowUptoRow, standIns := [], harness := (true, "68b0b52e5f4d7bb0deeed450532ad97e6ccb5e88dc4ddccbada435b9973a0d18"), looks := false }, kinds := [], alts := [], laidByText := true, laidKinds := [.funcs], laidTests := true, laidLooks := .later }
def SheetBelowUptoCardSaid : Prop := Claim7.holds Tryd.pinned (.plain (OpenSpec.upto sheetBelowSpec)) sheetBelowUptoCard

/-- THE SECOND FORM's CARD OF 'bluelinelaw02.SheetSized'. -/
def sheetSizedUptoCard : Claim7 := { stood := { row := sheetSizedUptoRow, standIns := [], harness := (true, "68b0b52e5f4d7bb0deeed450532ad97e6ccb5e88dc4ddccbada435b9973a0d18"), looks := false }, kinds := [], alts := [], laidByText := true, laidKinds := [.funcs], laidTests := true, laidLooks := .later }
def SheetSizedUptoCardSaid : Prop := Claim7.holds Tryd.pinned (.plain (OpenSpec.upto sheetSizedSpec)) sheetSizedUptoCard

/-- THE SECOND FORM's CARD OF 'bluelinelaw02.SheetExamples'. -/
def sheetExamplesUptoCard : Claim7 := { stood := { row := sheetExamplesUptoRow, standIns := [], harness := (true, "68b0b52e5f4d7bb0deeed450532ad97e6ccb5e88dc4ddccbada435b9973a0d18"), looks := false }, kinds := [], alts := [], laidByText := true, laidKinds := [.funcs], laidTests := true, laidLooks := .later }
def SheetExamplesUptoCardSaid : Prop := Claim7.holds Tryd.pinned (.plain (OpenSpec.upto sheetExamplesSpec)) sheetExamplesUptoCard

/-- THE SECOND FORM's CARD OF 'bluelinelaw02.SheetOnce'. -/
def sheetOnceUptoCard : Claim7 := { stood := { row := sheetOnceUptoRow, standIns := [], harness := (true, "68b0b52e5f4d7bb0deeed450532ad97e6ccb5e88dc4ddccbada435b9973a0d18"), looks := false }, kinds := [], alts := [], laidByText := true, laidKinds := [.funcs], laidTests := true, laidLooks := .later }
def SheetOnceUptoCardSaid : Prop := Claim7.holds Tryd.pinned (.plain (OpenSpec.upto sheetOnceSpec)) sheetOnceUptoCard

/-- THE SECOND FORM's CARD OF 'bluelinelaw02.SheetSides'. -/
def sheetSidesUptoCard : Claim7 := { stood := { row := sheetSidesUptoRow, standIns := [], harness := (true, "68b0b52e5f4d7bb0deeed450532ad97e6ccb5e88dc4ddccbada435b9973a0d18"), looks := false }, kinds := [], alts := [], laidByText := true, laidKinds := [.funcs], laidTests := true, laidLooks := .later }
def SheetSidesUptoCardSaid : Prop := Claim7.holds Tryd.pinned (.plain (OpenSpec.upto sheetSidesSpec)) sheetSidesUptoCard
end Rows
end Go.Proofs.YtdpmioiamcgfkaaDoor
