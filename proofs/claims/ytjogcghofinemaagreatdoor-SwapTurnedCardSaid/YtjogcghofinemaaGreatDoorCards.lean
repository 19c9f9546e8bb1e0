/-
  DERIVED. GIVEN WITH THE SEED: THE CARDS: each row of YtjogcghofinemaaGreatDoorRows.lean that lists a variable, with what it lists TIED to the program's text (the seventh form; the later family's looks); each row that meets fmt, with fmt's text TOLD by the authors' own Lean function (tested against real Go, not proved from fmt's source: count such statements apart). THE CARD IS WHAT COUNTS. Prove the row's statement (the work); the ties are given (YtjogcghofinemaaGreatDoorTie.lean); close each card by the builder's one call (the guide's Derived/Test/ToyasCard.lean, 'card_holds'). Laid BY PROGRAM, IN A SANDBOX (cutbox-door.mjs). By AI agents, Wed Nov 11 2026. No macro, syntax, notation, axiom, sorry.
-/
import Derived.Test.YtjogcghofinemaaGreatDoorRows
import GoSem.ClaimSeven
namespace Go.Proofs.YtjogcghofinemaaGreatDoor
namespace Rows

/-- THE TIED CARD OF 'bluelinelaw05.SwapChain'. -/
def swapChainCard : Claim7 := { stood := { row := swapChainRow, standIns := [], harness := (true, "a7c7fdb8bf71b350a889fd4614f778c3c8a79eed60248f62fd1a4618fb07f57f"), looks := false }, kinds := [], alts := [], laidByText := true, laidKinds := [.funcs, .funcs, .funcs], laidTests := true, laidLooks := .later }
def SwapChainCardSaid : Prop := Claim7.holds Tryz.pinned (.plain (OpenSpec.ofChange swapChainSpec)) swapChainCard

/-- THE TIED CARD OF 'bluelinelaw05.SwapBroken'. -/
def swapBrokenCard : Claim7 := { stood := { row := swapBrokenRow, standIns := [], harness := (true, "a7c7fdb8bf71b350a889fd4614f778c3c8a79eed60248f62fd1a4618fb07f57f"), looks := false }, kinds := [], alts := [], laidByText := true, laidKinds := [.funcs, .funcs, .funcs], laidTests := true, laidLooks := .later }
def SwapBrokenCardSaid : Prop := Claim7.holds Tryz.pinned (.plain (OpenSpec.ofChange swapBrokenSpec)) swapBrokenCard

/-- THE TIED CARD OF 'bluelinelaw05.SwapByNotes'. -/
def swapByNotesCard : Claim7 := { stood := { row := swapByNotesRow, standIns := [], harness := (true, "a7c7fdb8bf71b350a889fd4614f778c3c8a79eed60248f62fd1a4618fb07f57f"), looks := false }, kinds := [], alts := [], laidByText := true, laidKinds := [.funcs, .funcs, .funcs], laidTests := true, laidLooks := .later }
def SwapByNotesCardSaid : Prop := Claim7.holds Tryz.pinned (.plain (OpenSpec.ofChange swapByNotesSpec)) swapByNotesCard

/-- THE TIED CARD OF 'bluelinelaw05.SwapClosed'. -/
def swapClosedCard : Claim7 := { stood := { row := swapClosedRow, standIns := [], harness := (true, "a7c7fdb8bf71b350a889fd4614f778c3c8a79eed60248f62fd1a4618fb07f57f"), looks := false }, kinds := [], alts := [], laidByText := true, laidKinds := [.funcs, .funcs, .funcs], laidTests := true, laidLooks := .later }
def SwapClosedCardSaid : Prop := Claim7.holds Tryz.pinned (.plain (OpenSpec.ofChange swapClosedSpec)) swapClosedCard

/-- THE TIED CARD OF 'bluelinelaw05.SwapClasses'. -/
def swapClassesCard : Claim7 := { stood := { row := swapClassesRow, standIns := [], harness := (true, "a7c7fdb8bf71b350a889fd4614f778c3c8a79eed60248f62fd1a4618fb07f57f"), looks := false }, kinds := [], alts := [], laidByText := true, laidKinds := [.funcs, .funcs, .funcs], laidTests := true, laidLooks := .later }
def SwapClassesCardSaid : Prop := Claim7.holds Tryz.pinned (.plain (OpenSpec.ofChange swapClassesSpec)) swapClassesCard

/-- THE TIED CARD OF 'bluelinelaw05.SwapMore'. -/
def swapMoreCard : Claim7 := { stood := { row := swapMoreRow, standIns := [], harness := (true, "a7c7fdb8bf71b350a889fd4614f778c3c8a79eed60248f62fd1a4618fb07f57f"), looks := false }, kinds := [], alts := [], laidByText := true, laidKinds := [.funcs, .funcs, .funcs], laidTests := true, laidLooks := .later }
def SwapMoreCardSaid : Prop := Claim7.holds Tryz.pinned (.plain (OpenSpec.ofChange swapMoreSpec)) swapMoreCard

/-- THE TIED CARD OF 'bluelinelaw05.SwapLost'. -/
def swapLostCard : Claim7 := { stood := { row := swapLostRow, standIns := [], harness := (true, "a7c7fdb8bf71b350a889fd4614f778c3c8a79eed60248f62fd1a4618fb07f57f"), looks := false }, kinds := [], alts := [], laidByText := true, laidKinds := [.funcs, .funcs, .funcs], laidTests := true, laidLooks := .later }
def SwapLostCardSaid : Prop := Claim7.holds Tryz.pinned (.plain (OpenSpec.ofChange swapLostSpec)) swapLostCard

/-- THE TIED CARD OF 'bluelinelaw05.SwapTurned'. -/
def swapTurnedCard : Claim7 := { stood := { row := swapTurnedRow, standIns := [], harness := (true, "a7c7fdb8bf71b350a889fd4614f778c3c8a79eed60248f62fd1a4618fb07f57f"), looks := false }, kinds := [], alts := [], laidByText := true, laidKinds := [.funcs, .funcs, .funcs], laidTests := true, laidLooks := .later }
def SwapTurnedCardSaid : Prop := Claim7.holds Tryz.pinned (.plain (OpenSpec.ofChange swapTurnedSpec)) swapTurnedCard

/-- THE TIED CARD OF 'bluelinelaw05.SwapPlaces'. -/
def swapPlacesCard : Claim7 := { stood := { row := swapPlacesRow, standIns := [], harness := (true, "a7c7fdb8bf71b350a889fd4614f778c3c8a79eed60248f62fd1a4618fb07f57f"), looks := false }, kinds := [], alts := [], laidByText := true, laidKinds := [.funcs, .funcs, .funcs], laidTests := true, laidLooks := .later }
def SwapPlacesCardSaid : Prop := Claim7.holds Tryz.pinned (.plain (OpenSpec.ofChange swapPlacesSpec)) swapPlacesCard

/-- THE TIED CARD OF 'bluelinelaw05.SwapExamples'. -/
def swapExamplesCard : Claim7 := { stood := { row := swapExamplesRow, standIns := [], harness := (true, "a7c7fdb8bf71b350a889fd4614f778c3c8a79eed60248f62fd1a4618fb07f57f"), looks := false }, kinds := [], alts := [], laidByText := true, laidKinds := [.funcs, .funcs, .funcs], laidTests := true, laidLooks := .later }
def SwapExamplesCardSaid : Prop := Claim7.holds Tryz.pinned (.plain (OpenSpec.ofChange swapExamplesSpec)) swapExamplesCard

/-- THE TIED CARD OF 'bluelinelaw05.SwapSure'. -/
def swapSureCard : Claim7 := { stood := { row := swapSureRow, standIns := [], harness := (true, "a7c7fdb8bf71b350a889fd4614f778c3c8a79eed60248f62fd1a4618fb07f57f"), looks := false }, kinds := [], alts := [], laidByText := true, laidKinds := [.funcs, .funcs, .funcs], laidTests := true, laidLooks := .later }
def SwapSureCardSaid : Prop := Claim7.holds Tryz.pinned (.plain (OpenSpec.ofChange swapSureSpec)) swapSureCard

/-- THE SECOND FORM's CARD OF 'bluelinelaw05.SwapChain'. -/
def swapChainUptoCard : Claim7 := { stood := { row := swapChainUptoRow, standIns := [], harness := (true, "a7c7fdb8bf71b350a889fd4614f778c3c8a79eed60248f62fd1a4618fb07f57f"), looks := false }, kinds := [], alts := [], laidByText := true, laidKinds := [.funcs, .funcs, .funcs], laidTests := true, laidLooks := .later }
def SwapChainUptoCardSaid : Prop := Claim7.holds Tryz.pinned (.plain (OpenSpec.upto swapChainSpec)) swapChainUptoCard

/-- THE SECOND FORM's CARD OF 'bluelinelaw05.SwapBroken'. -/
def swapBrokenUptoCard : Claim7 := { stood := { row := swapBrokenUptoRow, standIns := [], harness := (true, "a7c7fdb8bf71b350a889fd4614f778c3c8a79eed60248f62fd1a4618fb07f57f"), looks := false }, kinds := [], alts := [], laidByText := true, laidKinds := [.funcs, .funcs, .funcs], laidTests := true, laidLooks := .later }
def SwapBrokenUptoCardSaid : Prop := Claim7.holds Tryz.pinned (.plain (OpenSpec.upto swapBrokenSpec)) swapBrokenUptoCard

/-- THE SECOND FORM's CARD OF 'bluelinelaw05.SwapByNotes'. -/
def swapByNotesUptoCard : Claim7 := { stood := { row := swapByNotesUptoRow, standIns := [], harness := (true, "a7c7fdb8bf71b350a889fd4614f778c3c8a79eed60248f62fd1a4618fb07f57f"), looks := false }, kinds := [], alts := [], laidByText := true, laidKinds := [.funcs, .funcs, .funcs], laidTests := true, laidLooks := .later }
def SwapByNotesUptoCardSaid : Prop := Claim7.holds Tryz.pinned (.plain (OpenSpec.upto swapByNotesSpec)) swapByNotesUptoCard

/-- THE SECOND FORM's CARD OF 'bluelinelaw05.SwapClosed'. -/
def swapClosedUptoCard : Claim7 := { stood := { row := swapClosedUptoRow, standIns := [], harness := (true, "a7c7fdb8bf71b350a889fd4614f778c3c8a79eed60248f62fd1a4618fb07f57f"), looks := false }, kinds := [], alts := [], laidByText := true, laidKinds := [.funcs, .funcs, .funcs], laidTests := true, laidLooks := .later }
def SwapClosedUptoCardSaid : Prop := Claim7.holds Tryz.pinned (.plain (OpenSpec.upto swapClosedSpec)) swapClosedUptoCard

/-- THE SECOND FORM's CARD OF 'bluelinelaw05.SwapClasses'. -/
def swapClassesUptoCard : Claim7 := { stood := { row := swapClassesUptoRow, standIns := [], harness := (true, "a7c7fdb8bf71b350a889fd4614f778c3c8a79eed60248f62fd1a4618fb07f57f"), looks := false }, kinds := [], alts := [], laidByText := true, laidKinds := [.funcs, .funcs, .funcs], laidTests := true, laidLooks := .later }
def SwapClassesUptoCardSaid : Prop := Claim7.holds Tryz.pinned (.plain (OpenSpec.upto swapClassesSpec)) swapClassesUptoCard

/-- THE SECOND FORM's CARD OF 'bluelinelaw05.SwapMore'. -/
def swapMoreUptoCard : Claim7 := { stood := { row := swapMoreUptoRow, standIns := [], harness := (true, "a7c7fdb8bf71b350a889fd4614f778c3c8a79eed60248f62fd1a4618fb07f57f"), looks := false }, kinds := [], alts := [], laidByText := true, laidKinds := [.funcs, .funcs, .funcs], laidTests := true, laidLooks := .later }
def SwapMoreUptoCardSaid : Prop := Claim7.holds Tryz.pinned (.plain (OpenSpec.upto swapMoreSpec)) swapMoreUptoCard

/-- THE SECOND FORM's CARD OF 'bluelinelaw05.SwapLost'. -/
def swapLostUptoCard : Claim7 := { stood := { row := swapLostUptoRow, standIns := [], harness := (true, "a7c7fdb8bf71b350a889fd4614f778c3c8a79eed60248f62fd1a4618fb07f57f"), looks := false }, kinds := [], alts := [], laidByText := true, laidKinds := [.funcs, .funcs, .funcs], laidTests := true, laidLooks := .later }
def SwapLostUptoCardSaid : Prop := Claim7.holds Tryz.pinned (.plain (OpenSpec.upto swapLostSpec)) swapLostUptoCard

/-- THE SECOND FORM's CARD OF 'bluelinelaw05.SwapTurned'. -/
def swapTurnedUptoCard : Claim7 := { stood := { row := swapTurnedUptoRow, standIns := [], harness := (true, "a7c7fdb8bf71b350a889fd4614f778c3c8a79eed60248f62fd1a4618fb07f57f"), looks := false }, kinds := [], alts := [], laidByText := true, laidKinds := [.funcs, .funcs, .funcs], laidTests := true, laidLooks := .later }
def SwapTurnedUptoCardSaid : Prop := Claim7.holds Tryz.pinned (.plain (OpenSpec.upto swapTurnedSpec)) swapTurnedUptoCard

/-- THE SECOND FORM's CARD OF 'bluelinelaw05.SwapPlaces'. -/
def swapPlacesUptoCard : Claim7 := { stood := { row := swapPlacesUptoRow, standIns := [], harness := (true, "a7c7fdb8bf71b350a889fd4614f778c3c8a79eed60248f62fd1a4618fb07f57f"), looks := false }, kinds := [], alts := [], laidByText := true, laidKinds := [.funcs, .funcs, .funcs], laidTests := true, laidLooks := .later }
def SwapPlacesUptoCardSaid : Prop := Claim7.holds Tryz.pinned (.plain (OpenSpec.upto swapPlacesSpec)) swapPlacesUptoCard

/-- THE SECOND FORM's CARD OF 'bluelinelaw05.SwapExamples'. -/
def swapExamplesUptoCard : Claim7 := { stood := { row := swapExamplesUptoRow, standIns := [], harness := (true, "a7c7fdb8bf71b350a889fd4614f778c3c8a79eed60248f62fd1a4618fb07f57f"), looks := false }, kinds := [], alts := [], laidByText := true, laidKinds := [.funcs, .funcs, .funcs], laidTests := true, laidLooks := .later }
def SwapExamplesUptoCardSaid : Prop := Claim7.holds Tryz.pinned (.plain (OpenSpec.upto swapExamplesSpec)) swapExamplesUptoCard

/-- THE SECOND FORM's CARD OF 'bluelinelaw05.SwapSure'. -/
def swapSureUptoCard : Claim7 := { stood := { row := swapSureUptoRow, standIns := [], harness := (true, "a7c7fdb8bf71b350a889fd4614f778c3c8a79eed60248f62fd1a4618fb07f57f"), looks := false }, kinds := [], alts := [], laidByText := true, laidKinds := [.funcs, .funcs, .funcs], laidTests := true, laidLooks := .later }
def SwapSureUptoCardSaid : Prop := Claim7.holds Tryz.pinned (.plain (OpenSpec.upto swapSureSpec)) swapSureUptoCard
end Rows
end Go.Proofs.YtjogcghofinemaaGreatDoor
