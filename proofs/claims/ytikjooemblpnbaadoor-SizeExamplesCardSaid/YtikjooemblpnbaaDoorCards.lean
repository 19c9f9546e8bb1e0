/-
  DERIVED. GIVEN WITH THE SEED: THE CARDS: each row of YtikjooemblpnbaaDoorRows.lean that lists a variable, with what it lists TIED to the program's text (the seventh form; the later family's looks); each row that meets fmt, with fmt's text TOLD by the authors' own Lean function (tested against real Go, not proved from fmt's source: count such statements apart). THE CARD IS WHAT COUNTS. Prove the row's statement (the work); the ties are given (YtikjooemblpnbaaDoorTie.lean); close each card by the builder's one call (the guide's Derived/Test/ToyasCard.lean, 'card_holds'). Laid BY PROGRAM, IN A SANDBOX (cutbox-door.mjs). By AI agents, Wed Nov 11 2026. No macro, syntax, notation, axiom, sorry.
-/
import Derived.Test.YtikjooemblpnbaaDoorRows
import GoSem.ClaimSeven
namespace Go.Proofs.YtikjooemblpnbaaDoor
namespace Rows

/-- THE TIED CARD OF 'bluelinelaw01.SizeTurns'. -/
def sizeTurnsCard : Claim7 := { stood := { row := sizeTurnsRow, standIns := [], harness := (true, "95f6d4a103b13fb4b92192bd0794d829aaa187f585ca4ab9bc6e7cf16a7b3839"), looks := true }, kinds := [], alts := [], laidByText := true, laidKinds := [.funcs], laidTests := true, laidLooks := .later }
def SizeTurnsCardSaid : Prop := Claim7.holds Tryd.pinned (.plain (OpenSpec.ofChange sizeTurnsSpec)) sizeTurnsCard

/-- THE TIED CARD OF 'bluelinelaw01.SizeFits'. -/
def sizeFitsCard : Claim7 := { stood := { row := sizeFitsRow, standIns := [], harness := (true, "95f6d4a103b13fb4b92192bd0794d829aaa187f585ca4ab9bc6e7cf16a7b3839"), looks := true }, kinds := [], alts := [], laidByText := true, laidKinds := [.funcs], laidTests := true, laidLooks := .later }
def SizeFitsCardSaid : Prop := Claim7.holds Tryd.pinned (.plain (OpenSpec.ofChange sizeFitsSpec)) sizeFitsCard

/-- THE TIED CARD OF 'bluelinelaw01.SizeWrites'. -/
def sizeWritesCard : Claim7 := { stood := { row := sizeWritesRow, standIns := [], harness := (true, "95f6d4a103b13fb4b92192bd0794d829aaa187f585ca4ab9bc6e7cf16a7b3839"), looks := true }, kinds := [], alts := [], laidByText := true, laidKinds := [.data, .funcs, .pinned], laidTests := true, laidLooks := .later }
def SizeWritesCardSaid : Prop := Claim7.holds Tryd.pinned (.plain (OpenSpec.ofChange sizeWritesSpec)) sizeWritesCard

/-- THE TIED CARD OF 'bluelinelaw01.SizeInside'. -/
def sizeInsideCard : Claim7 := { stood := { row := sizeInsideRow, standIns := [], harness := (true, "95f6d4a103b13fb4b92192bd0794d829aaa187f585ca4ab9bc6e7cf16a7b3839"), looks := true }, kinds := [], alts := [], laidByText := true, laidKinds := [.data, .funcs, .pinned], laidTests := true, laidLooks := .later }
def SizeInsideCardSaid : Prop := Claim7.holds Tryd.pinned (.plain (OpenSpec.ofChange sizeInsideSpec)) sizeInsideCard

/-- THE TIED CARD OF 'bluelinelaw01.SizeNever'. -/
def sizeNeverCard : Claim7 := { stood := { row := sizeNeverRow, standIns := [], harness := (true, "95f6d4a103b13fb4b92192bd0794d829aaa187f585ca4ab9bc6e7cf16a7b3839"), looks := true }, kinds := [], alts := [], laidByText := true, laidKinds := [.data, .funcs, .pinned], laidTests := true, laidLooks := .later }
def SizeNeverCardSaid : Prop := Claim7.holds Tryd.pinned (.plain (OpenSpec.ofChange sizeNeverSpec)) sizeNeverCard

/-- THE TIED CARD OF 'bluelinelaw01.SizeBoth'. -/
def sizeBothCard : Claim7 := { stood := { row := sizeBothRow, standIns := [], harness := (true, "95f6d4a103b13fb4b92192bd0794d829aaa187f585ca4ab9bc6e7cf16a7b3839"), looks := true }, kinds := [], alts := [], laidByText := true, laidKinds := [.data, .funcs, .pinned], laidTests := true, laidLooks := .later }
def SizeBothCardSaid : Prop := Claim7.holds Tryd.pinned (.plain (OpenSpec.ofChange sizeBothSpec)) sizeBothCard

/-- THE TIED CARD OF 'bluelinelaw01.SizeRead'. -/
def sizeReadCard : Claim7 := { stood := { row := sizeReadRow, standIns := [], harness := (true, "95f6d4a103b13fb4b92192bd0794d829aaa187f585ca4ab9bc6e7cf16a7b3839"), looks := true }, kinds := [], alts := [], laidByText := true, laidKinds := [.data, .funcs, .pinned], laidTests := true, laidLooks := .later }
def SizeReadCardSaid : Prop := Claim7.holds Tryd.pinned (.plain (OpenSpec.ofChange sizeReadSpec)) sizeReadCard

/-- THE TIED CARD OF 'bluelinelaw01.SizeFitted'. -/
def sizeFittedCard : Claim7 := { stood := { row := sizeFittedRow, standIns := [], harness := (true, "95f6d4a103b13fb4b92192bd0794d829aaa187f585ca4ab9bc6e7cf16a7b3839"), looks := true }, kinds := [], alts := [], laidByText := true, laidKinds := [.data, .funcs, .pinned], laidTests := true, laidLooks := .later }
def SizeFittedCardSaid : Prop := Claim7.holds Tryd.pinned (.plain (OpenSpec.ofChange sizeFittedSpec)) sizeFittedCard

/-- THE TIED CARD OF 'bluelinelaw01.SizeRedrawn'. -/
def sizeRedrawnCard : Claim7 := { stood := { row := sizeRedrawnRow, standIns := [], harness := (true, "95f6d4a103b13fb4b92192bd0794d829aaa187f585ca4ab9bc6e7cf16a7b3839"), looks := true }, kinds := [], alts := [], laidByText := true, laidKinds := [.data, .funcs, .pinned], laidTests := true, laidLooks := .later }
def SizeRedrawnCardSaid : Prop := Claim7.holds Tryd.pinned (.plain (OpenSpec.ofChange sizeRedrawnSpec)) sizeRedrawnCard

/-- THE TIED CARD OF 'bluelinelaw01.SizeRoom'. -/
def sizeRoomCard : Claim7 := { stood := { row := sizeRoomRow, standIns := [], harness := (true, "95f6d4a103b13fb4b92192bd0794d829aaa187f585ca4ab9bc6e7cf16a7b3839"), looks := true }, kinds := [], alts := [], laidByText := true, laidKinds := [.data, .funcs, .pinned], laidTests := true, laidLooks := .later }
def SizeRoomCardSaid : Prop := Claim7.holds Tryd.pinned (.plain (OpenSpec.ofChange sizeRoomSpec)) sizeRoomCard

/-- THE TIED CARD OF 'bluelinelaw01.SizeShared'. -/
def sizeSharedCard : Claim7 := { stood := { row := sizeSharedRow, standIns := [], harness := (true, "95f6d4a103b13fb4b92192bd0794d829aaa187f585ca4ab9bc6e7cf16a7b3839"), looks := true }, kinds := [], alts := [], laidByText := true, laidKinds := [.data, .funcs, .pinned], laidTests := true, laidLooks := .later }
def SizeSharedCardSaid : Prop := Claim7.holds Tryd.pinned (.plain (OpenSpec.ofChange sizeSharedSpec)) sizeSharedCard

/-- THE TIED CARD OF 'bluelinelaw01.SizeMeets'. -/
def sizeMeetsCard : Claim7 := { stood := { row := sizeMeetsRow, standIns := [], harness := (true, "95f6d4a103b13fb4b92192bd0794d829aaa187f585ca4ab9bc6e7cf16a7b3839"), looks := true }, kinds := [], alts := [], laidByText := true, laidKinds := [.data, .funcs, .pinned], laidTests := true, laidLooks := .later }
def SizeMeetsCardSaid : Prop := Claim7.holds Tryd.pinned (.plain (OpenSpec.ofChange sizeMeetsSpec)) sizeMeetsCard

/-- THE TIED CARD OF 'bluelinelaw01.SizeExamples'. -/
def sizeExamplesCard : Claim7 := { stood := { row := sizeExamplesRow, standIns := [], harness := (true, "95f6d4a103b13fb4b92192bd0794d829aaa187f585ca4ab9bc6e7cf16a7b3839"), looks := true }, kinds := [], alts := [], laidByText := true, laidKinds := [.data, .data, .data, .data, .funcs, .pinned], laidTests := true, laidLooks := .later }
def SizeExamplesCardSaid : Prop := Claim7.holds Tryd.pinned (.plain (OpenSpec.ofChange sizeExamplesSpec)) sizeExamplesCard

/-- THE SECOND FORM's CARD OF 'bluelinelaw01.SizeTurns'. -/
def sizeTurnsUptoCard : Claim7 := { stood := { row := sizeTurnsUptoRow, standIns := [], harness := (true, "95f6d4a103b13fb4b92192bd0794d829aaa187f585ca4ab9bc6e7cf16a7b3839"), looks := true }, kinds := [], alts := [], laidByText := true, laidKinds := [.funcs], laidTests := true, laidLooks := .later }
def SizeTurnsUptoCardSaid : Prop := Claim7.holds Tryd.pinned (.plain (OpenSpec.upto sizeTurnsSpec)) sizeTurnsUptoCard

/-- THE SECOND FORM's CARD OF 'bluelinelaw01.SizeFits'. -/
def sizeFitsUptoCard : Claim7 := { stood := { row := sizeFitsUptoRow, standIns := [], harness := (true, "95f6d4a103b13fb4b92192bd0794d829aaa187f585ca4ab9bc6e7cf16a7b3839"), looks := true }, kinds := [], alts := [], laidByText := true, laidKinds := [.funcs], laidTests := true, laidLooks := .later }
def SizeFitsUptoCardSaid : Prop := Claim7.holds Tryd.pinned (.plain (OpenSpec.upto sizeFitsSpec)) sizeFitsUptoCard

/-- THE SECOND FORM's CARD OF 'bluelinelaw01.SizeWrites'. -/
def sizeWritesUptoCard : Claim7 := { stood := { row := sizeWritesUptoRow, standIns := [], harness := (true, "95f6d4a103b13fb4b92192bd0794d829aaa187f585ca4ab9bc6e7cf16a7b3839"), looks := true }, kinds := [], alts := [], laidByText := true, laidKinds := [.data, .funcs, .pinned], laidTests := true, laidLooks := .later }
def SizeWritesUptoCardSaid : Prop := Claim7.holds Tryd.pinned (.plain (OpenSpec.upto sizeWritesSpec)) sizeWritesUptoCard

/-- THE SECOND FORM's CARD OF 'bluelinelaw01.SizeInside'. -/
def sizeInsideUptoCard : Claim7 := { stood := { row := sizeInsideUptoRow, standIns := [], harness := (true, "95f6d4a103b13fb4b92192bd0794d829aaa187f585ca4ab9bc6e7cf16a7b3839"), looks := true }, kinds := [], alts := [], laidByText := true, laidKinds := [.data, .funcs, .pinned], laidTests := true, laidLooks := .later }
def SizeInsideUptoCardSaid : Prop := Claim7.holds Tryd.pinned (.plain (OpenSpec.upto sizeInsideSpec)) sizeInsideUptoCard

/-- THE SECOND FORM's CARD OF 'bluelinelaw01.SizeNever'. -/
def sizeNeverUptoCard : Claim7 := { stood := { row := sizeNeverUptoRow, standIns := [], harness := (true, "95f6d4a103b13fb4b92192bd0794d829aaa187f585ca4ab9bc6e7cf16a7b3839"), looks := true }, kinds := [], alts := [], laidByText := true, laidKinds := [.data, .funcs, .pinned], laidTests := true, laidLooks := .later }
def SizeNeverUptoCardSaid : Prop := Claim7.holds Tryd.pinned (.plain (OpenSpec.upto sizeNeverSpec)) sizeNeverUptoCard

/-- THE SECOND FORM's CARD OF 'bluelinelaw01.SizeBoth'. -/
def sizeBothUptoCard : Claim7 := { stood := { row := sizeBothUptoRow, standIns := [], harness := (true, "95f6d4a103b13fb4b92192bd0794d829aaa187f585ca4ab9bc6e7cf16a7b3839"), looks := true }, kinds := [], alts := [], laidByText := true, laidKinds := [.data, .funcs, .pinned], laidTests := true, laidLooks := .later }
def SizeBothUptoCardSaid : Prop := Claim7.holds Tryd.pinned (.plain (OpenSpec.upto sizeBothSpec)) sizeBothUptoCard

/-- THE SECOND FORM's CARD OF 'bluelinelaw01.SizeRead'. -/
def sizeReadUptoCard : Claim7 := { stood := { row := sizeReadUptoRow, standIns := [], harness := (true, "95f6d4a103b13fb4b92192bd0794d829aaa187f585ca4ab9bc6e7cf16a7b3839"), looks := true }, kinds := [], alts := [], laidByText := true, laidKinds := [.data, .funcs, .pinned], laidTests := true, laidLooks := .later }
def SizeReadUptoCardSaid : Prop := Claim7.holds Tryd.pinned (.plain (OpenSpec.upto sizeReadSpec)) sizeReadUptoCard

/-- THE SECOND FORM's CARD OF 'bluelinelaw01.SizeFitted'. -/
def sizeFittedUptoCard : Claim7 := { stood := { row := sizeFittedUptoRow, standIns := [], harness := (true, "95f6d4a103b13fb4b92192bd0794d829aaa187f585ca4ab9bc6e7cf16a7b3839"), looks := true }, kinds := [], alts := [], laidByText := true, laidKinds := [.data, .funcs, .pinned], laidTests := true, laidLooks := .later }
def SizeFittedUptoCardSaid : Prop := Claim7.holds Tryd.pinned (.plain (OpenSpec.upto sizeFittedSpec)) sizeFittedUptoCard

/-- THE SECOND FORM's CARD OF 'bluelinelaw01.SizeRedrawn'. -/
def sizeRedrawnUptoCard : Claim7 := { stood := { row := sizeRedrawnUptoRow, standIns := [], harness := (true, "95f6d4a103b13fb4b92192bd0794d829aaa187f585ca4ab9bc6e7cf16a7b3839"), looks := true }, kinds := [], alts := [], laidByText := true, laidKinds := [.data, .funcs, .pinned], laidTests := true, laidLooks := .later }
def SizeRedrawnUptoCardSaid : Prop := Claim7.holds Tryd.pinned (.plain (OpenSpec.upto sizeRedrawnSpec)) sizeRedrawnUptoCard

/-- THE SECOND FORM's CARD OF 'bluelinelaw01.SizeRoom'. -/
def sizeRoomUptoCard : Claim7 := { stood := { row := sizeRoomUptoRow, standIns := [], harness := (true, "95f6d4a103b13fb4b92192bd0794d829aaa187f585ca4ab9bc6e7cf16a7b3839"), looks := true }, kinds := [], alts := [], laidByText := true, laidKinds := [.data, .funcs, .pinned], laidTests := true, laidLooks := .later }
def SizeRoomUptoCardSaid : Prop := Claim7.holds Tryd.pinned (.plain (OpenSpec.upto sizeRoomSpec)) sizeRoomUptoCard

/-- THE SECOND FORM's CARD OF 'bluelinelaw01.SizeShared'. -/
def sizeSharedUptoCard : Claim7 := { stood := { row := sizeSharedUptoRow, standIns := [], harness := (true, "95f6d4a103b13fb4b92192bd0794d829aaa187f585ca4ab9bc6e7cf16a7b3839"), looks := true }, kinds := [], alts := [], laidByText := true, laidKinds := [.data, .funcs, .pinned], laidTests := true, laidLooks := .later }
def SizeSharedUptoCardSaid : Prop := Claim7.holds Tryd.pinned (.plain (OpenSpec.upto sizeSharedSpec)) sizeSharedUptoCard

/-- THE SECOND FORM's CARD OF 'bluelinelaw01.SizeMeets'. -/
def sizeMeetsUptoCard : Claim7 := { stood := { row := sizeMeetsUptoRow, standIns := [], harness := (true, "95f6d4a103b13fb4b92192bd0794d829aaa187f585ca4ab9bc6e7cf16a7b3839"), looks := true }, kinds := [], alts := [], laidByText := true, laidKinds := [.data, .funcs, .pinned], laidTests := true, laidLooks := .later }
def SizeMeetsUptoCardSaid : Prop := Claim7.holds Tryd.pinned (.plain (OpenSpec.upto sizeMeetsSpec)) sizeMeetsUptoCard

/-- THE SECOND FORM's CARD OF 'bluelinelaw01.SizeExamples'. -/
def sizeExamplesUptoCard : Claim7 := { stood := { row := sizeExamplesUptoRow, standIns := [], harness := (true, "95f6d4a103b13fb4b92192bd0794d829aaa187f585ca4ab9bc6e7cf16a7b3839"), looks := true }, kinds := [], alts := [], laidByText := true, laidKinds := [.data, .data, .data, .data, .funcs, .pinned], laidTests := true, laidLooks := .later }
def SizeExamplesUptoCardSaid : Prop := Claim7.holds Tryd.pinned (.plain (OpenSpec.upto sizeExamplesSpec)) sizeExamplesUptoCard
end Rows
end Go.Proofs.YtikjooemblpnbaaDoor
