/-
  DERIVED. GIVEN WITH THE SEED: THE CARDS: each row of YtpkfmfkccbnnjaaGreatDoorRows.lean that lists a variable, with what it lists TIED to the program's text (the seventh form; the later family's looks); each row that meets fmt, with fmt's text TOLD by the authors' own Lean function (tested against real Go, not proved from fmt's source: count such statements apart). THE CARD IS WHAT COUNTS. Prove the row's statement (the work); the ties are given (YtpkfmfkccbnnjaaGreatDoorTie.lean); close each card by the builder's one call (the guide's Derived/Test/ToyasCard.lean, 'card_holds'). Laid BY PROGRAM, IN A SANDBOX (cutbox-door.mjs). By AI agents, Wed Nov 11 2026. No macro, syntax, notation, axiom, sorry.
-/
import Derived.Test.YtpkfmfkccbnnjaaGreatDoorRows
import GoSem.ClaimSeven
namespace Go.Proofs.YtpkfmfkccbnnjaaGreatDoor
namespace Rows

/-- THE TIED CARD OF 'bluelinelaw05.SwapSteps'. -/
def swapStepsCard : Claim7 := { stood := { row := swapStepsRow, standIns := [], harness := (true, "601cf91db7f71f832928b017f8cac8d0dec88d21e2ec319f0cd0528ab2397d0d"), looks := false }, kinds := [], alts := [], laidByText := true, laidKinds := [.funcs, .funcs, .funcs], laidTests := true, laidLooks := .later }
def SwapStepsCardSaid : Prop := Claim7.holds Tryz.pinned (.plain (OpenSpec.ofChange swapStepsSpec)) swapStepsCard

/-- THE TIED CARD OF 'bluelinelaw05.SwapSures'. -/
def swapSuresCard : Claim7 := { stood := { row := swapSuresRow, standIns := [], harness := (true, "601cf91db7f71f832928b017f8cac8d0dec88d21e2ec319f0cd0528ab2397d0d"), looks := false }, kinds := [], alts := [], laidByText := true, laidKinds := [.funcs, .funcs, .funcs], laidTests := true, laidLooks := .later }
def SwapSuresCardSaid : Prop := Claim7.holds Tryz.pinned (.plain (OpenSpec.ofChange swapSuresSpec)) swapSuresCard

/-- THE TIED CARD OF 'bluelinelaw05.SwapGoes'. -/
def swapGoesCard : Claim7 := { stood := { row := swapGoesRow, standIns := [], harness := (true, "601cf91db7f71f832928b017f8cac8d0dec88d21e2ec319f0cd0528ab2397d0d"), looks := false }, kinds := [], alts := [], laidByText := true, laidKinds := [.funcs, .funcs, .funcs], laidTests := true, laidLooks := .later }
def SwapGoesCardSaid : Prop := Claim7.holds Tryz.pinned (.plain (OpenSpec.ofChange swapGoesSpec)) swapGoesCard

/-- THE TIED CARD OF 'bluelinelaw05.SwapLists'. -/
def swapListsCard : Claim7 := { stood := { row := swapListsRow, standIns := [], harness := (true, "601cf91db7f71f832928b017f8cac8d0dec88d21e2ec319f0cd0528ab2397d0d"), looks := false }, kinds := [], alts := [], laidByText := true, laidKinds := [.funcs, .funcs, .funcs], laidTests := true, laidLooks := .later }
def SwapListsCardSaid : Prop := Claim7.holds Tryz.pinned (.plain (OpenSpec.ofChange swapListsSpec)) swapListsCard

/-- THE SECOND FORM's CARD OF 'bluelinelaw05.SwapSteps'. -/
def swapStepsUptoCard : Claim7 := { stood := { row := swapStepsUptoRow, standIns := [], harness := (true, "601cf91db7f71f832928b017f8cac8d0dec88d21e2ec319f0cd0528ab2397d0d"), looks := false }, kinds := [], alts := [], laidByText := true, laidKinds := [.funcs, .funcs, .funcs], laidTests := true, laidLooks := .later }
def SwapStepsUptoCardSaid : Prop := Claim7.holds Tryz.pinned (.plain (OpenSpec.upto swapStepsSpec)) swapStepsUptoCard

/-- THE SECOND FORM's CARD OF 'bluelinelaw05.SwapSures'. -/
def swapSuresUptoCard : Claim7 := { stood := { row := swapSuresUptoRow, standIns := [], harness := (true, "601cf91db7f71f832928b017f8cac8d0dec88d21e2ec319f0cd0528ab2397d0d"), looks := false }, kinds := [], alts := [], laidByText := true, laidKinds := [.funcs, .funcs, .funcs], laidTests := true, laidLooks := .later }
def SwapSuresUptoCardSaid : Prop := Claim7.holds Tryz.pinned (.plain (OpenSpec.upto swapSuresSpec)) swapSuresUptoCard

/-- THE SECOND FORM's CARD OF 'bluelinelaw05.SwapGoes'. -/
def swapGoesUptoCard : Claim7 := { stood := { row := swapGoesUptoRow, standIns := [], harness := (true, "601cf91db7f71f832928b017f8cac8d0dec88d21e2ec319f0cd0528ab2397d0d"), looks := false }, kinds := [], alts := [], laidByText := true, laidKinds := [.funcs, .funcs, .funcs], laidTests := true, laidLooks := .later }
def SwapGoesUptoCardSaid : Prop := Claim7.holds Tryz.pinned (.plain (OpenSpec.upto swapGoesSpec)) swapGoesUptoCard

/-- THE SECOND FORM's CARD OF 'bluelinelaw05.SwapLists'. -/
def swapListsUptoCard : Claim7 := { stood := { row := swapListsUptoRow, standIns := [], harness := (true, "601cf91db7f71f832928b017f8cac8d0dec88d21e2ec319f0cd0528ab2397d0d"), looks := false }, kinds := [], alts := [], laidByText := true, laidKinds := [.funcs, .funcs, .funcs], laidTests := true, laidLooks := .later }
def SwapListsUptoCardSaid : Prop := Claim7.holds Tryz.pinned (.plain (OpenSpec.upto swapListsSpec)) swapListsUptoCard
end Rows
end Go.Proofs.YtpkfmfkccbnnjaaGreatDoor
