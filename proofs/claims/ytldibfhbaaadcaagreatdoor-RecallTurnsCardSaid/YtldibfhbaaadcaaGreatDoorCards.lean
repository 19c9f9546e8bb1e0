/-
  DERIVED. GIVEN WITH THE SEED: THE CARDS: each row of YtldibfhbaaadcaaGreatDoorRows.lean that lists a variable, with what it lists TIED to the program's text (the seventh form; the later family's looks); each row that meets fmt, with fmt's text TOLD by the authors' own Lean function (tested against real Go, not proved from fmt's source: count such statements apart). THE CARD IS WHAT COUNTS. Prove the row's statement (the work); the ties are given (YtldibfhbaaadcaaGreatDoorTie.lean); close each card by the builder's one call (the guide's Derived/Test/ToyasCard.lean, 'card_holds'). Laid BY PROGRAM, IN A SANDBOX (cutbox-door.mjs). By AI agents, Wed Nov 11 2026. No macro, syntax, notation, axiom, sorry.
-/
import Derived.Test.YtldibfhbaaadcaaGreatDoorRows
import GoSem.ClaimSeven
namespace Go.Proofs.YtldibfhbaaadcaaGreatDoor
namespace Rows

/-- THE TIED CARD OF 'bluelinelaw07.RecallTurns'. -/
def recallTurnsCard : Claim7 := { stood := { row := recallTurnsRow, standIns := [], harness := (true, "9274ff8c6d01f60e9bdf2a74495164fef58a7ba4bb9a35bbb621db11e9f633f6"), looks := false }, kinds := [], alts := [], laidByText := true, laidKinds := [.funcs, .funcs, .funcs], laidTests := true, laidLooks := .later }
def RecallTurnsCardSaid : Prop := Claim7.holds Tryz.pinned (.plain (OpenSpec.ofChange recallTurnsSpec)) recallTurnsCard

/-- THE SECOND FORM's CARD OF 'bluelinelaw07.RecallTurns'. -/
def recallTurnsUptoCard : Claim7 := { stood := { row := recallTurnsUptoRow, standIns := [], harness := (true, "9274ff8c6d01f60e9bdf2a74495164fef58a7ba4bb9a35bbb621db11e9f633f6"), looks := false }, kinds := [], alts := [], laidByText := true, laidKinds := [.funcs, .funcs, .funcs], laidTests := true, laidLooks := .later }
def RecallTurnsUptoCardSaid : Prop := Claim7.holds Tryz.pinned (.plain (OpenSpec.upto recallTurnsSpec)) recallTurnsUptoCard
end Rows
end Go.Proofs.YtldibfhbaaadcaaGreatDoor
