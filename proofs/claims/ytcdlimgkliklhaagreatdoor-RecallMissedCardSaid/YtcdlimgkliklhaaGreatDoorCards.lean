/-
  DERIVED. GIVEN WITH THE SEED: THE CARDS: each row of YtcdlimgkliklhaaGreatDoorRows.lean that lists a variable, with what it lists TIED to the program's text (the seventh form; the later family's looks); each row that meets fmt, with fmt's text TOLD by the authors' own Lean function (tested against real Go, not proved from fmt's source: count such statements apart). THE CARD IS WHAT COUNTS. Prove the row's statement (the work); the ties are given (YtcdlimgkliklhaaGreatDoorTie.lean); close each card by the builder's one call (the guide's Derived/Test/ToyasCard.lean, 'card_holds'). Laid BY PROGRAM, IN A SANDBOX (cutbox-door.mjs). By AI agents, Wed Nov 11 2026. No macro, syntax, notation, axiom, sorry.
-/
import Derived.Test.YtcdlimgkliklhaaGreatDoorRows
import GoSem.ClaimSeven
namespace Go.Proofs.YtcdlimgkliklhaaGreatDoor
namespace Rows

/-- THE TIED CARD OF 'bluelinelaw07.RecallHolds'. -/
def recallHoldsCard : Claim7 := { stood := { row := recallHoldsRow, standIns := [], harness := (true, "c78c3ff270fe74a990be3be0c8d074bef76ac0378b180a9ded0d213bc229583d"), looks := false }, kinds := [], alts := [], laidByText := true, laidKinds := [.funcs, .funcs, .funcs], laidTests := true, laidLooks := .later }
def RecallHoldsCardSaid : Prop := Claim7.holds Tryz.pinned (.plain (OpenSpec.ofChange recallHoldsSpec)) recallHoldsCard

/-- THE TIED CARD OF 'bluelinelaw07.RecallNeeds'. -/
def recallNeedsCard : Claim7 := { stood := { row := recallNeedsRow, standIns := [], harness := (true, "c78c3ff270fe74a990be3be0c8d074bef76ac0378b180a9ded0d213bc229583d"), looks := false }, kinds := [], alts := [], laidByText := true, laidKinds := [.funcs, .funcs, .funcs], laidTests := true, laidLooks := .later }
def RecallNeedsCardSaid : Prop := Claim7.holds Tryz.pinned (.plain (OpenSpec.ofChange recallNeedsSpec)) recallNeedsCard

/-- THE TIED CARD OF 'bluelinelaw07.RecallStale'. -/
def recallStaleCard : Claim7 := { stood := { row := recallStaleRow, standIns := [], harness := (true, "c78c3ff270fe74a990be3be0c8d074bef76ac0378b180a9ded0d213bc229583d"), looks := false }, kinds := [], alts := [], laidByText := true, laidKinds := [.funcs, .funcs, .funcs], laidTests := true, laidLooks := .later }
def RecallStaleCardSaid : Prop := Claim7.holds Tryz.pinned (.plain (OpenSpec.ofChange recallStaleSpec)) recallStaleCard

/-- THE TIED CARD OF 'bluelinelaw07.RecallTurns'. -/
def recallTurnsCard : Claim7 := { stood := { row := recallTurnsRow, standIns := [], harness := (true, "c78c3ff270fe74a990be3be0c8d074bef76ac0378b180a9ded0d213bc229583d"), looks := false }, kinds := [], alts := [], laidByText := true, laidKinds := [.funcs, .funcs, .funcs], laidTests := true, laidLooks := .later }
def RecallTurnsCardSaid : Prop := Claim7.holds Tryz.pinned (.plain (OpenSpec.ofChange recallTurnsSpec)) recallTurnsCard

/-- THE TIED CARD OF 'bluelinelaw07.RecallExamples'. -/
def recallExamplesCard : Claim7 := { stood := { row := recallExamplesRow, standIns := [], harness := (true, "c78c3ff270fe74a990be3be0c8d074bef76ac0378b180a9ded0d213bc229583d"), looks := false }, kinds := [], alts := [], laidByText := true, laidKinds := [.funcs, .funcs, .funcs], laidTests := true, laidLooks := .later }
def RecallExamplesCardSaid : Prop := Claim7.holds Tryz.pinned (.plain (OpenSpec.ofChange recallExamplesSpec)) recallExamplesCard

/-- THE TIED CARD OF 'bluelinelaw07.RecallCalled'. -/
def recallCalledCard : Claim7 := { stood := { row := recallCalledRow, standIns := [], harness := (true, "c78c3ff270fe74a990be3be0c8d074bef76ac0378b180a9ded0d213bc229583d"), looks := false }, kinds := [], alts := [], laidByText := true, laidKinds := [.funcs, .funcs, .funcs], laidTests := true, laidLooks := .later }
def RecallCalledCardSaid : Prop := Claim7.holds Tryz.pinned (.plain (OpenSpec.ofChange recallCalledSpec)) recallCalledCard

/-- THE TIED CARD OF 'bluelinelaw07.RecallFewest'. -/
def recallFewestCard : Claim7 := { stood := { row := recallFewestRow, standIns := [], harness := (true, "c78c3ff270fe74a990be3be0c8d074bef76ac0378b180a9ded0d213bc229583d"), looks := false }, kinds := [], alts := [], laidByText := true, laidKinds := [.funcs, .funcs, .funcs], laidTests := true, laidLooks := .later }
def RecallFewestCardSaid : Prop := Claim7.holds Tryz.pinned (.plain (OpenSpec.ofChange recallFewestSpec)) recallFewestCard

/-- THE TIED CARD OF 'bluelinelaw07.RecallHeld'. -/
def recallHeldCard : Claim7 := { stood := { row := recallHeldRow, standIns := [], harness := (true, "c78c3ff270fe74a990be3be0c8d074bef76ac0378b180a9ded0d213bc229583d"), looks := false }, kinds := [], alts := [], laidByText := true, laidKinds := [.funcs, .funcs, .funcs], laidTests := true, laidLooks := .later }
def RecallHeldCardSaid : Prop := Claim7.holds Tryz.pinned (.plain (OpenSpec.ofChange recallHeldSpec)) recallHeldCard

/-- THE TIED CARD OF 'bluelinelaw07.RecallLost'. -/
def recallLostCard : Claim7 := { stood := { row := recallLostRow, standIns := [], harness := (true, "c78c3ff270fe74a990be3be0c8d074bef76ac0378b180a9ded0d213bc229583d"), looks := false }, kinds := [], alts := [], laidByText := true, laidKinds := [.funcs, .funcs, .funcs], laidTests := true, laidLooks := .later }
def RecallLostCardSaid : Prop := Claim7.holds Tryz.pinned (.plain (OpenSpec.ofChange recallLostSpec)) recallLostCard

/-- THE TIED CARD OF 'bluelinelaw07.RecallMissed'. -/
def recallMissedCard : Claim7 := { stood := { row := recallMissedRow, standIns := [], harness := (true, "c78c3ff270fe74a990be3be0c8d074bef76ac0378b180a9ded0d213bc229583d"), looks := false }, kinds := [], alts := [], laidByText := true, laidKinds := [.funcs, .funcs, .funcs], laidTests := true, laidLooks := .later }
def RecallMissedCardSaid : Prop := Claim7.holds Tryz.pinned (.plain (OpenSpec.ofChange recallMissedSpec)) recallMissedCard

/-- THE TIED CARD OF 'bluelinelaw07.RecallSent'. -/
def recallSentCard : Claim7 := { stood := { row := recallSentRow, standIns := [], harness := (true, "c78c3ff270fe74a990be3be0c8d074bef76ac0378b180a9ded0d213bc229583d"), looks := false }, kinds := [], alts := [], laidByText := true, laidKinds := [.funcs, .funcs, .funcs], laidTests := true, laidLooks := .later }
def RecallSentCardSaid : Prop := Claim7.holds Tryz.pinned (.plain (OpenSpec.ofChange recallSentSpec)) recallSentCard

/-- THE TIED CARD OF 'bluelinelaw07.RecallWrong'. -/
def recallWrongCard : Claim7 := { stood := { row := recallWrongRow, standIns := [], harness := (true, "c78c3ff270fe74a990be3be0c8d074bef76ac0378b180a9ded0d213bc229583d"), looks := false }, kinds := [], alts := [], laidByText := true, laidKinds := [.funcs, .funcs, .funcs], laidTests := true, laidLooks := .later }
def RecallWrongCardSaid : Prop := Claim7.holds Tryz.pinned (.plain (OpenSpec.ofChange recallWrongSpec)) recallWrongCard

/-- THE TIED CARD OF 'bluelinelaw07.RecallReason'. -/
def recallReasonCard : Claim7 := { stood := { row := recallReasonRow, standIns := [], harness := (true, "c78c3ff270fe74a990be3be0c8d074bef76ac0378b180a9ded0d213bc229583d"), looks := false }, kinds := [], alts := [], laidByText := true, laidKinds := [.funcs, .funcs, .funcs], laidTests := true, laidLooks := .later }
def RecallReasonCardSaid : Prop := Claim7.holds Tryz.pinned (.plain (OpenSpec.ofChange recallReasonSpec)) recallReasonCard

/-- THE TIED CARD OF 'bluelinelaw07.RecallSettled'. -/
def recallSettledCard : Claim7 := { stood := { row := recallSettledRow, standIns := [], harness := (true, "c78c3ff270fe74a990be3be0c8d074bef76ac0378b180a9ded0d213bc229583d"), looks := false }, kinds := [], alts := [], laidByText := true, laidKinds := [.funcs, .funcs, .funcs], laidTests := true, laidLooks := .later }
def RecallSettledCardSaid : Prop := Claim7.holds Tryz.pinned (.plain (OpenSpec.ofChange recallSettledSpec)) recallSettledCard

/-- THE SECOND FORM's CARD OF 'bluelinelaw07.RecallHolds'. -/
def recallHoldsUptoCard : Claim7 := { stood := { row := recallHoldsUptoRow, standIns := [], harness := (true, "c78c3ff270fe74a990be3be0c8d074bef76ac0378b180a9ded0d213bc229583d"), looks := false }, kinds := [], alts := [], laidByText := true, laidKinds := [.funcs, .funcs, .funcs], laidTests := true, laidLooks := .later }
def RecallHoldsUptoCardSaid : Prop := Claim7.holds Tryz.pinned (.plain (OpenSpec.upto recallHoldsSpec)) recallHoldsUptoCard

/-- THE SECOND FORM's CARD OF 'bluelinelaw07.RecallNeeds'. -/
def recallNeedsUptoCard : Claim7 := { stood := { row := recallNeedsUptoRow, standIns := [], harness := (true, "c78c3ff270fe74a990be3be0c8d074bef76ac0378b180a9ded0d213bc229583d"), looks := false }, kinds := [], alts := [], laidByText := true, laidKinds := [.funcs, .funcs, .funcs], laidTests := true, laidLooks := .later }
def RecallNeedsUptoCardSaid : Prop := Claim7.holds Tryz.pinned (.plain (OpenSpec.upto recallNeedsSpec)) recallNeedsUptoCard

/-- THE SECOND FORM's CARD OF 'bluelinelaw07.RecallStale'. -/
def recallStaleUptoCard : Claim7 := { stood := { row := recallStaleUptoRow, standIns := [], harness := (true, "c78c3ff270fe74a990be3be0c8d074bef76ac0378b180a9ded0d213bc229583d"), looks := false }, kinds := [], alts := [], laidByText := true, laidKinds := [.funcs, .funcs, .funcs], laidTests := true, laidLooks := .later }
def RecallStaleUptoCardSaid : Prop := Claim7.holds Tryz.pinned (.plain (OpenSpec.upto recallStaleSpec)) recallStaleUptoCard

/-- THE SECOND FORM's CARD OF 'bluelinelaw07.RecallTurns'. -/
def recallTurnsUptoCard : Claim7 := { stood := { row := recallTurnsUptoRow, standIns := [], harness := (true, "c78c3ff270fe74a990be3be0c8d074bef76ac0378b180a9ded0d213bc229583d"), looks := false }, kinds := [], alts := [], laidByText := true, laidKinds := [.funcs, .funcs, .funcs], laidTests := true, laidLooks := .later }
def RecallTurnsUptoCardSaid : Prop := Claim7.holds Tryz.pinned (.plain (OpenSpec.upto recallTurnsSpec)) recallTurnsUptoCard

/-- THE SECOND FORM's CARD OF 'bluelinelaw07.RecallExamples'. -/
def recallExamplesUptoCard : Claim7 := { stood := { row := recallExamplesUptoRow, standIns := [], harness := (true, "c78c3ff270fe74a990be3be0c8d074bef76ac0378b180a9ded0d213bc229583d"), looks := false }, kinds := [], alts := [], laidByText := true, laidKinds := [.funcs, .funcs, .funcs], laidTests := true, laidLooks := .later }
def RecallExamplesUptoCardSaid : Prop := Claim7.holds Tryz.pinned (.plain (OpenSpec.upto recallExamplesSpec)) recallExamplesUptoCard

/-- THE SECOND FORM's CARD OF 'bluelinelaw07.RecallCalled'. -/
def recallCalledUptoCard : Claim7 := { stood := { row := recallCalledUptoRow, standIns := [], harness := (true, "c78c3ff270fe74a990be3be0c8d074bef76ac0378b180a9ded0d213bc229583d"), looks := false }, kinds := [], alts := [], laidByText := true, laidKinds := [.funcs, .funcs, .funcs], laidTests := true, laidLooks := .later }
def RecallCalledUptoCardSaid : Prop := Claim7.holds Tryz.pinned (.plain (OpenSpec.upto recallCalledSpec)) recallCalledUptoCard

/-- THE SECOND FORM's CARD OF 'bluelinelaw07.RecallFewest'. -/
def recallFewestUptoCard : Claim7 := { stood := { row := recallFewestUptoRow, standIns := [], harness := (true, "c78c3ff270fe74a990be3be0c8d074bef76ac0378b180a9ded0d213bc229583d"), looks := false }, kinds := [], alts := [], laidByText := true, laidKinds := [.funcs, .funcs, .funcs], laidTests := true, laidLooks := .later }
def RecallFewestUptoCardSaid : Prop := Claim7.holds Tryz.pinned (.plain (OpenSpec.upto recallFewestSpec)) recallFewestUptoCard

/-- THE SECOND FORM's CARD OF 'bluelinelaw07.RecallHeld'. -/
def recallHeldUptoCard : Claim7 := { stood := { row := recallHeldUptoRow, standIns := [], harness := (true, "c78c3ff270fe74a990be3be0c8d074bef76ac0378b180a9ded0d213bc229583d"), looks := false }, kinds := [], alts := [], laidByText := true, laidKinds := [.funcs, .funcs, .funcs], laidTests := true, laidLooks := .later }
def RecallHeldUptoCardSaid : Prop := Claim7.holds Tryz.pinned (.plain (OpenSpec.upto recallHeldSpec)) recallHeldUptoCard

/-- THE SECOND FORM's CARD OF 'bluelinelaw07.RecallLost'. -/
def recallLostUptoCard : Claim7 := { stood := { row := recallLostUptoRow, standIns := [], harness := (true, "c78c3ff270fe74a990be3be0c8d074bef76ac0378b180a9ded0d213bc229583d"), looks := false }, kinds := [], alts := [], laidByText := true, laidKinds := [.funcs, .funcs, .funcs], laidTests := true, laidLooks := .later }
def RecallLostUptoCardSaid : Prop := Claim7.holds Tryz.pinned (.plain (OpenSpec.upto recallLostSpec)) recallLostUptoCard

/-- THE SECOND FORM's CARD OF 'bluelinelaw07.RecallMissed'. -/
def recallMissedUptoCard : Claim7 := { stood := { row := recallMissedUptoRow, standIns := [], harness := (true, "c78c3ff270fe74a990be3be0c8d074bef76ac0378b180a9ded0d213bc229583d"), looks := false }, kinds := [], alts := [], laidByText := true, laidKinds := [.funcs, .funcs, .funcs], laidTests := true, laidLooks := .later }
def RecallMissedUptoCardSaid : Prop := Claim7.holds Tryz.pinned (.plain (OpenSpec.upto recallMissedSpec)) recallMissedUptoCard

/-- THE SECOND FORM's CARD OF 'bluelinelaw07.RecallSent'. -/
def recallSentUptoCard : Claim7 := { stood := { row := recallSentUptoRow, standIns := [], harness := (true, "c78c3ff270fe74a990be3be0c8d074bef76ac0378b180a9ded0d213bc229583d"), looks := false }, kinds := [], alts := [], laidByText := true, laidKinds := [.funcs, .funcs, .funcs], laidTests := true, laidLooks := .later }
def RecallSentUptoCardSaid : Prop := Claim7.holds Tryz.pinned (.plain (OpenSpec.upto recallSentSpec)) recallSentUptoCard

/-- THE SECOND FORM's CARD OF 'bluelinelaw07.RecallWrong'. -/
def recallWrongUptoCard : Claim7 := { stood := { row := recallWrongUptoRow, standIns := [], harness := (true, "c78c3ff270fe74a990be3be0c8d074bef76ac0378b180a9ded0d213bc229583d"), looks := false }, kinds := [], alts := [], laidByText := true, laidKinds := [.funcs, .funcs, .funcs], laidTests := true, laidLooks := .later }
def RecallWrongUptoCardSaid : Prop := Claim7.holds Tryz.pinned (.plain (OpenSpec.upto recallWrongSpec)) recallWrongUptoCard

/-- THE SECOND FORM's CARD OF 'bluelinelaw07.RecallReason'. -/
def recallReasonUptoCard : Claim7 := { stood := { row := recallReasonUptoRow, standIns := [], harness := (true, "c78c3ff270fe74a990be3be0c8d074bef76ac0378b180a9ded0d213bc229583d"), looks := false }, kinds := [], alts := [], laidByText := true, laidKinds := [.funcs, .funcs, .funcs], laidTests := true, laidLooks := .later }
def RecallReasonUptoCardSaid : Prop := Claim7.holds Tryz.pinned (.plain (OpenSpec.upto recallReasonSpec)) recallReasonUptoCard

/-- THE SECOND FORM's CARD OF 'bluelinelaw07.RecallSettled'. -/
def recallSettledUptoCard : Claim7 := { stood := { row := recallSettledUptoRow, standIns := [], harness := (true, "c78c3ff270fe74a990be3be0c8d074bef76ac0378b180a9ded0d213bc229583d"), looks := false }, kinds := [], alts := [], laidByText := true, laidKinds := [.funcs, .funcs, .funcs], laidTests := true, laidLooks := .later }
def RecallSettledUptoCardSaid : Prop := Claim7.holds Tryz.pinned (.plain (OpenSpec.upto recallSettledSpec)) recallSettledUptoCard
end Rows
end Go.Proofs.YtcdlimgkliklhaaGreatDoor
