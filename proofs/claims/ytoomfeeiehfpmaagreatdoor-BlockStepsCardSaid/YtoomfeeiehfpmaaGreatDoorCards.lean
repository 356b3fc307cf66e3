/-
  DERIVED. GIVEN WITH THE SEED: THE CARDS: each row of YtoomfeeiehfpmaaGreatDoorRows.lean that lists a variable, with what it lists TIED to the program's text (the seventh form; the later family's looks); each row that meets fmt, with fmt's text TOLD by the authors' own Lean function (tested against real Go, not proved from fmt's source: count such statements apart). THE CARD IS WHAT COUNTS. Prove the row's statement (the work); the ties are given (YtoomfeeiehfpmaaGreatDoorTie.lean); close each card by the builder's one call (the guide's Derived/Test/ToyasCard.lean, 'card_holds'). Laid BY PROGRAM, IN A SANDBOX (cutbox-door.mjs). By AI agents, Wed Nov 11 2026. No macro, syntax, notation, axiom, sorry.
-/
import Derived.Test.YtoomfeeiehfpmaaGreatDoorRows
import GoSem.ClaimSeven
namespace Go.Proofs.YtoomfeeiehfpmaaGreatDoor
namespace Rows

/-- THE TIED CARD OF 'balerlaw20.BlockWrites'. -/
def blockWritesCard : Claim7 := { stood := { row := blockWritesRow, standIns := [], harness := (true, "f942257d83042b736ca9c6bf45a8bfcee5fecf0bf08ab305f8cddad673c4f038"), looks := false }, kinds := [], alts := [], laidByText := true, laidKinds := [.data], laidTests := true, laidLooks := .later }
def BlockWritesCardSaid : Prop := Claim7.holds Tryz.pinned (.plain (OpenSpec.ofChange blockWritesSpec)) blockWritesCard

/-- THE TIED CARD OF 'balerlaw20.BlockTurned'. -/
def blockTurnedCard : Claim7 := { stood := { row := blockTurnedRow, standIns := [], harness := (true, "f942257d83042b736ca9c6bf45a8bfcee5fecf0bf08ab305f8cddad673c4f038"), looks := false }, kinds := [], alts := [], laidByText := true, laidKinds := [.data], laidTests := true, laidLooks := .later }
def BlockTurnedCardSaid : Prop := Claim7.holds Tryz.pinned (.plain (OpenSpec.ofChange blockTurnedSpec)) blockTurnedCard

/-- THE TIED CARD OF 'balerlaw20.BlockReads'. -/
def blockReadsCard : Claim7 := { stood := { row := blockReadsRow, standIns := [], harness := (true, "f942257d83042b736ca9c6bf45a8bfcee5fecf0bf08ab305f8cddad673c4f038"), looks := false }, kinds := [], alts := [], laidByText := true, laidKinds := [.data], laidTests := true, laidLooks := .later }
def BlockReadsCardSaid : Prop := Claim7.holds Tryz.pinned (.plain (OpenSpec.ofChange blockReadsSpec)) blockReadsCard

/-- THE TIED CARD OF 'balerlaw20.BlockBack'. -/
def blockBackCard : Claim7 := { stood := { row := blockBackRow, standIns := [], harness := (true, "f942257d83042b736ca9c6bf45a8bfcee5fecf0bf08ab305f8cddad673c4f038"), looks := false }, kinds := [], alts := [], laidByText := true, laidKinds := [.data], laidTests := true, laidLooks := .later }
def BlockBackCardSaid : Prop := Claim7.holds Tryz.pinned (.plain (OpenSpec.ofChange blockBackSpec)) blockBackCard

/-- THE TIED CARD OF 'balerlaw20.BlockSteps'. -/
def blockStepsCard : Claim7 := { stood := { row := blockStepsRow, standIns := [], harness := (true, "f942257d83042b736ca9c6bf45a8bfcee5fecf0bf08ab305f8cddad673c4f038"), looks := false }, kinds := [], alts := [], laidByText := true, laidKinds := [.data], laidTests := true, laidLooks := .later }
def BlockStepsCardSaid : Prop := Claim7.holds Tryz.pinned (.plain (OpenSpec.ofChange blockStepsSpec)) blockStepsCard

/-- THE SECOND FORM's CARD OF 'balerlaw20.BlockWrites'. -/
def blockWritesUptoCard : Claim7 := { stood := { row := blockWritesUptoRow, standIns := [], harness := (true, "f942257d83042b736ca9c6bf45a8bfcee5fecf0bf08ab305f8cddad673c4f038"), looks := false }, kinds := [], alts := [], laidByText := true, laidKinds := [.data], laidTests := true, laidLooks := .later }
def BlockWritesUptoCardSaid : Prop := Claim7.holds Tryz.pinned (.plain (OpenSpec.upto blockWritesSpec)) blockWritesUptoCard

/-- THE SECOND FORM's CARD OF 'balerlaw20.BlockTurned'. -/
def blockTurnedUptoCard : Claim7 := { stood := { row := blockTurnedUptoRow, standIns := [], harness := (true, "f942257d83042b736ca9c6bf45a8bfcee5fecf0bf08ab305f8cddad673c4f038"), looks := false }, kinds := [], alts := [], laidByText := true, laidKinds := [.data], laidTests := true, laidLooks := .later }
def BlockTurnedUptoCardSaid : Prop := Claim7.holds Tryz.pinned (.plain (OpenSpec.upto blockTurnedSpec)) blockTurnedUptoCard

/-- THE SECOND FORM's CARD OF 'balerlaw20.BlockReads'. -/
def blockReadsUptoCard : Claim7 := { stood := { row := blockReadsUptoRow, standIns := [], harness := (true, "f942257d83042b736ca9c6bf45a8bfcee5fecf0bf08ab305f8cddad673c4f038"), looks := false }, kinds := [], alts := [], laidByText := true, laidKinds := [.data], laidTests := true, laidLooks := .later }
def BlockReadsUptoCardSaid : Prop := Claim7.holds Tryz.pinned (.plain (OpenSpec.upto blockReadsSpec)) blockReadsUptoCard

/-- THE SECOND FORM's CARD OF 'balerlaw20.BlockBack'. -/
def blockBackUptoCard : Claim7 := { stood := { row := blockBackUptoRow, standIns := [], harness := (true, "f942257d83042b736ca9c6bf45a8bfcee5fecf0bf08ab305f8cddad673c4f038"), looks := false }, kinds := [], alts := [], laidByText := true, laidKinds := [.data], laidTests := true, laidLooks := .later }
def BlockBackUptoCardSaid : Prop := Claim7.holds Tryz.pinned (.plain (OpenSpec.upto blockBackSpec)) blockBackUptoCard

/-- THE SECOND FORM's CARD OF 'balerlaw20.BlockSteps'. -/
def blockStepsUptoCard : Claim7 := { stood := { row := blockStepsUptoRow, standIns := [], harness := (true, "f942257d83042b736ca9c6bf45a8bfcee5fecf0bf08ab305f8cddad673c4f038"), looks := false }, kinds := [], alts := [], laidByText := true, laidKinds := [.data], laidTests := true, laidLooks := .later }
def BlockStepsUptoCardSaid : Prop := Claim7.holds Tryz.pinned (.plain (OpenSpec.upto blockStepsSpec)) blockStepsUptoCard
end Rows
end Go.Proofs.YtoomfeeiehfpmaaGreatDoor
