/-
  DERIVED. GIVEN WITH THE SEED: THE CARDS: each row of YtgaiocpkjaaphaaGreatDoorRows.lean that lists a variable, with what it lists TIED to the program's text (the seventh form; the later family's looks); each row that meets fmt, with fmt's text TOLD by the authors' own Lean function (tested against real Go, not proved from fmt's source: count such statements apart). THE CARD IS WHAT COUNTS. Prove the row's statement (the work); the ties are given (YtgaiocpkjaaphaaGreatDoorTie.lean); close each card by the builder's one call (the guide's Derived/Test/ToyasCard.lean, 'card_holds'). Laid BY PROGRAM, IN A SANDBOX (cutbox-door.mjs). By AI agents, Wed Nov 11 2026. No macro, syntax, notation, axiom, sorry.
-/
import Derived.Test.YtgaiocpkjaaphaaGreatDoorRows
import GoSem.ClaimSeven
namespace Go.Proofs.YtgaiocpkjaaphaaGreatDoor
namespace Rows

/-- THE TIED CARD OF 'balerlaw20.BlockWrites'. -/
def blockWritesCard : Claim7 := { stood := { row := blockWritesRow, standIns := [], harness := (true, "70518d1d89f78cf8a305273d531c36eae1c4f777ea9f0f7b4714b45fe65f9336"), looks := false }, kinds := [], alts := [], laidByText := true, laidKinds := [.data], laidTests := true, laidLooks := .later }
def BlockWritesCardSaid : Prop := Claim7.holds Tryz.pinned (.plain (OpenSpec.ofChange blockWritesSpec)) blockWritesCard

/-- THE TIED CARD OF 'balerlaw20.BlockTurned'. -/
def blockTurnedCard : Claim7 := { stood := { row := blockTurnedRow, standIns := [], harness := (true, "70518d1d89f78cf8a305273d531c36eae1c4f777ea9f0f7b4714b45fe65f9336"), looks := false }, kinds := [], alts := [], laidByText := true, laidKinds := [.data], laidTests := true, laidLooks := .later }
def BlockTurnedCardSaid : Prop := Claim7.holds Tryz.pinned (.plain (OpenSpec.ofChange blockTurnedSpec)) blockTurnedCard

/-- THE TIED CARD OF 'balerlaw20.BlockBack'. -/
def blockBackCard : Claim7 := { stood := { row := blockBackRow, standIns := [], harness := (true, "70518d1d89f78cf8a305273d531c36eae1c4f777ea9f0f7b4714b45fe65f9336"), looks := false }, kinds := [], alts := [], laidByText := true, laidKinds := [.data], laidTests := true, laidLooks := .later }
def BlockBackCardSaid : Prop := Claim7.holds Tryz.pinned (.plain (OpenSpec.ofChange blockBackSpec)) blockBackCard

/-- THE TIED CARD OF 'balerlaw22.UnstreamSpoilt'. -/
def unstreamSpoiltCard : Claim7 := { stood := { row := unstreamSpoiltRow, standIns := [], harness := (true, "70518d1d89f78cf8a305273d531c36eae1c4f777ea9f0f7b4714b45fe65f9336"), looks := false }, kinds := [], alts := [], laidByText := true, laidKinds := [.data], laidTests := true, laidLooks := .later }
def UnstreamSpoiltCardSaid : Prop := Claim7.holds Tryz.pinned (.plain (OpenSpec.ofChange unstreamSpoiltSpec)) unstreamSpoiltCard

/-- THE TIED CARD OF 'balerlaw22.UnstreamBack'. -/
def unstreamBackCard : Claim7 := { stood := { row := unstreamBackRow, standIns := [], harness := (true, "70518d1d89f78cf8a305273d531c36eae1c4f777ea9f0f7b4714b45fe65f9336"), looks := false }, kinds := [], alts := [], laidByText := true, laidKinds := [.data], laidTests := true, laidLooks := .later }
def UnstreamBackCardSaid : Prop := Claim7.holds Tryz.pinned (.plain (OpenSpec.ofChange unstreamBackSpec)) unstreamBackCard

/-- THE SECOND FORM's CARD OF 'balerlaw20.BlockWrites'. -/
def blockWritesUptoCard : Claim7 := { stood := { row := blockWritesUptoRow, standIns := [], harness := (true, "70518d1d89f78cf8a305273d531c36eae1c4f777ea9f0f7b4714b45fe65f9336"), looks := false }, kinds := [], alts := [], laidByText := true, laidKinds := [.data], laidTests := true, laidLooks := .later }
def BlockWritesUptoCardSaid : Prop := Claim7.holds Tryz.pinned (.plain (OpenSpec.upto blockWritesSpec)) blockWritesUptoCard

/-- THE SECOND FORM's CARD OF 'balerlaw20.BlockTurned'. -/
def blockTurnedUptoCard : Claim7 := { stood := { row := blockTurnedUptoRow, standIns := [], harness := (true, "70518d1d89f78cf8a305273d531c36eae1c4f777ea9f0f7b4714b45fe65f9336"), looks := false }, kinds := [], alts := [], laidByText := true, laidKinds := [.data], laidTests := true, laidLooks := .later }
def BlockTurnedUptoCardSaid : Prop := Claim7.holds Tryz.pinned (.plain (OpenSpec.upto blockTurnedSpec)) blockTurnedUptoCard

/-- THE SECOND FORM's CARD OF 'balerlaw20.BlockBack'. -/
def blockBackUptoCard : Claim7 := { stood := { row := blockBackUptoRow, standIns := [], harness := (true, "70518d1d89f78cf8a305273d531c36eae1c4f777ea9f0f7b4714b45fe65f9336"), looks := false }, kinds := [], alts := [], laidByText := true, laidKinds := [.data], laidTests := true, laidLooks := .later }
def BlockBackUptoCardSaid : Prop := Claim7.holds Tryz.pinned (.plain (OpenSpec.upto blockBackSpec)) blockBackUptoCard

/-- THE SECOND FORM's CARD OF 'balerlaw22.UnstreamSpoilt'. -/
def unstreamSpoiltUptoCard : Claim7 := { stood := { row := unstreamSpoiltUptoRow, standIns := [], harness := (true, "70518d1d89f78cf8a305273d531c36eae1c4f777ea9f0f7b4714b45fe65f9336"), looks := false }, kinds := [], alts := [], laidByText := true, laidKinds := [.data], laidTests := true, laidLooks := .later }
def UnstreamSpoiltUptoCardSaid : Prop := Claim7.holds Tryz.pinned (.plain (OpenSpec.upto unstreamSpoiltSpec)) unstreamSpoiltUptoCard

/-- THE SECOND FORM's CARD OF 'balerlaw22.UnstreamBack'. -/
def unstreamBackUptoCard : Claim7 := { stood := { row := unstreamBackUptoRow, standIns := [], harness := (true, "70518d1d89f78cf8a305273d531c36eae1c4f777ea9f0f7b4714b45fe65f9336"), looks := false }, kinds := [], alts := [], laidByText := true, laidKinds := [.data], laidTests := true, laidLooks := .later }
def UnstreamBackUptoCardSaid : Prop := Claim7.holds Tryz.pinned (.plain (OpenSpec.upto unstreamBackSpec)) unstreamBackUptoCard
end Rows
end Go.Proofs.YtgaiocpkjaaphaaGreatDoor
