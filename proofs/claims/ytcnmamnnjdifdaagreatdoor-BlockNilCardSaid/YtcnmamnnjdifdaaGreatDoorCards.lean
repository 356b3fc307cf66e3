/-
  DERIVED. GIVEN WITH THE SEED: THE CARDS: each row of YtcnmamnnjdifdaaGreatDoorRows.lean that lists a variable, with what it lists TIED to the program's text (the seventh form; the later family's looks); each row that meets fmt, with fmt's text TOLD by the authors' own Lean function (tested against real Go, not proved from fmt's source: count such statements apart). THE CARD IS WHAT COUNTS. Prove the row's statement (the work); the ties are given (YtcnmamnnjdifdaaGreatDoorTie.lean); close each card by the builder's one call (the guide's Derived/Test/ToyasCard.lean, 'card_holds'). Laid BY PROGRAM, IN A SANDBOX (cutbox-door.mjs). By AI agents, Wed Nov 11 2026. No macro, syntax, notation, axiom, sorry.
-/
import Derived.Test.YtcnmamnnjdifdaaGreatDoorRows
import GoSem.ClaimSeven
namespace Go.Proofs.YtcnmamnnjdifdaaGreatDoor
namespace Rows

/-- THE TIED CARD OF 'balerlaw20.BlockOpens'. -/
def blockOpensCard : Claim7 := { stood := { row := blockOpensRow, standIns := [], harness := (true, "bbfc6cff70d290878b70d0b6773f1d8416de539623c66a2f2754eacb9c44b584"), looks := false }, kinds := [], alts := [], laidByText := true, laidKinds := [.data], laidTests := true, laidLooks := .later }
def BlockOpensCardSaid : Prop := Claim7.holds Tryz.pinned (.plain (OpenSpec.ofChange blockOpensSpec)) blockOpensCard

/-- THE TIED CARD OF 'balerlaw20.BlockNil'. -/
def blockNilCard : Claim7 := { stood := { row := blockNilRow, standIns := [], harness := (true, "bbfc6cff70d290878b70d0b6773f1d8416de539623c66a2f2754eacb9c44b584"), looks := false }, kinds := [], alts := [], laidByText := true, laidKinds := [.data], laidTests := true, laidLooks := .later }
def BlockNilCardSaid : Prop := Claim7.holds Tryz.pinned (.plain (OpenSpec.ofChange blockNilSpec)) blockNilCard

/-- THE SECOND FORM's CARD OF 'balerlaw20.BlockOpens'. -/
def blockOpensUptoCard : Claim7 := { stood := { row := blockOpensUptoRow, standIns := [], harness := (true, "bbfc6cff70d290878b70d0b6773f1d8416de539623c66a2f2754eacb9c44b584"), looks := false }, kinds := [], alts := [], laidByText := true, laidKinds := [.data], laidTests := true, laidLooks := .later }
def BlockOpensUptoCardSaid : Prop := Claim7.holds Tryz.pinned (.plain (OpenSpec.upto blockOpensSpec)) blockOpensUptoCard

/-- THE SECOND FORM's CARD OF 'balerlaw20.BlockNil'. -/
def blockNilUptoCard : Claim7 := { stood := { row := blockNilUptoRow, standIns := [], harness := (true, "bbfc6cff70d290878b70d0b6773f1d8416de539623c66a2f2754eacb9c44b584"), looks := false }, kinds := [], alts := [], laidByText := true, laidKinds := [.data], laidTests := true, laidLooks := .later }
def BlockNilUptoCardSaid : Prop := Claim7.holds Tryz.pinned (.plain (OpenSpec.upto blockNilSpec)) blockNilUptoCard
end Rows
end Go.Proofs.YtcnmamnnjdifdaaGreatDoor
