/-
  DERIVED. GIVEN WITH THE SEED: THE CARDS: each row of YthhkodlnfogkgaaGreatDoorRows.lean that lists a variable, with what it lists TIED to the program's text (the seventh form; the later family's looks); each row that meets fmt, with fmt's text TOLD by the authors' own Lean function (tested against real Go, not proved from fmt's source: count such statements apart). THE CARD IS WHAT COUNTS. Prove the row's statement (the work); the ties are given (YthhkodlnfogkgaaGreatDoorTie.lean); close each card by the builder's one call (the guide's Derived/Test/ToyasCard.lean, 'card_holds'). Laid BY PROGRAM, IN A SANDBOX (cutbox-door.mjs). By AI agents, Wed Nov 11 2026. No macro, syntax, notation, axiom, sorry.
-/
import Derived.Test.YthhkodlnfogkgaaGreatDoorRows
import GoSem.ClaimSeven
namespace Go.Proofs.YthhkodlnfogkgaaGreatDoor
namespace Rows

/-- THE TIED CARD OF 'balerlaw46.ProjectSees'. -/
def projectSeesCard : Claim7 := { stood := { row := projectSeesRow, standIns := [], harness := (true, "6b71c0737a1fbde9d8cee517c50180d7c3e0aabd39ec48ef69f8d33501cb38a4"), looks := true }, kinds := [], alts := [], laidByText := true, laidKinds := [.data, .pinned], laidTests := true, laidLooks := .later }
def ProjectSeesCardSaid : Prop := Claim7.holds Tryz.pinned (.plain (OpenSpec.ofChange projectSeesSpec)) projectSeesCard

/-- THE SECOND FORM's CARD OF 'balerlaw46.ProjectSees'. -/
def projectSeesUptoCard : Claim7 := { stood := { row := projectSeesUptoRow, standIns := [], harness := (true, "6b71c0737a1fbde9d8cee517c50180d7c3e0aabd39ec48ef69f8d33501cb38a4"), looks := true }, kinds := [], alts := [], laidByText := true, laidKinds := [.data, .pinned], laidTests := true, laidLooks := .later }
def ProjectSeesUptoCardSaid : Prop := Claim7.holds Tryz.pinned (.plain (OpenSpec.upto projectSeesSpec)) projectSeesUptoCard
end Rows
end Go.Proofs.YthhkodlnfogkgaaGreatDoor
