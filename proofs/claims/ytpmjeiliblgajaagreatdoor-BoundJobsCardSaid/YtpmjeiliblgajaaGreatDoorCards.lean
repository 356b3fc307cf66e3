/-
  DERIVED. GIVEN WITH THE SEED: THE CARDS: each row of YtpmjeiliblgajaaGreatDoorRows.lean that lists a variable, with what it lists TIED to the program's text (the seventh form; the later family's looks); each row that meets fmt, with fmt's text TOLD by the authors' own Lean function (tested against real Go, not proved from fmt's source: count such statements apart). THE CARD IS WHAT COUNTS. Prove the row's statement (the work); the ties are given (YtpmjeiliblgajaaGreatDoorTie.lean); close each card by the builder's one call (the guide's Derived/Test/ToyasCard.lean, 'card_holds'). Laid BY PROGRAM, IN A SANDBOX (cutbox-door.mjs). By AI agents, Wed Nov 11 2026. No macro, syntax, notation, axiom, sorry.
-/
import Derived.Test.YtpmjeiliblgajaaGreatDoorRows
import GoSem.ClaimSeven
namespace Go.Proofs.YtpmjeiliblgajaaGreatDoor
namespace Rows

/-- THE TIED CARD OF 'balerlaw45.BoundJobs'. -/
def boundJobsCard : Claim7 := { stood := { row := boundJobsRow, standIns := [], harness := (true, "6127a9691d298597c00e3b526c9bd8501a3a2194d5b8a0c2c255c297abfac48f"), looks := true }, kinds := [], alts := [], laidByText := true, laidKinds := [.data, .pinned], laidTests := true, laidLooks := .later }
def BoundJobsCardSaid : Prop := Claim7.holds Tryz.pinned (.plain (OpenSpec.ofChange boundJobsSpec)) boundJobsCard

/-- THE SECOND FORM's CARD OF 'balerlaw45.BoundJobs'. -/
def boundJobsUptoCard : Claim7 := { stood := { row := boundJobsUptoRow, standIns := [], harness := (true, "6127a9691d298597c00e3b526c9bd8501a3a2194d5b8a0c2c255c297abfac48f"), looks := true }, kinds := [], alts := [], laidByText := true, laidKinds := [.data, .pinned], laidTests := true, laidLooks := .later }
def BoundJobsUptoCardSaid : Prop := Claim7.holds Tryz.pinned (.plain (OpenSpec.upto boundJobsSpec)) boundJobsUptoCard
end Rows
end Go.Proofs.YtpmjeiliblgajaaGreatDoor
