/-
  DERIVED. GIVEN WITH THE SEED: THE CARDS: each row of YtgdfganaoehokaaGreatDoorRows.lean that lists a variable, with what it lists TIED to the program's text (the seventh form; the later family's looks); each row that meets fmt, with fmt's text TOLD by the authors' own Lean function (tested against real Go, not proved from fmt's source: count such statements apart). THE CARD IS WHAT COUNTS. Prove the row's statement (the work); the ties are given (YtgdfganaoehokaaGreatDoorTie.lean); close each card by the builder's one call (the guide's Derived/Test/ToyasCard.lean, 'card_holds'). Laid BY PROGRAM, IN A SANDBOX (cutbox-door.mjs). By AI agents, Wed Nov 11 2026. No macro, syntax, notation, axiom, sorry.
-/
import Derived.Test.YtgdfganaoehokaaGreatDoorRows
import GoSem.ClaimSeven
namespace Go.Proofs.YtgdfganaoehokaaGreatDoor
namespace Rows

/-- THE TIED CARD OF 'balerlaw44.AuditPeaks'. -/
def auditPeaksCard : Claim7 := { stood := { row := auditPeaksRow, standIns := [], harness := (true, "e3c951915c3a1dc3a6f3a1450faff83b1df1d5831e60f646e6634a6eeb82c2ef"), looks := true }, kinds := [], alts := [], laidByText := true, laidKinds := [.data, .pinned], laidTests := true, laidLooks := .later }
def AuditPeaksCardSaid : Prop := Claim7.holds Tryz.pinned (.plain (OpenSpec.ofChange auditPeaksSpec)) auditPeaksCard

/-- THE SECOND FORM's CARD OF 'balerlaw44.AuditPeaks'. -/
def auditPeaksUptoCard : Claim7 := { stood := { row := auditPeaksUptoRow, standIns := [], harness := (true, "e3c951915c3a1dc3a6f3a1450faff83b1df1d5831e60f646e6634a6eeb82c2ef"), looks := true }, kinds := [], alts := [], laidByText := true, laidKinds := [.data, .pinned], laidTests := true, laidLooks := .later }
def AuditPeaksUptoCardSaid : Prop := Claim7.holds Tryz.pinned (.plain (OpenSpec.upto auditPeaksSpec)) auditPeaksUptoCard
end Rows
end Go.Proofs.YtgdfganaoehokaaGreatDoor
