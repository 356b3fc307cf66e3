/-
  DERIVED. GIVEN WITH THE SEED: THE CARDS: each row of YtbhbdleffackaaaGreatDoorRows.lean that lists a variable, with what it lists TIED to the program's text (the seventh form; the later family's looks); each row that meets fmt, with fmt's text TOLD by the authors' own Lean function (tested against real Go, not proved from fmt's source: count such statements apart). THE CARD IS WHAT COUNTS. Prove the row's statement (the work); the ties are given (YtbhbdleffackaaaGreatDoorTie.lean); close each card by the builder's one call (the guide's Derived/Test/ToyasCard.lean, 'card_holds'). Laid BY PROGRAM, IN A SANDBOX (cutbox-door.mjs). By AI agents, Wed Nov 11 2026. No macro, syntax, notation, axiom, sorry.
-/
import Derived.Test.YtbhbdleffackaaaGreatDoorRows
import GoSem.ClaimSeven
namespace Go.Proofs.YtbhbdleffackaaaGreatDoor
namespace Rows

/-- THE TIED CARD OF 'balerlaw46.ProjectAgrees'. -/
def projectAgreesCard : Claim7 := { stood := { row := projectAgreesRow, standIns := [], harness := (true, "8f0e172a2b8561c251006984da6d9bd6857cd681c70e59eaf8642d2679c04c32"), looks := true }, kinds := [], alts := [], laidByText := true, laidKinds := [.data, .pinned], laidTests := true, laidLooks := .later }
def ProjectAgreesCardSaid : Prop := Claim7.holds Tryz.pinned (.plain (OpenSpec.ofChange projectAgreesSpec)) projectAgreesCard

/-- THE SECOND FORM's CARD OF 'balerlaw46.ProjectAgrees'. -/
def projectAgreesUptoCard : Claim7 := { stood := { row := projectAgreesUptoRow, standIns := [], harness := (true, "8f0e172a2b8561c251006984da6d9bd6857cd681c70e59eaf8642d2679c04c32"), looks := true }, kinds := [], alts := [], laidByText := true, laidKinds := [.data, .pinned], laidTests := true, laidLooks := .later }
def ProjectAgreesUptoCardSaid : Prop := Claim7.holds Tryz.pinned (.plain (OpenSpec.upto projectAgreesSpec)) projectAgreesUptoCard
end Rows
end Go.Proofs.YtbhbdleffackaaaGreatDoor
