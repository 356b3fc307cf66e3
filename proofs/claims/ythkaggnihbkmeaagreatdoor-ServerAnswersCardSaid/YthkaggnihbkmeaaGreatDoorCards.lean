/-
  DERIVED. GIVEN WITH THE SEED: THE CARDS: each row of YthkaggnihbkmeaaGreatDoorRows.lean that lists a variable, with what it lists TIED to the program's text (the seventh form; the later family's looks); each row that meets fmt, with fmt's text TOLD by the authors' own Lean function (tested against real Go, not proved from fmt's source: count such statements apart). THE CARD IS WHAT COUNTS. Prove the row's statement (the work); the ties are given (YthkaggnihbkmeaaGreatDoorTie.lean); close each card by the builder's one call (the guide's Derived/Test/ToyasCard.lean, 'card_holds'). Laid BY PROGRAM, IN A SANDBOX (cutbox-door.mjs). By AI agents, Wed Nov 11 2026. No macro, syntax, notation, axiom, sorry.
-/
import Derived.Test.YthkaggnihbkmeaaGreatDoorRows
import GoSem.ClaimSeven
namespace Go.Proofs.YthkaggnihbkmeaaGreatDoor
namespace Rows

/-- THE TIED CARD OF 'balerlaw40.ServerAnswers'. -/
def serverAnswersCard : Claim7 := { stood := { row := serverAnswersRow, standIns := [], harness := (true, "4f5e7f31a0927fe30429dbac20277dbfb8acb963d557b209b38d37fbda3c837d"), looks := true }, kinds := [], alts := [], laidByText := true, laidKinds := [.data, .pinned], laidTests := true, laidLooks := .later }
def ServerAnswersCardSaid : Prop := Claim7.holds Tryz.pinned (.plain (OpenSpec.ofChange serverAnswersSpec)) serverAnswersCard

/-- THE SECOND FORM's CARD OF 'balerlaw40.ServerAnswers'. -/
def serverAnswersUptoCard : Claim7 := { stood := { row := serverAnswersUptoRow, standIns := [], harness := (true, "4f5e7f31a0927fe30429dbac20277dbfb8acb963d557b209b38d37fbda3c837d"), looks := true }, kinds := [], alts := [], laidByText := true, laidKinds := [.data, .pinned], laidTests := true, laidLooks := .later }
def ServerAnswersUptoCardSaid : Prop := Claim7.holds Tryz.pinned (.plain (OpenSpec.upto serverAnswersSpec)) serverAnswersUptoCard
end Rows
end Go.Proofs.YthkaggnihbkmeaaGreatDoor
