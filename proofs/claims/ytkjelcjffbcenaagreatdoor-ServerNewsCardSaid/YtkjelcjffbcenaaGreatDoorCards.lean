/-
  DERIVED. GIVEN WITH THE SEED: THE CARDS: each row of YtkjelcjffbcenaaGreatDoorRows.lean that lists a variable, with what it lists TIED to the program's text (the seventh form; the later family's looks); each row that meets fmt, with fmt's text TOLD by the authors' own Lean function (tested against real Go, not proved from fmt's source: count such statements apart). THE CARD IS WHAT COUNTS. Prove the row's statement (the work); the ties are given (YtkjelcjffbcenaaGreatDoorTie.lean); close each card by the builder's one call (the guide's Derived/Test/ToyasCard.lean, 'card_holds'). Laid BY PROGRAM, IN A SANDBOX (cutbox-door.mjs). By AI agents, Wed Nov 11 2026. No macro, syntax, notation, axiom, sorry.
-/
import Derived.Test.YtkjelcjffbcenaaGreatDoorRows
import GoSem.ClaimSeven
namespace Go.Proofs.YtkjelcjffbcenaaGreatDoor
namespace Rows

/-- THE TIED CARD OF 'balerlaw40.ServerNews'. -/
def serverNewsCard : Claim7 := { stood := { row := serverNewsRow, standIns := [], harness := (true, "dbd8a1afd5af8c74ea85aadb5006cb280f323e3ad5ff08c5ef52e8c431e96eaa"), looks := true }, kinds := [], alts := [], laidByText := true, laidKinds := [.data, .pinned], laidTests := true, laidLooks := .later }
def ServerNewsCardSaid : Prop := Claim7.holds Tryz.pinned (.plain (OpenSpec.ofChange serverNewsSpec)) serverNewsCard

/-- THE TIED CARD OF 'balerlaw42.ScriptChecks'. -/
def scriptChecksCard : Claim7 := { stood := { row := scriptChecksRow, standIns := [], harness := (true, "dbd8a1afd5af8c74ea85aadb5006cb280f323e3ad5ff08c5ef52e8c431e96eaa"), looks := true }, kinds := [], alts := [], laidByText := true, laidKinds := [.data, .pinned], laidTests := true, laidLooks := .later }
def ScriptChecksCardSaid : Prop := Claim7.holds Tryz.pinned (.plain (OpenSpec.ofChange scriptChecksSpec)) scriptChecksCard

/-- THE SECOND FORM's CARD OF 'balerlaw40.ServerNews'. -/
def serverNewsUptoCard : Claim7 := { stood := { row := serverNewsUptoRow, standIns := [], harness := (true, "dbd8a1afd5af8c74ea85aadb5006cb280f323e3ad5ff08c5ef52e8c431e96eaa"), looks := true }, kinds := [], alts := [], laidByText := true, laidKinds := [.data, .pinned], laidTests := true, laidLooks := .later }
def ServerNewsUptoCardSaid : Prop := Claim7.holds Tryz.pinned (.plain (OpenSpec.upto serverNewsSpec)) serverNewsUptoCard

/-- THE SECOND FORM's CARD OF 'balerlaw42.ScriptChecks'. -/
def scriptChecksUptoCard : Claim7 := { stood := { row := scriptChecksUptoRow, standIns := [], harness := (true, "dbd8a1afd5af8c74ea85aadb5006cb280f323e3ad5ff08c5ef52e8c431e96eaa"), looks := true }, kinds := [], alts := [], laidByText := true, laidKinds := [.data, .pinned], laidTests := true, laidLooks := .later }
def ScriptChecksUptoCardSaid : Prop := Claim7.holds Tryz.pinned (.plain (OpenSpec.upto scriptChecksSpec)) scriptChecksUptoCard
end Rows
end Go.Proofs.YtkjelcjffbcenaaGreatDoor
