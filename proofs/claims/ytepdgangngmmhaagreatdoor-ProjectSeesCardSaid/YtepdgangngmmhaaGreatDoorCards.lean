/-
  DERIVED. GIVEN WITH THE SEED: THE CARDS: each row of YtepdgangngmmhaaGreatDoorRows.lean that lists a variable, with what it lists TIED to the program's text (the seventh form; the later family's looks); each row that meets fmt, with fmt's text TOLD by the authors' own Lean function (tested against real Go, not proved from fmt's source: count such statements apart). THE CARD IS WHAT COUNTS. Prove the row's statement (the work); the ties are given (YtepdgangngmmhaaGreatDoorTie.lean); close each card by the builder's one call (the guide's Derived/Test/ToyasCard.lean, 'card_holds'). Laid BY PROGRAM, IN A SANDBOX (cutbox-door.mjs). By AI agents, Wed Nov 11 2026. No macro, syntax, notation, axiom, sorry.
-/
import Derived.Test.YtepdgangngmmhaaGreatDoorRows
import GoSem.ClaimSeven
namespace Go.Proofs.YtepdgangngmmhaaGreatDoor
namespace Rows

/-- THE TIED CARD OF 'balerlaw46.ProjectConns'. -/
def projectConnsCard : Claim7 := { stood := { row := projectConnsRow, standIns := [], harness := (true, "aea9cb0aad0d845ca26f2f613c49e07a57bfeeff2b99bf71a686fa4684e26343"), looks := true }, kinds := [], alts := [], laidByText := true, laidKinds := [.data, .pinned], laidTests := true, laidLooks := .later }
def ProjectConnsCardSaid : Prop := Claim7.holds Tryz.pinned (.plain (OpenSpec.ofChange projectConnsSpec)) projectConnsCard

/-- THE TIED CARD OF 'balerlaw46.ProjectSees'. -/
def projectSeesCard : Claim7 := { stood := { row := projectSeesRow, standIns := [], harness := (true, "aea9cb0aad0d845ca26f2f613c49e07a57bfeeff2b99bf71a686fa4684e26343"), looks := true }, kinds := [], alts := [], laidByText := true, laidKinds := [.data, .pinned], laidTests := true, laidLooks := .later }
def ProjectSeesCardSaid : Prop := Claim7.holds Tryz.pinned (.plain (OpenSpec.ofChange projectSeesSpec)) projectSeesCard

/-- THE SECOND FORM's CARD OF 'balerlaw46.ProjectConns'. -/
def projectConnsUptoCard : Claim7 := { stood := { row := projectConnsUptoRow, standIns := [], harness := (true, "aea9cb0aad0d845ca26f2f613c49e07a57bfeeff2b99bf71a686fa4684e26343"), looks := true }, kinds := [], alts := [], laidByText := true, laidKinds := [.data, .pinned], laidTests := true, laidLooks := .later }
def ProjectConnsUptoCardSaid : Prop := Claim7.holds Tryz.pinned (.plain (OpenSpec.upto projectConnsSpec)) projectConnsUptoCard

/-- THE SECOND FORM's CARD OF 'balerlaw46.ProjectSees'. -/
def projectSeesUptoCard : Claim7 := { stood := { row := projectSeesUptoRow, standIns := [], harness := (true, "aea9cb0aad0d845ca26f2f613c49e07a57bfeeff2b99bf71a686fa4684e26343"), looks := true }, kinds := [], alts := [], laidByText := true, laidKinds := [.data, .pinned], laidTests := true, laidLooks := .later }
def ProjectSeesUptoCardSaid : Prop := Claim7.holds Tryz.pinned (.plain (OpenSpec.upto projectSeesSpec)) projectSeesUptoCard
end Rows
end Go.Proofs.YtepdgangngmmhaaGreatDoor
