/-
  DERIVED. GIVEN WITH THE SEED: THE CARDS: each row of YtbccjjbfiodbeaaDoorRows.lean that lists a variable, with what it lists TIED to the program's text (the seventh form; the later family's looks); each row that meets fmt, with fmt's text TOLD by the authors' own Lean function (tested against real Go, not proved from fmt's source: count such statements apart). THE CARD IS WHAT COUNTS. Prove the row's statement (the work); the ties are given (YtbccjjbfiodbeaaDoorTie.lean); close each card by the builder's one call (the guide's Derived/Test/ToyasCard.lean, 'card_holds'). Laid BY PROGRAM, IN A SANDBOX (cutbox-door.mjs). By AI agents, Wed Nov 11 2026. No macro, syntax, notation, axiom, sorry.
-/
import Derived.Test.YtbccjjbfiodbeaaDoorRows
import GoSem.ClaimSeven
namespace Go.Proofs.YtbccjjbfiodbeaaDoor
namespace Rows

/-- THE TIED CARD OF 'balerlaw45.BoundSteps'. -/
def boundStepsCard : Claim7 := { stood := { row := boundStepsRow, standIns := [], harness := (true, "1ee893c3b4d4271277c87ffec0f8bf6817403a37cead3e681eda2c8a0c7e31c1"), looks := false }, kinds := [], alts := [], laidByText := true, laidKinds := [.data, .pinned], laidTests := true, laidLooks := .later }
def BoundStepsCardSaid : Prop := Claim7.holds Tryd.pinned (.plain (OpenSpec.ofChange boundStepsSpec)) boundStepsCard

/-- THE TIED CARD OF 'balerlaw45.BoundGrows'. -/
def boundGrowsCard : Claim7 := { stood := { row := boundGrowsRow, standIns := [], harness := (true, "1ee893c3b4d4271277c87ffec0f8bf6817403a37cead3e681eda2c8a0c7e31c1"), looks := false }, kinds := [], alts := [], laidByText := true, laidKinds := [.data, .pinned], laidTests := true, laidLooks := .later }
def BoundGrowsCardSaid : Prop := Claim7.holds Tryd.pinned (.plain (OpenSpec.ofChange boundGrowsSpec)) boundGrowsCard

/-- THE SECOND FORM's CARD OF 'balerlaw45.BoundSteps'. -/
def boundStepsUptoCard : Claim7 := { stood := { row := boundStepsUptoRow, standIns := [], harness := (true, "1ee893c3b4d4271277c87ffec0f8bf6817403a37cead3e681eda2c8a0c7e31c1"), looks := false }, kinds := [], alts := [], laidByText := true, laidKinds := [.data, .pinned], laidTests := true, laidLooks := .later }
def BoundStepsUptoCardSaid : Prop := Claim7.holds Tryd.pinned (.plain (OpenSpec.upto boundStepsSpec)) boundStepsUptoCard

/-- THE SECOND FORM's CARD OF 'balerlaw45.BoundGrows'. -/
def boundGrowsUptoCard : Claim7 := { stood := { row := boundGrowsUptoRow, standIns := [], harness := (true, "1ee893c3b4d4271277c87ffec0f8bf6817403a37cead3e681eda2c8a0c7e31c1"), looks := false }, kinds := [], alts := [], laidByText := true, laidKinds := [.data, .pinned], laidTests := true, laidLooks := .later }
def BoundGrowsUptoCardSaid : Prop := Claim7.holds Tryd.pinned (.plain (OpenSpec.upto boundGrowsSpec)) boundGrowsUptoCard
end Rows
end Go.Proofs.YtbccjjbfiodbeaaDoor
