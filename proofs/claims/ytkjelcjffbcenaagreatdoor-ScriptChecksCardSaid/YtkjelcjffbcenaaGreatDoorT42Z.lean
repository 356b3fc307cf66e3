/- A closed test by the evaluator, in parts: calls that are known, each in the state in which it is made; part 2. -/
import Derived.Test.YtkjelcjffbcenaaGreatDoorT42H
import Derived.Test.YtkjelcjffbcenaaGreatDoorT420
import Derived.Test.YtkjelcjffbcenaaGreatDoorT421
set_option linter.unusedVariables false
set_option linter.unusedSimpArgs false
set_option maxRecDepth 1000000
namespace Go.Proofs.YtkjelcjffbcenaaGreatDoor
open Go Go.Vc Go.Ev
namespace T42
abbrev known : List Ev.Ent := [e44, e147, e232]
theorem known_ok : Ev.OraOk Tryz.prog known := (Ev.ora_cons e44_ok (Ev.ora_cons e147_ok (Ev.ora_cons e232_ok Ev.ora_nil)))
theorem test_true : Ev.isTrue (Ev.callF Tryz.prog known (Ev.evF Tryz.prog known 5000) 20 [] Ev.s0) = true := by kernel_rfl
end T42
end Go.Proofs.YtkjelcjffbcenaaGreatDoor
