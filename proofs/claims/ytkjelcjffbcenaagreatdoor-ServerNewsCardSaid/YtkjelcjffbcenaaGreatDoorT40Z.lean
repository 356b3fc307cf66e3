/- A closed test by the evaluator, in parts: calls that are known, each in the state in which it is made; part 4. -/
import Derived.Test.YtkjelcjffbcenaaGreatDoorT40H
import Derived.Test.YtkjelcjffbcenaaGreatDoorT401
import Derived.Test.YtkjelcjffbcenaaGreatDoorT403
set_option linter.unusedVariables false
set_option linter.unusedSimpArgs false
set_option maxRecDepth 1000000
namespace Go.Proofs.YtkjelcjffbcenaaGreatDoor
open Go Go.Vc Go.Ev
namespace T40
abbrev known : List Ev.Ent := [e108, e499]
theorem known_ok : Ev.OraOk Tryz.prog known := (Ev.ora_cons e108_ok (Ev.ora_cons e499_ok Ev.ora_nil))
theorem test_true : Ev.isTrue (Ev.callF Tryz.prog known (Ev.evF Tryz.prog known 5000) 6 [] Ev.s0) = true := by kernel_rfl
end T40
end Go.Proofs.YtkjelcjffbcenaaGreatDoor
