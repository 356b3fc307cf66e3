/- A closed test by the evaluator, in parts: calls that are known, each in the state in which it is made; part 1. -/
import Derived.Test.YtepdgangngmmhaaGreatDoorT46H
import Derived.Test.YtepdgangngmmhaaGreatDoorT460
set_option linter.unusedVariables false
set_option linter.unusedSimpArgs false
set_option maxRecDepth 1000000
namespace Go.Proofs.YtepdgangngmmhaaGreatDoor
open Go Go.Vc Go.Ev
namespace T46
abbrev known : List Ev.Ent := [e67, e144, e207, e208, e503]
theorem known_ok : Ev.OraOk Tryz.prog known := (Ev.ora_cons e67_ok (Ev.ora_cons e144_ok (Ev.ora_cons e207_ok (Ev.ora_cons e208_ok (Ev.ora_cons e503_ok Ev.ora_nil)))))
theorem test_true : Ev.isTrue (Ev.callF Tryz.prog known (Ev.evF Tryz.prog known 5000) 6 [] Ev.s0) = true := by kernel_rfl
end T46
end Go.Proofs.YtepdgangngmmhaaGreatDoor
