/- A closed test by the evaluator, in parts: calls that are known, each in the state in which it is made; part 1. -/
import Derived.Test.YtcnjipikapiplaaGreatDoorT42H
import Derived.Test.YtcnjipikapiplaaGreatDoorT420
set_option linter.unusedVariables false
set_option linter.unusedSimpArgs false
set_option maxRecDepth 1000000
namespace Go.Proofs.YtcnjipikapiplaaGreatDoor
open Go Go.Vc Go.Ev
namespace T42
abbrev known : List Ev.Ent := [e5]
theorem known_ok : Ev.OraOk Tryz.prog known := (Ev.ora_cons e5_ok Ev.ora_nil)
theorem test_true : Ev.isTrue (Ev.callF Tryz.prog known (Ev.evF Tryz.prog known 5000) 5 [] Ev.s0) = true := by kernel_rfl
end T42
end Go.Proofs.YtcnjipikapiplaaGreatDoor
