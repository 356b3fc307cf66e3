/- A closed test by the evaluator, in parts: calls that are known, each in the state in which it is made; part 6. -/
import Derived.Test.YtoomfeeiehfpmaaGreatDoorT20H
import Derived.Test.YtoomfeeiehfpmaaGreatDoorT200
import Derived.Test.YtoomfeeiehfpmaaGreatDoorT201
import Derived.Test.YtoomfeeiehfpmaaGreatDoorT202
import Derived.Test.YtoomfeeiehfpmaaGreatDoorT204
import Derived.Test.YtoomfeeiehfpmaaGreatDoorT205
set_option linter.unusedVariables false
set_option linter.unusedSimpArgs false
set_option maxRecDepth 1000000
namespace Go.Proofs.YtoomfeeiehfpmaaGreatDoor
open Go Go.Vc Go.Ev
namespace T20
abbrev known : List Ev.Ent := [p0, e37, e643, e1238, p1, p2]
theorem known_ok : Ev.OraOk Tryz.prog known := (Ev.ora_cons p0_ok (Ev.ora_cons e37_ok (Ev.ora_cons e643_ok (Ev.ora_cons e1238_ok (Ev.ora_cons p1_ok (Ev.ora_cons p2_ok Ev.ora_nil))))))
theorem test_true : Ev.isTrue (Ev.callF Tryz.prog known (Ev.evF Tryz.prog known 5000) 8 [] (Ev.s0G [(1, [(I 200), (I 600), (I 1200), (I 2400)])])) = true := by kernel_rfl
end T20
end Go.Proofs.YtoomfeeiehfpmaaGreatDoor
