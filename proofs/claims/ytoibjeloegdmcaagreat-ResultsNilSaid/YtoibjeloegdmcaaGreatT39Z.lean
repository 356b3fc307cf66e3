/- A closed test by the evaluator, in parts: calls that are known, each in the state in which it is made; part 14. -/
import Derived.Test.YtoibjeloegdmcaaGreatT39H
import Derived.Test.YtoibjeloegdmcaaGreatT393
import Derived.Test.YtoibjeloegdmcaaGreatT3913
set_option linter.unusedVariables false
set_option linter.unusedSimpArgs false
set_option maxRecDepth 1000000
namespace Go.Proofs.YtoibjeloegdmcaaGreat
open Go Go.Vc Go.Ev
namespace T39
abbrev known : List Ev.Ent := [p5, e1479]
theorem known_ok : Ev.OraOk Tryz.prog known := (Ev.ora_cons p5_ok (Ev.ora_cons e1479_ok Ev.ora_nil))
theorem test_true : Ev.isTrue (Ev.callF Tryz.prog known (Ev.evF Tryz.prog known 5000) 29 [] Ev.s0) = true := by kernel_rfl
end T39
end Go.Proofs.YtoibjeloegdmcaaGreat
