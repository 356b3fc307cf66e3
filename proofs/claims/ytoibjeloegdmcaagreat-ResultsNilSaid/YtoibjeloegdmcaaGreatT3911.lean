/- A closed test by the evaluator, in parts: calls that are known, each in the state in which it is made; part 11. -/
import Derived.Test.YtoibjeloegdmcaaGreatT39H
set_option linter.unusedVariables false
set_option linter.unusedSimpArgs false
set_option maxRecDepth 1000000
namespace Go.Proofs.YtoibjeloegdmcaaGreat
open Go Go.Vc Go.Ev
namespace T39
abbrev p1 : Ev.Ent := .c 85 [(.s [97, 98, 99])] (.s [97, 98, 99])
theorem p1_ok : Ev.EntOk Tryz.prog p1 := Ev.entF mixed (k := 5000) (by kernel_rfl) rfl rfl Ev.ora_nil (by kernel_rfl)
end T39
end Go.Proofs.YtoibjeloegdmcaaGreat
