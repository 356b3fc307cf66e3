/- A closed test by the evaluator, in parts: calls that are known, each in the state in which it is made; part 10. -/
import Derived.Test.YtieneaffjelhhaaGreatT39H
set_option linter.unusedVariables false
set_option linter.unusedSimpArgs false
set_option maxRecDepth 1000000
namespace Go.Proofs.YtieneaffjelhhaaGreat
open Go Go.Vc Go.Ev
namespace T39
noncomputable section
def q577:St:=⟨tr [],64,65,.e,[]⟩
def r577:St:=⟨tr [],64,65,.e,[]⟩
abbrev e577:Ev.Ent:=.s 64 [(.s [97,98,99])] q577 (.s [48,48,48,48,48,48,49,48,48,48,48,48,48,48,48,48,48,49,49,49,48,48,48,48,48,48,48,48,48,48,48,48]) r577
theorem Ya0:Ev.EntOk Tryz.prog e577:=Ev.entS mixed (k:=5000) Ev.Za7 (by kernel_rfl) (by kernel_rfl)
end
end T39
end Go.Proofs.YtieneaffjelhhaaGreat
