/- A closed test by the evaluator, in parts: calls that are known, each in the state in which it is made; part 11. -/
import Derived.Test.YtieneaffjelhhaaGreatT39H
set_option linter.unusedVariables false
set_option linter.unusedSimpArgs false
set_option maxRecDepth 1000000
namespace Go.Proofs.YtieneaffjelhhaaGreat
open Go Go.Vc Go.Ev
namespace T39
noncomputable section
def q307:St:=⟨tr [],47,48,.e,[]⟩
def r307:St:=⟨tr [],50,51,.e,[]⟩
abbrev e307:Ev.Ent:=.s 61 [(.s [97,98,99])] q307 (.s [97,98,99]) r307
theorem Ybc:Ev.EntOk Tryz.prog e307:=Ev.entS mixed (k:=5000) Ev.Za7 (by kernel_rfl) (by kernel_rfl)
end
end T39
end Go.Proofs.YtieneaffjelhhaaGreat
