/- A closed test by the evaluator, in parts: calls that are known, each in the state in which it is made; part 9. -/
import Derived.Test.YtieneaffjelhhaaGreatT39H
import Derived.Test.YtieneaffjelhhaaGreatT394
import Derived.Test.YtieneaffjelhhaaGreatT395
import Derived.Test.YtieneaffjelhhaaGreatT398
set_option linter.unusedVariables false
set_option linter.unusedSimpArgs false
set_option maxRecDepth 1000000
namespace Go.Proofs.YtieneaffjelhhaaGreat
open Go Go.Vc Go.Ev
namespace T39
noncomputable section
def q834:St:=⟨tr [(63,b17)],64,65,.e,[]⟩
def r834:St:=⟨tr [(63,b17)],1649,1650,.e,[]⟩
abbrev e834:Ev.Ent:=.s 65 [(.l (some (63,0)) 4 4),(I 5)] q834 (.s [48,49,48,48,48,48,48,48,48,48,48,48,48,48,48,48,48,49,48,48,48,48,49,49,48,48,49,49,48,48,48,48,48,48,49,49,48,48,49,49,48,48,48,48,49,48,48,48,49,49,48]) r834
theorem Zzw:Ev.EntOk Tryz.prog e834:=Ev.entS mixed (k:=5000) (Ev.Za5 Yan (Ev.Za5 Zxq (Ev.Za5 Zwl Ev.Za7))) (by kernel_rfl) (by kernel_rfl)
end
end T39
end Go.Proofs.YtieneaffjelhhaaGreat
