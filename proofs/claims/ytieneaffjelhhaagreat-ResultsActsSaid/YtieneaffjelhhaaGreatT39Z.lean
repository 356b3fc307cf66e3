/- A closed test by the evaluator, in parts: calls that are known, each in the state in which it is made; part 13. -/
import Derived.Test.YtieneaffjelhhaaGreatT39H
import Derived.Test.YtieneaffjelhhaaGreatT394
import Derived.Test.YtieneaffjelhhaaGreatT395
import Derived.Test.YtieneaffjelhhaaGreatT399
import Derived.Test.YtieneaffjelhhaaGreatT3910
import Derived.Test.YtieneaffjelhhaaGreatT3911
import Derived.Test.YtieneaffjelhhaaGreatT3912
set_option linter.unusedVariables false
set_option linter.unusedSimpArgs false
set_option maxRecDepth 1000000
namespace Go.Proofs.YtieneaffjelhhaaGreat
open Go Go.Vc Go.Ev
namespace T39
noncomputable section
abbrev known:List Ev.Ent:=[e48,e307,e577,e834,e1432,e1479]
theorem known_ok:Ev.OraOk Tryz.prog known:=(Ev.Za5 Ybr (Ev.Za5 Ybc (Ev.Za5 Ya0 (Ev.Za5 Zzw (Ev.Za5 Zwh (Ev.Za5 Zvj Ev.Za7))))))
theorem Zus:Ev.isTrue (Ev.callF Tryz.prog known (Ev.evF Tryz.prog known 5000) 5 [] Ev.s0)=true:=by kernel_rfl
end
end T39
end Go.Proofs.YtieneaffjelhhaaGreat
