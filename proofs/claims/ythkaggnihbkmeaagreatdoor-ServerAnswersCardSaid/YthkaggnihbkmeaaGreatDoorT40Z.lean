/- A closed test by the evaluator, in parts: calls that are known, each in the state in which it is made; part 2. -/
import Derived.Test.YthkaggnihbkmeaaGreatDoorT40H
import Derived.Test.YthkaggnihbkmeaaGreatDoorT400
import Derived.Test.YthkaggnihbkmeaaGreatDoorT401
set_option linter.unusedVariables false
set_option linter.unusedSimpArgs false
set_option maxRecDepth 1000000
namespace Go.Proofs.YthkaggnihbkmeaaGreatDoor
open Go Go.Vc Go.Ev
namespace T40
abbrev known:List Ev.Ent:=[e77,e512]
theorem Zrw:Ev.OraOk Tryz.prog known:=(Ev.Zei Zwn (Ev.Zei Zw4 Ev.Zez))
theorem Zqm:Ev.isTrue (Ev.callF Tryz.prog known (Ev.evF Tryz.prog known 5000) 6 [] Ev.s0)=true:=by kernel_rfl
end T40
end Go.Proofs.YthkaggnihbkmeaaGreatDoor
