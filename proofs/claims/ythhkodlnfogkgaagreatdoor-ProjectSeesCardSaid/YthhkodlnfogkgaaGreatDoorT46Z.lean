/- A closed test by the evaluator, in parts: calls that are known, each in the state in which it is made; part 1. -/
import Derived.Test.YthhkodlnfogkgaaGreatDoorT46H
import Derived.Test.YthhkodlnfogkgaaGreatDoorT460
set_option linter.unusedVariables false
set_option linter.unusedSimpArgs false
set_option maxRecDepth 1000000
namespace Go.Proofs.YthhkodlnfogkgaaGreatDoor
open Go Go.Vc Go.Ev
namespace T46
abbrev known:List Ev.Ent:=[e67,e144,e207,e208,e503]
theorem Zmq:Ev.OraOk Tryz.prog known:=(Ev.Zc3 Zq5 (Ev.Zc3 Znt (Ev.Zc3 Zoj (Ev.Zc3 Zo6 (Ev.Zc3 Znv Ev.Zfe)))))
theorem Zky:Ev.isTrue (Ev.callF Tryz.prog known (Ev.evF Tryz.prog known 5000) 4 [] Ev.s0)=true:=by kernel_rfl
end T46
end Go.Proofs.YthhkodlnfogkgaaGreatDoor
