/- Chapter 46: the law ProjectSees, its test by the evaluator. -/
import Derived.Test.YthhkodlnfogkgaaGreatDoorMG2
import Derived.Test.YthhkodlnfogkgaaGreatDoorT46Z
set_option linter.unusedVariables false
namespace Go.Proofs.YthhkodlnfogkgaaGreatDoor
open Go Go.Vc
namespace D46
variable {w:World}{L:List HProp}{K:Value->World->Prop}
theorem ProjectSees_spec (H:Holds w L) (a0:ByteArray) (h0:a0.size<=maxLen) (post:∀ w',Same w w'->Holds w' L->K (.bool true) w') :
    Cl Tryz.prog 3 #[.string a0] w K:=
  Zoq (λH k=>Ev.Zm7 T46.mixed T46.Zmq T46.Zky H k) H a0 h0 post
end D46
end Go.Proofs.YthhkodlnfogkgaaGreatDoor
