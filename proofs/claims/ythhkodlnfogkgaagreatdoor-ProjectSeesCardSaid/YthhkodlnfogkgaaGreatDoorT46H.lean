/- A closed test by the evaluator, in parts: short words. -/
import Derived.Test.YthhkodlnfogkgaaGreatDoorFm
import Derived.Test.YthhkodlnfogkgaaGreatDoorMG2
import Derived.Test.YthhkodlnfogkgaaGreatDoorMG3
set_option linter.unusedVariables false
namespace Go.Proofs.YthhkodlnfogkgaaGreatDoor
open Go Go.Vc Go.Ev
namespace T46
theorem mixed:Tryz.prog.follows .mixedOrders=true:=by kernel_rfl
abbrev I (n:Nat):X:=.i .i64 (.ofNat n)
abbrev R (n:Nat) (x:X):List X:=List.replicate n x
end T46
end Go.Proofs.YthhkodlnfogkgaaGreatDoor
