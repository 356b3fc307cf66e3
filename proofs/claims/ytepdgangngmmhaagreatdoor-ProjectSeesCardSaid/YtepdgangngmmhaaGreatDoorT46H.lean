/- A closed test by the evaluator, in parts: short words. -/
import Derived.Test.YtepdgangngmmhaaGreatDoorFm
import Derived.Test.YtepdgangngmmhaaGreatDoorMG2
set_option linter.unusedVariables false
namespace Go.Proofs.YtepdgangngmmhaaGreatDoor
open Go Go.Vc Go.Ev
namespace T46
theorem mixed : Tryz.prog.follows .mixedOrders = true := by kernel_rfl
abbrev I (n : Nat) : X := .i .i64 (.ofNat n)
abbrev R (n : Nat) (x : X) : List X := List.replicate n x
end T46
end Go.Proofs.YtepdgangngmmhaaGreatDoor
