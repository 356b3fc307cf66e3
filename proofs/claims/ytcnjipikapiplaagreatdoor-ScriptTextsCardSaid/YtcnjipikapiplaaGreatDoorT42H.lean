/- A closed test by the evaluator, in parts: short words. -/
import Derived.Test.YtcnjipikapiplaaGreatDoorFm
import Derived.Test.YtcnjipikapiplaaGreatDoorMG3
set_option linter.unusedVariables false
namespace Go.Proofs.YtcnjipikapiplaaGreatDoor
open Go Go.Vc Go.Ev
namespace T42
theorem mixed : Tryz.prog.follows .mixedOrders = true := by kernel_rfl
abbrev I (n : Nat) : X := .i .i64 (.ofNat n)
abbrev R (n : Nat) (x : X) : List X := List.replicate n x
end T42
end Go.Proofs.YtcnjipikapiplaaGreatDoor
