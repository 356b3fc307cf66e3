/- A closed test by the evaluator, in parts: short words. -/
import Derived.Test.YtgaiocpkjaaphaaGreatDoorFm
import Derived.Test.YtgaiocpkjaaphaaGreatDoorMG2
set_option linter.unusedVariables false
namespace Go.Proofs.YtgaiocpkjaaphaaGreatDoor
open Go Go.Vc Go.Ev
namespace T20
theorem mixed : Tryz.prog.follows .mixedOrders = true := by kernel_rfl
abbrev I (n : Nat) : X := .i .i64 (.ofNat n)
abbrev R (n : Nat) (x : X) : List X := List.replicate n x
end T20
end Go.Proofs.YtgaiocpkjaaphaaGreatDoor
