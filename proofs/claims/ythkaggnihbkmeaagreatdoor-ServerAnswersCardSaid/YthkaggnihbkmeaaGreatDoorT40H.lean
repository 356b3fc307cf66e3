/- A closed test by the evaluator, in parts: short words. -/
import Derived.Test.YthkaggnihbkmeaaGreatDoorFm
import Derived.Test.YthkaggnihbkmeaaGreatDoorMG2
set_option linter.unusedVariables false
namespace Go.Proofs.YthkaggnihbkmeaaGreatDoor
open Go Go.Vc Go.Ev
namespace T40
theorem mixed:Tryz.prog.follows .mixedOrders=true:=by kernel_rfl
abbrev I (n:Nat):X:=.i .i64 (.ofNat n)
abbrev R (n:Nat) (x:X):List X:=List.replicate n x
end T40
end Go.Proofs.YthkaggnihbkmeaaGreatDoor
