/- A closed test by the evaluator, in parts: short words. -/
import Derived.Test.YtoibjeloegdmcaaGreatFm
import Derived.Test.YtoibjeloegdmcaaGreatEB
set_option linter.unusedVariables false
namespace Go.Proofs.YtoibjeloegdmcaaGreat
open Go Go.Vc Go.Ev
namespace T39
theorem mixed : Tryz.prog.follows .mixedOrders = true := by kernel_rfl
abbrev I (n : Nat) : X := .i .i64 (.ofNat n)
abbrev R (n : Nat) (x : X) : List X := List.replicate n x
end T39
end Go.Proofs.YtoibjeloegdmcaaGreat
