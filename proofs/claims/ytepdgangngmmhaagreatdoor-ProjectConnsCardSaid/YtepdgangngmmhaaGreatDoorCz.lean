/- Chapter 46: the law ProjectConns, its test by the evaluator. -/
import Derived.Test.YtepdgangngmmhaaGreatDoorMG2
import Derived.Test.YtepdgangngmmhaaGreatDoorMG1
import Derived.Test.YtepdgangngmmhaaGreatDoorT46Z
set_option linter.unusedVariables false
namespace Go.Proofs.YtepdgangngmmhaaGreatDoor
open Go Go.Vc
namespace W46
open Go.M31 J30 J31 J32 J34
variable {w : World} {L : List HProp} {K : Value → World → Prop} {ts : List Tn} {xs : List ByteArray}
theorem tab_laidC {W : World} (h : laidMetH Tryz.prog Rows.projectConnsRow.laid W) : TabIn [whole W] := laid_tabs h (by simp [Rows.projectConnsRow]) (by simp [Rows.projectConnsRow])
theorem ProjectConns_spec (H : Holds w L) (a : Option Addr) (ts : List Tn) (c : Nat) (n : Cn) (a2 : Option Addr) (xs : List ByteArray) (c2 : Nat) (a3 : Option Addr) (es : List Et) (c3 : Nat) (t : Int) (a4 : Option Addr) (cs : List Int) (c4 : Nat)
    (h0 : (TsIn L a ts ∧ ts.length ≤ c) ∧ (StIn L a2 xs ∧ xs.length ≤ c2) ∧ EtIn L a3 es ∧ es.length ≤ c3) (h1 : (Lit.int .i64 t).wf = true) (h2 : IsIn L a4 cs ∧ cs.length ≤ c4) (hU : TabIn L) (post : ∀ w', Same w w' → Holds w' L → K (.bool true) w') :
    Cl Tryz.prog F.balerlaw46_ProjectConns #[.agg (cellsS a ts.length c n a2 xs.length c2 a3 es.length c3).toArray, .int .i64 t, .slice a4 cs.length c4] w K :=
  Conns_of (fun H k => Ev.cl_trueF T46.mixed T46.known_ok T46.test_true H k) H a ts c n a2 xs c2 a3 es c3 t a4 cs c4 h0 h1 h2 hU post
end W46
end Go.Proofs.YtepdgangngmmhaaGreatDoor
