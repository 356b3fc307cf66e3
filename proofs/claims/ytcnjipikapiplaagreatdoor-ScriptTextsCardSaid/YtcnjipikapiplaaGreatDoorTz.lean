/- The law ScriptTexts, with its closed test. -/
import Derived.Test.YtcnjipikapiplaaGreatDoorMG3
import Derived.Test.YtcnjipikapiplaaGreatDoorMG1
import Derived.Test.YtcnjipikapiplaaGreatDoorT42Z
set_option linter.unusedVariables false
set_option linter.unusedSimpArgs false
namespace Go.Proofs.YtcnjipikapiplaaGreatDoor
open Go Go.Vc
attribute [local irreducible] Go.Vc.Nc Go.Vc.Ld Go.Vc.LdA Go.Vc.St Go.Vc.StA Go.Vc.Fo Go.Vc.Iaa Go.Vc.Ias Go.Vc.Ixs Go.Vc.Ixa Go.Vc.Fd Go.Vc.FdA Go.Vc.Bp Go.Vc.Bb Go.Vc.Bn Go.Vc.Up Go.Vc.Ci Go.Vc.Lns Go.Vc.Lnl Go.Vc.Ex Go.Vc.Sst Go.Vc.Ssl Go.Vc.New Go.Vc.Vif Go.Vc.VJoin Go.Vc.VLoop Go.Vc.KE Go.Vc.Dr Go.Vc.Rk Go.Vc.Cl Go.Vc.Cx Go.Vc.Inv Go.Vc.Be Go.Vc.Cv Go.Vc.Cw Go.Vc.Mf Go.Vc.Sl Go.Vc.Lk Go.Vc.Bd Go.Vc.Bs Go.Vc.Ms Go.Vc.Mm Go.Vc.Mu Go.Vc.Me Go.Vc.Es Go.Vc.Rg Go.Vc.Nx Go.Vc.Ta Go.Vc.Ap Go.Vc.Usd Go.Vc.Ust Go.Vc.Cp Go.Vc.Ln Go.Vc.Bc Go.Vc.Bmin Go.Vc.Bmax Go.Vc.Bdel Go.Vc.Bclr Go.Vc.Pk
namespace L42
open Go.M31 J30 J31 J32 J34
theorem tab_laidS {W : World} (h : laidMetH Tryz.prog Rows.scriptTextsRow.laid W) : TabIn [whole W] := laid_tabs h (by simp [Rows.scriptTextsRow]) (by simp [Rows.scriptTextsRow])
theorem hello_spec {w : World} {L : List HProp} {K : Value → World → Prop} (H : Holds w L) (post : ∀ w', Same w w' → Holds w' L → K (.bool true) w') : Cl Tryz.prog F.balerlaw42_hello #[] w K := Ev.cl_trueF T42.mixed T42.known_ok T42.test_true H post
theorem ScriptTexts_spec {w : World} {L : List HProp} {K : Value → World → Prop} (H : Holds w L) (a : Option Addr) (ts : List Tn) (c : Nat) (n : Cn) (a2 : Option Addr) (xs : List ByteArray) (c2 : Nat) (a3 : Option Addr) (es : List Et) (c3 : Nat)
    (b : Option Addr) (us : List Tn) (d : Nat) (m : Cn) (b2 : Option Addr) (ys : List ByteArray) (d2 : Nat) (b3 : Option Addr) (fs : List Et) (d3 : Nat)
    (h0 : (TsIn L a ts ∧ ts.length ≤ c) ∧ (StIn L a2 xs ∧ xs.length ≤ c2) ∧ EtIn L a3 es ∧ es.length ≤ c3) (h1 : (TsIn L b us ∧ us.length ≤ d) ∧ (StIn L b2 ys ∧ ys.length ≤ d2) ∧ EtIn L b3 fs ∧ fs.length ≤ d3)
    (hU : TabIn L ∧ MaxIn L) (post : ∀ w', Same w w' → Holds w' L → K (.bool true) w') :
    Cl Tryz.prog F.balerlaw42_ScriptTexts #[.agg (cellsS a ts.length c n a2 xs.length c2 a3 es.length c3).toArray, .agg (cellsS b us.length d m b2 ys.length d2 b3 fs.length d3).toArray] w K :=
  ScriptTexts_of hello_spec H a ts c n a2 xs c2 a3 es c3 b us d m b2 ys d2 b3 fs d3 h0 h1 hU post
end L42
end Go.Proofs.YtcnjipikapiplaaGreatDoor
