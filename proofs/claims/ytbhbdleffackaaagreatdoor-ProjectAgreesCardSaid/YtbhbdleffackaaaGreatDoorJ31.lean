/- Chapter 31: the document's runes and words, each function once, exactly. -/
import Derived.Test.YtbhbdleffackaaaGreatDoorM3x
import Derived.Test.YtbhbdleffackaaaGreatDoorSt
import Derived.Test.YtbhbdleffackaaaGreatDoorFm
set_option linter.unusedVariables false
set_option linter.unusedSimpArgs false
namespace Go.Proofs.YtbhbdleffackaaaGreatDoor
open Go Go.Vc
attribute [local irreducible] Go.Vc.Nc Go.Vc.Ld Go.Vc.LdA Go.Vc.St Go.Vc.StA Go.Vc.Fo Go.Vc.Iaa Go.Vc.Ias Go.Vc.Ixs Go.Vc.Ixa Go.Vc.Fd Go.Vc.FdA Go.Vc.Bp Go.Vc.Bb Go.Vc.Bn Go.Vc.Up Go.Vc.Ci Go.Vc.Lns Go.Vc.Lnl Go.Vc.Ex Go.Vc.Sst Go.Vc.Ssl Go.Vc.New Go.Vc.Vif Go.Vc.VJoin Go.Vc.VLoop Go.Vc.KE Go.Vc.Dr Go.Vc.Rk Go.Vc.Cl Go.Vc.Cx Go.Vc.Inv Go.Vc.Be Go.Vc.Cv Go.Vc.Cw Go.Vc.Mf Go.Vc.Sl Go.Vc.Lk Go.Vc.Bd Go.Vc.Bs Go.Vc.Ms Go.Vc.Mm Go.Vc.Mu Go.Vc.Me Go.Vc.Es Go.Vc.Rg Go.Vc.Nx Go.Vc.Ta Go.Vc.Ap Go.Vc.Usd Go.Vc.Ust Go.Vc.Cp Go.Vc.Ln Go.Vc.Bc Go.Vc.Bmin Go.Vc.Bmax Go.Vc.Bdel Go.Vc.Bclr Go.Vc.Pk
namespace J31
open Go.M31
abbrev tI : Nat := 3
abbrev tT : Nat := 68
abbrev tC : Nat := 43
variable {w : World} {L : List HProp} {K : Value → World → Prop}
abbrev runeF (r : Int × Nat) : List Value := [iv r.1, nv r.2]
theorem wideN_end (l : List UInt8) (b f : Nat) (n : Int) : wideN l b f b n = some n := by
  cases f with
  | zero => rfl
  | succ f => rw [wideN, if_neg (by omega)]
end J31
end Go.Proofs.YtbhbdleffackaaaGreatDoor
