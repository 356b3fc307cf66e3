/- Chapter 22: a nil reader reads nothing; the closed tests by the evaluator. -/
import Derived.Test.YtfkakgjonffecaaGreatFm
import Derived.Test.YtfkakgjonffecaaGreatSt
import Derived.Test.YtfkakgjonffecaaGreatT02
set_option linter.unusedVariables false
set_option linter.unusedSimpArgs false
namespace Go.Proofs.YtfkakgjonffecaaGreat
open Go Go.Vc
attribute [local irreducible] Go.Vc.Nc Go.Vc.Ld Go.Vc.LdA Go.Vc.St Go.Vc.StA Go.Vc.Fo Go.Vc.Iaa Go.Vc.Ias Go.Vc.Ixs Go.Vc.Ixa Go.Vc.Fd Go.Vc.FdA Go.Vc.Bp Go.Vc.Bb Go.Vc.Bn Go.Vc.Up Go.Vc.Ci Go.Vc.Lns Go.Vc.Lnl Go.Vc.Ex Go.Vc.Sst Go.Vc.Ssl Go.Vc.New Go.Vc.Vif Go.Vc.VJoin Go.Vc.VLoop Go.Vc.KE Go.Vc.Dr Go.Vc.Rk Go.Vc.Cl Go.Vc.Cx Go.Vc.Inv Go.Vc.Be Go.Vc.Cv Go.Vc.Cw Go.Vc.Mf Go.Vc.Sl Go.Vc.Lk Go.Vc.Bd Go.Vc.Bs Go.Vc.Ms Go.Vc.Mm Go.Vc.Mu Go.Vc.Me Go.Vc.Es Go.Vc.Rg Go.Vc.Nx Go.Vc.Ta Go.Vc.Ap Go.Vc.Usd Go.Vc.Ust Go.Vc.Cp Go.Vc.Ln Go.Vc.Bc Go.Vc.Bmin Go.Vc.Bmax Go.Vc.Bdel Go.Vc.Bclr Go.Vc.Pk
namespace N22
variable {w : World} {L : List HProp} {K : Value → World → Prop}
set_option maxRecDepth 1000000
theorem mixed : Tryz.prog.follows .mixedOrders = true := by kernel_rfl
/-! The document's stream of "ab", part by part. -/
abbrev eSym : Ev.Ent := (F.balerref05_Symbols, [.s [98, 97]], .s [97, 98])
theorem sym_ok : Ev.EntOk Tryz.prog eSym := Ev.entF mixed (k := 5000) (by kernel_rfl) rfl rfl Ev.ora_nil (by kernel_rfl)
abbrev eBits : Ev.Ent := (F.balerref05_Bits, [.s [97, 98]], .s [48, 48, 48, 48, 48, 48, 49, 48, 48, 48, 48, 48, 48, 48, 48, 48, 48, 49, 49, 48, 48, 48, 48, 48, 48, 48, 48, 48, 48, 48, 48, 48])
theorem bits_ok : Ev.EntOk Tryz.prog eBits := Ev.entF mixed (k := 5000) (by kernel_rfl) rfl rfl Ev.ora_nil (by kernel_rfl)
abbrev eWrite : Ev.Ent := (F.balerref20_Write, [.s [97, 98], .i .u32 (.ofNat 3918790093)], .s [49, 49, 49, 48, 49, 48, 48, 49, 49, 48, 48, 49, 48, 48, 49, 49, 49, 49, 49, 49, 49, 49, 48, 49, 49, 49, 48, 48, 49, 49, 48, 49, 48, 48, 48, 48, 48, 48, 48, 48, 48, 48, 48, 48, 48, 48, 48, 48, 48, 48, 48, 48, 48, 48, 48, 48, 48, 48, 48, 48, 48, 48, 48, 49, 48, 48, 48, 48, 48, 48, 48, 48, 48, 48, 49, 49, 48, 48, 48, 48, 48, 48, 48, 48, 48, 48, 48, 48, 48, 48, 49, 48, 48, 48, 48, 48, 48, 48, 48, 48, 48, 48, 48, 48, 48, 48, 49, 48, 48, 48, 48, 49, 48, 48, 48, 48, 48, 48, 48, 48, 49, 48, 48, 48, 48, 48, 49, 48, 49, 48, 49, 49])
theorem write_ok : Ev.EntOk Tryz.prog eWrite := Ev.entF mixed (k := 5000) (by kernel_rfl) rfl rfl (Ev.ora_cons sym_ok (Ev.ora_cons bits_ok Ev.ora_nil)) (by kernel_rfl)
abbrev bytes : List Nat := [66, 90, 104, 49, 49, 65, 89, 38, 83, 89, 233, 147, 253, 205, 0, 0, 0, 1, 0, 48, 0, 32, 0, 33, 0, 130, 177, 119, 36, 83, 133, 9, 14, 153, 63, 220, 208]
abbrev eWith : Ev.Ent := (F.balerref21_With, [.i .i64 (.ofNat 1), .i .i64 (.ofNat 100000), .s [97, 98]], .s bytes)
theorem with_ok : Ev.EntOk Tryz.prog eWith := Ev.entF mixed (k := 5000) (by kernel_rfl) rfl rfl (Ev.ora_cons write_ok Ev.ora_nil) (by kernel_rfl)
/-! The program's reading. -/
abbrev eListed : Ev.Ent := (F.used_listed, [.g [.b false, .b false, .b false, .b false, .b false, .b false, .b false, .b false, .b false, .b false, .b false, .b false, .b false, .b false, .b false, .b false, .b false, .b false, .b false, .b false, .b false, .b false, .b false, .b false, .b false, .b false, .b false, .b false, .b false, .b false, .b false, .b false, .b false, .b false, .b false, .b false, .b false, .b false, .b false, .b false, .b false, .b false, .b false, .b false, .b false, .b false, .b false, .b false, .b false, .b false, .b false, .b false, .b false, .b false, .b false, .b false, .b false, .b false, .b false, .b false, .b false, .b false, .b false, .b false, .b false, .b false, .b false, .b false, .b false, .b false, .b false, .b false, .b false, .b false, .b false, .b false, .b false, .b false, .b false, .b false, .b false, .b false, .b false, .b false, .b false, .b false, .b false, .b false, .b false, .b false, .b false, .b false, .b false, .b false, .b false, .b false, .b false, .b true, .b true, .b false, .b false, .b false, .b false, .b false, .b false, .b false, .b false, .b false, .b false, .b false, .b false, .b false, .b false, .b false, .b false, .b false, .b false, .b false, .b false, .b false, .b false, .b false, .b false, .b false, .b false, .b false, .b false, .b false, .b false, .b false, .b false, .b false, .b false, .b false, .b false, .b false, .b false, .b false, .b false, .b false, .b false, .b false, .b false, .b false, .b false, .b false, .b false, .b false, .b false, .b false, .b false, .b false, .b false, .b false, .b false, .b false, .b false, .b false, .b false, .b false, .b false, .b false, .b false, .b false, .b false, .b false, .b false, .b false, .b false, .b false, .b false, .b false, .b false, .b false, .b false, .b false, .b false, .b false, .b false, .b false, .b false, .b false, .b false, .b false, .b false, .b false, .b false, .b false, .b false, .b false, .b false, .b false, .b false, .b false, .b false, .b false, .b false, .b false, .b false, .b false, .b false, .b false, .b false, .b false, .b false, .b false, .b false, .b false, .b false, .b false, .b false, .b false, .b false, .b false, .b false, .b false, .b false, .b false, .b false, .b false, .b false, .b false, .b false, .b false, .b false, .b false, .b false, .b false, .b false, .b false, .b false, .b false, .b false, .b false, .b false, .b false, .b false, .b false, .b false, .b false, .b false, .b false, .b false, .b false, .b false, .b false, .b false, .b false, .b false, .b false, .b false, .b false, .b false, .b false, .b false, .b false]], .s [97, 98])
theorem listed_ok : Ev.EntOk Tryz.prog eListed := Ev.entF mixed (k := 5000) (by kernel_rfl) rfl rfl Ev.ora_nil (by kernel_rfl)
abbrev eOpen : Ev.Ent := (F.block_Open, [.g [.s [98, 97], .i .i64 (.ofNat 0), .i .u32 (.ofNat 3918790093)]], .t [.s [97, 98], .i .i64 (.ofNat 0)])
theorem open_ok : Ev.EntOk Tryz.prog eOpen := Ev.entF mixed (k := 5000) (by kernel_rfl) rfl rfl T02.known_ok (by kernel_rfl)
abbrev d1 : Ev.Ent := (F.unstream_Decode, [.s []], .t [.s [], .i .i64 (.ofNat 24)])
theorem d1_ok : Ev.EntOk Tryz.prog d1 := Ev.entF mixed (k := 5000) (by kernel_rfl) rfl rfl T02.known_ok (by kernel_rfl)
abbrev d2 : Ev.Ent := (F.unstream_Decode, [.s [66, 90, 120]], .t [.s [], .i .i64 (.ofNat 20)])
theorem d2_ok : Ev.EntOk Tryz.prog d2 := Ev.entF mixed (k := 5000) (by kernel_rfl) rfl rfl T02.known_ok (by kernel_rfl)
abbrev d3 : Ev.Ent := (F.unstream_Decode, [.s [66, 90, 104, 57, 23, 114, 69, 56, 80, 144, 0, 0, 0, 0]], .t [.s [], .i .i64 (.ofNat 0)])
theorem d3_ok : Ev.EntOk Tryz.prog d3 := Ev.entF mixed (k := 5000) (by kernel_rfl) rfl rfl T02.known_ok (by kernel_rfl)
abbrev d4 : Ev.Ent := (F.unstream_Decode, [.s bytes], .t [.s [97, 98], .i .i64 (.ofNat 0)])
theorem d4_ok : Ev.EntOk Tryz.prog d4 := Ev.entF mixed (k := 5000) (by kernel_rfl) rfl rfl (Ev.ora_cons open_ok (Ev.ora_cons listed_ok T02.known_ok)) (by kernel_rfl)
theorem none_ok : Ev.OraOk Tryz.prog [d1, d2, d3, eWith, d4] := Ev.ora_cons d1_ok (Ev.ora_cons d2_ok (Ev.ora_cons d3_ok (Ev.ora_cons with_ok (Ev.ora_cons d4_ok Ev.ora_nil))))
theorem none_true : Ev.isTrue (Ev.callF Tryz.prog [d1, d2, d3, eWith, d4] (Ev.evF Tryz.prog [d1, d2, d3, eWith, d4] 100) F.balerlaw22_none [] Ev.s0) = true := by kernel_rfl
theorem none_spec (H : Holds w L) (post : ∀ w', Same w w' → Holds w' L → K (.bool true) w') : Cl Tryz.prog F.balerlaw22_none #[] w K := Ev.cl_trueF mixed none_ok none_true H post
end N22
end Go.Proofs.YtfkakgjonffecaaGreat
