/- A closed test by the evaluator, in parts: calls that are known, each in the state in which it is made; part 13. -/
import Derived.Test.YtoibjeloegdmcaaGreatT39H
import Derived.Test.YtoibjeloegdmcaaGreatT394
import Derived.Test.YtoibjeloegdmcaaGreatT395
import Derived.Test.YtoibjeloegdmcaaGreatT399
import Derived.Test.YtoibjeloegdmcaaGreatT3910
import Derived.Test.YtoibjeloegdmcaaGreatT3911
import Derived.Test.YtoibjeloegdmcaaGreatT3912
set_option linter.unusedVariables false
set_option linter.unusedSimpArgs false
set_option maxRecDepth 1000000
namespace Go.Proofs.YtoibjeloegdmcaaGreat
open Go Go.Vc Go.Ev
namespace T39
abbrev p3 : Ev.Ent := .c 47 [(.s [97, 98, 99]), (.i .u32 (.ofNat 1686944627))] (.s [48, 49, 49, 48, 48, 49, 48, 48, 49, 48, 48, 48, 49, 49, 48, 48, 49, 48, 49, 49, 49, 48, 49, 49, 48, 49, 49, 49, 48, 48, 49, 49, 48, 48, 48, 48, 48, 48, 48, 48, 48, 48, 48, 48, 48, 48, 48, 48, 48, 48, 48, 48, 48, 48, 48, 48, 48, 48, 48, 48, 48, 48, 48, 49, 48, 48, 48, 48, 48, 48, 48, 48, 48, 48, 49, 49, 49, 48, 48, 48, 48, 48, 48, 48, 48, 48, 48, 48, 48, 48, 49, 48, 48, 48, 48, 48, 48, 48, 48, 48, 48, 48, 48, 48, 48, 48, 49, 48, 48, 48, 48, 49, 49, 48, 48, 49, 49, 48, 48, 48, 48, 48, 48, 49, 49, 48, 48, 49, 49, 48, 48, 48, 48, 49, 48, 48, 48, 49, 49, 48])
theorem p3_ok : Ev.EntOk Tryz.prog p3 := Ev.entF mixed (k := 5000) (by kernel_rfl) rfl rfl (Ev.ora_cons p0_ok (Ev.ora_cons p1_ok (Ev.ora_cons p2_ok (Ev.ora_cons e835_ok (Ev.ora_cons e1406_ok (Ev.ora_cons e1408_ok (Ev.ora_cons e1413_ok Ev.ora_nil))))))) (by kernel_rfl)
abbrev p5 : Ev.Ent := .c 33 [(I 1), (I 24), (.s [97, 98, 99])] (.s [66, 90, 104, 49, 49, 65, 89, 38, 83, 89, 100, 140, 187, 115, 0, 0, 0, 1, 0, 56, 0, 32, 0, 33, 152, 25, 132, 97, 119, 36, 83, 133, 9, 6, 72, 203, 183, 48])
theorem p5_ok : Ev.EntOk Tryz.prog p5 := Ev.entF mixed (k := 5000) (by kernel_rfl) rfl rfl (Ev.ora_cons p3_ok (Ev.ora_cons p4_ok Ev.ora_nil)) (by kernel_rfl)
end T39
end Go.Proofs.YtoibjeloegdmcaaGreat
