/- A closed test by the evaluator, in parts: calls that are known, each in the state in which it is made; part 9. -/
import Derived.Test.YtoibjeloegdmcaaGreatT39H
import Derived.Test.YtoibjeloegdmcaaGreatT395
import Derived.Test.YtoibjeloegdmcaaGreatT396
import Derived.Test.YtoibjeloegdmcaaGreatT397
import Derived.Test.YtoibjeloegdmcaaGreatT398
set_option linter.unusedVariables false
set_option linter.unusedSimpArgs false
set_option maxRecDepth 1000000
namespace Go.Proofs.YtoibjeloegdmcaaGreat
open Go Go.Vc Go.Ev
namespace T39
def q835 : St := ⟨(.nd (.nd .e (.nd .e (.nd .e (.nd .e (.nd (.nd (.nd (.nd (.nd (.nd (.nd (.nd (.nd (.lf 30 (some (3, [(I 3), (I 2), (I 3), (I 4)]))) .e) .e) .e) .e) .e) .e) .e) .e) .e))))) .e), 31, 32, .e, []⟩
def r835 : St := ⟨(.nd (.nd (.nd (.nd (.nd .e (.nd .e (.nd .e (.nd .e (.nd (.nd (.nd .e (.nd (.nd (.nd (.lf 1264 (some (3, [(I 3), (I 3), (I 2), (I 2), (I 2)]))) .e) .e) .e)) .e) .e))))) (.nd (.nd (.nd .e (.nd (.nd (.nd .e (.nd .e (.nd (.nd (.nd (.lf 1608 (some (105, [(.l (some (1264, 0)) 5 5), (.l (some (1454, 0)) 5 5)]))) .e) .e) .e))) .e) .e)) .e) .e)) .e) (.nd .e (.nd .e (.nd (.nd .e (.nd (.nd .e (.nd .e (.nd (.nd .e (.nd (.nd (.nd (.lf 1454 (some (3, [(I 3), (I 3), (I 2), (I 2), (I 2)]))) .e) .e) .e)) .e))) .e)) (.nd (.nd (.nd (.nd (.nd (.nd (.nd (.nd (.nd (.lf 30 (some (3, [(I 3), (I 2), (I 3), (I 4)]))) .e) .e) .e) .e) .e) .e) .e) .e) .e))))) (.nd .e (.nd (.nd .e (.nd (.nd (.nd .e (.nd .e (.nd (.nd (.nd .e (.nd (.nd (.nd (.lf 1227 (some (3, [(I 0)]))) .e) .e) .e)) .e) .e))) .e) .e)) .e))), 1609, 1610, .e, []⟩
abbrev e835 : Ev.Ent := .s 105 [(.l (some (30, 0)) 4 4), (I 5)] q835 (.g [(.l (some (1608, 0)) 2 2), (.l (some (1227, 0)) 1 1)]) r835
theorem e835_ok : Ev.EntOk Tryz.prog e835 := Ev.entS mixed (k := 5000) (Ev.ora_cons e845_ok (Ev.ora_cons e892_ok (Ev.ora_cons e941_ok (Ev.ora_cons e984_ok (Ev.ora_cons e1031_ok (Ev.ora_cons e1080_ok (Ev.ora_cons e1123_ok (Ev.ora_cons e1170_ok (Ev.ora_cons e1219_ok (Ev.ora_cons e1262_ok (Ev.ora_cons e1309_ok (Ev.ora_cons e1358_ok Ev.ora_nil)))))))))))) (by kernel_rfl) (by kernel_rfl)
end T39
end Go.Proofs.YtoibjeloegdmcaaGreat
