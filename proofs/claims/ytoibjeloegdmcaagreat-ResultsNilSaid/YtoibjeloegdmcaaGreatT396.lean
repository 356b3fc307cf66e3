/- A closed test by the evaluator, in parts: calls that are known, each in the state in which it is made; part 6. -/
import Derived.Test.YtoibjeloegdmcaaGreatT39H
set_option linter.unusedVariables false
set_option linter.unusedSimpArgs false
set_option maxRecDepth 1000000
namespace Go.Proofs.YtoibjeloegdmcaaGreat
open Go Go.Vc Go.Ev
namespace T39
def q1309 : St := ⟨(.nd (.nd .e (.nd .e (.nd (.nd .e (.nd (.nd .e (.nd .e (.nd (.nd (.nd .e (.nd (.nd (.nd (.lf 1238 (some (3, [(I 0), (I 0), (I 1), (I 2), (I 1)]))) .e) .e) .e)) .e) .e))) .e)) .e))) .e), 1239, 1240, .e, []⟩
def r1309 : St := ⟨(.nd (.nd (.nd (.nd (.nd .e (.nd .e (.nd .e (.nd .e (.nd (.nd (.nd .e (.nd (.nd (.nd (.lf 1264 (some (3, [(I 3), (I 3), (I 2), (I 2), (I 2)]))) .e) .e) .e)) .e) .e))))) .e) .e) (.nd .e (.nd (.nd .e (.nd (.nd .e (.nd .e (.nd (.nd (.nd .e (.nd (.nd (.nd (.lf 1238 (some (3, [(I 0), (I 0), (I 1), (I 2), (I 1)]))) .e) .e) .e)) .e) .e))) .e)) .e))) .e), 1417, 1418, .e, []⟩
abbrev e1309 : Ev.Ent := .s 117 [(.l (some (1238, 0)) 5 5)] q1309 (.l (some (1264, 0)) 5 5) r1309
theorem e1309_ok : Ev.EntOk Tryz.prog e1309 := Ev.entS mixed (k := 5000) Ev.ora_nil (by kernel_rfl) (by kernel_rfl)
def q1262 : St := ⟨(.nd (.nd .e (.nd (.nd .e (.nd (.nd (.nd .e (.nd (.nd (.nd (.nd (.nd (.nd (.nd (.lf 74 (some (3, [(I 3), (I 2), (I 3), (I 4)]))) .e) .e) .e) .e) .e) .e) .e)) .e) .e)) .e)) (.nd (.nd (.nd (.nd .e (.nd .e (.nd .e (.nd (.nd .e (.nd .e (.nd (.nd (.nd (.nd (.lf 881 (some (3, [(I 3), (I 3), (I 2), (I 2), (I 2)]))) .e) .e) .e) .e))) .e)))) (.nd (.nd (.nd .e (.nd .e (.nd (.nd (.nd .e (.nd (.nd (.nd (.lf 1225 (some (105, [(.l (some (881, 0)) 5 5), (.l (some (1071, 0)) 5 5)]))) .e) .e) .e)) .e) .e))) .e) .e)) .e) (.nd .e (.nd .e (.nd (.nd .e (.nd (.nd (.nd (.nd (.nd .e (.nd (.nd (.nd (.lf 1071 (some (3, [(I 3), (I 3), (I 2), (I 2), (I 2)]))) .e) .e) .e)) .e) .e) .e) .e)) .e))))), 1226, 1227, .e, []⟩
def r1262 : St := ⟨(.nd (.nd .e (.nd (.nd .e (.nd (.nd (.nd .e (.nd (.nd (.nd (.nd (.nd (.nd (.nd (.lf 74 (some (3, [(I 3), (I 2), (I 3), (I 4)]))) .e) .e) .e) .e) .e) .e) .e)) .e) .e)) .e)) (.nd (.nd (.nd (.nd .e (.nd .e (.nd .e (.nd (.nd .e (.nd .e (.nd (.nd (.nd (.nd (.lf 881 (some (3, [(I 3), (I 3), (I 2), (I 2), (I 2)]))) .e) .e) .e) .e))) .e)))) (.nd (.nd (.nd .e (.nd .e (.nd (.nd (.nd .e (.nd (.nd (.nd (.lf 1225 (some (105, [(.l (some (881, 0)) 5 5), (.l (some (1071, 0)) 5 5)]))) .e) .e) .e)) .e) .e))) .e) .e)) .e) (.nd .e (.nd .e (.nd (.nd .e (.nd (.nd (.nd (.nd (.nd .e (.nd (.nd (.nd (.lf 1071 (some (3, [(I 3), (I 3), (I 2), (I 2), (I 2)]))) .e) .e) .e)) .e) .e) .e) .e)) .e))))), 1226, 1227, .e, []⟩
abbrev e1262 : Ev.Ent := .s 116 [(.l (some (74, 0)) 4 4), (.l (some (1225, 0)) 2 2)] q1262 (I 0) r1262
theorem e1262_ok : Ev.EntOk Tryz.prog e1262 := Ev.entS mixed (k := 5000) Ev.ora_nil (by kernel_rfl) (by kernel_rfl)
def q1219 : St := ⟨(.nd .e (.nd (.nd .e (.nd (.nd .e (.nd (.nd (.nd (.nd (.nd (.nd .e (.nd (.nd (.nd (.lf 1045 (some (3, [(I 0), (I 0), (I 0), (I 0), (I 0)]))) .e) .e) .e)) .e) .e) .e) .e) .e)) .e)) .e)), 1046, 1047, .e, []⟩
def r1219 : St := ⟨(.nd .e (.nd (.nd .e (.nd (.nd .e (.nd (.nd (.nd (.nd (.nd (.nd .e (.nd (.nd (.nd (.lf 1045 (some (3, [(I 0), (I 0), (I 0), (I 0), (I 0)]))) .e) .e) .e)) .e) .e) .e) .e) .e)) .e)) (.nd .e (.nd .e (.nd (.nd .e (.nd (.nd (.nd (.nd (.nd .e (.nd (.nd (.nd (.lf 1071 (some (3, [(I 3), (I 3), (I 2), (I 2), (I 2)]))) .e) .e) .e)) .e) .e) .e) .e)) .e))))), 1224, 1225, .e, []⟩
abbrev e1219 : Ev.Ent := .s 117 [(.l (some (1045, 0)) 5 5)] q1219 (.l (some (1071, 0)) 5 5) r1219
theorem e1219_ok : Ev.EntOk Tryz.prog e1219 := Ev.entS mixed (k := 5000) Ev.ora_nil (by kernel_rfl) (by kernel_rfl)
def q1170 : St := ⟨(.nd .e (.nd .e (.nd .e (.nd (.nd .e (.nd (.nd .e (.nd (.nd .e (.nd .e (.nd (.nd (.nd (.nd (.lf 855 (some (3, [(I 0), (I 0), (I 1), (I 2), (I 1)]))) .e) .e) .e) .e))) .e)) .e)) .e)))), 856, 857, .e, []⟩
def r1170 : St := ⟨(.nd .e (.nd (.nd (.nd (.nd .e (.nd .e (.nd .e (.nd (.nd .e (.nd .e (.nd (.nd (.nd (.nd (.lf 881 (some (3, [(I 3), (I 3), (I 2), (I 2), (I 2)]))) .e) .e) .e) .e))) .e)))) .e) .e) (.nd .e (.nd (.nd .e (.nd (.nd .e (.nd (.nd .e (.nd .e (.nd (.nd (.nd (.nd (.lf 855 (some (3, [(I 0), (I 0), (I 1), (I 2), (I 1)]))) .e) .e) .e) .e))) .e)) .e)) .e)))), 1034, 1035, .e, []⟩
abbrev e1170 : Ev.Ent := .s 117 [(.l (some (855, 0)) 5 5)] q1170 (.l (some (881, 0)) 5 5) r1170
theorem e1170_ok : Ev.EntOk Tryz.prog e1170 := Ev.entS mixed (k := 5000) Ev.ora_nil (by kernel_rfl) (by kernel_rfl)
end T39
end Go.Proofs.YtoibjeloegdmcaaGreat
