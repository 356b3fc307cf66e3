/- A closed test by the evaluator, in parts: calls that are known, each in the state in which it is made; part 8. -/
import Derived.Test.YtoibjeloegdmcaaGreatT39H
set_option linter.unusedVariables false
set_option linter.unusedSimpArgs false
set_option maxRecDepth 1000000
namespace Go.Proofs.YtoibjeloegdmcaaGreat
open Go Go.Vc Go.Ev
namespace T39
def q941 : St := ⟨(.nd .e (.nd .e (.nd .e (.nd (.nd .e (.nd (.nd (.nd (.nd .e (.nd (.nd (.nd (.nd (.nd (.lf 279 (some (3, [(I 0), (I 0), (I 0), (I 0), (I 0)]))) .e) .e) .e) .e) .e)) .e) .e) .e)) .e)))), 280, 281, .e, []⟩
def r941 : St := ⟨(.nd .e (.nd (.nd (.nd (.nd .e (.nd .e (.nd (.nd (.nd .e (.nd (.nd (.nd (.nd (.nd (.lf 305 (some (3, [(I 3), (I 3), (I 2), (I 2), (I 2)]))) .e) .e) .e) .e) .e)) .e) .e))) .e) .e) (.nd .e (.nd (.nd .e (.nd (.nd (.nd (.nd .e (.nd (.nd (.nd (.nd (.nd (.lf 279 (some (3, [(I 0), (I 0), (I 0), (I 0), (I 0)]))) .e) .e) .e) .e) .e)) .e) .e) .e)) .e)))), 458, 459, .e, []⟩
abbrev e941 : Ev.Ent := .s 117 [(.l (some (279, 0)) 5 5)] q941 (.l (some (305, 0)) 5 5) r941
theorem e941_ok : Ev.EntOk Tryz.prog e941 := Ev.entS mixed (k := 5000) Ev.ora_nil (by kernel_rfl) (by kernel_rfl)
def q892 : St := ⟨(.nd .e (.nd (.nd (.nd .e (.nd .e (.nd (.nd .e (.nd (.nd (.nd (.nd (.nd (.nd (.nd (.lf 89 (some (3, [(I 0), (I 0), (I 1), (I 2), (I 1)]))) .e) .e) .e) .e) .e) .e) .e)) .e))) .e) .e)), 90, 91, .e, []⟩
def r892 : St := ⟨(.nd .e (.nd (.nd (.nd .e (.nd .e (.nd (.nd .e (.nd (.nd (.nd (.nd (.nd (.nd (.nd (.lf 89 (some (3, [(I 0), (I 0), (I 1), (I 2), (I 1)]))) .e) .e) .e) .e) .e) .e) .e)) .e))) .e) (.nd (.nd (.nd .e (.nd .e (.nd .e (.nd (.nd (.nd (.nd (.nd (.nd (.nd (.lf 115 (some (3, [(I 3), (I 3), (I 2), (I 2), (I 2)]))) .e) .e) .e) .e) .e) .e) .e)))) .e) .e))), 268, 269, .e, []⟩
abbrev e892 : Ev.Ent := .s 117 [(.l (some (89, 0)) 5 5)] q892 (.l (some (115, 0)) 5 5) r892
theorem e892_ok : Ev.EntOk Tryz.prog e892 := Ev.entS mixed (k := 5000) Ev.ora_nil (by kernel_rfl) (by kernel_rfl)
def q845 : St := ⟨(.nd (.nd .e (.nd (.nd .e (.nd (.nd (.nd .e (.nd (.nd (.nd (.nd (.nd (.nd (.nd (.lf 74 (some (3, [(I 3), (I 2), (I 3), (I 4)]))) .e) .e) .e) .e) .e) .e) .e)) .e) .e)) .e)) (.nd (.nd (.nd (.nd (.nd (.nd .e (.nd (.nd (.nd (.nd (.nd (.nd (.nd (.lf 65 (some (105, [(.l (some (51, 0)) 5 5), (.l (some (63, 0)) 5 5)]))) .e) .e) .e) .e) .e) .e) .e)) .e) .e) .e) .e) (.nd (.nd (.nd .e (.nd .e (.nd (.nd (.nd (.nd (.nd (.nd (.nd (.nd (.lf 51 (some (3, [(I 0), (I 0), (I 0), (I 0), (I 15)]))) .e) .e) .e) .e) .e) .e) .e) .e))) .e) (.nd .e (.nd .e (.nd .e (.nd (.nd (.nd (.nd (.nd (.nd (.nd (.nd (.lf 63 (some (3, [(I 15), (I 15), (I 15), (I 15), (I 0)]))) .e) .e) .e) .e) .e) .e) .e) .e))))))), 77, 78, .e, []⟩
def r845 : St := ⟨(.nd (.nd .e (.nd (.nd .e (.nd (.nd (.nd .e (.nd (.nd (.nd (.nd (.nd (.nd (.nd (.lf 74 (some (3, [(I 3), (I 2), (I 3), (I 4)]))) .e) .e) .e) .e) .e) .e) .e)) .e) .e)) .e)) (.nd (.nd (.nd (.nd (.nd (.nd .e (.nd (.nd (.nd (.nd (.nd (.nd (.nd (.lf 65 (some (105, [(.l (some (51, 0)) 5 5), (.l (some (63, 0)) 5 5)]))) .e) .e) .e) .e) .e) .e) .e)) .e) .e) .e) .e) (.nd (.nd (.nd .e (.nd .e (.nd (.nd (.nd (.nd (.nd (.nd (.nd (.nd (.lf 51 (some (3, [(I 0), (I 0), (I 0), (I 0), (I 15)]))) .e) .e) .e) .e) .e) .e) .e) .e))) .e) (.nd .e (.nd .e (.nd .e (.nd (.nd (.nd (.nd (.nd (.nd (.nd (.nd (.lf 63 (some (3, [(I 15), (I 15), (I 15), (I 15), (I 0)]))) .e) .e) .e) .e) .e) .e) .e) .e))))))), 77, 78, .e, []⟩
abbrev e845 : Ev.Ent := .s 116 [(.l (some (74, 0)) 4 4), (.l (some (65, 0)) 2 2)] q845 (I 0) r845
theorem e845_ok : Ev.EntOk Tryz.prog e845 := Ev.entS mixed (k := 5000) Ev.ora_nil (by kernel_rfl) (by kernel_rfl)
end T39
end Go.Proofs.YtoibjeloegdmcaaGreat
