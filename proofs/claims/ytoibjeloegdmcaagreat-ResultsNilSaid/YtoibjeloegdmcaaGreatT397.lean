/- A closed test by the evaluator, in parts: calls that are known, each in the state in which it is made; part 7. -/
import Derived.Test.YtoibjeloegdmcaaGreatT39H
set_option linter.unusedVariables false
set_option linter.unusedSimpArgs false
set_option maxRecDepth 1000000
namespace Go.Proofs.YtoibjeloegdmcaaGreat
open Go Go.Vc Go.Ev
namespace T39
def q1123 : St := ⟨(.nd (.nd (.nd (.nd (.nd .e (.nd .e (.nd (.nd .e (.nd (.nd .e (.nd (.nd (.nd (.nd (.lf 688 (some (3, [(I 3), (I 3), (I 2), (I 2), (I 2)]))) .e) .e) .e) .e)) .e)) .e))) .e) .e) (.nd (.nd (.nd .e (.nd .e (.nd .e (.nd .e (.nd .e (.nd (.nd (.nd (.nd (.nd (.lf 498 (some (3, [(I 3), (I 3), (I 2), (I 2), (I 2)]))) .e) .e) .e) .e) .e)))))) (.nd (.nd (.nd .e (.nd (.nd (.nd (.nd (.nd (.nd (.nd (.lf 74 (some (3, [(I 3), (I 2), (I 3), (I 4)]))) .e) .e) .e) .e) .e) (.nd .e (.nd (.nd (.nd (.nd (.lf 842 (some (105, [(.l (some (498, 0)) 5 5), (.l (some (688, 0)) 5 5)]))) .e) .e) .e) .e))) .e)) .e) .e)) .e)) .e), 843, 844, .e, []⟩
def r1123 : St := ⟨(.nd (.nd (.nd (.nd (.nd .e (.nd .e (.nd (.nd .e (.nd (.nd .e (.nd (.nd (.nd (.nd (.lf 688 (some (3, [(I 3), (I 3), (I 2), (I 2), (I 2)]))) .e) .e) .e) .e)) .e)) .e))) .e) .e) (.nd (.nd (.nd .e (.nd .e (.nd .e (.nd .e (.nd .e (.nd (.nd (.nd (.nd (.nd (.lf 498 (some (3, [(I 3), (I 3), (I 2), (I 2), (I 2)]))) .e) .e) .e) .e) .e)))))) (.nd (.nd (.nd .e (.nd (.nd (.nd (.nd (.nd (.nd (.nd (.lf 74 (some (3, [(I 3), (I 2), (I 3), (I 4)]))) .e) .e) .e) .e) .e) (.nd .e (.nd (.nd (.nd (.nd (.lf 842 (some (105, [(.l (some (498, 0)) 5 5), (.l (some (688, 0)) 5 5)]))) .e) .e) .e) .e))) .e)) .e) .e)) .e)) .e), 843, 844, .e, []⟩
abbrev e1123 : Ev.Ent := .s 116 [(.l (some (74, 0)) 4 4), (.l (some (842, 0)) 2 2)] q1123 (I 0) r1123
theorem e1123_ok : Ev.EntOk Tryz.prog e1123 := Ev.entS mixed (k := 5000) Ev.ora_nil (by kernel_rfl) (by kernel_rfl)
def q1080 : St := ⟨(.nd (.nd .e (.nd .e (.nd (.nd .e (.nd (.nd (.nd .e (.nd (.nd .e (.nd (.nd (.nd (.nd (.lf 662 (some (3, [(I 0), (I 0), (I 0), (I 0), (I 0)]))) .e) .e) .e) .e)) .e)) .e) .e)) .e))) .e), 663, 664, .e, []⟩
def r1080 : St := ⟨(.nd (.nd (.nd (.nd (.nd .e (.nd .e (.nd (.nd .e (.nd (.nd .e (.nd (.nd (.nd (.nd (.lf 688 (some (3, [(I 3), (I 3), (I 2), (I 2), (I 2)]))) .e) .e) .e) .e)) .e)) .e))) .e) .e) (.nd .e (.nd (.nd .e (.nd (.nd (.nd .e (.nd (.nd .e (.nd (.nd (.nd (.nd (.lf 662 (some (3, [(I 0), (I 0), (I 0), (I 0), (I 0)]))) .e) .e) .e) .e)) .e)) .e) .e)) .e))) .e), 841, 842, .e, []⟩
abbrev e1080 : Ev.Ent := .s 117 [(.l (some (662, 0)) 5 5)] q1080 (.l (some (688, 0)) 5 5) r1080
theorem e1080_ok : Ev.EntOk Tryz.prog e1080 := Ev.entS mixed (k := 5000) Ev.ora_nil (by kernel_rfl) (by kernel_rfl)
def q1031 : St := ⟨(.nd (.nd (.nd (.nd .e (.nd .e (.nd (.nd .e (.nd .e (.nd .e (.nd (.nd (.nd (.nd (.nd (.lf 472 (some (3, [(I 0), (I 0), (I 1), (I 2), (I 1)]))) .e) .e) .e) .e) .e)))) .e))) .e) .e) .e), 473, 474, .e, []⟩
def r1031 : St := ⟨(.nd (.nd (.nd (.nd .e (.nd .e (.nd (.nd .e (.nd .e (.nd .e (.nd (.nd (.nd (.nd (.nd (.lf 472 (some (3, [(I 0), (I 0), (I 1), (I 2), (I 1)]))) .e) .e) .e) .e) .e)))) .e))) .e) (.nd (.nd (.nd .e (.nd .e (.nd .e (.nd .e (.nd .e (.nd (.nd (.nd (.nd (.nd (.lf 498 (some (3, [(I 3), (I 3), (I 2), (I 2), (I 2)]))) .e) .e) .e) .e) .e)))))) .e) .e)) .e), 651, 652, .e, []⟩
abbrev e1031 : Ev.Ent := .s 117 [(.l (some (472, 0)) 5 5)] q1031 (.l (some (498, 0)) 5 5) r1031
theorem e1031_ok : Ev.EntOk Tryz.prog e1031 := Ev.entS mixed (k := 5000) Ev.ora_nil (by kernel_rfl) (by kernel_rfl)
def q984 : St := ⟨(.nd (.nd .e (.nd (.nd .e (.nd (.nd (.nd .e (.nd (.nd (.nd (.nd (.nd (.nd (.nd (.lf 74 (some (3, [(I 3), (I 2), (I 3), (I 4)]))) .e) .e) .e) .e) .e) .e) .e)) .e) .e)) .e)) (.nd (.nd (.nd (.nd .e (.nd .e (.nd (.nd (.nd .e (.nd (.nd (.nd (.nd (.nd (.lf 305 (some (3, [(I 3), (I 3), (I 2), (I 2), (I 2)]))) .e) .e) .e) .e) .e)) .e) .e))) .e) .e) (.nd (.nd (.nd .e (.nd .e (.nd .e (.nd (.nd (.nd (.nd (.nd (.nd (.nd (.lf 115 (some (3, [(I 3), (I 3), (I 2), (I 2), (I 2)]))) .e) .e) .e) .e) .e) .e) .e)))) (.nd (.nd (.nd .e (.nd .e (.nd .e (.nd (.nd (.nd (.nd (.nd (.lf 459 (some (105, [(.l (some (115, 0)) 5 5), (.l (some (305, 0)) 5 5)]))) .e) .e) .e) .e) .e)))) .e) .e)) .e))), 460, 461, .e, []⟩
def r984 : St := ⟨(.nd (.nd .e (.nd (.nd .e (.nd (.nd (.nd .e (.nd (.nd (.nd (.nd (.nd (.nd (.nd (.lf 74 (some (3, [(I 3), (I 2), (I 3), (I 4)]))) .e) .e) .e) .e) .e) .e) .e)) .e) .e)) .e)) (.nd (.nd (.nd (.nd .e (.nd .e (.nd (.nd (.nd .e (.nd (.nd (.nd (.nd (.nd (.lf 305 (some (3, [(I 3), (I 3), (I 2), (I 2), (I 2)]))) .e) .e) .e) .e) .e)) .e) .e))) .e) .e) (.nd (.nd (.nd .e (.nd .e (.nd .e (.nd (.nd (.nd (.nd (.nd (.nd (.nd (.lf 115 (some (3, [(I 3), (I 3), (I 2), (I 2), (I 2)]))) .e) .e) .e) .e) .e) .e) .e)))) (.nd (.nd (.nd .e (.nd .e (.nd .e (.nd (.nd (.nd (.nd (.nd (.lf 459 (some (105, [(.l (some (115, 0)) 5 5), (.l (some (305, 0)) 5 5)]))) .e) .e) .e) .e) .e)))) .e) .e)) .e))), 460, 461, .e, []⟩
abbrev e984 : Ev.Ent := .s 116 [(.l (some (74, 0)) 4 4), (.l (some (459, 0)) 2 2)] q984 (I 0) r984
theorem e984_ok : Ev.EntOk Tryz.prog e984 := Ev.entS mixed (k := 5000) Ev.ora_nil (by kernel_rfl) (by kernel_rfl)
end T39
end Go.Proofs.YtoibjeloegdmcaaGreat
