/- A closed test by the evaluator, in parts: calls that are known, each in the state in which it is made; part 0. -/
import Derived.Test.YtkjelcjffbcenaaGreatDoorT42H
set_option linter.unusedVariables false
set_option linter.unusedSimpArgs false
set_option maxRecDepth 1000000
namespace Go.Proofs.YtkjelcjffbcenaaGreatDoor
open Go Go.Vc Go.Ev
namespace T42
def q284 : St := ⟨(.nd .e (.nd .e (.nd .e (.nd .e (.nd (.nd .e (.nd (.nd (.nd .e (.nd (.nd (.nd (.nd (.nd (.lf 303 (some (33, [(.s [97, 110, 110]), (.s [107, 101, 121]), (I 1048576), (I 1048576), (I 50)]))) .e) .e) .e) .e) .e)) .e) .e)) .e))))), 416, 417, .e, []⟩
def r284 : St := ⟨(.nd .e (.nd .e (.nd .e (.nd .e (.nd (.nd .e (.nd (.nd (.nd .e (.nd (.nd (.nd (.nd (.nd (.lf 303 (some (33, [(.s [97, 110, 110]), (.s [107, 101, 121]), (I 1048576), (I 1048576), (I 50)]))) .e) .e) .e) .e) .e)) .e) .e)) .e))))), 585, 586, .e, []⟩
abbrev e284 : Ev.Ent := .s 93 [(.l (some (303, 0)) 1 1)] q284 (.t [(.s [97, 110, 110, 58, 107, 101, 121, 58, 49, 48, 52, 56, 53, 55, 54, 58, 49, 48, 52, 56, 53, 55, 54, 58, 53, 48, 10]), (I 0)]) r284
theorem e284_ok : Ev.EntOk Tryz.prog e284 := Ev.entS mixed (k := 5000) Ev.ora_nil (by kernel_rfl) (by kernel_rfl)
def q232 : St := ⟨(.nd (.nd (.nd (.nd .e (.nd .e (.nd .e (.nd (.nd (.nd .e (.nd (.nd (.nd (.nd (.nd (.lf 312 (some (99, [(I 1), (I 0), (I 5), (I 1), (I 0), (I 50), (I 2), (I 0), (I 3)]))) .e) .e) .e) .e) .e)) .e) .e)))) (.nd (.nd .e (.nd .e (.nd (.nd (.nd .e (.nd (.nd (.nd (.nd (.nd (.lf 308 (some (9, [(.s [1, 0, 0, 0, 0, 0, 0, 0, 3, 107, 101, 121])]))) .e) .e) .e) .e) .e)) .e) .e))) .e)) .e) (.nd .e (.nd .e (.nd .e (.nd (.nd .e (.nd (.nd (.nd .e (.nd (.nd (.nd (.nd (.nd (.lf 303 (some (33, [(.s [97, 110, 110]), (.s [107, 101, 121]), (I 1048576), (I 1048576), (I 50)]))) .e) .e) .e) .e) .e)) .e) .e)) .e))))), 336, 337, .e, []⟩
def r232 : St := ⟨(.nd (.nd (.nd (.nd .e (.nd .e (.nd .e (.nd (.nd (.nd .e (.nd (.nd (.nd (.nd (.nd (.lf 312 (some (99, [(I 1), (I 0), (I 5), (I 1), (I 0), (I 50), (I 2), (I 0), (I 3)]))) .e) .e) .e) .e) .e)) .e) .e)))) (.nd (.nd .e (.nd .e (.nd (.nd (.nd .e (.nd (.nd (.nd (.nd (.nd (.lf 308 (some (9, [(.s [1, 0, 0, 0, 0, 0, 0, 0, 3, 107, 101, 121])]))) .e) .e) .e) .e) .e)) .e) .e))) .e)) .e) (.nd .e (.nd .e (.nd .e (.nd (.nd .e (.nd (.nd (.nd .e (.nd (.nd (.nd (.nd (.nd (.lf 303 (some (33, [(.s [97, 110, 110]), (.s [107, 101, 121]), (I 1048576), (I 1048576), (I 50)]))) .e) .e) .e) .e) .e)) .e) .e)) .e))))), 657, 658, .e, []⟩
abbrev e232 : Ev.Ent := .s 51 [(.g [(.l (some (303, 0)) 1 1), (I 24), (I 64), (I 200), (I 5), (I 3), (I 10), (.l (some (308, 0)) 1 1), (.l (some (312, 0)) 3 3)])] q232 (.t [(.s [99, 111, 110, 102, 105, 103, 32, 50, 52, 32, 54, 52, 32, 50, 48, 48, 32, 53, 32, 51, 32, 49, 48, 10, 97, 110, 110, 58, 107, 101, 121, 58, 49, 48, 52, 56, 53, 55, 54, 58, 49, 48, 52, 56, 53, 55, 54, 58, 53, 48, 10, 115, 116, 114, 101, 97, 109, 32, 48, 49, 48, 48, 48, 48, 48, 48, 48, 48, 48, 48, 48, 48, 48, 48, 48, 51, 54, 98, 54, 53, 55, 57, 10, 100, 101, 108, 105, 118, 101, 114, 32, 48, 32, 53, 10, 100, 101, 108, 105, 118, 101, 114, 32, 48, 32, 53, 48, 10, 116, 105, 99, 107, 32, 51, 10]), (I 0)]) r232
theorem e232_ok : Ev.EntOk Tryz.prog e232 := Ev.entS mixed (k := 5000) (Ev.ora_cons e284_ok Ev.ora_nil) (by kernel_rfl) (by kernel_rfl)
end T42
end Go.Proofs.YtkjelcjffbcenaaGreatDoor
