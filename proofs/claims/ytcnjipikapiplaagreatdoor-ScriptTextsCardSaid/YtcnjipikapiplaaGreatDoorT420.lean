/- A closed test by the evaluator, in parts: calls that are known, each in the state in which it is made; part 0. -/
import Derived.Test.YtcnjipikapiplaaGreatDoorT42H
set_option linter.unusedVariables false
set_option linter.unusedSimpArgs false
set_option maxRecDepth 1000000
namespace Go.Proofs.YtcnjipikapiplaaGreatDoor
open Go Go.Vc Go.Ev
namespace T42
def q5 : St := ⟨(.nd (.nd .e (.nd (.nd .e (.nd (.nd (.nd (.nd (.nd (.nd (.nd (.nd (.nd (.nd (.lf 10 (some (42, [(I 1), (I 0), (I 5), (I 1), (I 0), (I 50), (I 2), (I 0), (I 3)]))) .e) .e) .e) .e) .e) .e) .e) .e) .e) .e)) (.nd (.nd (.nd (.nd (.nd (.nd (.nd (.nd (.nd (.nd (.nd (.lf 6 (some (9, [(.s [1, 0, 0, 0, 0, 0, 0, 0, 3, 107, 101, 121])]))) .e) .e) .e) .e) .e) .e) .e) .e) .e) .e) .e))) (.nd (.nd (.nd (.nd (.nd (.nd (.nd (.nd (.nd (.nd (.nd (.nd (.nd (.lf 1 (some (40, [(.s [97, 110, 110]), (.s [107, 101, 121]), (I 1048576), (I 1048576), (I 50)]))) .e) .e) .e) .e) .e) .e) .e) .e) .e) .e) .e) .e) .e)), 34, 35, .e, []⟩
def r5 : St := ⟨(.nd (.nd (.nd .e (.nd (.nd (.nd .e (.nd .e (.nd (.nd (.nd (.nd (.nd (.nd (.nd (.lf 100 (some (3, [(I 12)]))) .e) .e) .e) .e) .e) .e) .e))) .e) (.nd (.nd .e (.nd (.nd (.nd .e (.nd (.nd (.nd (.nd (.nd (.lf 300 (some (9, [(.s [65, 0, 0, 0, 0, 0, 0, 0, 3, 97, 110, 110])]))) .e) .e) .e) .e) .e)) .e) .e)) .e))) (.nd (.nd .e (.nd (.nd (.nd (.nd (.nd (.nd (.nd (.nd (.nd (.nd (.lf 10 (some (42, [(I 1), (I 0), (I 5), (I 1), (I 0), (I 50), (I 2), (I 0), (I 3)]))) .e) .e) .e) .e) .e) .e) .e) .e) .e) .e)) (.nd (.nd (.nd (.nd (.nd (.nd (.nd (.nd (.nd (.nd (.nd (.lf 6 (some (9, [(.s [1, 0, 0, 0, 0, 0, 0, 0, 3, 107, 101, 121])]))) .e) .e) .e) .e) .e) .e) .e) .e) .e) .e) .e))) (.nd (.nd (.nd (.nd (.nd (.nd (.nd (.nd (.nd (.nd (.nd (.nd (.nd (.lf 1 (some (40, [(.s [97, 110, 110]), (.s [107, 101, 121]), (I 1048576), (I 1048576), (I 50)]))) .e) .e) .e) .e) .e) .e) .e) .e) .e) .e) .e) .e) .e)), 301, 302, .e, []⟩
abbrev e5 : Ev.Ent := .s 12 [(.g [(.l (some (1, 0)) 1 1), (I 24), (I 64), (I 200), (I 5), (I 3), (I 10), (.l (some (6, 0)) 1 1), (.l (some (10, 0)) 3 3)])] q5 (.t [(.g [(.l (some (100, 0)) 1 1), (.l (some (300, 0)) 1 1), (I 0), (I 3)]), (I 0)]) r5
theorem e5_ok : Ev.EntOk Tryz.prog e5 := Ev.entS mixed (k := 5000) Ev.ora_nil (by kernel_rfl) (by kernel_rfl)
end T42
end Go.Proofs.YtcnjipikapiplaaGreatDoor
