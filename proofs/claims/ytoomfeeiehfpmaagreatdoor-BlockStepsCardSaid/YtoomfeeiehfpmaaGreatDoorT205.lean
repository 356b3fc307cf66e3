/- A closed test by the evaluator, in parts: calls that are known, each in the state in which it is made; part 5. -/
import Derived.Test.YtoomfeeiehfpmaaGreatDoorT20H
import Derived.Test.YtoomfeeiehfpmaaGreatDoorT204
set_option linter.unusedVariables false
set_option linter.unusedSimpArgs false
set_option maxRecDepth 1000000
namespace Go.Proofs.YtoomfeeiehfpmaaGreatDoor
open Go Go.Vc Go.Ev
namespace T20
def q51 : St := ⟨(.nd (.nd (.nd (.nd (.nd (.nd .e (.nd (.nd (.nd (.nd (.nd (.nd (.nd (.nd (.lf 32 (some (3, [(I 0), (I 2)]))) .e) .e) .e) .e) .e) .e) .e) .e)) .e) .e) (.nd (.nd (.nd .e (.nd (.nd (.nd (.nd (.nd (.nd (.nd (.nd (.lf 36 (some (3, [(I 0), (I 15), (I 15)]))) .e) .e) .e) .e) .e) .e) .e) .e)) .e) .e)) (.nd (.nd (.nd (.nd .e (.nd (.nd (.nd (.nd (.nd (.nd (.nd (.nd (.lf 34 (some (69, [(.l (some (32, 0)) 2 2)]))) .e) .e) .e) .e) .e) .e) .e) .e)) .e) .e) .e)) (.nd (.nd .e (.nd (.nd (.nd .e (.nd (.nd (.nd (.nd (.nd (.nd (.nd (.nd (.lf 37 (some (3, [(I 15), (I 0), (I 0)]))) .e) .e) .e) .e) .e) .e) .e) .e)) .e) .e)) (.nd (.nd (.nd (.nd .e (.nd (.nd (.nd (.nd (.nd (.nd (.nd (.nd (.lf 35 (some (69, [(.l (some (36, 0)) 3 3), (.l (some (37, 0)) 3 3)]))) .e) .e) .e) .e) .e) .e) .e) .e)) .e) .e) .e))), 39, 40, .e, [(1, [(I 200), (I 600), (I 1200), (I 2400)])]⟩
def r51 : St := ⟨(.nd (.nd (.nd (.nd (.nd (.nd .e (.nd (.nd (.nd (.nd (.nd (.nd (.nd (.nd (.lf 32 (some (3, [(I 0), (I 2)]))) .e) .e) .e) .e) .e) .e) .e) .e)) .e) .e) (.nd (.nd (.nd .e (.nd (.nd (.nd (.nd (.nd (.nd (.nd (.nd (.lf 36 (some (3, [(I 0), (I 15), (I 15)]))) .e) .e) .e) .e) .e) .e) .e) .e)) .e) .e)) (.nd (.nd (.nd (.nd .e (.nd (.nd (.nd (.nd (.nd (.nd (.nd (.nd (.lf 34 (some (69, [(.l (some (32, 0)) 2 2)]))) .e) .e) .e) .e) .e) .e) .e) .e)) .e) .e) .e)) (.nd (.nd .e (.nd (.nd (.nd .e (.nd (.nd (.nd (.nd (.nd (.nd (.nd (.nd (.lf 37 (some (3, [(I 15), (I 0), (I 0)]))) .e) .e) .e) .e) .e) .e) .e) .e)) .e) (.nd (.nd .e (.nd .e (.nd (.nd (.nd (.nd (.nd (.nd (.nd (.lf 109 (some (69, [(.l (some (75, 0)) 3 3), (.l (some (107, 0)) 3 3)]))) .e) .e) .e) .e) .e) .e) .e))) .e))) (.nd (.nd (.nd (.nd .e (.nd (.nd (.nd (.nd (.nd (.nd (.nd (.nd (.lf 35 (some (69, [(.l (some (36, 0)) 3 3), (.l (some (37, 0)) 3 3)]))) .e) .e) .e) .e) .e) .e) .e) .e)) .e) (.nd (.nd (.nd .e (.nd (.nd (.nd (.nd (.nd (.nd (.nd (.lf 75 (some (3, [(I 2), (I 2), (I 1)]))) .e) .e) .e) .e) .e) .e) .e)) (.nd (.nd (.nd (.nd (.nd (.nd (.nd (.nd (.lf 43 (some (3, [(I 0)]))) .e) .e) .e) .e) .e) .e) .e) (.nd (.nd (.nd (.nd (.nd (.nd (.nd (.lf 107 (some (3, [(I 2), (I 2), (I 1)]))) .e) .e) .e) .e) .e) .e) .e))) .e)) .e))), 110, 111, .e, [(1, [(I 200), (I 600), (I 1200), (I 2400)])]⟩
abbrev e51 : Ev.Ent := .s 174 [(.l (some (34, 0)) 1 1), (.l (some (35, 0)) 2 2), (I 3)] q51 (.t [(.l (some (43, 0)) 1 1), (.l (some (109, 0)) 2 2)]) r51
theorem e51_ok : Ev.EntOk Tryz.prog e51 := Ev.entS mixed (k := 5000) Ev.ora_nil (by kernel_rfl) (by kernel_rfl)
def q37 : St := ⟨(.nd .e (.nd .e (.nd (.nd .e (.nd .e (.nd (.nd (.nd (.nd (.nd (.nd (.nd (.nd (.nd (.lf 27 (some (3, [(I 0), (I 2)]))) .e) .e) .e) .e) .e) .e) .e) .e) .e))) .e))), 28, 29, .e, [(1, [(I 200), (I 600), (I 1200), (I 2400)])]⟩
def r37 : St := ⟨(.nd .e (.nd .e (.nd (.nd .e (.nd .e (.nd (.nd (.nd (.nd (.nd (.nd (.nd (.nd (.nd (.lf 27 (some (3, [(I 0), (I 2)]))) .e) .e) .e) .e) .e) .e) .e) .e) .e))) .e))), 334, 335, .e, [(1, [(I 200), (I 600), (I 1200), (I 2400)])]⟩
abbrev e37 : Ev.Ent := .s 43 [(.l (some (27, 0)) 2 2), (I 3)] q37 (.t [(I 42), (I 0)]) r37
theorem e37_ok : Ev.EntOk Tryz.prog e37 := Ev.entS mixed (k := 5000) (Ev.ora_cons e51_ok (Ev.ora_cons e158_ok (Ev.ora_cons e372_ok Ev.ora_nil))) (by kernel_rfl) (by kernel_rfl)
end T20
end Go.Proofs.YtoomfeeiehfpmaaGreatDoor
