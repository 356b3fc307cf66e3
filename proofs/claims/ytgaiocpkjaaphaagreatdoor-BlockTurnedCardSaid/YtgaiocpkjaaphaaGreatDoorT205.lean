/- A closed test by the evaluator, in parts: calls that are known, each in the state in which it is made; part 5. -/
import Derived.Test.YtgaiocpkjaaphaaGreatDoorT20H
import Derived.Test.YtgaiocpkjaaphaaGreatDoorT204
set_option linter.unusedVariables false
set_option linter.unusedSimpArgs false
set_option maxRecDepth 1000000
namespace Go.Proofs.YtgaiocpkjaaphaaGreatDoor
open Go Go.Vc Go.Ev
namespace T20
def q51 : St := ⟨(.nd (.nd (.nd (.nd .e (.nd (.nd .e (.nd (.nd (.nd (.nd (.nd (.nd (.nd (.nd (.lf 40 (some (3, [(I 15), (I 0), (I 0)]))) .e) .e) .e) .e) .e) .e) .e) .e)) .e)) .e) (.nd .e (.nd (.nd (.nd .e (.nd (.nd (.nd (.nd (.nd (.nd (.nd (.nd (.lf 38 (some (69, [(.l (some (39, 0)) 3 3), (.l (some (40, 0)) 3 3)]))) .e) .e) .e) .e) .e) .e) .e) .e)) .e) .e))) (.nd (.nd .e (.nd (.nd (.nd .e (.nd (.nd (.nd (.nd (.nd (.nd (.nd (.nd (.lf 37 (some (69, [(.l (some (35, 0)) 2 2)]))) .e) .e) .e) .e) .e) .e) .e) .e)) .e) .e)) (.nd (.nd (.nd (.nd .e (.nd (.nd (.nd (.nd (.nd (.nd (.nd (.nd (.lf 35 (some (3, [(I 0), (I 2)]))) .e) .e) .e) .e) .e) .e) .e) .e)) .e) .e) (.nd (.nd (.nd .e (.nd (.nd (.nd (.nd (.nd (.nd (.nd (.nd (.lf 39 (some (3, [(I 0), (I 15), (I 15)]))) .e) .e) .e) .e) .e) .e) .e) .e)) .e) .e)))), 42, 43, .e, [(1, [(I 200), (I 600), (I 1200), (I 2400)])]⟩
def r51 : St := ⟨(.nd (.nd (.nd (.nd (.nd .e (.nd .e (.nd .e (.nd (.nd (.nd (.nd (.nd (.nd (.nd (.lf 112 (some (69, [(.l (some (78, 0)) 3 3), (.l (some (110, 0)) 3 3)]))) .e) .e) .e) .e) .e) .e) .e)))) (.nd (.nd .e (.nd (.nd (.nd (.nd (.nd (.nd (.nd (.nd (.lf 40 (some (3, [(I 15), (I 0), (I 0)]))) .e) .e) .e) .e) .e) .e) .e) .e)) .e)) .e) (.nd .e (.nd (.nd (.nd .e (.nd (.nd (.nd (.nd (.nd (.nd (.nd (.nd (.lf 38 (some (69, [(.l (some (39, 0)) 3 3), (.l (some (40, 0)) 3 3)]))) .e) .e) .e) .e) .e) .e) .e) .e)) .e) (.nd (.nd (.nd .e (.nd (.nd (.nd (.nd (.nd (.nd (.nd (.lf 78 (some (3, [(I 2), (I 2), (I 1)]))) .e) .e) .e) .e) .e) .e) .e)) (.nd (.nd (.nd (.nd (.nd (.nd (.nd (.nd (.lf 46 (some (3, [(I 0)]))) .e) .e) .e) .e) .e) .e) .e) (.nd (.nd (.nd (.nd (.nd (.nd (.nd (.lf 110 (some (3, [(I 2), (I 2), (I 1)]))) .e) .e) .e) .e) .e) .e) .e))) .e)))) (.nd (.nd .e (.nd (.nd (.nd .e (.nd (.nd (.nd (.nd (.nd (.nd (.nd (.nd (.lf 37 (some (69, [(.l (some (35, 0)) 2 2)]))) .e) .e) .e) .e) .e) .e) .e) .e)) .e) .e)) (.nd (.nd (.nd (.nd .e (.nd (.nd (.nd (.nd (.nd (.nd (.nd (.nd (.lf 35 (some (3, [(I 0), (I 2)]))) .e) .e) .e) .e) .e) .e) .e) .e)) .e) .e) (.nd (.nd (.nd .e (.nd (.nd (.nd (.nd (.nd (.nd (.nd (.nd (.lf 39 (some (3, [(I 0), (I 15), (I 15)]))) .e) .e) .e) .e) .e) .e) .e) .e)) .e) .e)))), 113, 114, .e, [(1, [(I 200), (I 600), (I 1200), (I 2400)])]⟩
abbrev e51 : Ev.Ent := .s 189 [(.l (some (37, 0)) 1 1), (.l (some (38, 0)) 2 2), (I 3)] q51 (.t [(.l (some (46, 0)) 1 1), (.l (some (112, 0)) 2 2)]) r51
theorem e51_ok : Ev.EntOk Tryz.prog e51 := Ev.entS mixed (k := 5000) Ev.ora_nil (by kernel_rfl) (by kernel_rfl)
def q37 : St := ⟨(.nd (.nd .e (.nd .e (.nd .e (.nd .e (.nd (.nd (.nd (.nd (.nd (.nd (.nd (.nd (.nd (.lf 30 (some (3, [(I 0), (I 2)]))) .e) .e) .e) .e) .e) .e) .e) .e) .e))))) .e), 31, 32, .e, [(1, [(I 200), (I 600), (I 1200), (I 2400)])]⟩
def r37 : St := ⟨(.nd (.nd .e (.nd .e (.nd .e (.nd .e (.nd (.nd (.nd (.nd (.nd (.nd (.nd (.nd (.nd (.lf 30 (some (3, [(I 0), (I 2)]))) .e) .e) .e) .e) .e) .e) .e) .e) .e))))) .e), 337, 338, .e, [(1, [(I 200), (I 600), (I 1200), (I 2400)])]⟩
abbrev e37 : Ev.Ent := .s 44 [(.l (some (30, 0)) 2 2), (I 3)] q37 (.t [(I 42), (I 0)]) r37
theorem e37_ok : Ev.EntOk Tryz.prog e37 := Ev.entS mixed (k := 5000) (Ev.ora_cons e51_ok (Ev.ora_cons e158_ok (Ev.ora_cons e372_ok Ev.ora_nil))) (by kernel_rfl) (by kernel_rfl)
end T20
end Go.Proofs.YtgaiocpkjaaphaaGreatDoor
