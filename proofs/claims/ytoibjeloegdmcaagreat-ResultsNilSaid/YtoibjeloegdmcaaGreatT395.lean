/- A closed test by the evaluator, in parts: calls that are known, each in the state in which it is made; part 5. -/
import Derived.Test.YtoibjeloegdmcaaGreatT39H
set_option linter.unusedVariables false
set_option linter.unusedSimpArgs false
set_option maxRecDepth 1000000
namespace Go.Proofs.YtoibjeloegdmcaaGreat
open Go Go.Vc Go.Ev
namespace T39
def q1408 : St := ⟨(.nd (.nd (.nd (.nd (.nd .e (.nd .e (.nd .e (.nd .e (.nd (.nd (.nd .e (.nd (.nd (.nd (.lf 1264 (some (3, [(I 3), (I 3), (I 2), (I 2), (I 2)]))) .e) .e) .e)) .e) .e))))) .e) .e) .e) .e), 1610, 1611, .e, []⟩
def r1408 : St := ⟨(.nd (.nd (.nd (.nd (.nd .e (.nd .e (.nd .e (.nd .e (.nd (.nd (.nd .e (.nd (.nd (.nd (.lf 1264 (some (3, [(I 3), (I 3), (I 2), (I 2), (I 2)]))) .e) .e) .e)) .e) .e))))) .e) .e) (.nd (.nd .e (.nd (.nd (.nd .e (.nd (.nd (.nd .e (.nd .e (.nd (.nd (.nd (.lf 1610 (some (9, [(.s [49, 49, 48]), (.s [49, 49, 49]), (.s [48, 48]), (.s [48, 49]), (.s [49, 48])]))) .e) .e) .e))) .e) .e)) .e) .e)) .e)) .e), 1611, 1612, .e, []⟩
abbrev e1408 : Ev.Ent := .s 108 [(.l (some (1264, 0)) 5 5)] q1408 (.l (some (1610, 0)) 5 5) r1408
theorem e1408_ok : Ev.EntOk Tryz.prog e1408 := Ev.entS mixed (k := 5000) Ev.ora_nil (by kernel_rfl) (by kernel_rfl)
def q1406 : St := ⟨(.nd (.nd (.nd (.nd (.nd .e (.nd .e (.nd .e (.nd .e (.nd (.nd (.nd .e (.nd (.nd (.nd (.lf 1264 (some (3, [(I 3), (I 3), (I 2), (I 2), (I 2)]))) .e) .e) .e)) .e) .e))))) .e) .e) .e) .e), 1610, 1611, .e, []⟩
def r1406 : St := ⟨(.nd (.nd (.nd (.nd (.nd .e (.nd .e (.nd .e (.nd .e (.nd (.nd (.nd .e (.nd (.nd (.nd (.lf 1264 (some (3, [(I 3), (I 3), (I 2), (I 2), (I 2)]))) .e) .e) .e)) .e) .e))))) .e) .e) .e) .e), 1610, 1611, .e, []⟩
abbrev e1406 : Ev.Ent := .s 107 [(.l (some (1264, 0)) 5 5)] q1406 (.s [48, 48, 48, 49, 49, 48, 48, 49, 49, 48, 48, 48]) r1406
theorem e1406_ok : Ev.EntOk Tryz.prog e1406 := Ev.entS mixed (k := 5000) Ev.ora_nil (by kernel_rfl) (by kernel_rfl)
def q1358 : St := ⟨(.nd (.nd (.nd .e (.nd (.nd .e (.nd (.nd (.nd .e (.nd .e (.nd (.nd .e (.nd (.nd (.nd (.lf 1428 (some (3, [(I 0), (I 0), (I 0), (I 0), (I 0)]))) .e) .e) .e)) .e))) .e) .e)) .e)) .e) .e), 1429, 1430, .e, []⟩
def r1358 : St := ⟨(.nd (.nd (.nd .e (.nd (.nd .e (.nd (.nd (.nd .e (.nd .e (.nd (.nd .e (.nd (.nd (.nd (.lf 1428 (some (3, [(I 0), (I 0), (I 0), (I 0), (I 0)]))) .e) .e) .e)) .e))) .e) .e)) .e)) (.nd .e (.nd .e (.nd (.nd .e (.nd (.nd .e (.nd .e (.nd (.nd .e (.nd (.nd (.nd (.lf 1454 (some (3, [(I 3), (I 3), (I 2), (I 2), (I 2)]))) .e) .e) .e)) .e))) .e)) .e)))) .e), 1607, 1608, .e, []⟩
abbrev e1358 : Ev.Ent := .s 117 [(.l (some (1428, 0)) 5 5)] q1358 (.l (some (1454, 0)) 5 5) r1358
theorem e1358_ok : Ev.EntOk Tryz.prog e1358 := Ev.entS mixed (k := 5000) Ev.ora_nil (by kernel_rfl) (by kernel_rfl)
end T39
end Go.Proofs.YtoibjeloegdmcaaGreat
