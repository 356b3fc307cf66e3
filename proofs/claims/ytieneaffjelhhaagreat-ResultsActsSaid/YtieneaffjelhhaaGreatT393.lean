/- A closed test by the evaluator, in parts: calls that are known, each in the state in which it is made; part 3. -/
import Derived.Test.YtieneaffjelhhaaGreatT39H
set_option linter.unusedVariables false
set_option linter.unusedSimpArgs false
set_option maxRecDepth 1000000
namespace Go.Proofs.YtieneaffjelhhaaGreat
open Go Go.Vc Go.Ev
namespace T39
noncomputable section
def q1699:St:=⟨tr [(1,b37)],1691,1692,.e,[]⟩
def r1699:St:=⟨tr [(1,(some (150,[(.s [1,0,56,0,32,0,33,152,25,132,97,119,36,83,133,9,6,72,203,183,48]),(I 17),(I 169)])))],1707,1708,.e,[]⟩
abbrev e1699:Ev.Ent:=.s 325 [(.p (some (1,0)))] q1699 (.t [(.s [97,98,99]),(I 0)]) r1699
theorem Zw8:Ev.EntOk Tryz.prog e1699:=Ev.entS mixed (k:=5000) Ev.Za7 (by kernel_rfl) (by kernel_rfl)
def q1692:St:=⟨tr [(0,b3),(1,b37),(2,b2),(1690,b88)],1691,1692,.e,[]⟩
def r1692:St:=⟨tr [(0,b3),(1,b87),(2,b2),(1690,b8),(1707,b13),(1710,b86),(1711,b31),(1712,b9),(1713,b5),(1714,b4),(1715,b6)],1716,1717,.e,[]⟩
abbrev e1692:Ev.Ent:=.s 284 [(.p (some (2,0)))] q1692 (.b true) r1692
theorem Zvl:Ev.EntOk Tryz.prog e1692:=Ev.entS mixed (k:=5000) (Ev.Za5 Zw8 Ev.Za7) (by kernel_rfl) (by kernel_rfl)
def q1309:St:=⟨tr [(1271,b22)],1272,1273,.e,[]⟩
def r1309:St:=⟨tr [(1271,b22),(1297,b1)],1450,1451,.e,[]⟩
abbrev e1309:Ev.Ent:=.s 93 [(.l (some (1271,0)) 5 5)] q1309 (.l (some (1297,0)) 5 5) r1309
theorem Zvp:Ev.EntOk Tryz.prog e1309:=Ev.entS mixed (k:=5000) Ev.Za7 (by kernel_rfl) (by kernel_rfl)
end
end T39
end Go.Proofs.YtieneaffjelhhaaGreat
