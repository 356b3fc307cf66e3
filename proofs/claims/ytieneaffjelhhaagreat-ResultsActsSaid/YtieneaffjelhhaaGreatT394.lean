/- A closed test by the evaluator, in parts: calls that are known, each in the state in which it is made; part 4. -/
import Derived.Test.YtieneaffjelhhaaGreatT39H
import Derived.Test.YtieneaffjelhhaaGreatT390
import Derived.Test.YtieneaffjelhhaaGreatT391
import Derived.Test.YtieneaffjelhhaaGreatT392
import Derived.Test.YtieneaffjelhhaaGreatT393
set_option linter.unusedVariables false
set_option linter.unusedSimpArgs false
set_option maxRecDepth 1000000
namespace Go.Proofs.YtieneaffjelhhaaGreat
open Go Go.Vc Go.Ev
namespace T39
noncomputable section
def q1479:St:=⟨tr [(0,(some (148,[(I 24),(I 0),(I 0),(I 0),(.p none),(.s []),(I 0),(.i .u32 (.ofNat 0)),(.i .u32 (.ofNat 0)),(.b false),(I 0)]))),(1,(some (150,[(.s [66,90,104,49,49,65,89,38,83,89,100,140,187,115,0,0,0,1,0,56,0,32,0,33,152,25,132,97,119,36,83,133,9,6,72,203,183,48]),(I 0),(I 0)]))),(2,b2),(3,b91)],1690,1691,.e,[]⟩
def r1479:St:=⟨tr [(0,b40),(1,b41),(2,(some (118,[(I 100),(I 4096),(.b false),(.p (some (1,0))),(.p (some (0,0))),(.p none),(.b true),(.l (some (1819,0)) 3 3),(.b false),(I 0),(I 41)]))),(3,b91),(1819,b5)],1820,1821,.e,[]⟩
abbrev e1479:Ev.Ent:=.s 14 [(.p (some (3,0))),(I 10000)] q1479 (I 41) r1479
theorem Zvj:Ev.EntOk Tryz.prog e1479:=Ev.entS mixed (k:=5000) (Ev.Za5 Zve (Ev.Za5 Zv5 (Ev.Za5 Zvl (Ev.Za5 Zw5 (Ev.Za5 Zwj (Ev.Za5 Zvm (Ev.Za5 Zy3 (Ev.Za5 Zwg (Ev.Za5 Zvv (Ev.Za5 Zxu (Ev.Za5 Zwa (Ev.Za5 Zw9 (Ev.Za5 Zwd (Ev.Za5 Zv3 (Ev.Za5 Zw4 (Ev.Za5 Zxr (Ev.Za5 Zw7 (Ev.Za5 Zvn (Ev.Za5 Zxm (Ev.Za5 Zxp (Ev.Za5 Zvw (Ev.Za5 Zvq (Ev.Za5 Zwc (Ev.Za5 Zxj (Ev.Za5 Zv8 (Ev.Za5 Zvr Ev.Za7)))))))))))))))))))))))))) (by kernel_rfl) (by kernel_rfl)
def q1413:St:=⟨tr [(1487,b1)],1646,1647,.e,[]⟩
def r1413:St:=⟨tr [(1487,b1)],1646,1647,.e,[]⟩
abbrev e1413:Ev.Ent:=.s 83 [(.l (some (1487,0)) 5 5)] q1413 (.s [48,48,48,49,49,48,48,49,49,48,48,48]) r1413
theorem Zwl:Ev.EntOk Tryz.prog e1413:=Ev.entS mixed (k:=5000) Ev.Za7 (by kernel_rfl) (by kernel_rfl)
end
end T39
end Go.Proofs.YtieneaffjelhhaaGreat
