/- A closed test by the evaluator, in parts: calls that are known, each in the state in which it is made; part 8. -/
import Derived.Test.YtieneaffjelhhaaGreatT39H
import Derived.Test.YtieneaffjelhhaaGreatT392
import Derived.Test.YtieneaffjelhhaaGreatT393
import Derived.Test.YtieneaffjelhhaaGreatT396
import Derived.Test.YtieneaffjelhhaaGreatT397
set_option linter.unusedVariables false
set_option linter.unusedSimpArgs false
set_option maxRecDepth 1000000
namespace Go.Proofs.YtieneaffjelhhaaGreat
open Go Go.Vc Go.Ev
namespace T39
noncomputable section
def q892:St:=⟨tr [(122,b22)],123,124,.e,[]⟩
def r892:St:=⟨tr [(122,b22),(148,b1)],301,302,.e,[]⟩
abbrev e892:Ev.Ent:=.s 93 [(.l (some (122,0)) 5 5)] q892 (.l (some (148,0)) 5 5) r892
theorem Yb7:Ev.EntOk Tryz.prog e892:=Ev.entS mixed (k:=5000) Ev.Za7 (by kernel_rfl) (by kernel_rfl)
def q845:St:=⟨tr [(84,b96),(96,b95),(98,b97),(107,b17)],110,111,.e,[]⟩
def r845:St:=⟨tr [(84,b96),(96,b95),(98,b97),(107,b17)],110,111,.e,[]⟩
abbrev e845:Ev.Ent:=.s 92 [(.l (some (107,0)) 4 4),(.l (some (98,0)) 2 2)] q845 (I 0) r845
theorem Zzp:Ev.EntOk Tryz.prog e845:=Ev.entS mixed (k:=5000) Ev.Za7 (by kernel_rfl) (by kernel_rfl)
def q835:St:=⟨tr [(63,b17)],64,65,.e,[]⟩
def r835:St:=⟨tr [(63,b17),(1260,b0),(1297,b1),(1487,b1),(1641,(some (69,[(.l (some (1297,0)) 5 5),(.l (some (1487,0)) 5 5)])))],1642,1643,.e,[]⟩
abbrev e835:Ev.Ent:=.s 81 [(.l (some (63,0)) 4 4),(I 5)] q835 (.g [(.l (some (1641,0)) 2 2),(.l (some (1260,0)) 1 1)]) r835
theorem Yan:Ev.EntOk Tryz.prog e835:=Ev.entS mixed (k:=5000) (Ev.Za5 Zzp (Ev.Za5 Yb7 (Ev.Za5 Zzo (Ev.Za5 Ya1 (Ev.Za5 Zww (Ev.Za5 Zx2 (Ev.Za5 Zx3 (Ev.Za5 Zx9 (Ev.Za5 Zwr (Ev.Za5 Zwz (Ev.Za5 Zvp (Ev.Za5 Zwp Ev.Za7)))))))))))) (by kernel_rfl) (by kernel_rfl)
end
end T39
end Go.Proofs.YtieneaffjelhhaaGreat
