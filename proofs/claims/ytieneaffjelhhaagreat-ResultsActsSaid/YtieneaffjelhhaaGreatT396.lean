/- A closed test by the evaluator, in parts: calls that are known, each in the state in which it is made; part 6. -/
import Derived.Test.YtieneaffjelhhaaGreatT39H
set_option linter.unusedVariables false
set_option linter.unusedSimpArgs false
set_option maxRecDepth 1000000
namespace Go.Proofs.YtieneaffjelhhaaGreat
open Go Go.Vc Go.Ev
namespace T39
noncomputable section
def q1262:St:=⟨tr [(107,b17),(914,b1),(1104,b1),(1258,b92)],1259,1260,.e,[]⟩
def r1262:St:=⟨tr [(107,b17),(914,b1),(1104,b1),(1258,b92)],1259,1260,.e,[]⟩
abbrev e1262:Ev.Ent:=.s 92 [(.l (some (107,0)) 4 4),(.l (some (1258,0)) 2 2)] q1262 (I 0) r1262
theorem Zwz:Ev.EntOk Tryz.prog e1262:=Ev.entS mixed (k:=5000) Ev.Za7 (by kernel_rfl) (by kernel_rfl)
def q1219:St:=⟨tr [(1078,b21)],1079,1080,.e,[]⟩
def r1219:St:=⟨tr [(1078,b21),(1104,b1)],1257,1258,.e,[]⟩
abbrev e1219:Ev.Ent:=.s 93 [(.l (some (1078,0)) 5 5)] q1219 (.l (some (1104,0)) 5 5) r1219
theorem Zwr:Ev.EntOk Tryz.prog e1219:=Ev.entS mixed (k:=5000) Ev.Za7 (by kernel_rfl) (by kernel_rfl)
def q1170:St:=⟨tr [(888,b22)],889,890,.e,[]⟩
def r1170:St:=⟨tr [(888,b22),(914,b1)],1067,1068,.e,[]⟩
abbrev e1170:Ev.Ent:=.s 93 [(.l (some (888,0)) 5 5)] q1170 (.l (some (914,0)) 5 5) r1170
theorem Zx9:Ev.EntOk Tryz.prog e1170:=Ev.entS mixed (k:=5000) Ev.Za7 (by kernel_rfl) (by kernel_rfl)
def q1123:St:=⟨tr [(107,b17),(531,b1),(721,b1),(875,b93)],876,877,.e,[]⟩
def r1123:St:=⟨tr [(107,b17),(531,b1),(721,b1),(875,b93)],876,877,.e,[]⟩
abbrev e1123:Ev.Ent:=.s 92 [(.l (some (107,0)) 4 4),(.l (some (875,0)) 2 2)] q1123 (I 0) r1123
theorem Zx3:Ev.EntOk Tryz.prog e1123:=Ev.entS mixed (k:=5000) Ev.Za7 (by kernel_rfl) (by kernel_rfl)
end
end T39
end Go.Proofs.YtieneaffjelhhaaGreat
