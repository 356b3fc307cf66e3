/- A closed test by the evaluator, in parts: calls that are known, each in the state in which it is made; part 7. -/
import Derived.Test.YtieneaffjelhhaaGreatT39H
set_option linter.unusedVariables false
set_option linter.unusedSimpArgs false
set_option maxRecDepth 1000000
namespace Go.Proofs.YtieneaffjelhhaaGreat
open Go Go.Vc Go.Ev
namespace T39
noncomputable section
def q1080:St:=⟨tr [(695,b21)],696,697,.e,[]⟩
def r1080:St:=⟨tr [(695,b21),(721,b1)],874,875,.e,[]⟩
abbrev e1080:Ev.Ent:=.s 93 [(.l (some (695,0)) 5 5)] q1080 (.l (some (721,0)) 5 5) r1080
theorem Zx2:Ev.EntOk Tryz.prog e1080:=Ev.entS mixed (k:=5000) Ev.Za7 (by kernel_rfl) (by kernel_rfl)
def q1031:St:=⟨tr [(505,b22)],506,507,.e,[]⟩
def r1031:St:=⟨tr [(505,b22),(531,b1)],684,685,.e,[]⟩
abbrev e1031:Ev.Ent:=.s 93 [(.l (some (505,0)) 5 5)] q1031 (.l (some (531,0)) 5 5) r1031
theorem Zww:Ev.EntOk Tryz.prog e1031:=Ev.entS mixed (k:=5000) Ev.Za7 (by kernel_rfl) (by kernel_rfl)
def q984:St:=⟨tr [(107,b17),(148,b1),(338,b1),(492,b94)],493,494,.e,[]⟩
def r984:St:=⟨tr [(107,b17),(148,b1),(338,b1),(492,b94)],493,494,.e,[]⟩
abbrev e984:Ev.Ent:=.s 92 [(.l (some (107,0)) 4 4),(.l (some (492,0)) 2 2)] q984 (I 0) r984
theorem Ya1:Ev.EntOk Tryz.prog e984:=Ev.entS mixed (k:=5000) Ev.Za7 (by kernel_rfl) (by kernel_rfl)
def q941:St:=⟨tr [(312,b21)],313,314,.e,[]⟩
def r941:St:=⟨tr [(312,b21),(338,b1)],491,492,.e,[]⟩
abbrev e941:Ev.Ent:=.s 93 [(.l (some (312,0)) 5 5)] q941 (.l (some (338,0)) 5 5) r941
theorem Zzo:Ev.EntOk Tryz.prog e941:=Ev.entS mixed (k:=5000) Ev.Za7 (by kernel_rfl) (by kernel_rfl)
end
end T39
end Go.Proofs.YtieneaffjelhhaaGreat
