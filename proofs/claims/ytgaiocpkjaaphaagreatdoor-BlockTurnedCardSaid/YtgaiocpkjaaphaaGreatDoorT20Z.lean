/- A closed test by the evaluator, in parts: calls that are known, each in the state in which it is made; part 7. -/
import Derived.Test.YtgaiocpkjaaphaaGreatDoorT20H
import Derived.Test.YtgaiocpkjaaphaaGreatDoorT02
import Derived.Test.YtgaiocpkjaaphaaGreatDoorT200
import Derived.Test.YtgaiocpkjaaphaaGreatDoorT202
import Derived.Test.YtgaiocpkjaaphaaGreatDoorT206
set_option linter.unusedVariables false
set_option linter.unusedSimpArgs false
set_option maxRecDepth 1000000
namespace Go.Proofs.YtgaiocpkjaaphaaGreatDoor
open Go Go.Vc Go.Ev
namespace T20
abbrev known : List Ev.Ent := [e5, e1238, e1754, (.c F.crc_Table [] (.g T02.tabX))]
theorem known_ok : Ev.OraOk Tryz.prog known := (Ev.ora_cons e5_ok (Ev.ora_cons e1238_ok (Ev.ora_cons e1754_ok (Ev.ora_cons T02.ent Ev.ora_nil))))
theorem test_true : Ev.isTrue (Ev.callF Tryz.prog known (Ev.evF Tryz.prog known 5000) 8 [] (Ev.s0G [(1, [(I 200), (I 600), (I 1200), (I 2400)])])) = true := by kernel_rfl
end T20
end Go.Proofs.YtgaiocpkjaaphaaGreatDoor
