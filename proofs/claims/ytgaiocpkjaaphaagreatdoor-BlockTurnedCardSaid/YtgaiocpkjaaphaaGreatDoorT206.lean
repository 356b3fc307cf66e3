/- A closed test by the evaluator, in parts: calls that are known, each in the state in which it is made; part 6. -/
import Derived.Test.YtgaiocpkjaaphaaGreatDoorT20H
import Derived.Test.YtgaiocpkjaaphaaGreatDoorT204
import Derived.Test.YtgaiocpkjaaphaaGreatDoorT205
set_option linter.unusedVariables false
set_option linter.unusedSimpArgs false
set_option maxRecDepth 1000000
namespace Go.Proofs.YtgaiocpkjaaphaaGreatDoor
open Go Go.Vc Go.Ev
namespace T20
def q26 : St := ⟨.e, 19, 20, .e, [(1, [(I 200), (I 600), (I 1200), (I 2400)])]⟩
def r26 : St := ⟨.e, 23, 24, .e, [(1, [(I 200), (I 600), (I 1200), (I 2400)])]⟩
abbrev e26 : Ev.Ent := .s 41 [(.s [97])] q26 (.s [97]) r26
theorem e26_ok : Ev.EntOk Tryz.prog e26 := Ev.entS mixed (k := 5000) Ev.ora_nil (by kernel_rfl) (by kernel_rfl)
def q5 : St := ⟨(.nd (.nd (.nd (.nd (.nd (.nd (.nd (.nd (.nd (.nd (.nd (.nd (.nd (.nd (.lf 0 (some (65, [(.l none 0 0), (.i .u8 (.ofNat 0)), (I 0)]))) .e) .e) .e) .e) .e) .e) .e) .e) .e) .e) .e) .e) .e) .e), 1, 2, .e, [(1, [(I 200), (I 600), (I 1200), (I 2400)])]⟩
def r5 : St := ⟨(.nd (.nd (.nd (.nd (.nd (.nd (.nd (.nd (.nd (.nd (.nd (.nd (.nd (.nd (.lf 0 (some (65, [(.l (some (694, 0)) 16 16), (.i .u8 (.ofNat 128)), (I 131)]))) .e) .e) .e) .e) .e) .e) .e) .e) .e) .e) .e) .e) (.nd .e (.nd (.nd .e (.nd .e (.nd (.nd .e (.nd (.nd .e (.nd (.nd (.nd (.nd (.lf 694 (some (5, [(.i .u8 (.ofNat 25)), (.i .u8 (.ofNat 147)), (.i .u8 (.ofNat 155)), (.i .u8 (.ofNat 107)), (.i .u8 (.ofNat 0)), (.i .u8 (.ofNat 0)), (.i .u8 (.ofNat 0)), (.i .u8 (.ofNat 1)), (.i .u8 (.ofNat 0)), (.i .u8 (.ofNat 32)), (.i .u8 (.ofNat 0)), (.i .u8 (.ofNat 32)), (.i .u8 (.ofNat 0)), (.i .u8 (.ofNat 33)), (.i .u8 (.ofNat 24)), (.i .u8 (.ofNat 70))]))) .e) .e) .e) .e)) .e)) .e))) .e))) .e), 715, 716, .e, [(1, [(I 200), (I 600), (I 1200), (I 2400)])]⟩
abbrev e5 : Ev.Ent := .s 10 [(.p (some (0, 0))), (.s [97]), (.i .u32 (.ofNat 429103979))] q5 (I 0) r5
theorem e5_ok : Ev.EntOk Tryz.prog e5 := Ev.entS mixed (k := 5000) (Ev.ora_cons e26_ok (Ev.ora_cons e37_ok (Ev.ora_cons e643_ok Ev.ora_nil))) (by kernel_rfl) (by kernel_rfl)
end T20
end Go.Proofs.YtgaiocpkjaaphaaGreatDoor
