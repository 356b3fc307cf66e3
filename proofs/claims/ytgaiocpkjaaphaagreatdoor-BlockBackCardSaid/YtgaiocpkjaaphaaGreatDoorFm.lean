/- Formulas of the program's functions, printed by a program of the prover's own (dec.py); each is tied to its code by the kernel. -/
import Derived.Test.YtgaiocpkjaaphaaGreatDoorVc
import Derived.Test.YtgaiocpkjaaphaaGreatDoorChecked
set_option linter.unusedVariables false
set_option maxRecDepth 1000000
namespace Go.Proofs.YtgaiocpkjaaphaaGreatDoor
open Go Go.Vc Tryz Vc.H
abbrev KT := Value -> World -> Prop
abbrev I (n : Int) : Value := .int .i64 n
abbrev Bv (o : BinOp) (a b : Value) (A B : Prop) : Prop := Bp o a b fun x => Vif x A B
abbrev KS (a : List Value) (X : Prop) : Prop := KE a a X
variable {a0 a1 a2 a3 a4 a5 a6 a7 a8 a9 : Value}
variable {w : World} {R : Value -> World -> Prop}

def Vz5 (P : Program) (a0 a1 : Value) (w : World) (R : KT) : Prop :=
 Lns a0 fun x1=>Bmin P #[3, 3] 3 #[x1, (I 300)] w fun x2=>Sst a0 none (some x2) fun x3=>Cl P 19 #[x3] w fun x4 w1=>VJoin 1 (fun _ x5 w2=>Vif x5 (Cl P 8 #[] w2 fun x6 w3=>R x6 w3) (Cl P 20 #[a0] w2 fun x7 w4=>Cl P 9 #[] w4 fun x8 w5=>Cl P 10 #[x8, x4, x7] w5 fun x9 w6=>Cl P 11 #[x8] w6 fun x10 w7=>Cl P 12 #[x8] w7 fun x11 w8=>Cl P 13 #[x8] w8 fun x12 w9=>Bp .add x12 a1 fun x13=>Cl P 21 #[x13] w9 fun x14 w10=>Lns x4 fun x15=>Bmax P #[3, 3] 3 #[(I 5), x15] w10 fun x16=>Cl P 22 #[x14, x16] w10 fun x17 w11=>Ex x17 0 fun x18=>Ex x17 1 fun x19=>New (zeroP P 34) 34 w11 fun y20 w12=>StA 3 y20 x18 w12 fun w13=>LdA 3 y20 w13 fun x21=>Cl P 23 #[x21] w13 fun x22 w14=>Ex x22 0 fun x23=>Ex x22 1 fun x24=>Cl P 24 #[x4] w14 fun x25 w15=>New (zeroP P 48) 48 w15 fun y26 w16=>StA 2 y26 x25 w16 fun w17=>Bp .eql x9 (I 0) fun x27=>Vif x27 (Bv .eql x19 (I 0) (Bv .eql x24 (I 0) (Bv .eql x23 a0 (Fo 0 y20 fun x31=>Ld x31 w17 fun x32=>Fo 0 y26 fun x33=>Ld x33 w17 fun x34=>Bv .eql x32 x34 (Fo 1 y20 fun x36=>Ld x36 w17 fun x37=>Fo 1 y26 fun x38=>Ld x38 w17 fun x39=>Bv .eql x37 x39 (Fo 2 y20 fun x41=>Ld x41 w17 fun x42=>Bv .eql x42 x7 (Cl P 25 #[x14] w17 fun x44 w18=>Bv .eql x44 x10 (Cl P 8 #[] w18 fun x46 w19=>R x46 w19) (R (.bool false) w18)) (R (.bool false) w17)) (R (.bool false) w17)) (R (.bool false) w17)) (R (.bool false) w17)) (R (.bool false) w17)) (R (.bool false) w17)) (R (.bool false) w17))) (fun J47=>Lns a0 fun x48=>Bv .gtr x48 (I 300) (KS [a0, a1, x4]<|J47 (.bool true) w1) (Bv .eql a0 (.string ⟨#[]⟩) (KS [a0, a1, x4]<|J47 (.bool true) w1) (Lns x4 fun x51=>Bv .gtr x51 (I 40) (KS [a0, a1, x4]<|J47 (.bool true) w1) (Lns a1 fun x53=>Bp .gtr x53 (I 100) fun x54=>KS [a0, a1, x4]<|J47 x54 w1))))
theorem Tz5 (h : Vz5 prog a0 a1 w R) : Cl prog 5 #[a0, a1] w R :=
 tz 115 [(.tmp 4)] (s z (s z (s (j [38] [0, 1, 5] z (i (s z z) z)) (s z (s z (s z (s z (s z (s z (s z (s z (s z (s z z))))))))))))) [a0, a1] func5 h
def Vz8 (P : Program) (w : World) (R : KT) : Prop :=
 Cl P 9 #[] w fun x1 w1=>Cl P 20 #[(.string ⟨#[97]⟩)] w1 fun x2 w2=>Cl P 10 #[x1, (.string ⟨#[97]⟩), x2] w2 fun x3 w3=>Cl P 11 #[x1] w3 fun x4 w4=>Cl P 12 #[x1] w4 fun x5 w5=>Cl P 13 #[x1] w5 fun x6 w6=>Cl P 21 #[x6] w6 fun x7 w7=>Cl P 22 #[x7, (I 5)] w7 fun x8 w8=>Ex x8 0 fun x9=>Ex x8 1 fun x10=>New (zeroP P 34) 34 w8 fun y11 w9=>StA 3 y11 x9 w9 fun w10=>LdA 3 y11 w10 fun x12=>Cl P 23 #[x12] w10 fun x13 w11=>Ex x13 0 fun x14=>Ex x13 1 fun x15=>Bv .eql x3 (I 0) (Bv .eql x10 (I 0) (Bv .eql x15 (I 0) (Fo 0 y11 fun x19=>Ld x19 w11 fun x20=>Bv .eql x20 (.string ⟨#[97]⟩) (Fo 1 y11 fun x22=>Ld x22 w11 fun x23=>Bv .eql x23 (I 0) (Bv .eql x14 (.string ⟨#[97]⟩) (Cl P 25 #[x7] w11 fun x26 w12=>Bp .eql x26 x4 fun x27=>Pk x27 (.bool true) (.bool false) fun x28=>Pk x28 (.bool true) (.bool false) fun x29=>R x29 w12) (R (.bool false) w11)) (R (.bool false) w11)) (R (.bool false) w11)) (R (.bool false) w11)) (R (.bool false) w11)) (R (.bool false) w11)
theorem Tz8 (h : Vz8 prog w R) : Cl prog 8 #[] w R :=
 tz 64 [(.tmp 0)] (s z (s z (s z (s z (s z (s z (s z (s z (s z z))))))))) [] func8 h
def Vz9 (P : Program) (w : World) (R : KT) : Prop :=
 Bd P 65 #[] w fun x1=>New x1 65 w fun x2 w1=>R x2 w1
theorem Tz9 (h : Vz9 prog w R) : Cl prog 9 #[] w R :=
 tz 3 [(.tmp 0)] (s z (s z z)) [] func9 h
def Vz10 (P : Program) (a0 a1 a2 : Value) (w : World) (R : KT) : Prop :=
 Bn P 65 false a0 (.pointer none) fun x1=>Vif x1 (R (I 7) w) (Cl P 38 #[a1] w fun x2 w1=>Ex x2 0 fun x3=>Ex x2 1 fun x4=>Ex x2 2 fun x5=>Bv .neq x5 (I 0) (R (I 1) w1) (Cl P 16 #[a0, x3, x4, a2] w1 fun x7 w2=>R x7 w2))
theorem Tz10 (h : Vz10 prog a0 a1 a2 w R) : Cl prog 10 #[a0, a1, a2] w R :=
 tz 25 [(.tmp 6)] (s z (s (s z (i (s z z) z)) (s z (s (s z (i (s z z) z)) (s z z))))) [a0, a1, a2] func10 h
def Vz11 (P : Program) (a0 : Value) (w : World) (R : KT) : Prop :=
 Bn P 65 false a0 (.pointer none) fun x1=>Vif x1 (R (I 0) w) (Nc a0<|Fo 2 a0 fun x2=>Ld x2 w fun x3=>R x3 w)
theorem Tz11 (h : Vz11 prog a0 w R) : Cl prog 11 #[a0] w R :=
 tz 9 [(.tmp 2)] (s z (s (s z (i (s z z) z)) (s z z))) [a0] func11 h
def Vz12 (P : Program) (a0 : Value) (w : World) (R : KT) : Prop :=
 VLoop 0 [] w fun _ n1 w1=>Bn P 65 true a0 (.pointer none) fun x2=>Vif x2 (Nc a0<|Fo 2 a0 fun x3=>Ld x3 w1 fun x4=>Bp .rem x4 (I 8) fun x5=>Bp .neq x5 (I 0) fun x6=>Vif x6 (Cl P 39 #[a0, (.int .u8 0)] w1 fun x7 w2=>KS [a0]<|n1 w2) (R (.tuple #[]) w1)) (R (.tuple #[]) w1)
theorem Tz12 (h : Vz12 prog a0 w R) : Cl prog 12 #[a0] w R :=
 tz 14 [] (b (l [] [0] (s (s z (i z z)) (b z)))) [a0] func12 h
def Vz13 (P : Program) (a0 : Value) (w : World) (R : KT) : Prop :=
 Bn P 65 false a0 (.pointer none) fun x1=>Vif x1 (R (.string ⟨#[]⟩) w) (Nc a0<|Fo 0 a0 fun x2=>Ld x2 w fun x3=>Cw P 54 9 x3 w fun x4 w1=>Nc a0<|Fo 0 a0 fun x5=>St x5 (.slice none 0 0) w1 fun w2=>R x4 w2)
theorem Tz13 (h : Vz13 prog a0 w R) : Cl prog 13 #[a0] w R :=
 tz 15 [(.tmp 2)] (s z (s (s z (i (s z z) z)) (s z (s z (s z z))))) [a0] func13 h
def Vz16 (P : Program) (a0 a1 a2 a3 : Value) (w : World) (R : KT) : Prop :=
 Bn P 65 false a0 (.pointer none) fun x1=>Vif x1 (R (I 7) w) (VJoin 1 (fun _ x2 w1=>Vif x2 (R (I 1) w1) (Cl P 41 #[a1] w1 fun x3 w2=>Cl P 42 #[a1, x3] w2 fun x4 w3=>Ex x4 0 fun x5=>Ex x4 1 fun x6=>Lns x3 fun x7=>Cl P 43 #[x5, x7] w3 fun x8 w4=>Ex x8 0 fun x9=>Ex x8 1 fun x10=>Lns x3 fun x11=>Bp .add x11 (I 2) fun x12=>Cl P 44 #[x9, x12] w4 fun x13 w5=>Ex x13 0 fun x14=>Ex x13 1 fun x15=>Bp .neq x15 (I 0) fun x16=>Vif x16 (R x15 w5) (Cl P 45 #[a0, a3, (I 32)] w5 fun x17 w6=>Cl P 45 #[a0, (.int .u32 0), (I 1)] w6 fun x18 w7=>Ci .u32 a2 fun x19=>Cl P 45 #[a0, x19, (I 24)] w7 fun x20 w8=>Cl P 46 #[a0, x3] w8 fun x21 w9=>Lns x3 fun x22=>Bp .add x22 (I 2) fun x23=>Cl P 47 #[a0, x9, x23] w9 fun x24 w10=>R x24 w10))) (fun J25=>Bp .eql a1 (.string ⟨#[]⟩) fun x26=>Vif x26 (KS [a0, a1, a2, a3]<|J25 (.bool true) w) (Lns a1 fun x27=>Bv .gtr x27 (I 900000) (KS [a0, a1, a2, a3]<|J25 (.bool true) w) (Bv .lss a2 (I 0) (KS [a0, a1, a2, a3]<|J25 (.bool true) w) (Lns a1 fun x30=>Bp .geq a2 x30 fun x31=>KS [a0, a1, a2, a3]<|J25 x31 w)))))
theorem Tz16 (h : Vz16 prog a0 a1 a2 a3 w R) : Cl prog 16 #[a0, a1, a2, a3] w R :=
 tz 81 [(.tmp 8)] (s z (s (b (s z (i (s z z) (j [19] [0, 1, 2, 3] z (i (s z z) z))))) (s z (s z (s z (s (s z (s z (i (s z z) z))) (s z (s z (s z (s z (s z z))))))))))) [a0, a1, a2, a3] func16 h
def Vz19 (P : Program) (a0 : Value) (w : World) (R : KT) : Prop :=
 Cl P 54 #[a0] w fun x1 w1=>Lnl x1 fun x2=>VLoop 2 [(.string ⟨#[]⟩), (I 0)] w1 fun _ n5 y3 x4 w2=>Bv .lss x4 x2 (Ias 2 x1 x4 fun x7=>LdA 2 x7 w2 fun x8=>New (zeroP P 86) 86 w2 fun y9 w3=>StA 2 y9 x8 w3 fun w4=>LdA 2 y9 w4 fun x10=>Cl P 55 #[x10] w4 fun x11 w5=>Bp .add y3 x11 fun x12=>Bp .add x4 (I 1) fun x13=>KS [x1, x2]<|n5 x12 x13 w5) (R y3 w2)
theorem Tz19 (h : Vz19 prog a0 w R) : Cl prog 19 #[a0] w R :=
 tz 19 [(.tmp 2)] (s z (s z (s (s z (b (l [3, 9] [7, 8] (s z (s (i z z) (s (b (s z z)) z)))))) (s z z)))) [a0] func19 h
def Vz20 (P : Program) (a0 : Value) (w : World) (R : KT) : Prop :=
 VLoop 2 [(.int .u32 4294967295), (I 0)] w fun _ n3 x1 y2 w1=>Lns a0 fun x4=>Bv .lss y2 x4 (Ixs a0 y2 fun x6=>Cl P 56 #[x1, x6] w1 fun x7 w2=>Bp .add y2 (I 1) fun x8=>KS [a0]<|n3 x7 x8 w2) (Bp .sub (.int .u32 4294967295) x1 fun x9=>R x9 w1)
theorem Tz20 (h : Vz20 prog a0 w R) : Cl prog 20 #[a0] w R :=
 tz 18 [(.tmp 2)] (s z (s z (s (s z (b (l [3, 4] [0] (s (s z (i z z)) (s (b z) z))))) (s z z)))) [a0] func20 h
def Vz21 (P : Program) (a0 : Value) (w : World) (R : KT) : Prop :=
 Bd P 90 #[(0, a0)] w fun x1=>New x1 90 w fun x2 w1=>R x2 w1
theorem Tz21 (h : Vz21 prog a0 w R) : Cl prog 21 #[a0] w R :=
 tz 6 [(.tmp 2)] (s z (s z z)) [a0] func21 h
def Vz22 (P : Program) (a0 a1 : Value) (w : World) (R : KT) : Prop :=
 New (zeroP P 34) 34 w fun x1 w1=>Bn P 90 false a0 (.pointer none) fun x2=>Vif x2 (Bd P 34 #[] w1 fun x3=>StA 3 x1 x3 w1 fun w2=>LdA 3 x1 w2 fun x4=>R (.tuple #[x4, (I 7)]) w2) (Cl P 57 #[a1] w1 fun x5 w3=>Ex x5 0 fun x6=>Ex x5 1 fun x7=>Bv .neq x7 (I 0) (Bd P 34 #[] w3 fun x9=>StA 3 x1 x9 w3 fun w4=>LdA 3 x1 w4 fun x10=>R (.tuple #[x10, x7]) w4) (Cl P 25 #[a0] w3 fun x11 w5=>VLoop 0 [] w5 fun _ n12 w6=>Cl P 58 #[x6] w6 fun x13 w7=>Up .not x13 fun x14=>Vif x14 (Cl P 59 #[x6, a0] w7 fun x15 w8=>Bv .neq x15 (I 0) (Cl P 60 #[a0, x11] w8 fun x17 w9=>Bd P 34 #[] w9 fun x18=>StA 3 x1 x18 w9 fun w10=>LdA 3 x1 w10 fun x19=>R (.tuple #[x19, x15]) w10) (KS [a0, x1, x6, x11]<|n12 w8)) (Cl P 61 #[x6] w7 fun x20 w11=>StA 3 x1 x20 w11 fun w12=>LdA 3 x1 w12 fun x21=>R (.tuple #[x21, (I 0)]) w12)))
theorem Tz22 (h : Vz22 prog a0 a1 w R) : Cl prog 22 #[a0, a1] w R :=
 tz 39 [(.cell 4 34), (.tmp 5)] (s z (s (s z (i (s z z) z)) (s z (s (s z (i (s z z) z)) (s z (s (b (l [] [0, 4, 6, 8] (s (s z (i z z)) (b (s z (s z (i (s z (s z z)) z))))))) (s z z))))))) [a0, a1] func22 h
def Vz23 (P : Program) (a0 : Value) (w : World) (R : KT) : Prop :=
 New a0 34 w fun y1 w1=>Fo 0 y1 fun x2=>Ld x2 w1 fun x3=>Fo 1 y1 fun x4=>Ld x4 w1 fun x5=>Cl P 62 #[x3, x5] w1 fun x6 w2=>Ex x6 0 fun x7=>Ex x6 1 fun x8=>Bv .neq x8 (I 0) (R (.tuple #[(.string ⟨#[]⟩), x8]) w2) (Cl P 63 #[x7] w2 fun x10 w3=>Ex x10 0 fun x11=>Ex x10 1 fun x12=>Bv .neq x12 (I 0) (R (.tuple #[(.string ⟨#[]⟩), (I 25)]) w3) (Dr w3 fun w4=>Cl P 64 #[x11] w4 fun x14 w5=>Fo 2 y1 fun x15=>Ld x15 w5 fun x16=>Rk (fun w K=>Ld x15 w fun x17=>K x17) x16 w4<|Bv .neq x14 x16 (R (.tuple #[(.string ⟨#[]⟩), (I 21)]) w5) (R (.tuple #[x11, (I 0)]) w5)))
theorem Tz23 (h : Vz23 prog a0 w R) : Cl prog 23 #[a0] w R :=
 tz 33 [(.tmp 2), (.tmp 3)] (s z (s z (s (s z (i (s z z) z)) (s z (s (b (s z (i (s z z) (s (r (.staged [0, 1, 0, 4, 15, 31])) (i (s z z) z))))) (s z z)))))) [a0] func23 h
def Vz24 (P : Program) (a0 : Value) (w : World) (R : KT) : Prop :=
 New (zeroP P 48) 48 w fun x1 w1=>Cl P 66 #[a0] w1 fun x2 w2=>Cl P 65 #[a0, x2] w2 fun x3 w3=>StA 2 x1 x3 w3 fun w4=>LdA 2 x1 w4 fun x4=>R x4 w4
theorem Tz24 (h : Vz24 prog a0 w R) : Cl prog 24 #[a0] w R :=
 tz 7 [(.cell 2 48)] (s z (s z z)) [a0] func24 h
def Vz25 (P : Program) (a0 : Value) (w : World) (R : KT) : Prop :=
 Bn P 90 false a0 (.pointer none) fun x1=>Vif x1 (R (I 0) w) (Nc a0<|Fo 2 a0 fun x2=>Ld x2 w fun x3=>R x3 w)
theorem Tz25 (h : Vz25 prog a0 w R) : Cl prog 25 #[a0] w R :=
 tz 9 [(.tmp 2)] (s z (s (s z (i (s z z) z)) (s z z))) [a0] func25 h
def Vz29 (P : Program) (a0 : Value) (w : World) (R : KT) : Prop :=
 VLoop 2 [(.string ⟨#[]⟩), (I 0)] w fun _ n3 y1 y2 w1=>Lns a0 fun x4=>Bv .lss y2 x4 (Ixs a0 y2 fun x6=>Ci .u32 x6 fun x7=>Cl P 51 #[x7, (I 8)] w1 fun x8 w2=>Bp .add y1 x8 fun x9=>Bp .add y2 (I 1) fun x10=>KS [a0]<|n3 x9 x10 w2) (R y1 w1)
theorem Tz29 (h : Vz29 prog a0 w R) : Cl prog 29 #[a0] w R :=
 tz 19 [(.tmp 2)] (s z (s z (s (s z (b (l [3, 4] [0] (s (s z (i z z)) (s (b z) z))))) (s z z)))) [a0] func29 h
def Vz38 (P : Program) (a0 : Value) (w : World) (R : KT) : Prop :=
 Cl P 84 #[a0] w fun x1 w1=>Ex x1 0 fun x2=>Ex x1 1 fun x3=>Bv .neq x3 (I 0) (R (.tuple #[(.string ⟨#[]⟩), (I 0), x3]) w1) (VLoop 0 [] w1 fun _ n5 w2=>Cl P 85 #[x2] w2 fun x6 w3=>Up .not x6 fun x7=>Vif x7 (Cl P 86 #[x2, (I 1099511627776)] w3 fun x8 w4=>KS [x2]<|n5 w4) (Cl P 87 #[x2] w3 fun x9 w5=>Ex x9 0 fun x10=>Ex x9 1 fun x11=>R (.tuple #[x10, x11, (I 0)]) w5))
theorem Tz38 (h : Vz38 prog a0 w R) : Cl prog 38 #[a0] w R :=
 tz 29 [(.tmp 2), (.tmp 3), (.tmp 4)] (s z (s z (s (s z (i (s z z) z)) (s (b (l [] [5] (s (s z (i z z)) (b z)))) (s z (s z z)))))) [a0] func38 h
def Vz39 (P : Program) (a0 a1 : Value) (w : World) (R : KT) : Prop :=
 Nc a0<|Fo 2 a0 fun x1=>Ld x1 w fun x2=>Bp .rem x2 (I 8) fun x3=>Dr w fun w1=>Nc a0<|Fo 1 a0 fun x4=>Ld x4 w1 fun x5=>Bp .sub (I 7) x3 fun x7=>Bp .shl a1 x7 fun x8=>Bp .or x5 x8 fun x9=>Nc a0<|Fo 1 a0 fun x10=>St x10 x9 w1 fun w2=>Nc a0<|Fo 2 a0 fun x11=>Ld x11 w2 fun x12=>Bp .add x12 (I 1) fun x13=>Nc a0<|Fo 2 a0 fun x14=>St x14 x13 w2 fun w3=>Bp .eql x3 (I 7) fun x15=>Vif x15 (Dr w3 fun w4=>Nc a0<|Fo 0 a0 fun x16=>Ld x16 w4 fun x17=>Nc a0<|Fo 1 a0 fun x19=>Ld x19 w4 fun x20=>Bs P 54 1 #[(0, x20)] w4 fun x22 w5=>Rk (fun w K=>Ld x16 w fun x18=>K x18) x17 w5<|Ap P #[54, 54] 54 #[x17, x22] w5 fun x23 w6=>Nc a0<|Fo 0 a0 fun x24=>St x24 x23 w6 fun w7=>Nc a0<|Fo 1 a0 fun x25=>St x25 (.int .u8 0) w7 fun w8=>R (.tuple #[]) w8) (R (.tuple #[]) w3)
theorem Tz39 (h : Vz39 prog a0 a1 w R) : Cl prog 39 #[a0, a1] w R :=
 tz 46 [] (s z (s (r (.staged [0, 1, 3, 7, 0, 0, 32, 112, 255, 511, 1023, 2047])) (s z (s z (i (s (r (.staged [0, 0, 2, 6, 14, 0, 32, 96, 224, 480, 1022, 2047, 4095, 8191])) z) z))))) [a0, a1] func39 h
def Vz41 (P : Program) (a0 : Value) (w : World) (R : KT) : Prop :=
 New (zeroP P 139) 139 w fun y1 w1=>Lns a0 fun x2=>VLoop 1 [(I 0)] w1 fun _ n4 x3 w2=>Bv .lss x3 x2 (Ixs a0 x3 fun x6=>Iaa 256 1 y1 x6 fun x7=>St x7 (.bool true) w2 fun w3=>Bp .add x3 (I 1) fun x8=>KS [a0, y1, x2]<|n4 x8 w3) (LdA 256 y1 w2 fun x9=>Cl P 88 #[x9] w2 fun x10 w4=>R x10 w4)
theorem Tz41 (h : Vz41 prog a0 w R) : Cl prog 41 #[a0] w R :=
 tz 17 [(.tmp 2)] (s z (s z (s (s z (b (l [7] [0, 3, 6] (s z (s (i z z) (s (b (s z z)) z)))))) (s z z)))) [a0] func41 h
def Vz42 (P : Program) (a0 a1 : Value) (w : World) (R : KT) : Prop :=
 Cl P 89 #[a1] w fun x1 w1=>Ex x1 0 fun x2=>Ex x1 1 fun x3=>Bv .neq x3 (I 0) (R (.tuple #[(.slice none 0 0), x3]) w1) (Lns a0 fun x5=>Ms P 69 x5 x5 w1 fun x6 w2=>Lnl x6 fun x7=>VLoop 1 [(I 0)] w2 fun _ n9 x8 w3=>Bv .lss x8 x7 (Ixs a0 x8 fun x11=>Cl P 90 #[x2, x11] w3 fun x12 w4=>Ex x12 0 fun x13=>Ex x12 1 fun x14=>Bv .neq x14 (I 0) (R (.tuple #[(.slice none 0 0), x14]) w4) (Ias 1 x6 x8 fun x16=>St x16 x13 w4 fun w5=>Bp .add x8 (I 1) fun x17=>KS [a0, x2, x6, x7]<|n9 x17 w5)) (R (.tuple #[x6, (I 0)]) w3))
theorem Tz42 (h : Vz42 prog a0 a1 w R) : Cl prog 42 #[a0, a1] w R :=
 tz 45 [(.tmp 4), (.tmp 5)] (s z (s z (s (s z (i (s z z) z)) (s z (s (s z (b (l [25] [0, 6, 8, 24] (s z (s (i z z) (s (b (s z (s z (s (s z (i (s z z) z)) z)))) z)))))) (s z z)))))) [a0, a1] func42 h
def Vz43 (P : Program) (a0 a1 : Value) (w : World) (R : KT) : Prop :=
 Cl P 91 #[a1] w fun x1 w1=>Up .not x1 fun x2=>Vif x2 (R (.tuple #[(.slice none 0 0), (I 1)]) w1) (Lnl a0 fun x3=>VLoop 3 [(.slice none 0 0), (I 0), (I 0)] w1 fun _ n7 y4 y5 x6 w2=>Bv .lss x6 x3 (Ias 1 a0 x6 fun x9=>Ld x9 w2 fun x10=>VJoin 1 (fun _ x11 w3=>Vif x11 (R (.tuple #[(.slice none 0 0), (I 1)]) w3) (Bv .eql x10 (I 0) (Bp .add y5 (I 1) fun x13=>Bp .add x6 (I 1) fun x14=>KS [a1, a0, x3]<|n7 y4 x13 x14 w3) (Cl P 92 #[y5] w3 fun x15 w4=>Ap P #[69, 69] 69 #[y4, x15] w4 fun x16 w5=>Bp .add x10 (I 1) fun x17=>Bs P 69 1 #[(0, x17)] w5 fun x18 w6=>Ap P #[69, 69] 69 #[x16, x18] w6 fun x19 w7=>Bp .add x6 (I 1) fun x20=>KS [a1, a0, x3]<|n7 x19 (I 0) x20 w7))) (fun J21=>Bp .lss x10 (I 0) fun x22=>Vif x22 (KS [a1, y4, y5, x10, a0, x3, x6]<|J21 (.bool true) w2) (Bp .geq x10 a1 fun x23=>KS [a1, y4, y5, x10, a0, x3, x6]<|J21 x23 w2))) (Cl P 92 #[y5] w2 fun x24 w8=>Ap P #[69, 69] 69 #[y4, x24] w8 fun x25 w9=>Bp .add a1 (I 1) fun x26=>Bs P 69 1 #[(0, x26)] w9 fun x27 w10=>Ap P #[69, 69] 69 #[x25, x27] w10 fun x28 w11=>R (.tuple #[x28, (I 0)]) w11))
theorem Tz43 (h : Vz43 prog a0 a1 w R) : Cl prog 43 #[a0, a1] w R :=
 tz 51 [(.tmp 4), (.tmp 5)] (s z (s (s z (i (s z z) z)) (s z (s z (s (s z (b (l [6, 7, 15] [1, 13, 14] (s z (s (i z z) (s (b (s z (s (b (j [19] [1, 6, 7, 9, 13, 14, 15] z (i (s z z) (s z (i (s z z) z))))) (s z (s z z))))) z)))))) (s z (s z z))))))) [a0, a1] func43 h
def Vz44 (P : Program) (a0 a1 : Value) (w : World) (R : KT) : Prop :=
 Cl P 93 #[a0, a1] w fun x1 w1=>Ex x1 0 fun x2=>Ex x1 1 fun x3=>New (zeroP P 148) 148 w1 fun y4 w2=>StA 2 y4 x2 w2 fun w3=>Bv .neq x3 (I 0) (R (.tuple #[(I 0), x3]) w3) (Fo 1 y4 fun x6=>Ld x6 w3 fun x7=>Fo 0 y4 fun x8=>Ld x8 w3 fun x9=>Lnl x9 fun x10=>Cl P 94 #[x7, x10] w3 fun x11 w4=>Ex x11 0 fun x12=>Ex x11 1 fun x13=>Fo 0 y4 fun x14=>Ld x14 w4 fun x15=>Lnl x15 fun x16=>VLoop 2 [x12, (I 0)] w4 fun _ n19 y17 x18 w5=>Bv .lss x18 x16 (Ias 1 x15 x18 fun x21=>Ld x21 w5 fun x22=>Cl P 95 #[x22] w5 fun x23 w6=>Ex x23 0 fun x24=>Ex x23 1 fun x25=>Bp .add y17 x24 fun x26=>Bp .add x18 (I 1) fun x27=>KS [a0, y4, x15, x16]<|n19 x26 x27 w6) (LdA 2 y4 w5 fun x28=>Cl P 96 #[a0, x28] w5 fun x29 w7=>Ex x29 0 fun x30=>Ex x29 1 fun x31=>Bp .add y17 x30 fun x32=>R (.tuple #[x32, (I 0)]) w7))
theorem Tz44 (h : Vz44 prog a0 a1 w R) : Cl prog 44 #[a0, a1] w R :=
 tz 59 [(.tmp 4), (.tmp 5)] (s z (s z (s (s z (i (s z z) z)) (s z (s (s z (b (l [8, 37] [0, 6, 35, 36] (s z (s (i z z) (s (b (s z (s z z))) z)))))) (s z (s z z))))))) [a0, a1] func44 h
def Vz45 (P : Program) (a0 a1 a2 : Value) (w : World) (R : KT) : Prop :=
 Bn P 65 false a0 (.pointer none) fun x1=>Vif x1 (R (I 7) w) (Cl P 97 #[a1, a2] w fun x2 w1=>Up .not x2 fun x3=>Vif x3 (R (I 1) w1) (VLoop 1 [(I 0)] w1 fun _ n5 x4 w2=>Bv .lss x4 a2 (Bp .sub a2 (I 1) fun x7=>Bp .sub x7 x4 fun x8=>Bp .shr a1 x8 fun x9=>Bp .and x9 (.int .u32 1) fun x10=>Ci .u8 x10 fun x11=>Cl P 39 #[a0, x11] w2 fun x12 w3=>Bp .add x4 (I 1) fun x13=>KS [a0, a1, a2, a2]<|n5 x13 w3) (R (I 0) w2)))
theorem Tz45 (h : Vz45 prog a0 a1 a2 w R) : Cl prog 45 #[a0, a1, a2] w R :=
 tz 31 [(.tmp 6)] (s z (s (b (s z (i (s z z) (s z (i (s z z) z))))) (s (s z (b (l [17] [0, 1, 2, 16] (s z (s (i z z) (s (b (s z z)) z)))))) (s z z)))) [a0, a1, a2] func45 h
def Vz46 (P : Program) (a0 a1 : Value) (w : World) (R : KT) : Prop :=
 Bn P 65 false a0 (.pointer none) fun x1=>Vif x1 (R (I 7) w) (Cl P 98 #[a1] w fun x2 w1=>Up .not x2 fun x3=>Vif x3 (R (I 1) w1) (Cl P 99 #[a1] w1 fun x4 w2=>New (zeroP P 155) 155 w2 fun y5 w3=>StA 16 y5 x4 w3 fun w4=>LdA 16 y5 w4 fun x6=>VLoop 2 [(.int .u32 0), (I 0)] w4 fun _ n9 y7 x8 w5=>Bv .lss x8 (I 16) (Ixa 16 1 false x6 x8 fun x11=>Bv .neq x11 (.int .u32 0) (Bp .sub (I 15) x8 fun x13=>Bp .shl (.int .u32 1) x13 fun x14=>Bp .or y7 x14 fun x15=>Bp .add x8 (I 1) fun x16=>KS [a0, y5, x6]<|n9 x15 x16 w5) (Bp .add x8 (I 1) fun x17=>KS [a0, y5, x6]<|n9 y7 x17 w5)) (Cl P 45 #[a0, y7, (I 16)] w5 fun x18 w6=>LdA 16 y5 w6 fun x19=>VLoop 1 [(I 0)] w6 fun _ n21 x20 w7=>Bp .lss x20 (I 16) fun x22=>Vif x22 (Ixa 16 1 false x19 x20 fun x23=>Bv .neq x23 (.int .u32 0) (Cl P 45 #[a0, x23, (I 16)] w7 fun x25 w8=>Bp .add x20 (I 1) fun x26=>KS [a0, x19]<|n21 x26 w8) (Bp .add x20 (I 1) fun x27=>KS [a0, x19]<|n21 x27 w7)) (R (I 0) w7))))
theorem Tz46 (h : Vz46 prog a0 a1 w R) : Cl prog 46 #[a0, a1] w R :=
 tz 46 [(.tmp 4)] (s z (s (b (s z (i (s z z) (s z (i (s z z) z))))) (s z (s z (s (s z (b (l [6, 21] [0, 5, 20] (s z (s (i z z) (s (b (s z (s z (i z z)))) z)))))) (s z (s (s z (b (l [37] [0, 36] (s z (s (i z z) (s (b (s z (s z (i z z)))) z)))))) (s z z)))))))) [a0, a1] func46 h
def Vz47 (P : Program) (a0 a1 a2 : Value) (w : World) (R : KT) : Prop :=
 Bn P 65 false a0 (.pointer none) fun x1=>Vif x1 (R (I 7) w) (Cl P 93 #[a1, a2] w fun x2 w1=>Ex x2 0 fun x3=>Ex x2 1 fun x4=>New (zeroP P 148) 148 w1 fun y5 w2=>StA 2 y5 x3 w2 fun w3=>Bv .neq x4 (I 0) (R x4 w3) (Fo 1 y5 fun x7=>Ld x7 w3 fun x8=>Fo 0 y5 fun x9=>Ld x9 w3 fun x10=>Lnl x10 fun x11=>Cl P 100 #[a0, x8, x11] w3 fun x12 w4=>Fo 0 y5 fun x13=>Ld x13 w4 fun x14=>Lnl x14 fun x15=>VLoop 2 [(.slice none 0 0), (I 0)] w4 fun _ n18 y16 x17 w5=>Bv .lss x17 x15 (Ias 1 x14 x17 fun x20=>Ld x20 w5 fun x21=>Cl P 101 #[a0, x21] w5 fun x22 w6=>Cl P 102 #[x21] w6 fun x23 w7=>Ex x23 0 fun x24=>Ex x23 1 fun x25=>Bs P 157 1 #[(0, x24)] w7 fun x26 w8=>Ap P #[157, 157] 157 #[y16, x26] w8 fun x27 w9=>Bp .add x17 (I 1) fun x28=>KS [a0, a1, y5, x14, x15]<|n18 x27 x28 w9) (Lnl a1 fun x29=>VLoop 1 [(I 0)] w5 fun _ n31 x30 w10=>Bp .lss x30 x29 fun x32=>Vif x32 (Ias 1 a1 x30 fun x33=>Ld x33 w10 fun x34=>Fo 1 y5 fun x35=>Ld x35 w10 fun x36=>Bp .quo x30 (I 50) fun x37=>Ias 1 x36 x37 fun x38=>Ld x38 w10 fun x39=>Ias 1 y16 x39 fun x40=>Ld x40 w10 fun x41=>Cl P 103 #[x41, a0, x34] w10 fun x42 w11=>Bp .add x30 (I 1) fun x43=>KS [a0, y5, y16, a1, x29]<|n31 x43 w11) (R (I 0) w10))))
theorem Tz47 (h : Vz47 prog a0 a1 a2 w R) : Cl prog 47 #[a0, a1, a2] w R :=
 tz 74 [(.tmp 6)] (s z (s (s z (i (s z z) z)) (s z (s (s z (i (s z z) z)) (s z (s z (s (s z (b (l [9, 37] [0, 1, 7, 35, 36] (s z (s (i z z) (s (b (s z (s z (s z z)))) z)))))) (s (s z (b (l [56] [0, 7, 9, 54, 55] (s z (s (i z z) (s (b (s z z)) z)))))) (s z z))))))))) [a0, a1, a2] func47 h
def Vz48 (P : Program) (a0 : Value) (w : World) (R : KT) : Prop :=
 VLoop 2 [(.string ⟨#[]⟩), (I 0)] w fun _ n3 y1 x2 w1=>Bv .lss x2 (I 256) (Cl P 104 #[a0, x2] w1 fun x5 w2=>Vif x5 (Ci .u8 x2 fun x6=>Bs P 54 1 #[(0, x6)] w2 fun x7 w3=>Cw P 54 9 x7 w3 fun x8 w4=>Bp .add y1 x8 fun x9=>Bp .add x2 (I 1) fun x10=>KS [a0]<|n3 x9 x10 w4) (Bp .add x2 (I 1) fun x11=>KS [a0]<|n3 y1 x11 w2)) (R y1 w1)
theorem Tz48 (h : Vz48 prog a0 w R) : Cl prog 48 #[a0] w R :=
 tz 19 [(.tmp 2)] (s z (s z (s (s z (b (l [3, 5] [0] (s z (s (i z z) (s (b (s z (s z (i z z)))) z)))))) (s z z)))) [a0] func48 h
def Vz51 (P : Program) (a0 a1 : Value) (w : World) (R : KT) : Prop :=
 VLoop 3 [a0, (.string ⟨#[]⟩), (I 0)] w fun _ n4 y1 y2 x3 w1=>Bv .lss x3 a1 (Bp .rem y1 (.int .u32 2) fun x6=>Bp .rem y1 (.int .u32 2) fun x7=>Bp .add x7 (.int .u32 1) fun x8=>Sst (.string ⟨#[48, 49]⟩) (some x6) (some x8) fun x9=>Bp .add x9 y2 fun x10=>Bp .quo y1 (.int .u32 2) fun x11=>Bp .add x3 (I 1) fun x12=>KS [a1]<|n4 x11 x10 x12 w1) (R y2 w1)
theorem Tz51 (h : Vz51 prog a0 a1 w R) : Cl prog 51 #[a0, a1] w R :=
 tz 21 [(.tmp 4)] (s z (s z (s (s z (b (l [0, 5, 7] [6] (s z (s (i z z) (s (b (s z z)) z)))))) (s z z)))) [a0, a1] func51 h
def Vz54 (P : Program) (a0 : Value) (w : World) (R : KT) : Prop :=
 VLoop 2 [a0, (.slice none 0 0)] w fun _ n3 y1 y2 w1=>Lns y1 fun x4=>Bv .gtr x4 (I 0) (Cl P 113 #[y1] w1 fun x6 w2=>Ixs y1 (I 0) fun x7=>Bd P 86 #[(0, x7), (1, x6)] w2 fun x8=>Bs P 83 1 #[(0, x8)] w2 fun x9 w3=>Ap P #[83, 83] 83 #[y2, x9] w3 fun x10 w4=>Sst y1 (some x6) none fun x11=>KS []<|n3 x11 x10 w4) (R y2 w1)
theorem Tz54 (h : Vz54 prog a0 w R) : Cl prog 54 #[a0] w R :=
 tz 21 [(.tmp 2)] (s z (s z (s (b (l [0, 3] [] (s (s z (i z z)) (b (s z (s z z)))))) (s z z)))) [a0] func54 h
def Vz55 (P : Program) (a0 : Value) (w : World) (R : KT) : Prop :=
 New a0 86 w fun y1 w1=>Fo 1 y1 fun x2=>Ld x2 w1 fun x3=>VLoop 2 [(.string ⟨#[]⟩), (I 0)] w1 fun _ n6 y4 x5 w2=>Bv .lss x5 x3 (Bv .lss x5 (I 4) (Fo 0 y1 fun x9=>Ld x9 w2 fun x10=>Bs P 54 1 #[(0, x10)] w2 fun x11 w3=>Cw P 54 9 x11 w3 fun x12 w4=>Bp .add y4 x12 fun x13=>Bp .add x5 (I 1) fun x14=>KS [y1, x3]<|n6 x13 x14 w4) (Bp .add x5 (I 1) fun x15=>KS [y1, x3]<|n6 y4 x15 w2)) (Fo 1 y1 fun x16=>Ld x16 w2 fun x17=>Bp .geq x17 (I 4) fun x18=>Vif x18 (Fo 1 y1 fun x19=>Ld x19 w2 fun x20=>Bp .sub x20 (I 4) fun x21=>Ci .u8 x21 fun x22=>Bs P 54 1 #[(0, x22)] w2 fun x23 w5=>Cw P 54 9 x23 w5 fun x24 w6=>Bp .add y4 x24 fun x25=>R x25 w6) (R y4 w2))
theorem Tz55 (h : Vz55 prog a0 w R) : Cl prog 55 #[a0] w R :=
 tz 31 [(.tmp 2)] (s z (s z (s (s z (b (l [3, 7] [1, 6] (s z (s (i z z) (s (b (s z (s z (i z z)))) z)))))) (s (s z (i z z)) (s z z))))) [a0] func55 h
def Vz56 (P : Program) (a0 a1 : Value) (w : World) (R : KT) : Prop :=
 Ci .u32 a1 fun x1=>Bp .mul x1 (.int .u32 16777216) fun x2=>Bp .xor a0 x2 fun x3=>Cl P 114 #[x3] w fun x4 w1=>R x4 w1
theorem Tz56 (h : Vz56 prog a0 a1 w R) : Cl prog 56 #[a0, a1] w R :=
 tz 11 [(.tmp 4)] (s z (s z z)) [a0, a1] func56 h
def Vz57 (P : Program) (a0 : Value) (w : World) (R : KT) : Prop :=
 VJoin 1 (fun _ x1 w1=>Vif x1 (R (.tuple #[(.pointer none), (I 1)]) w1) (Bd P 176 #[(1, a0)] w1 fun x2=>New x2 176 w1 fun x3 w2=>R (.tuple #[x3, (I 0)]) w2)) (fun J4=>Bv .lss a0 (I 5) (KS [a0]<|J4 (.bool true) w) (Bp .gtr a0 (I 900000) fun x6=>KS [a0]<|J4 x6 w))
theorem Tz57 (h : Vz57 prog a0 w R) : Cl prog 57 #[a0] w R :=
 tz 13 [(.tmp 2), (.tmp 3)] (s z (s (j [9] [0] z (i (s z z) z)) (s z z))) [a0] func57 h
def Vz58 (P : Program) (a0 : Value) (w : World) (R : KT) : Prop :=
 Bn P 176 true a0 (.pointer none) fun x1=>Vif x1 (Nc a0<|Fo 6 a0 fun x2=>Ld x2 w fun x3=>R x3 w) (R (.bool false) w)
theorem Tz58 (h : Vz58 prog a0 w R) : Cl prog 58 #[a0] w R :=
 tz 11 [(.tmp 2)] (s z (s z z)) [a0] func58 h
def Vz59 (P : Program) (a0 a1 : Value) (w : World) (R : KT) : Prop :=
 VJoin 1 (fun _ x1 w1=>Vif x1 (R (I 7) w1) (Nc a0<|Fo 7 a0 fun x2=>Ld x2 w1 fun x3=>Bv .neq x3 (I 0) (Nc a0<|Fo 7 a0 fun x5=>Ld x5 w1 fun x6=>R x6 w1) (Cl P 115 #[a0, a1] w1 fun x7 w2=>Bv .neq x7 (I 3) (Nc a0<|Fo 7 a0 fun x9=>St x9 x7 w2 fun w3=>R x7 w3) (R x7 w2)))) (fun J10=>Bn P 176 false a0 (.pointer none) fun x11=>Vif x11 (KS [a0, a1]<|J10 (.bool true) w) (Bn P 90 false a1 (.pointer none) fun x12=>Vif x12 (KS [a0, a1]<|J10 (.bool true) w) (Nc a0<|Fo 6 a0 fun x13=>Ld x13 w fun x14=>KS [a0, a1]<|J10 x14 w)))
theorem Tz59 (h : Vz59 prog a0 a1 w R) : Cl prog 59 #[a0, a1] w R :=
 tz 39 [(.tmp 4)] (s z (s (b (j [6] [0, 1] z (i (s z z) (s z (i (s z z) z))))) (s z (s (s z (i z z)) (s z z))))) [a0, a1] func59 h
def Vz60 (P : Program) (a0 a1 : Value) (w : World) (R : KT) : Prop :=
 Bn P 90 false a0 (.pointer none) fun x1=>Vif x1 (R (I 7) w) (VJoin 1 (fun _ x2 w1=>Vif x2 (R (I 1) w1) (Nc a0<|Fo 2 a0 fun x3=>St x3 a1 w1 fun w2=>R (I 0) w2)) (fun J4=>Nc a0<|Fo 1 a0 fun x5=>Ld x5 w fun x6=>Bp .mul (I 8) x6 fun x7=>Bp .lss a1 x7 fun x8=>Vif x8 (KS [a0, a1]<|J4 (.bool true) w) (Cl P 116 #[a0] w fun x9 w3=>Bp .gtr a1 x9 fun x10=>KS [a0, a1]<|J4 x10 w3)))
theorem Tz60 (h : Vz60 prog a0 a1 w R) : Cl prog 60 #[a0, a1] w R :=
 tz 26 [(.tmp 4)] (s z (s (b (s z (i (s z z) (j [8] [0, 1] z (i (s z z) z))))) (s z (s z z)))) [a0, a1] func60 h
def Vz61 (P : Program) (a0 : Value) (w : World) (R : KT) : Prop :=
 New (zeroP P 34) 34 w fun x1 w1=>Cl P 58 #[a0] w1 fun x2 w2=>Up .not x2 fun x3=>Vif x3 (Bd P 34 #[] w2 fun x4=>StA 3 x1 x4 w2 fun w3=>LdA 3 x1 w3 fun x5=>R x5 w3) (Dr w2 fun w4=>Nc a0<|Fo 5 a0 fun x6=>Ld x6 w4 fun x7=>Cv P 54 9 x7 w4 fun x9=>Nc a0<|Fo 4 a0 fun x11=>Ld x11 w4 fun x12=>Nc a0<|Fo 3 a0 fun x14=>Ld x14 w4 fun x15=>Bd P 34 #[(0, x9), (1, x12), (2, x15)] w4 fun x17=>StA 3 x1 x17 w4 fun w5=>LdA 3 x1 w5 fun x19=>R x19 w5)
theorem Tz61 (h : Vz61 prog a0 w R) : Cl prog 61 #[a0] w R :=
 tz 21 [(.cell 2 34)] (s z (s (s z (i (s z z) z)) (s (r (.staged [0, 1, 3, 7, 15, 0, 32, 96, 224, 0, 512, 1536, 3584, 8191, 16383])) z))) [a0] func61 h
def Vz62 (P : Program) (a0 a1 : Value) (w : World) (R : KT) : Prop :=
 Cl P 117 #[a0, a1] w fun x1 w1=>Ex x1 0 fun x2=>Ex x1 1 fun x3=>Bv .neq x3 (I 0) (R (.tuple #[(.string ⟨#[]⟩), x3]) w1) (Lns a0 fun x5=>Bp .mul (I 3) x5 fun x6=>Cl P 118 #[x2, x6] w1 fun x7 w2=>Cl P 119 #[x2] w2 fun x8 w3=>R (.tuple #[x8, (I 0)]) w3)
theorem Tz62 (h : Vz62 prog a0 a1 w R) : Cl prog 62 #[a0, a1] w R :=
 tz 24 [(.tmp 4), (.tmp 5)] (s z (s z (s (s z (i (s z z) z)) (s z (s z z))))) [a0, a1] func62 h
def Vz63 (P : Program) (a0 : Value) (w : World) (R : KT) : Prop :=
 New (zeroP P 54) 54 w fun y1 w1=>Mf P (.func 121) #[] #[y1] w1 fun x2=>Cl P 120 #[a0, x2] w1 fun x3 w2=>Bv .neq x3 (I 0) (R (.tuple #[(.string ⟨#[]⟩), x3]) w2) (Ld y1 w2 fun x5=>Cw P 54 9 x5 w2 fun x6 w3=>R (.tuple #[x6, (I 0)]) w3)
theorem Tz63 (h : Vz63 prog a0 w R) : Cl prog 63 #[a0] w R :=
 tz 14 [(.tmp 2), (.tmp 3)] (s z (s z (s z (s (s z (i (s z z) z)) (s z z))))) [a0] func63 h
def Vz64 (P : Program) (a0 : Value) (w : World) (R : KT) : Prop :=
 Cl P 122 #[] w fun x1 w1=>Cl P 123 #[x1, a0] w1 fun x2 w2=>Cl P 124 #[x1] w2 fun x3 w3=>R x3 w3
theorem Tz64 (h : Vz64 prog a0 w R) : Cl prog 64 #[a0] w R :=
 tz 10 [(.tmp 2)] (s z (s z (s z (s z z)))) [a0] func64 h
def Vz65 (P : Program) (a0 a1 : Value) (w : World) (R : KT) : Prop :=
 New (zeroP P 48) 48 w fun x1 w1=>Bd P 48 #[] w1 fun x2=>New (zeroP P 48) 48 w1 fun y3 w2=>StA 2 y3 x2 w2 fun w3=>Lnl a1 fun x4=>VLoop 1 [(I 0)] w3 fun _ n6 x5 w4=>Bv .lss x5 x4 (Ias 1 a1 x5 fun x8=>Ld x8 w4 fun x9=>Cl P 125 #[a0, x9] w4 fun x10 w5=>Dr w5 fun w6=>Fo 0 y3 fun x11=>Ld x11 w6 fun x12=>Lns x10 fun x14=>Bp .sub x14 (I 1) fun x16=>Sst x10 (some x16) none fun x17=>Bp .add x12 x17 fun x19=>Fo 0 y3 fun x20=>St x20 x19 w6 fun w7=>Bp .eql x9 (I 0) fun x21=>Vif x21 (Fo 1 y3 fun x22=>St x22 x5 w7 fun w8=>Bp .add x5 (I 1) fun x23=>KS [a0, x1, y3, a1, x4]<|n6 x23 w8) (Bp .add x5 (I 1) fun x24=>KS [a0, x1, y3, a1, x4]<|n6 x24 w7)) (LdA 2 y3 w4 fun x25=>StA 2 x1 x25 w4 fun w9=>LdA 2 x1 w9 fun x26=>R x26 w9)
theorem Tz65 (h : Vz65 prog a0 a1 w R) : Cl prog 65 #[a0, a1] w R :=
 tz 35 [(.cell 4 48)] (s z (s z (s (s z (b (l [12] [0, 4, 5, 10, 11] (s z (s (i z z) (s (b (s z (s z (s (r (.staged [0, 1, 0, 0, 8, 24, 60, 127, 255, 511])) (s z (i z z)))))) z)))))) (s z z)))) [a0, a1] func65 h
def Vz66 (P : Program) (a0 : Value) (w : World) (R : KT) : Prop :=
 Lns a0 fun x1=>VLoop 2 [(.slice none 0 0), (I 0)] w fun _ n4 y2 x3 w1=>Bv .lss x3 x1 (Lnl y2 fun x6=>VLoop 3 [(.slice none 0 0), (.bool false), (I 0)] w1 fun _ n10 y7 y8 x9 w2=>Bv .lss x9 x6 (Ias 1 y2 x9 fun x12=>Ld x12 w2 fun x13=>VJoin 2 (fun _ y14 y15 w3=>Bs P 69 1 #[(0, x13)] w3 fun x16 w4=>Ap P #[69, 69] 69 #[y14, x16] w4 fun x17 w5=>Bp .add x9 (I 1) fun x18=>KS [a0, x3, x1, x3, y2, x6]<|n10 x17 y15 x18 w5) (fun J19=>VJoin 1 (fun _ x20 w6=>Vif x20 (Bs P 69 1 #[(0, x3)] w6 fun x21 w7=>Ap P #[69, 69] 69 #[y7, x21] w7 fun x22 w8=>KS [a0, x3, x13, x1, x3, y2, x6, x9]<|J19 x22 (.bool true) w8) (KS [a0, x3, x13, x1, x3, y2, x6, x9]<|J19 y7 y8 w6)) (fun J23=>Up .not y8 fun x24=>Vif x24 (Cl P 126 #[a0, x3, x13] w2 fun x25 w9=>KS [a0, x3, y7, y8, x13, x1, x3, y2, x6, x9]<|J23 x25 w9) (KS [a0, x3, y7, y8, x13, x1, x3, y2, x6, x9]<|J23 (.bool false) w2)))) (VJoin 1 (fun _ y26 w10=>Bp .add x3 (I 1) fun x27=>KS [a0, x1]<|n4 y26 x27 w10) (fun J28=>Up .not y8 fun x29=>Vif x29 (Bs P 69 1 #[(0, x3)] w2 fun x30 w11=>Ap P #[69, 69] 69 #[y7, x30] w11 fun x31 w12=>KS [a0, x1, x3]<|J28 x31 w12) (KS [a0, x1, x3]<|J28 y7 w2)))) (R y2 w1)
theorem Tz66 (h : Vz66 prog a0 w R) : Cl prog 66 #[a0] w R :=
 tz 46 [(.tmp 2)] (s z (s z (s (s z (b (l [3, 11] [0, 10] (s z (s (i z z) (s (b (s z (s z (s z (s (s z (b (l [5, 6, 16] [0, 4, 10, 11, 14, 15] (s z (s (i z z) (s (b (s z (j [5, 6] [0, 4, 8, 10, 11, 14, 15, 16] (j [27] [0, 4, 5, 6, 8, 10, 11, 14, 15, 16] z (i (s z z) z)) z))) z)))))) (j [5] [0, 10, 11] (s z (i z z)) z)))))) z)))))) (s z z)))) [a0] func66 h
def Vz74 (P : Program) (a0 : Value) (w : World) (R : KT) : Prop :=
 Bn P 90 false a0 (.pointer none) fun x1=>Vif x1 (R (I 0) w) (Dr w fun w1=>Cl P 116 #[a0] w1 fun x2 w2=>Nc a0<|Fo 2 a0 fun x3=>Ld x3 w2 fun x4=>Rk (fun w K=>Ld x3 w fun x5=>K x5) x4 w1<|Bp .sub x2 x4 fun x7=>R x7 w2)
theorem Tz74 (h : Vz74 prog a0 w R) : Cl prog 74 #[a0] w R :=
 tz 12 [(.tmp 2)] (s z (s (s z (i (s z z) z)) (s (r (.staged [0, 1, 0, 4, 12, 28, 63, 127])) z))) [a0] func74 h
def Vz79 (P : Program) (a0 : Value) (w : World) (R : KT) : Prop :=
 VLoop 2 [(.int .u32 0), (I 0)] w fun _ n3 y1 y2 w1=>Lns a0 fun x4=>Bv .lss y2 x4 (Bp .mul (.int .u32 2) y1 fun x6=>Ixs a0 y2 fun x7=>Bp .sub x7 (.int .u8 48) fun x8=>Ci .u32 x8 fun x9=>Bp .add x6 x9 fun x10=>Bp .add y2 (I 1) fun x11=>KS [a0]<|n3 x10 x11 w1) (R y1 w1)
theorem Tz79 (h : Vz79 prog a0 w R) : Cl prog 79 #[a0] w R :=
 tz 20 [(.tmp 2)] (s z (s z (s (s z (b (l [3, 4] [0] (s (s z (i z z)) (s (b z) z))))) (s z z)))) [a0] func79 h
def Vz84 (P : Program) (a0 : Value) (w : World) (R : KT) : Prop :=
 Bv .eql a0 (.string ⟨#[]⟩) (R (.tuple #[(.pointer none), (I 1)]) w) (Cl P 134 #[a0] w fun x2 w1=>Ex x2 0 fun x3=>Ex x2 1 fun x4=>Bv .neq x4 (I 0) (R (.tuple #[(.pointer none), x4]) w1) (Bd P 203 #[(0, a0), (1, x3)] w1 fun x6=>New x6 203 w1 fun x7 w2=>R (.tuple #[x7, (I 0)]) w2))
theorem Tz84 (h : Vz84 prog a0 w R) : Cl prog 84 #[a0] w R :=
 tz 20 [(.tmp 2), (.tmp 3)] (s z (s (s z (i (s z z) z)) (s z (s (s z (i (s z z) z)) (s z z))))) [a0] func84 h
def Vz85 (P : Program) (a0 : Value) (w : World) (R : KT) : Prop :=
 Dr w fun w1=>Bn P 203 true a0 (.pointer none) fun x1=>Vif x1 (Nc a0<|Fo 3 a0 fun x2=>Ld x2 w1 fun x3=>Lnl x3 fun x5=>Nc a0<|Fo 0 a0 fun x7=>Ld x7 w1 fun x8=>Lns x8 fun x10=>Bp .eql x5 x10 fun x12=>R x12 w1) (R (.bool false) w1)
theorem Tz85 (h : Vz85 prog a0 w R) : Cl prog 85 #[a0] w R :=
 tz 18 [(.tmp 2)] (s z (s (r (.staged [0, 1, 3, 7, 15, 31, 63, 127, 7, 263, 775, 1799, 3847, 8191, 16383, 32767])) z)) [a0] func85 h
def Vz86 (P : Program) (a0 a1 : Value) (w : World) (R : KT) : Prop :=
 VJoin 1 (fun _ x1 w1=>Vif x1 (R (I 0) w1) (Nc a0<|Fo 1 a0 fun x2=>Ld x2 w1 fun x3=>Cl P 135 #[x3, a1] w1 fun x4 w2=>VJoin 0 (fun _ w3=>VLoop 1 [x4] w3 fun _ n6 y5 w4=>VJoin 1 (fun _ x7 w5=>Vif x7 (Cl P 138 #[a0] w5 fun x8 w6=>Bp .add y5 (I 1) fun x9=>KS [a0, a1]<|n6 x9 w6) (R y5 w5)) (fun J10=>Nc a0<|Fo 1 a0 fun x11=>Ld x11 w4 fun x12=>Cl P 136 #[x12] w4 fun x13 w7=>Vif x13 (Bp .lss y5 a1 fun x14=>Vif x14 (Cl P 85 #[a0] w7 fun x15 w8=>Up .not x15 fun x16=>KS [a0, a1, y5]<|J10 x16 w8) (KS [a0, a1, y5]<|J10 (.bool false) w7)) (KS [a0, a1, y5]<|J10 (.bool false) w7))) (fun J17=>VJoin 1 (fun _ x18 w9=>Vif x18 (Nc a0<|Fo 1 a0 fun x19=>Ld x19 w9 fun x20=>Cl P 137 #[x20] w9 fun x21 w10=>Nc a0<|Fo 2 a0 fun x22=>St x22 x21 w10 fun w11=>KS [a0, a1, x4]<|J17 w11) (KS [a0, a1, x4]<|J17 w9)) (fun J23=>Nc a0<|Fo 2 a0 fun x24=>Ld x24 w2 fun x25=>Be P .eql 69 (.tmp 21) (.const (.slice none 0 0)) x25 (.slice none 0 0) w2 fun x26=>Vif x26 (Nc a0<|Fo 1 a0 fun x27=>Ld x27 w2 fun x28=>Cl P 136 #[x28] w2 fun x29 w12=>KS [a0, a1, x4]<|J23 x29 w12) (KS [a0, a1, x4]<|J23 (.bool false) w2))))) (fun J30=>Bn P 203 false a0 (.pointer none) fun x31=>Vif x31 (KS [a0, a1]<|J30 (.bool true) w) (Bp .lss a1 (I 1) fun x32=>KS [a0, a1]<|J30 x32 w))
theorem Tz86 (h : Vz86 prog a0 a1 w R) : Cl prog 86 #[a0, a1] w R :=
 tz 58 [(.tmp 4)] (s z (s (j [11] [0, 1] z (i (s z z) z)) (s z (j [] [0, 1, 5] (j [29] [0, 1, 5] z (i z z)) (s (b (l [5] [0, 1] (s (j [52] [0, 1, 5] z (i z z)) (b (s z z))))) (s z z)))))) [a0, a1] func86 h
def Vz87 (P : Program) (a0 : Value) (w : World) (R : KT) : Prop :=
 Cl P 85 #[a0] w fun x1 w1=>Up .not x1 fun x2=>Vif x2 (R (.tuple #[(.string ⟨#[]⟩), (I 0)]) w1) (Dr w1 fun w2=>Nc a0<|Fo 3 a0 fun x3=>Ld x3 w2 fun x4=>Cv P 54 9 x4 w2 fun x6=>Nc a0<|Fo 4 a0 fun x8=>Ld x8 w2 fun x9=>R (.tuple #[x6, x9]) w2)
theorem Tz87 (h : Vz87 prog a0 w R) : Cl prog 87 #[a0] w R :=
 tz 16 [(.tmp 2), (.tmp 3)] (s z (s (s z (i (s z z) z)) (s (r (.staged [0, 1, 3, 7, 15, 0, 32, 96, 224, 31, 1023])) z))) [a0] func87 h
def Vz88 (P : Program) (a0 : Value) (w : World) (R : KT) : Prop :=
 New a0 139 w fun y1 w1=>LdA 256 y1 w1 fun x2=>VLoop 2 [(.slice none 0 0), (I 0)] w1 fun _ n5 y3 x4 w2=>Bv .lss x4 (I 256) (Ixa 256 1 false x2 x4 fun x7=>Vif x7 (Ci .u8 x4 fun x8=>Bs P 54 1 #[(0, x8)] w2 fun x9 w3=>Ap P #[54, 54] 54 #[y3, x9] w3 fun x10 w4=>Bp .add x4 (I 1) fun x11=>KS [x2]<|n5 x10 x11 w4) (Bp .add x4 (I 1) fun x12=>KS [x2]<|n5 y3 x12 w2)) (Cw P 54 9 y3 w2 fun x13 w5=>R x13 w5)
theorem Tz88 (h : Vz88 prog a0 w R) : Cl prog 88 #[a0] w R :=
 tz 20 [(.tmp 2)] (s z (s z (s (s z (b (l [3, 7] [6] (s z (s (i z z) (s (b (s z (s z (i z z)))) z)))))) (s z z)))) [a0] func88 h
def Vz89 (P : Program) (a0 : Value) (w : World) (R : KT) : Prop :=
 Cl P 98 #[a0] w fun x1 w1=>Up .not x1 fun x2=>Vif x2 (R (.tuple #[(.pointer none), (I 1)]) w1) (Cw P 9 54 a0 w1 fun x3 w2=>Bd P 206 #[(0, x3)] w2 fun x4=>New x4 206 w2 fun x5 w3=>R (.tuple #[x5, (I 0)]) w3)
theorem Tz89 (h : Vz89 prog a0 w R) : Cl prog 89 #[a0] w R :=
 tz 11 [(.tmp 2), (.tmp 3)] (s z (s (s z (i (s z z) z)) (s z z))) [a0] func89 h
def Vz90 (P : Program) (a0 a1 : Value) (w : World) (R : KT) : Prop :=
 Bn P 206 false a0 (.pointer none) fun x1=>Vif x1 (R (.tuple #[(I 0), (I 7)]) w) (Nc a0<|Fo 0 a0 fun x2=>Ld x2 w fun x3=>Cl P 139 #[x3, a1] w fun x4 w1=>Bv .lss x4 (I 0) (R (.tuple #[(I 0), (I 6)]) w1) (Cl P 140 #[a0, x4] w1 fun x6 w2=>R (.tuple #[x4, (I 0)]) w2))
theorem Tz90 (h : Vz90 prog a0 a1 w R) : Cl prog 90 #[a0, a1] w R :=
 tz 21 [(.tmp 4), (.tmp 5)] (s z (s (s z (i (s z z) z)) (s z (s (s z (i (s z z) z)) (s z (s z z)))))) [a0, a1] func90 h
def Vz91 (P : Program) (a0 : Value) (w : World) (R : KT) : Prop :=
 Bv .geq a0 (I 1) (Bp .leq a0 (I 256) fun x2=>R x2 w) (R (.bool false) w)
theorem Tz91 (h : Vz91 prog a0 w R) : Cl prog 91 #[a0] w R :=
 tz 9 [(.tmp 2)] (s z (s z z)) [a0] func91 h
def Vz92 (P : Program) (a0 : Value) (w : World) (R : KT) : Prop :=
 VLoop 2 [a0, (.slice none 0 0)] w fun _ n3 y1 y2 w1=>Bv .gtr y1 (I 0) (VJoin 1 (fun _ y5 w2=>Bs P 69 1 #[(0, y5)] w2 fun x6 w3=>Ap P #[69, 69] 69 #[y2, x6] w3 fun x7 w4=>Bp .sub y1 y5 fun x8=>Bp .sub x8 (I 1) fun x9=>Bp .quo x9 (I 2) fun x10=>KS []<|n3 x10 x7 w4) (fun J11=>Bp .rem y1 (I 2) fun x12=>Bp .eql x12 (I 1) fun x13=>Vif x13 (KS [y1, y2]<|J11 (I 0) w1) (KS [y1, y2]<|J11 (I 1) w1))) (R y2 w1)
theorem Tz92 (h : Vz92 prog a0 w R) : Cl prog 92 #[a0] w R :=
 tz 20 [(.tmp 2)] (s z (s z (s (b (l [0, 3] [] (s (s z (i z z)) (b (s z (j [4] [0, 3] (s z (i z z)) (s z z))))))) (s z z)))) [a0] func92 h
def Vz93 (P : Program) (a0 a1 : Value) (w : World) (R : KT) : Prop :=
 New (zeroP P 148) 148 w fun x1 w1=>VJoin 1 (fun _ x2 w2=>Vif x2 (Bd P 148 #[] w2 fun x3=>StA 2 x1 x3 w2 fun w3=>LdA 2 x1 w3 fun x4=>R (.tuple #[x4, (I 1)]) w3) (Cl P 142 #[a0, a1] w2 fun x5 w4=>Ex x5 0 fun x6=>Ex x5 1 fun x7=>StA 2 x1 x6 w4 fun w5=>LdA 2 x1 w5 fun x8=>R (.tuple #[x8, x7]) w5)) (fun J9=>Lnl a0 fun x10=>Bv .eql x10 (I 0) (KS [a0, a1, x1]<|J9 (.bool true) w1) (Bp .sub a1 (I 1) fun x12=>Cl P 141 #[a0, x12] w1 fun x13 w6=>Lnl a0 fun x14=>Bp .sub x14 (I 1) fun x15=>Bp .neq x13 x15 fun x16=>KS [a0, a1, x1]<|J9 x16 w6))
theorem Tz93 (h : Vz93 prog a0 a1 w R) : Cl prog 93 #[a0, a1] w R :=
 tz 25 [(.cell 4 148), (.tmp 5)] (s z (s (j [18] [0, 1, 4] z (i (s z z) z)) (s z z))) [a0, a1] func93 h
def Vz94 (P : Program) (a0 a1 : Value) (w : World) (R : KT) : Prop :=
 Cl P 143 #[a0, a1] w fun x1 w1=>Up .not x1 fun x2=>Vif x2 (R (.tuple #[(I 0), (I 1)]) w1) (Cl P 144 #[a0] w1 fun x3 w2=>Lnl x3 fun x4=>VLoop 2 [(I 18), (I 0)] w2 fun _ n7 y5 x6 w3=>Bv .lss x6 x4 (Ias 1 x3 x6 fun x9=>Ld x9 w3 fun x10=>Bp .add x10 (I 1) fun x11=>Bp .add y5 x11 fun x12=>Bp .add x6 (I 1) fun x13=>KS [x3, x4]<|n7 x12 x13 w3) (R (.tuple #[y5, (I 0)]) w3))
theorem Tz94 (h : Vz94 prog a0 a1 w R) : Cl prog 94 #[a0, a1] w R :=
 tz 26 [(.tmp 4), (.tmp 5)] (s z (s (s z (i (s z z) z)) (s z (s (s z (b (l [6, 16] [14, 15] (s z (s (i z z) (s (b (s z z)) z)))))) (s z z))))) [a0, a1] func94 h
def Vz95 (P : Program) (a0 : Value) (w : World) (R : KT) : Prop :=
 Cl P 145 #[a0] w fun x1 w1=>Up .not x1 fun x2=>Vif x2 (R (.tuple #[(I 0), (I 1)]) w1) (New (zeroP P 3) 3 w1 fun y3 w2=>St y3 (I 0) w2 fun w3=>Mf P (.func 147) #[] #[y3] w3 fun x4=>Cl P 146 #[a0, x4] w3 fun x5 w4=>Ld y3 w4 fun x6=>R (.tuple #[x6, (I 0)]) w4)
theorem Tz95 (h : Vz95 prog a0 w R) : Cl prog 95 #[a0] w R :=
 tz 12 [(.tmp 2), (.tmp 3)] (s z (s (s z (i (s z z) z)) (s z (s z (s z z))))) [a0] func95 h
def Vz96 (P : Program) (a0 a1 : Value) (w : World) (R : KT) : Prop :=
 New a1 148 w fun y1 w1=>Dr w1 fun w2=>Fo 1 y1 fun x2=>Ld x2 w2 fun x3=>Lnl x3 fun x5=>Lnl a0 fun x7=>Cl P 148 #[x7] w2 fun x9 w3=>Rk (fun w K=>Lnl x3 fun x6=>K x6) x5 w3<|Rk (fun w K=>Ld x2 w fun x4=>K x4) x3 w3<|Bv .neq x5 x9 (R (.tuple #[(I 0), (I 1)]) w3) (Fo 1 y1 fun x11=>Ld x11 w3 fun x12=>Lnl x12 fun x13=>VLoop 2 [(I 0), (I 0)] w3 fun _ n16 y14 x15 w4=>Bv .lss x15 x13 (Ias 1 x12 x15 fun x18=>Ld x18 w4 fun x19=>VJoin 1 (fun _ x20 w5=>Vif x20 (R (.tuple #[(I 0), (I 1)]) w5) (Cl P 149 #[a0, x15] w5 fun x21 w6=>Ex x21 0 fun x22=>Ex x21 1 fun x23=>Fo 0 y1 fun x24=>Ld x24 w6 fun x25=>Ias 1 x25 x19 fun x26=>Ld x26 w6 fun x27=>Cl P 150 #[x22, x27] w6 fun x28 w7=>Ex x28 0 fun x29=>Ex x28 1 fun x30=>Bv .neq x30 (I 0) (R (.tuple #[(I 0), x30]) w7) (Bp .add y14 x29 fun x32=>Bmin P #[3, 3] 3 #[x32, (I 1099511627776)] w7 fun x33=>Bp .add x15 (I 1) fun x34=>KS [a0, y1, x12, x13]<|n16 x33 x34 w7))) (fun J35=>Bp .lss x19 (I 0) fun x36=>Vif x36 (KS [a0, y1, y14, x15, x19, x12, x13, x15]<|J35 (.bool true) w4) (Fo 0 y1 fun x37=>Ld x37 w4 fun x38=>Lnl x38 fun x39=>Bp .geq x19 x39 fun x40=>KS [a0, y1, y14, x15, x19, x12, x13, x15]<|J35 x40 w4))) (R (.tuple #[y14, (I 0)]) w4))
theorem Tz96 (h : Vz96 prog a0 a1 w R) : Cl prog 96 #[a0, a1] w R :=
 tz 62 [(.tmp 4), (.tmp 5)] (s z (s (s (r (.staged [0, 1, 3, 0, 8, 24, 63])) (i (s z z) z)) (s z (s (s z (b (l [6, 23] [0, 3, 21, 22] (s z (s (i z z) (s (b (s z (s (j [36] [0, 3, 6, 7, 8, 21, 22, 23] z (i (s z z) z)) (s z (s z (s (s z (i (s z z) z)) z)))))) z)))))) (s z z))))) [a0, a1] func96 h
def Vz97 (P : Program) (a0 a1 : Value) (w : World) (R : KT) : Prop :=
 Bv .geq a1 (I 0) (Bv .leq a1 (I 32) (Ci .u64 a0 fun x3=>Bp .shr x3 a1 fun x4=>Bp .eql x4 (.int .u64 0) fun x5=>R x5 w) (R (.bool false) w)) (R (.bool false) w)
theorem Tz97 (h : Vz97 prog a0 a1 w R) : Cl prog 97 #[a0, a1] w R :=
 tz 18 [(.tmp 4)] (s z (s z z)) [a0, a1] func97 h
def Vz98 (P : Program) (a0 : Value) (w : World) (R : KT) : Prop :=
 Lns a0 fun x1=>VLoop 1 [(I 0)] w fun _ n3 x2 w1=>Bv .lss x2 x1 (VJoin 1 (fun _ x5 w2=>Vif x5 (R (.bool false) w2) (Bp .add x2 (I 1) fun x6=>KS [a0, x1]<|n3 x6 w2)) (fun J7=>Dr w1 fun w3=>Bp .gtr x2 (I 0) fun x8=>Vif x8 (Ixs a0 x2 fun x9=>Bp .sub x2 (I 1) fun x10=>Ixs a0 x10 fun x11=>Bp .leq x9 x11 fun x12=>KS [a0, x1, x2]<|J7 x12 w3) (KS [a0, x1, x2]<|J7 (.bool false) w3))) (Bp .neq a0 (.string ⟨#[]⟩) fun x13=>R x13 w1)
theorem Tz98 (h : Vz98 prog a0 w R) : Cl prog 98 #[a0] w R :=
 tz 24 [(.tmp 2)] (s z (s (s z (b (l [6] [0, 5] (s z (s (i z z) (s (b (s z (j [20] [0, 5, 6] (r (.staged [0, 1, 3, 7, 7, 31, 7, 7, 135, 455, 1023, 2047])) (i (s z z) z)))) z)))))) (s z z))) [a0] func98 h
def Vz99 (P : Program) (a0 : Value) (w : World) (R : KT) : Prop :=
 New (zeroP P 155) 155 w fun x1 w1=>New (zeroP P 155) 155 w1 fun y2 w2=>Lns a0 fun x3=>VLoop 1 [(I 0)] w2 fun _ n5 x4 w3=>Bv .lss x4 x3 (Ixs a0 x4 fun x7=>Bp .quo x7 (.int .u8 16) fun x8=>Iaa 16 1 y2 x8 fun x9=>Ld x9 w3 fun x10=>Bp .rem x7 (.int .u8 16) fun x11=>Bp .sub (.int .u8 15) x11 fun x12=>Bp .shl (.int .u32 1) x12 fun x13=>Bp .or x10 x13 fun x14=>Iaa 16 1 y2 x8 fun x15=>St x15 x14 w3 fun w4=>Bp .add x4 (I 1) fun x16=>KS [a0, x1, y2, x3]<|n5 x16 w4) (LdA 16 y2 w3 fun x17=>StA 16 x1 x17 w3 fun w5=>LdA 16 x1 w5 fun x18=>R x18 w5)
theorem Tz99 (h : Vz99 prog a0 w R) : Cl prog 99 #[a0] w R :=
 tz 26 [(.cell 2 155)] (s z (s z (s (s z (b (l [8] [0, 2, 3, 7] (s z (s (i z z) (s (b (s z (s z z))) z)))))) (s z z)))) [a0] func99 h
def Vz100 (P : Program) (a0 a1 a2 : Value) (w : World) (R : KT) : Prop :=
 Bn P 65 false a0 (.pointer none) fun x1=>Vif x1 (R (I 7) w) (Cl P 143 #[a1, a2] w fun x2 w1=>Up .not x2 fun x3=>Vif x3 (R (I 1) w1) (Ci .u32 a2 fun x4=>Cl P 45 #[a0, x4, (I 3)] w1 fun x5 w2=>Lnl a1 fun x6=>Ci .u32 x6 fun x7=>Cl P 45 #[a0, x7, (I 15)] w2 fun x8 w3=>Cl P 144 #[a1] w3 fun x9 w4=>Lnl x9 fun x10=>VLoop 1 [(I 0)] w4 fun _ n12 x11 w5=>Bv .lss x11 x10 (Ias 1 x9 x11 fun x14=>Ld x14 w5 fun x15=>Bp .add x15 (I 1) fun x16=>Bp .shl (.int .u32 1) x16 fun x17=>Bp .sub x17 (.int .u32 2) fun x18=>Bp .add x15 (I 1) fun x19=>Cl P 45 #[a0, x18, x19] w5 fun x20 w6=>Bp .add x11 (I 1) fun x21=>KS [a0, x9, x10]<|n12 x21 w6) (R (I 0) w5)))
theorem Tz100 (h : Vz100 prog a0 a1 a2 w R) : Cl prog 100 #[a0, a1, a2] w R :=
 tz 42 [(.tmp 6)] (s z (s (b (s z (i (s z z) (s z (i (s z z) z))))) (s z (s z (s (s z (b (l [29] [0, 27, 28] (s z (s (i z z) (s (b (s z z)) z)))))) (s z z)))))) [a0, a1, a2] func100 h
def Vz101 (P : Program) (a0 a1 : Value) (w : World) (R : KT) : Prop :=
 New a0 24 w fun y1 w1=>Ld y1 w1 fun x2=>Bn P 65 false x2 (.pointer none) fun x3=>Vif x3 (R (I 7) w1) (Cl P 145 #[a1] w1 fun x4 w2=>Up .not x4 fun x5=>Vif x5 (R (I 1) w2) (Mf P (.func 151) #[] #[y1] w2 fun x6=>Cl P 146 #[a1, x6] w2 fun x7 w3=>R (I 0) w3))
theorem Tz101 (h : Vz101 prog a0 a1 w R) : Cl prog 101 #[a0, a1] w R :=
 tz 15 [(.tmp 4)] (s z (s (b (s z (i (s z z) (s z (i (s z z) z))))) (s z (s z z)))) [a0, a1] func101 h
def Vz102 (P : Program) (a0 : Value) (w : World) (R : KT) : Prop :=
 VJoin 1 (fun _ x1 w1=>Vif x1 (R (.tuple #[(.pointer none), (I 1)]) w1) (Cl P 152 #[a0] w1 fun x2 w2=>Up .not x2 fun x3=>Vif x3 (R (.tuple #[(.pointer none), (I 22)]) w2) (VJoin 1 (fun _ y4 w3=>VLoop 2 [(I 0), (I 1)] w3 fun _ n7 y5 y6 w4=>Bv .leq y6 (I 20) (Bp .mul y5 (I 2) fun x9=>Nc y4<|Fo 3 y4 fun x10=>Iaa 21 1 x10 y6 fun x11=>St x11 x9 w4 fun w5=>Dr w5 fun w6=>Nc y4<|Fo 2 y4 fun x12=>Ld x12 w6 fun x13=>Lnl x13 fun x15=>Nc y4<|Fo 24 y4 fun x17=>Iaa 22 1 x17 y6 fun x18=>St x18 x15 w6 fun w7=>Lnl a0 fun x19=>VLoop 2 [x9, (I 0)] w7 fun _ n22 y20 x21 w8=>Bp .lss x21 x19 fun x23=>Vif x23 (Ias 1 a0 x21 fun x24=>Ld x24 w8 fun x25=>Bv .eql x25 y6 (Nc y4<|Fo 1 y4 fun x27=>Ld x27 w8 fun x28=>Ci .u32 y20 fun x29=>Ias 1 x28 x21 fun x30=>St x30 x29 w8 fun w9=>Nc y4<|Fo 2 y4 fun x31=>Ld x31 w9 fun x32=>Bs P 69 1 #[(0, x21)] w9 fun x33 w10=>Ap P #[69, 69] 69 #[x32, x33] w10 fun x34 w11=>Nc y4<|Fo 2 y4 fun x35=>St x35 x34 w11 fun w12=>Bp .add y20 (I 1) fun x36=>Bp .add x21 (I 1) fun x37=>KS [a0, y4, y6, a0, x19]<|n22 x36 x37 w12) (Bp .add x21 (I 1) fun x38=>KS [a0, y4, y6, a0, x19]<|n22 y20 x38 w8)) (Bp .add y6 (I 1) fun x39=>KS [a0, y4]<|n7 y20 x39 w8)) (Dr w4 fun w13=>Nc y4<|Fo 2 y4 fun x40=>Ld x40 w13 fun x41=>Lnl x41 fun x43=>Nc y4<|Fo 24 y4 fun x45=>Iaa 22 1 x45 (I 21) fun x46=>St x46 x43 w13 fun w14=>R (.tuple #[y4, (I 0)]) w14)) (fun J47=>Dr w2 fun w15=>(Cl P 153 #[a0] w15 fun x48 w16=>Lnl a0 fun x49=>Rk (fun w K=>Lnl a0 fun x50=>K x50) x49 w15<|Ms P 102 x49 x49 w16 fun x52 w17=>Bd P 219 #[(0, x48), (1, x52)] w17 fun x53=>New x53 219 w17 fun x55 w18=>KS [a0]<|J47 x55 w18) /\ (Lnl a0 fun x56=>Ms P 102 x56 x56 w15 fun x58 w19=>Cl P 153 #[a0] w19 fun x59 w20=>Rk (fun w K=>Lnl a0 fun x57=>K x57) x56 w20<|Bd P 219 #[(0, x59), (1, x58)] w20 fun x60=>New x60 219 w20 fun x62 w21=>KS [a0]<|J47 x62 w21))))) (fun J63=>Lnl a0 fun x64=>Bp .lss x64 (I 3) fun x65=>Vif x65 (KS [a0]<|J63 (.bool true) w) (Lnl a0 fun x66=>Bp .gtr x66 (I 258) fun x67=>KS [a0]<|J63 x67 w))
theorem Tz102 (h : Vz102 prog a0 w R) : Cl prog 102 #[a0] w R :=
 tz 92 [(.tmp 2), (.tmp 3)] (s z (s (b (j [9] [0] z (i (s z z) (s z (i (s z z) z))))) (j [4] [0] (r (.two [0, 1, 0, 4, 12, 31, 63, 127] 1 4 [0, 1, 2, 3, 4, 5, 6, 7] [0, 2, 3, 4, 1, 5, 6, 7])) (s z (s (s z (b (l [5, 6] [0, 4] (s (s z (i z z)) (s (b (s z (s z (s (r (.staged [0, 0, 0, 4, 12, 28, 60, 1, 129, 511, 1023])) (s z (b (l [5, 53] [0, 4, 6, 51, 52] (s z (s (i z z) (s (b (s z (s z (i (s z (s z z)) z)))) z)))))))))) z))))) (s (r (.staged [0, 0, 2, 6, 14, 30, 1, 65, 255, 511])) (s z z))))))) [a0] func102 h
def Vz103 (P : Program) (a0 a1 a2 : Value) (w : World) (R : KT) : Prop :=
 Bn P 65 false a1 (.pointer none) fun x1=>Vif x1 (R (I 7) w) (Cl P 154 #[a0, a2] w fun x2 w1=>Ex x2 0 fun x3=>Ex x2 1 fun x4=>Ex x2 2 fun x5=>Bv .neq x5 (I 0) (R x5 w1) (Cl P 45 #[a1, x3, x4] w1 fun x7 w2=>R x7 w2))
theorem Tz103 (h : Vz103 prog a0 a1 a2 w R) : Cl prog 103 #[a0, a1, a2] w R :=
 tz 26 [(.tmp 6)] (s z (s (s z (i (s z z) z)) (s z (s (s z (i (s z z) z)) (s z z))))) [a0, a1, a2] func103 h
def Vz104 (P : Program) (a0 a1 : Value) (w : World) (R : KT) : Prop :=
 VLoop 1 [(I 0)] w fun _ n2 y1 w1=>Lns a0 fun x3=>Bv .lss y1 x3 (Ixs a0 y1 fun x5=>Ci .i64 x5 fun x6=>Bv .eql x6 a1 (R (.bool true) w1) (Bp .add y1 (I 1) fun x8=>KS [a0, a1]<|n2 x8 w1)) (R (.bool false) w1)
theorem Tz104 (h : Vz104 prog a0 a1 w R) : Cl prog 104 #[a0, a1] w R :=
 tz 18 [(.tmp 4)] (s z (s (s z (b (l [5] [0, 1] (s (s z (i z z)) (s (b (s z (i (s z z) z))) z))))) (s z z))) [a0, a1] func104 h
def Vz105 (P : Program) (a0 : Value) (w : World) (R : KT) : Prop :=
 Lns a0 fun x1=>Bv .gtr x1 (I 0) (Cl P 48 #[a0] w fun x3 w1=>Bp .eql x3 a0 fun x4=>R x4 w1) (R (.bool false) w)
theorem Tz105 (h : Vz105 prog a0 w R) : Cl prog 105 #[a0] w R :=
 tz 12 [(.tmp 2)] (s z (s z z)) [a0] func105 h
def Vz113 (P : Program) (a0 : Value) (w : World) (R : KT) : Prop :=
 VLoop 1 [(I 0)] w fun _ n2 y1 w1=>VJoin 1 (fun _ x3 w2=>Vif x3 (Bp .add y1 (I 1) fun x4=>KS [a0]<|n2 x4 w2) (R y1 w2)) (fun J5=>Dr w1 fun w3=>Lns a0 fun x6=>Bp .lss y1 x6 fun x8=>Vif x8 (Bv .lss y1 (I 255) (Ixs a0 y1 fun x10=>Ixs a0 (I 0) fun x11=>Bp .eql x10 x11 fun x12=>KS [a0, y1]<|J5 x12 w3) (KS [a0, y1]<|J5 (.bool false) w3)) (KS [a0, y1]<|J5 (.bool false) w3))
theorem Tz113 (h : Vz113 prog a0 w R) : Cl prog 113 #[a0] w R :=
 tz 23 [(.tmp 2)] (s z (s z (s (b (l [3] [0] (s (j [19] [0, 3] (r (.staged [0, 0, 2, 7, 15, 31, 63, 127, 255, 511, 511, 2047, 511, 4607, 16383, 32767])) (i z z)) (b z)))) (s z z)))) [a0] func113 h
def Vz114 (P : Program) (a0 : Value) (w : World) (R : KT) : Prop :=
 VLoop 2 [a0, (I 0)] w fun _ n3 x1 x2 w1=>Bv .lss x2 (I 8) (Bv .geq x1 (.int .u32 2147483648) (Bp .sub x1 (.int .u32 2147483648) fun x6=>Bp .mul x6 (.int .u32 2) fun x7=>Bp .xor x7 (.int .u32 79764919) fun x8=>Bp .add x2 (I 1) fun x9=>KS []<|n3 x8 x9 w1) (Bp .mul x1 (.int .u32 2) fun x10=>Bp .add x2 (I 1) fun x11=>KS []<|n3 x10 x11 w1)) (R x1 w1)
theorem Tz114 (h : Vz114 prog a0 w R) : Cl prog 114 #[a0] w R :=
 tz 15 [(.tmp 2)] (s z (s (s z (b (l [0, 3] [] (s z (s (i z z) (s (b (s z (i z z))) z)))))) (s z z))) [a0] func114 h
def Vz115 (P : Program) (a0 a1 : Value) (w : World) (R : KT) : Prop :=
 VJoin 1 (fun _ y1 w1=>Bv .neq y1 (I 0) (R y1 w1) (Cl P 166 #[a0] w1 fun x3 w2=>R x3 w2)) (fun J4=>Nc a0<|Fo 2 a0 fun x5=>Ld x5 w fun x6=>Up .not x6 fun x7=>Vif x7 (Cl P 161 #[a0, a1] w fun x8 w3=>KS [a0]<|J4 x8 w3) (Nc a0<|Fo 0 a0 fun x9=>Ld x9 w fun x10=>Bn P 269 false x10 (.pointer none) fun x11=>Vif x11 (Cl P 162 #[a0, a1] w fun x12 w4=>KS [a0]<|J4 x12 w4) (Nc a0<|Fo 0 a0 fun x13=>Ld x13 w fun x14=>Cl P 163 #[x14] w fun x15 w5=>Vif x15 (Dr w5 fun w6=>Nc a0<|Fo 5 a0 fun x16=>Ld x16 w6 fun x17=>Nc a0<|Fo 0 a0 fun x19=>Ld x19 w6 fun x20=>Cl P 164 #[x20] w6 fun x22 w7=>Rk (fun w K=>Ld x16 w fun x18=>K x18) x17 w7<|Bs P 54 1 #[(0, x22)] w7 fun x23 w8=>Rk (fun w K=>Ld x16 w fun x18=>K x18) x17 w8<|Ap P #[54, 54] 54 #[x17, x23] w8 fun x24 w9=>Nc a0<|Fo 5 a0 fun x25=>St x25 x24 w9 fun w10=>KS [a0]<|J4 (I 0) w10) (Cl P 165 #[a0, a1] w5 fun x26 w11=>KS [a0]<|J4 x26 w11))))
theorem Tz115 (h : Vz115 prog a0 a1 w R) : Cl prog 115 #[a0, a1] w R :=
 tz 52 [(.tmp 4)] (s z (s z (j [5] [0] (b (s z (i z (s z (i z (s z (i (r (.staged [0, 0, 2, 6, 14, 0, 32, 96, 224, 480, 992, 2046, 4095, 8191, 16383])) z))))))) (s (s z (i (s z z) z)) (s z z))))) [a0, a1] func115 h
def Vz116 (P : Program) (a0 : Value) (w : World) (R : KT) : Prop :=
 Dr w fun w1=>Nc a0<|Fo 1 a0 fun x1=>Ld x1 w1 fun x2=>Nc a0<|Fo 0 a0 fun x4=>Ld x4 w1 fun x5=>Lns x5 fun x7=>Bp .add x2 x7 fun x9=>Bp .mul (I 8) x9 fun x10=>R x10 w1
theorem Tz116 (h : Vz116 prog a0 w R) : Cl prog 116 #[a0] w R :=
 tz 14 [(.tmp 2)] (s z (s (r (.staged [0, 1, 3, 7, 0, 16, 48, 112, 240, 511, 1023, 2047])) z)) [a0] func116 h
def Vz117 (P : Program) (a0 a1 : Value) (w : World) (R : KT) : Prop :=
 Bv .eql a0 (.string ⟨#[]⟩) (R (.tuple #[(.pointer none), (I 1)]) w) (Lns a0 fun x2=>Bv .gtr x2 (I 900000) (R (.tuple #[(.pointer none), (I 2)]) w) (VJoin 1 (fun _ x4 w1=>Vif x4 (R (.tuple #[(.pointer none), (I 23)]) w1) (Lns a0 fun x5=>Ms P 69 x5 x5 w1 fun x6 w2=>Bd P 229 #[(0, a0), (2, x6), (3, a1)] w2 fun x7=>New x7 229 w2 fun x8 w3=>R (.tuple #[x8, (I 0)]) w3)) (fun J9=>Bv .lss a1 (I 0) (KS [a0, a1]<|J9 (.bool true) w) (Lns a0 fun x11=>Bp .geq a1 x11 fun x12=>KS [a0, a1]<|J9 x12 w))))
theorem Tz117 (h : Vz117 prog a0 a1 w R) : Cl prog 117 #[a0, a1] w R :=
 tz 29 [(.tmp 4), (.tmp 5)] (s z (s (b (s z (i (s z z) (s z (i (s z z) (j [13] [0, 1] z (i (s z z) z))))))) (s z z))) [a0, a1] func117 h
def Vz118 (P : Program) (a0 a1 : Value) (w : World) (R : KT) : Prop :=
 Bn P 229 false a0 (.pointer none) fun x1=>Vif x1 (R (I 0) w) (Nc a0<|Fo 260 a0 fun x2=>Ld x2 w fun x3=>VLoop 0 [] w fun _ n4 w1=>VJoin 1 (fun _ x5 w2=>Vif x5 (Cl P 168 #[a0] w2 fun x6 w3=>KS [a0, a1, x3]<|n4 w3) (Nc a0<|Fo 260 a0 fun x7=>Ld x7 w2 fun x8=>Bp .sub x8 x3 fun x9=>R x9 w2)) (fun J10=>Cl P 167 #[a0] w1 fun x11 w4=>Up .not x11 fun x12=>Vif x12 (Nc a0<|Fo 260 a0 fun x13=>Ld x13 w4 fun x14=>Bp .sub x14 x3 fun x15=>Bp .lss x15 a1 fun x16=>KS [a0, a1, x3]<|J10 x16 w4) (KS [a0, a1, x3]<|J10 (.bool false) w4)))
theorem Tz118 (h : Vz118 prog a0 a1 w R) : Cl prog 118 #[a0, a1] w R :=
 tz 33 [(.tmp 4)] (s z (s (s z (i (s z z) z)) (s z (s (b (l [] [0, 1, 5] (s (j [24] [0, 1, 5] z (i z z)) (b z)))) (s z z))))) [a0, a1] func118 h
def Vz119 (P : Program) (a0 : Value) (w : World) (R : KT) : Prop :=
 Bn P 229 false a0 (.pointer none) fun x1=>Vif x1 (R (.string ⟨#[]⟩) w) (Nc a0<|Fo 259 a0 fun x2=>Ld x2 w fun x3=>Cw P 54 9 x3 w fun x4 w1=>Nc a0<|Fo 259 a0 fun x5=>St x5 (.slice none 0 0) w1 fun w2=>R x4 w2)
theorem Tz119 (h : Vz119 prog a0 w R) : Cl prog 119 #[a0] w R :=
 tz 15 [(.tmp 2)] (s z (s (s z (i (s z z) z)) (s z (s z (s z z))))) [a0] func119 h
def Vz120 (P : Program) (a0 a1 : Value) (w : World) (R : KT) : Prop :=
 Lns a0 fun x1=>VLoop 2 [(I 0), (I 0)] w fun _ n4 y2 x3 w1=>Bv .lss x3 x1 (VJoin 1 (fun _ y6 w2=>Ixs a0 x3 fun x7=>Inv P (do let d <- Deferred.ofValue a1 #[x7, (I 1)]; invoke d.target d.args) w2 fun x8 w3=>Bp .add x3 (I 1) fun x9=>KS [a0, a1, x1]<|n4 y6 x9 w3) (fun J10=>Bp .eql y2 (I 4) fun x11=>Vif x11 (Ixs a0 x3 fun x12=>Bv .gtr x12 (.int .u8 251) (R (I 25) w1) (Dr w1 fun w4=>Bp .sub x3 (I 1) fun x14=>Ixs a0 x14 fun x15=>Ixs a0 x3 fun x16=>Ci .i64 x16 fun x17=>Inv P (do let d <- Deferred.ofValue a1 #[x15, x17]; invoke d.target d.args) w4 fun x18 w5=>Bp .add x3 (I 1) fun x19=>KS [a0, a1, x1]<|n4 (I 0) x19 w5)) (VJoin 1 (fun _ x20 w6=>Vif x20 (Bp .add y2 (I 1) fun x21=>KS [a0, a1, x3, x1, x3]<|J10 x21 w6) (KS [a0, a1, x3, x1, x3]<|J10 (I 1) w6)) (fun J22=>Dr w1 fun w7=>Bp .gtr y2 (I 0) fun x23=>Vif x23 (Ixs a0 x3 fun x24=>Bp .sub x3 (I 1) fun x25=>Ixs a0 x25 fun x26=>Bp .eql x24 x26 fun x27=>KS [a0, a1, y2, x3, x1, x3]<|J22 x27 w7) (KS [a0, a1, y2, x3, x1, x3]<|J22 (.bool false) w7))))) (Bp .eql y2 (I 4) fun x28=>Vif x28 (R (I 24) w1) (R (I 0) w1))
theorem Tz120 (h : Vz120 prog a0 a1 w R) : Cl prog 120 #[a0, a1] w R :=
 tz 52 [(.tmp 4)] (s z (s z (s (s z (b (l [5, 9] [0, 1, 8] (s z (s (i z z) (s (b (s z (j [5] [0, 1, 6, 8, 9] (b (s z (i (s (s z (i (s z z) z)) (s (r (.staged [0, 0, 0, 4, 14, 0, 0, 96, 224, 511])) (s z z))) (j [29] [0, 1, 5, 6, 8, 9] (r (.staged [0, 1, 3, 7, 7, 31, 7, 7, 135, 455, 1023, 2047, 4095])) (i z z))))) z))) z)))))) (s (s z (i (s z z) z)) (s z z))))) [a0, a1] func120 h
def Vz121 (P : Program) (a0 a1 a2 : Value) (w : World) (R : KT) : Prop :=
 VLoop 1 [(I 0)] w fun _ n2 x1 w1=>Bv .lss x1 a1 (Ld a2 w1 fun x4=>Bs P 54 1 #[(0, a0)] w1 fun x5 w2=>Ap P #[54, 54] 54 #[x4, x5] w2 fun x6 w3=>St a2 x6 w3 fun w4=>Bp .add x1 (I 1) fun x7=>KS [a0, a2, a1]<|n2 x7 w4) (R (.tuple #[]) w1)
theorem Tz121 (h : Vz121 prog a0 a1 a2 w R) : Cl prog 121 #[a0, a1, a2] w R :=
 tz 13 [] (s z (b (l [6] [0, 2, 5] (s z (s (i z z) (s (b z) z)))))) [a0, a1, a2] func121 h
def Vz122 (P : Program) (w : World) (R : KT) : Prop :=
 Cl P 169 #[] w fun x1 w1=>Bd P 233 #[(0, x1), (1, (.int .u32 4294967295))] w1 fun x2=>New x2 233 w1 fun x3 w2=>R x3 w2
theorem Tz122 (h : Vz122 prog w R) : Cl prog 122 #[] w R :=
 tz 4 [(.tmp 0)] (s z (s z z)) [] func122 h
def Vz123 (P : Program) (a0 a1 : Value) (w : World) (R : KT) : Prop :=
 Lns a1 fun x1=>VLoop 1 [(I 0)] w fun _ n3 x2 w1=>Bv .lss x2 x1 (Ixs a1 x2 fun x5=>Cl P 170 #[a0, x5] w1 fun x6 w2=>Bp .add x2 (I 1) fun x7=>KS [a0, a1, x1]<|n3 x7 w2) (R (.tuple #[]) w1)
theorem Tz123 (h : Vz123 prog a0 a1 w R) : Cl prog 123 #[a0, a1] w R :=
 tz 16 [] (s z (b (l [7] [0, 1, 6] (s z (s (i z z) (s (b (s z z)) z)))))) [a0, a1] func123 h
def Vz124 (P : Program) (a0 : Value) (w : World) (R : KT) : Prop :=
 Bn P 233 false a0 (.pointer none) fun x1=>Vif x1 (R (.int .u32 0) w) (Nc a0<|Fo 256 a0 fun x2=>Ld x2 w fun x3=>Up .xor x3 fun x4=>R x4 w)
theorem Tz124 (h : Vz124 prog a0 w R) : Cl prog 124 #[a0] w R :=
 tz 10 [(.tmp 2)] (s z (s (s z (i (s z z) z)) (s z z))) [a0] func124 h
def Vz125 (P : Program) (a0 a1 : Value) (w : World) (R : KT) : Prop :=
 Dr w fun w1=>Sst a0 (some a1) none fun x1=>Sst a0 none (some a1) fun x3=>Bp .add x1 x3 fun x5=>R x5 w1
theorem Tz125 (h : Vz125 prog a0 a1 w R) : Cl prog 125 #[a0, a1] w R :=
 tz 12 [(.tmp 4)] (s z (s (r (.staged [0, 0, 3, 0, 0, 24, 63, 127])) z)) [a0, a1] func125 h
def Vz126 (P : Program) (a0 a1 a2 : Value) (w : World) (R : KT) : Prop :=
 Cl P 125 #[a0, a1] w fun x1 w1=>Cl P 125 #[a0, a2] w1 fun x2 w2=>Bv .lss x1 x2 (R (.bool true) w2) (Bv .eql x1 x2 (Bp .lss a1 a2 fun x5=>R x5 w2) (R (.bool false) w2))
theorem Tz126 (h : Vz126 prog a0 a1 a2 w R) : Cl prog 126 #[a0, a1, a2] w R :=
 tz 28 [(.tmp 6)] (s z (s z (s z (s z z)))) [a0, a1, a2] func126 h
def Vz134 (P : Program) (a0 : Value) (w : World) (R : KT) : Prop :=
 Lns a0 fun x1=>Bv .gtr x1 (I 900000) (R (.tuple #[(.pointer none), (I 2)]) w) (VJoin 1 (fun _ x3 w1=>Nc x3<|Fo 1 x3 fun x4=>Ld x4 w1 fun x5=>Lnl x5 fun x6=>VLoop 1 [(I 0)] w1 fun _ n8 x7 w2=>Bv .lss x7 x6 (Nc x3<|Fo 1 x3 fun x10=>Ld x10 w2 fun x11=>Ias 1 x11 x7 fun x12=>St x12 x7 w2 fun w3=>Bp .add x7 (I 1) fun x13=>KS [x1, x3, x6]<|n8 x13 w3) (Bd P 248 #[(0, (I 0)), (2, x1)] w2 fun x14=>Bs P 246 1 #[(0, x14)] w2 fun x15 w4=>Nc x3<|Fo 5 x3 fun x16=>St x16 x15 w4 fun w5=>R (.tuple #[x3, (I 0)]) w5)) (fun J17=>Dr w fun w6=>Bp .lss x1 (I 2) fun x18=>(Ms P 69 x1 x1 w6 fun x19 w7=>(Ms P 69 x1 x1 w7 fun x20 w8=>Ms P 69 x1 x1 w8 fun x21 w9=>Bd P 250 #[(0, a0), (1, x19), (2, x20), (3, x21), (13, x18)] w9 fun x22=>New x22 250 w9 fun x24 w10=>KS [x1]<|J17 x24 w10) /\ (Ms P 69 x1 x1 w7 fun x25 w11=>Ms P 69 x1 x1 w11 fun x26 w12=>Bd P 250 #[(0, a0), (1, x19), (2, x26), (3, x25), (13, x18)] w12 fun x27=>New x27 250 w12 fun x29 w13=>KS [x1]<|J17 x29 w13)) /\ ((Ms P 69 x1 x1 w6 fun x30 w14=>(Ms P 69 x1 x1 w14 fun x31 w15=>Ms P 69 x1 x1 w15 fun x32 w16=>Bd P 250 #[(0, a0), (1, x31), (2, x30), (3, x32), (13, x18)] w16 fun x33=>New x33 250 w16 fun x35 w17=>KS [x1]<|J17 x35 w17) /\ (Ms P 69 x1 x1 w14 fun x36 w18=>Ms P 69 x1 x1 w18 fun x37 w19=>Bd P 250 #[(0, a0), (1, x37), (2, x30), (3, x36), (13, x18)] w19 fun x38=>New x38 250 w19 fun x40 w20=>KS [x1]<|J17 x40 w20)) /\ (Ms P 69 x1 x1 w6 fun x41 w21=>(Ms P 69 x1 x1 w21 fun x42 w22=>Ms P 69 x1 x1 w22 fun x43 w23=>Bd P 250 #[(0, a0), (1, x42), (2, x43), (3, x41), (13, x18)] w23 fun x44=>New x44 250 w23 fun x46 w24=>KS [x1]<|J17 x46 w24) /\ (Ms P 69 x1 x1 w21 fun x47 w25=>Ms P 69 x1 x1 w25 fun x48 w26=>Bd P 250 #[(0, a0), (1, x48), (2, x47), (3, x41), (13, x18)] w26 fun x49=>New x49 250 w26 fun x51 w27=>KS [x1]<|J17 x51 w27)))))
theorem Tz134 (h : Vz134 prog a0 w R) : Cl prog 134 #[a0] w R :=
 tz 45 [(.tmp 2), (.tmp 3)] (s z (s z (s (s z (i (s z z) z)) (j [5] [4] (r (.tree [0, 0, 2, 0, 8, 0, 32, 0, 128, 511, 1023, 2047] (.op 0 (.op 1 (.op 3 (.op 5 (.op 7 (.op 8 (.fk (.op 2 (.fk (.op 4 (.op 6 (.op 9 (.op 10 (.op 11 .dn))))) (.op 6 (.op 4 (.op 9 (.op 10 (.op 11 .dn))))))) (.fk (.op 4 (.fk (.op 2 (.op 6 (.op 9 (.op 10 (.op 11 .dn))))) (.op 6 (.op 2 (.op 9 (.op 10 (.op 11 .dn))))))) (.op 6 (.fk (.op 2 (.op 4 (.op 9 (.op 10 (.op 11 .dn))))) (.op 4 (.op 2 (.op 9 (.op 10 (.op 11 .dn))))))))))))))))) (s (s z (b (l [27] [4, 5, 26] (s z (s (i z z) (s (b (s z z)) z)))))) (s z (s z z))))))) [a0] func134 h
def Vz135 (P : Program) (a0 a1 : Value) (w : World) (R : KT) : Prop :=
 Bn P 250 false a0 (.pointer none) fun x1=>Vif x1 (R (I 0) w) (Nc a0<|Fo 14 a0 fun x2=>Ld x2 w fun x3=>VLoop 0 [] w fun _ n4 w1=>VJoin 1 (fun _ x5 w2=>Vif x5 (Cl P 183 #[a0] w2 fun x6 w3=>KS [a0, a1, x3]<|n4 w3) (Nc a0<|Fo 14 a0 fun x7=>Ld x7 w2 fun x8=>Bp .sub x8 x3 fun x9=>R x9 w2)) (fun J10=>Nc a0<|Fo 15 a0 fun x11=>Ld x11 w1 fun x12=>Up .not x12 fun x13=>Vif x13 (Nc a0<|Fo 14 a0 fun x14=>Ld x14 w1 fun x15=>Bp .sub x15 x3 fun x16=>Bp .lss x16 a1 fun x17=>KS [a0, a1, x3]<|J10 x17 w1) (KS [a0, a1, x3]<|J10 (.bool false) w1)))
theorem Tz135 (h : Vz135 prog a0 a1 w R) : Cl prog 135 #[a0, a1] w R :=
 tz 35 [(.tmp 4)] (s z (s (s z (i (s z z) z)) (s z (s (b (l [] [0, 1, 5] (s (j [26] [0, 1, 5] z (i z z)) (b z)))) (s z z))))) [a0, a1] func135 h
def Vz136 (P : Program) (a0 : Value) (w : World) (R : KT) : Prop :=
 Bn P 250 true a0 (.pointer none) fun x1=>Vif x1 (Nc a0<|Fo 15 a0 fun x2=>Ld x2 w fun x3=>R x3 w) (R (.bool false) w)
theorem Tz136 (h : Vz136 prog a0 w R) : Cl prog 136 #[a0] w R :=
 tz 11 [(.tmp 2)] (s z (s z z)) [a0] func136 h
def Vz137 (P : Program) (a0 : Value) (w : World) (R : KT) : Prop :=
 Cl P 136 #[a0] w fun x1 w1=>Up .not x1 fun x2=>Vif x2 (R (.slice none 0 0) w1) (Nc a0<|Fo 1 a0 fun x3=>Ld x3 w1 fun x4=>Cl P 153 #[x4] w1 fun x5 w2=>R x5 w2)
theorem Tz137 (h : Vz137 prog a0 w R) : Cl prog 137 #[a0] w R :=
 tz 11 [(.tmp 2)] (s z (s (s z (i (s z z) z)) (s z z))) [a0] func137 h
def Vz138 (P : Program) (a0 : Value) (w : World) (R : KT) : Prop :=
 Nc a0<|Fo 3 a0 fun x1=>Ld x1 w fun x2=>Lnl x2 fun x3=>Nc a0<|Fo 2 a0 fun x4=>Ld x4 w fun x5=>Ias 1 x5 x3 fun x6=>Ld x6 w fun x7=>VJoin 0 (fun _ w1=>Dr w1 fun w2=>Nc a0<|Fo 3 a0 fun x8=>Ld x8 w2 fun x9=>Nc a0<|Fo 0 a0 fun x11=>Ld x11 w2 fun x12=>Cl P 184 #[x12, x7] w2 fun x14 w3=>Rk (fun w K=>Ld x8 w fun x10=>K x10) x9 w3<|Bs P 54 1 #[(0, x14)] w3 fun x15 w4=>Rk (fun w K=>Ld x8 w fun x10=>K x10) x9 w4<|Ap P #[54, 54] 54 #[x9, x15] w4 fun x16 w5=>Nc a0<|Fo 3 a0 fun x17=>St x17 x16 w5 fun w6=>R (.tuple #[]) w6) (fun J18=>Bv .eql x7 (I 0) (Nc a0<|Fo 4 a0 fun x20=>St x20 x3 w fun w7=>KS [a0, x7]<|J18 w7) (KS [a0, x7]<|J18 w))
theorem Tz138 (h : Vz138 prog a0 w R) : Cl prog 138 #[a0] w R :=
 tz 37 [] (s z (s z (j [] [0, 3] (s z (i z z)) (r (.staged [0, 0, 2, 6, 14, 0, 32, 96, 224, 0, 992, 2016, 4094, 8191, 16383, 32767]))))) [a0] func138 h
def Vz139 (P : Program) (a0 a1 : Value) (w : World) (R : KT) : Prop :=
 Cx P 185 #[a0, a1] w fun x1 w1=>R x1 w1
theorem Tz139 (h : Vz139 prog a0 a1 w R) : Cl prog 139 #[a0, a1] w R :=
 tz 8 [(.tmp 4)] (s z (s z z)) [a0, a1] func139 h
def Vz140 (P : Program) (a0 a1 : Value) (w : World) (R : KT) : Prop :=
 Nc a0<|Fo 0 a0 fun x1=>Ld x1 w fun x2=>Ias 1 x2 a1 fun x3=>Ld x3 w fun x4=>Dr w fun w1=>Nc a0<|Fo 0 a0 fun x5=>Ld x5 w1 fun x6=>Bp .add a1 (I 1) fun x8=>Ssl 1 x6 (some (I 1)) (some x8) fun x9=>Nc a0<|Fo 0 a0 fun x11=>Ld x11 w1 fun x12=>Ssl 1 x12 none (some a1) fun x14=>Cp P #[54, 54] 3 #[x9, x14] w1 fun x16 w2=>Nc a0<|Fo 0 a0 fun x17=>Ld x17 w2 fun x18=>Ias 1 x18 (I 0) fun x19=>St x19 x4 w2 fun w3=>R x4 w3
theorem Tz140 (h : Vz140 prog a0 a1 w R) : Cl prog 140 #[a0, a1] w R :=
 tz 34 [(.tmp 4)] (s z (s z (s (r (.staged [0, 1, 3, 7, 0, 16, 63, 0, 128, 384, 896, 0, 3968, 8191])) (s z (s z z))))) [a0, a1] func140 h
def Vz141 (P : Program) (a0 a1 : Value) (w : World) (R : KT) : Prop :=
 Lnl a0 fun x1=>VLoop 1 [(I 0)] w fun _ n3 x2 w1=>Bv .lss x2 x1 (Ias 1 a0 x2 fun x5=>Ld x5 w1 fun x6=>Bv .eql a1 x6 (R x2 w1) (Bp .add x2 (I 1) fun x8=>KS [a0, a1, x1]<|n3 x8 w1)) (R (I (-1)) w1)
theorem Tz141 (h : Vz141 prog a0 a1 w R) : Cl prog 141 #[a0, a1] w R :=
 tz 19 [(.tmp 4)] (s z (s (s z (b (l [8] [0, 1, 7] (s z (s (i z z) (s (b (s z (s z (i (s z z) z)))) z)))))) (s z z))) [a0, a1] func141 h
def Vz142 (P : Program) (a0 a1 : Value) (w : World) (R : KT) : Prop :=
 New (zeroP P 148) 148 w fun x1 w1=>Cl P 186 #[a0, a1] w1 fun x2 w2=>Ex x2 0 fun x3=>Ex x2 1 fun x4=>VJoin 1 (fun _ x5 w3=>Vif x5 (Bd P 148 #[] w3 fun x6=>StA 2 x1 x6 w3 fun w4=>LdA 2 x1 w4 fun x7=>R (.tuple #[x7, (I 1)]) w4) (Lnl a0 fun x8=>Cl P 148 #[x8] w3 fun x9 w5=>Bv .gtr x9 (I 32767) (Bd P 148 #[] w5 fun x11=>StA 2 x1 x11 w5 fun w6=>LdA 2 x1 w6 fun x12=>R (.tuple #[x12, (I 2)]) w6) (Cl P 187 #[a0] w5 fun x13 w7=>Lnl a0 fun x14=>Cl P 188 #[x3, x14] w7 fun x15 w8=>Bd P 148 #[(0, x15)] w8 fun x16=>New (zeroP P 148) 148 w8 fun y17 w9=>StA 2 y17 x16 w9 fun w10=>VLoop 1 [(I 0)] w10 fun _ n19 x18 w11=>Bv .lss x18 (I 4) (Fo 0 y17 fun x21=>Ld x21 w11 fun x22=>Cl P 189 #[x13, x22, a1] w11 fun x23 w12=>Ex x23 0 fun x24=>Ex x23 1 fun x25=>Bd P 148 #[(0, x25), (1, x24)] w12 fun x26=>StA 2 y17 x26 w12 fun w13=>Bp .add x18 (I 1) fun x27=>KS [a1, x1, x13, y17]<|n19 x27 w13) (LdA 2 y17 w11 fun x28=>StA 2 x1 x28 w11 fun w14=>LdA 2 x1 w14 fun x29=>R (.tuple #[x29, (I 0)]) w14)))) (fun J30=>Bp .neq x4 (I 0) fun x31=>Vif x31 (KS [a0, a1, x1, x3]<|J30 (.bool true) w2) (Lnl a0 fun x32=>Bp .eql x32 (I 0) fun x33=>KS [a0, a1, x1, x3]<|J30 x33 w2))
theorem Tz142 (h : Vz142 prog a0 a1 w R) : Cl prog 142 #[a0, a1] w R :=
 tz 55 [(.cell 4 148), (.tmp 5)] (s z (s z (s (b (j [18] [0, 1, 4, 6] z (i (s z z) (s z (i (s z z) z))))) (s z (s z (s (s z (b (l [40] [1, 4, 8, 9] (s z (s (i z z) (s (b (s z z)) z)))))) (s z z))))))) [a0, a1] func142 h
def Vz143 (P : Program) (a0 a1 : Value) (w : World) (R : KT) : Prop :=
 New a1 3 w fun y1 w1=>VJoin 1 (fun _ x2 w2=>Vif x2 (R (.bool false) w2) (Mf P (.func 192) #[] #[y1] w2 fun x3=>Cl P 191 #[a0, x3] w2 fun x4 w3=>Up .not x4 fun x5=>R x5 w3)) (fun J6=>Ld y1 w1 fun x7=>Cl P 190 #[x7] w1 fun x8 w4=>Up .not x8 fun x9=>Vif x9 (KS [a0, y1]<|J6 (.bool true) w4) (Lnl a0 fun x10=>Bv .eql x10 (I 0) (KS [a0, y1]<|J6 (.bool true) w4) (Lnl a0 fun x12=>Bp .gtr x12 (I 32767) fun x13=>KS [a0, y1]<|J6 x13 w4)))
theorem Tz143 (h : Vz143 prog a0 a1 w R) : Cl prog 143 #[a0, a1] w R :=
 tz 22 [(.tmp 4)] (s z (s (j [17] [0, 3] z (i (s z z) z)) (s z z))) [a0, a1] func143 h
def Vz144 (P : Program) (a0 : Value) (w : World) (R : KT) : Prop :=
 Cl P 193 #[] w fun x1 w1=>New (zeroP P 256) 256 w1 fun y2 w2=>StA 6 y2 x1 w2 fun w3=>Lnl a0 fun x3=>Ms P 69 x3 x3 w3 fun x4 w4=>Lnl a0 fun x5=>VLoop 1 [(I 0)] w4 fun _ n7 x6 w5=>Bv .lss x6 x5 (Ias 1 a0 x6 fun x9=>Ld x9 w5 fun x10=>Cl P 194 #[y2, x10] w5 fun x11 w6=>Ias 1 x4 x6 fun x12=>St x12 x11 w6 fun w7=>Bp .add x6 (I 1) fun x13=>KS [y2, x4, a0, x5]<|n7 x13 w7) (R x4 w5)
theorem Tz144 (h : Vz144 prog a0 w R) : Cl prog 144 #[a0] w R :=
 tz 25 [(.tmp 2)] (s z (s z (s z (s (s z (b (l [13] [3, 4, 11, 12] (s z (s (i z z) (s (b (s z z)) z)))))) (s z z))))) [a0] func144 h
def Vz145 (P : Program) (a0 : Value) (w : World) (R : KT) : Prop :=
 Lnl a0 fun x1=>Cl P 195 #[x1] w fun x2 w1=>Vif x2 (Cl P 191 #[a0, (.func (.func 196) #[] #[])] w1 fun x3 w2=>Up .not x3 fun x4=>R x4 w2) (R (.bool false) w1)
theorem Tz145 (h : Vz145 prog a0 w R) : Cl prog 145 #[a0] w R :=
 tz 11 [(.tmp 2)] (s z (s z z)) [a0] func145 h
def Vz146 (P : Program) (a0 a1 : Value) (w : World) (R : KT) : Prop :=
 Ias 1 a0 (I 0) fun x1=>Ld x1 w fun x2=>Inv P (do let d <- Deferred.ofValue a1 #[x2, (I 5)]; invoke d.target d.args) w fun x3 w1=>Lnl a0 fun x4=>VLoop 2 [x2, (I 0)] w1 fun _ n7 y5 x6 w2=>Bv .lss x6 x4 (Ias 1 a0 x6 fun x9=>Ld x9 w2 fun x10=>VLoop 1 [y5] w2 fun _ n12 y11 w3=>Bv .lss y11 x10 (Inv P (do let d <- Deferred.ofValue a1 #[(I 2), (I 2)]; invoke d.target d.args) w3 fun x14 w4=>Bp .add y11 (I 1) fun x15=>KS [a1, x10, a0, x4, x6]<|n12 x15 w4) (VLoop 1 [y11] w3 fun _ n17 y16 w5=>Bp .gtr y16 x10 fun x18=>Vif x18 (Inv P (do let d <- Deferred.ofValue a1 #[(I 3), (I 2)]; invoke d.target d.args) w5 fun x19 w6=>Bp .sub y16 (I 1) fun x20=>KS [a1, x10, a0, x4, x6]<|n17 x20 w6) (Inv P (do let d <- Deferred.ofValue a1 #[(I 0), (I 1)]; invoke d.target d.args) w5 fun x21 w7=>Bp .add x6 (I 1) fun x22=>KS [a1, a0, x4]<|n7 y16 x22 w7))) (R (.tuple #[]) w2)
theorem Tz146 (h : Vz146 prog a0 a1 w R) : Cl prog 146 #[a0, a1] w R :=
 tz 36 [] (s z (s z (s z (b (l [4, 15] [1, 13, 14] (s z (s (i z z) (s (b (s z (s (b (l [4] [1, 6, 13, 14, 15] (s (s z (i z z)) (s (b z) z)))) (s (b (l [4] [1, 6, 13, 14, 15] (s (s z (i z z)) (s (b z) z)))) z)))) z)))))))) [a0, a1] func146 h
def Vz147 (P : Program) (a0 a1 a2 : Value) (w : World) (R : KT) : Prop :=
 Ld a2 w fun x1=>Bp .add x1 a1 fun x2=>St a2 x2 w fun w1=>R (.tuple #[]) w1
theorem Tz147 (h : Vz147 prog a0 a1 a2 w R) : Cl prog 147 #[a0, a1, a2] w R :=
 tz 8 [] z [a0, a1, a2] func147 h
def Vz148 (P : Program) (a0 : Value) (w : World) (R : KT) : Prop :=
 Bv .leq a0 (I 0) (R (I 0) w) (Bp .sub a0 (I 1) fun x2=>Bp .quo x2 (I 50) fun x3=>Bp .add x3 (I 1) fun x4=>R x4 w)
theorem Tz148 (h : Vz148 prog a0 w R) : Cl prog 148 #[a0] w R :=
 tz 9 [(.tmp 2)] (s z (s (s z (i (s z z) z)) (s z z))) [a0] func148 h
def Vz149 (P : Program) (a0 a1 : Value) (w : World) (R : KT) : Prop :=
 VJoin 1 (fun _ x1 w1=>Vif x1 (R (.tuple #[(.slice none 0 0), (I 1)]) w1) (Cl P 198 #[a0, a1, (I 50)] w1 fun x2 w2=>R (.tuple #[x2, (I 0)]) w2)) (fun J3=>Bv .lss a1 (I 0) (KS [a0, a1]<|J3 (.bool true) w) (Lnl a0 fun x5=>Cl P 148 #[x5] w fun x6 w3=>Bp .geq a1 x6 fun x7=>KS [a0, a1]<|J3 x7 w3))
theorem Tz149 (h : Vz149 prog a0 a1 w R) : Cl prog 149 #[a0, a1] w R :=
 tz 18 [(.tmp 4), (.tmp 5)] (s z (s (j [14] [0, 1] z (i (s z z) z)) (s z z))) [a0, a1] func149 h
def Vz150 (P : Program) (a0 a1 : Value) (w : World) (R : KT) : Prop :=
 Cl P 199 #[a1] w fun x1 w1=>Up .not x1 fun x2=>Vif x2 (R (.tuple #[(I 0), (I 1)]) w1) (Lnl a0 fun x3=>VLoop 2 [(I 0), (I 0)] w1 fun _ n6 y4 x5 w2=>Bv .lss x5 x3 (Ias 1 a0 x5 fun x8=>Ld x8 w2 fun x9=>VJoin 1 (fun _ x10 w3=>Vif x10 (R (.tuple #[(I 0), (I 1)]) w3) (Ias 1 a1 x9 fun x11=>Ld x11 w3 fun x12=>Cl P 200 #[y4, x12] w3 fun x13 w4=>Bp .add x5 (I 1) fun x14=>KS [a1, a0, x3]<|n6 x13 x14 w4)) (fun J15=>Bp .lss x9 (I 0) fun x16=>Vif x16 (KS [a1, y4, x9, a0, x3, x5]<|J15 (.bool true) w2) (Lnl a1 fun x17=>Bp .geq x9 x17 fun x18=>KS [a1, y4, x9, a0, x3, x5]<|J15 x18 w2))) (R (.tuple #[y4, (I 0)]) w2))
theorem Tz150 (h : Vz150 prog a0 a1 w R) : Cl prog 150 #[a0, a1] w R :=
 tz 34 [(.tmp 4), (.tmp 5)] (s z (s (s z (i (s z z) z)) (s z (s (s z (b (l [6, 14] [1, 12, 13] (s z (s (i z z) (s (b (s z (s (j [25] [1, 6, 8, 12, 13, 14] z (i (s z z) z)) z))) z)))))) (s z z))))) [a0, a1] func150 h
def Vz151 (P : Program) (a0 a1 a2 : Value) (w : World) (R : KT) : Prop :=
 Ld a2 w fun x1=>Ci .u32 a0 fun x2=>Cl P 45 #[x1, x2, a1] w fun x3 w1=>R (.tuple #[]) w1
theorem Tz151 (h : Vz151 prog a0 a1 a2 w R) : Cl prog 151 #[a0, a1, a2] w R :=
 tz 10 [] z [a0, a1, a2] func151 h
def Vz152 (P : Program) (a0 : Value) (w : World) (R : KT) : Prop :=
 Cl P 201 #[a0] w fun x1 w1=>Ex x1 0 fun x2=>Ex x1 1 fun x3=>Bv .eql x3 (I 0) (Bv .eql x2 (I 1048576) (Cl P 202 #[a0, (I 0)] w1 fun x6 w2=>Up .not x6 fun x7=>R x7 w2) (R (.bool false) w1)) (R (.bool false) w1)
theorem Tz152 (h : Vz152 prog a0 w R) : Cl prog 152 #[a0] w R :=
 tz 21 [(.tmp 2)] (s z (s z (s z z))) [a0] func152 h
def Vz153 (P : Program) (a0 : Value) (w : World) (R : KT) : Prop :=
 Be P .eql 69 (.tmp 3) (.const (.slice none 0 0)) a0 (.slice none 0 0) w fun x1=>Vif x1 (R (.slice none 0 0) w) (Bs P 69 0 #[] w fun x2 w1=>Ap P #[69, 69] 69 #[x2, a0] w1 fun x3 w2=>R x3 w2)
theorem Tz153 (h : Vz153 prog a0 w R) : Cl prog 153 #[a0] w R :=
 tz 8 [(.tmp 2)] (s z (s (s z (i (s z z) z)) (s z z))) [a0] func153 h
def Vz154 (P : Program) (a0 a1 : Value) (w : World) (R : KT) : Prop :=
 Bn P 219 false a0 (.pointer none) fun x1=>Vif x1 (R (.tuple #[(.int .u32 0), (I 0), (I 7)]) w) (VJoin 1 (fun _ x2 w1=>Vif x2 (R (.tuple #[(.int .u32 0), (I 0), (I 1)]) w1) (Dr w1 fun w2=>Nc a0<|Fo 1 a0 fun x3=>Ld x3 w2 fun x4=>Ias 1 x4 a1 fun x6=>Ld x6 w2 fun x7=>Nc a0<|Fo 0 a0 fun x9=>Ld x9 w2 fun x10=>Ias 1 x10 a1 fun x12=>Ld x12 w2 fun x13=>R (.tuple #[x7, x13, (I 0)]) w2)) (fun J15=>Bv .lss a1 (I 0) (KS [a0, a1]<|J15 (.bool true) w) (Nc a0<|Fo 0 a0 fun x17=>Ld x17 w fun x18=>Lnl x18 fun x19=>Bp .geq a1 x19 fun x20=>KS [a0, a1]<|J15 x20 w)))
theorem Tz154 (h : Vz154 prog a0 a1 w R) : Cl prog 154 #[a0, a1] w R :=
 tz 36 [(.tmp 4), (.tmp 5), (.tmp 6)] (s z (s (b (s z (i (s z z) (j [10] [0, 1] z (i (s z z) z))))) (s (r (.staged [0, 1, 3, 7, 0, 31, 63, 0, 128, 384, 896, 0, 3968, 8064, 127, 32767, 65535])) z))) [a0, a1] func154 h
def Vz159 (P : Program) (a0 : Value) (w : World) (R : KT) : Prop :=
 Lnl a0 fun x1=>VLoop 2 [(.slice none 0 0), (I 0)] w fun _ n4 y2 x3 w1=>Bv .lss x3 x1 (Ias 1 a0 x3 fun x6=>Ld x6 w1 fun x7=>VJoin 1 (fun _ x8 w2=>Bs P 69 1 #[(0, x8)] w2 fun x9 w3=>Ap P #[69, 69] 69 #[y2, x9] w3 fun x10 w4=>Bp .add x3 (I 1) fun x11=>KS [a0, x1]<|n4 x10 x11 w4) (fun J12=>Bp .eql x7 (I 0) fun x13=>Vif x13 (KS [y2, a0, x1, x3]<|J12 (I 1) w1) (KS [y2, a0, x1, x3]<|J12 x7 w1))) (VLoop 2 [y2, (I 0)] w1 fun _ n16 y14 x15 w5=>Bv .lss x15 (I 100) (Cl P 206 #[y14] w5 fun x18 w6=>Cl P 207 #[x18, (I 1), (I 20)] w6 fun x19 w7=>Vif x19 (R x18 w7) (Cl P 208 #[y14] w7 fun x20 w8=>Bp .add x15 (I 1) fun x21=>KS []<|n16 x20 x21 w8)) (R (.slice none 0 0) w5))
theorem Tz159 (h : Vz159 prog a0 w R) : Cl prog 159 #[a0] w R :=
 tz 30 [(.tmp 2)] (s z (s z (s (s z (b (l [3, 9] [7, 8] (s z (s (i z z) (s (b (s z (j [5] [3, 7, 8, 9] (s z (i z z)) z))) z)))))) (s (s z (b (l [3, 20] [] (s z (s (i z z) (s (b (s z (s (s z (i (s z z) z)) z))) z)))))) (s z z))))) [a0] func159 h
def Vz160 (P : Program) (a0 a1 : Value) (w : World) (R : KT) : Prop :=
 Lns a0 fun x1=>Bp .sub x1 (I 1) fun x2=>VLoop 3 [(.string ⟨#[]⟩), (.bool true), x2] w fun _ n6 y3 y4 y5 w1=>Bp .geq y5 (I 0) fun x7=>Vif x7 (Ixs a0 y5 fun x8=>Bp .eql x8 (.int .u8 49) fun x9=>VJoin 1 (fun _ y10 w2=>Vif y4 (Bp .sub y5 (I 1) fun x11=>KS [a0, a1]<|n6 y10 x9 x11 w2) (Bp .sub y5 (I 1) fun x12=>KS [a0, a1]<|n6 y10 (.bool false) x12 w2)) (fun J13=>Bb true x9 y4 fun x14=>Vif x14 (Bp .add (.string ⟨#[49]⟩) y3 fun x15=>KS [a0, a1, y4, y5, x9]<|J13 x15 w1) (Bp .add (.string ⟨#[48]⟩) y3 fun x16=>KS [a0, a1, y4, y5, x9]<|J13 x16 w1))) (VLoop 1 [y3] w1 fun _ n18 y17 w3=>Lns y17 fun x19=>Bp .lss x19 a1 fun x20=>Vif x20 (Bp .add y17 (.string ⟨#[48]⟩) fun x21=>KS [a1]<|n18 x21 w3) (R y17 w3))
theorem Tz160 (h : Vz160 prog a0 a1 w R) : Cl prog 160 #[a0, a1] w R :=
 tz 38 [(.tmp 4)] (s z (s z (s z (s (s z (b (l [5, 6, 7] [0, 1] (s (s z (i z z)) (s (b (s z (j [5] [0, 1, 6, 7, 8] (s z (i z z)) z))) z))))) (s (b (l [5] [1] (s (s z (i z z)) (b z)))) (s z z)))))) [a0, a1] func160 h
def Vz161 (P : Program) (a0 a1 : Value) (w : World) (R : KT) : Prop :=
 Cl P 74 #[a1] w fun x1 w1=>Bv .lss x1 (I 57) (R (I 3) w1) (Cl P 209 #[a1, (I 32)] w1 fun x3 w2=>Ex x3 0 fun x4=>Ex x3 1 fun x5=>Cl P 209 #[a1, (I 1)] w2 fun x6 w3=>Ex x6 0 fun x7=>Ex x6 1 fun x8=>Cl P 209 #[a1, (I 24)] w3 fun x9 w4=>Ex x9 0 fun x10=>Ex x9 1 fun x11=>Nc a0<|Fo 2 a0 fun x12=>St x12 (.bool true) w4 fun w5=>Nc a0<|Fo 3 a0 fun x13=>St x13 x4 w5 fun w6=>Ci .i64 x10 fun x14=>Nc a0<|Fo 4 a0 fun x15=>St x15 x14 w6 fun w7=>Bv .eql x7 (.int .u32 1) (R (I 25) w7) (R (I 0) w7))
theorem Tz161 (h : Vz161 prog a0 a1 w R) : Cl prog 161 #[a0, a1] w R :=
 tz 43 [(.tmp 4)] (s z (s (s z (i (s z z) z)) (s z (s z (s z (s z (s z (s z (s (s z (i (s z z) z)) (s z z)))))))))) [a0, a1] func161 h
def Vz162 (P : Program) (a0 a1 : Value) (w : World) (R : KT) : Prop :=
 Cl P 210 #[a1] w fun x1 w1=>Ex x1 0 fun x2=>Ex x1 1 fun x3=>Bv .eql x3 (I 0) (Nc a0<|Fo 1 a0 fun x5=>Ld x5 w1 fun x6=>Cl P 211 #[x2, x6] w1 fun x7 w2=>Nc a0<|Fo 0 a0 fun x8=>St x8 x7 w2 fun w3=>R x3 w3) (R x3 w1)
theorem Tz162 (h : Vz162 prog a0 a1 w R) : Cl prog 162 #[a0, a1] w R :=
 tz 24 [(.tmp 4)] (s z (s z (s (s z (i z z)) (s z z)))) [a0, a1] func162 h
def Vz163 (P : Program) (a0 : Value) (w : World) (R : KT) : Prop :=
 Bn P 269 true a0 (.pointer none) fun x1=>Vif x1 (Nc a0<|Fo 3 a0 fun x2=>Ld x2 w fun x3=>Bv .gtr x3 (I 0) (R (.bool true) w) (Nc a0<|Fo 4 a0 fun x5=>Ld x5 w fun x6=>Bp .gtr x6 (I 0) fun x7=>R x7 w)) (R (.bool false) w)
theorem Tz163 (h : Vz163 prog a0 w R) : Cl prog 163 #[a0] w R :=
 tz 19 [(.tmp 2)] (s z (s z z)) [a0] func163 h
def Vz164 (P : Program) (a0 : Value) (w : World) (R : KT) : Prop :=
 VJoin 1 (fun _ y1 w1=>Nc a0<|Fo 2 a0 fun x2=>Ld x2 w1 fun x3=>Cl P 212 #[x3, y1] w1 fun x4 w2=>Ex x4 0 fun x5=>Ex x4 1 fun x6=>R x5 w2) (fun J7=>Nc a0<|Fo 3 a0 fun x8=>Ld x8 w fun x9=>Bv .gtr x9 (I 0) (Nc a0<|Fo 3 a0 fun x11=>Ld x11 w fun x12=>Bp .sub x12 (I 1) fun x13=>Nc a0<|Fo 3 a0 fun x14=>St x14 x13 w fun w3=>KS [a0]<|J7 (I 0) w3) (Nc a0<|Fo 4 a0 fun x15=>Ld x15 w fun x16=>Nc a0<|Fo 4 a0 fun x17=>St x17 (I 0) w fun w4=>KS [a0]<|J7 x16 w4))
theorem Tz164 (h : Vz164 prog a0 w R) : Cl prog 164 #[a0] w R :=
 tz 35 [(.tmp 2)] (s z (s z (j [3] [0] (s z (i z (s z z))) (s z (s z z))))) [a0] func164 h
def Vz165 (P : Program) (a0 a1 : Value) (w : World) (R : KT) : Prop :=
 Nc a0<|Fo 0 a0 fun x1=>Ld x1 w fun x2=>Nc x2<|Fo 0 x2 fun x3=>Ld x3 w fun x4=>Cl P 213 #[x4, a1] w fun x5 w1=>Ex x5 0 fun x6=>Ex x5 1 fun x7=>VJoin 1 (fun _ x8 w2=>Vif x8 (R x7 w2) (Nc a0<|Fo 0 a0 fun x9=>Ld x9 w2 fun x10=>Cl P 214 #[x10, x6] w2 fun x11 w3=>R x11 w3)) (fun J12=>Bv .neq x7 (I 0) (KS [a0, x6, x7]<|J12 (.bool true) w1) (Bp .lss x6 (I 0) fun x14=>KS [a0, x6, x7]<|J12 x14 w1))
theorem Tz165 (h : Vz165 prog a0 a1 w R) : Cl prog 165 #[a0, a1] w R :=
 tz 32 [(.tmp 4)] (s z (s z (s (j [24] [0, 5, 6] z (i (s z z) z)) (s z z)))) [a0, a1] func165 h
def Vz166 (P : Program) (a0 : Value) (w : World) (R : KT) : Prop :=
 VJoin 1 (fun _ x1 w1=>Vif x1 (R (I 0) w1) (Dr w1 fun w2=>Nc a0<|Fo 4 a0 fun x2=>Ld x2 w2 fun x3=>Nc a0<|Fo 5 a0 fun x5=>Ld x5 w2 fun x6=>Lnl x6 fun x8=>Bv .geq x3 x8 (R (I 23) w2) (Nc a0<|Fo 6 a0 fun x11=>St x11 (.bool true) w2 fun w3=>R (I 0) w3))) (fun J12=>Nc a0<|Fo 0 a0 fun x13=>Ld x13 w fun x14=>Bn P 269 false x14 (.pointer none) fun x15=>Vif x15 (KS [a0]<|J12 (.bool true) w) (Nc a0<|Fo 0 a0 fun x16=>Ld x16 w fun x17=>Nc x17<|Fo 0 x17 fun x18=>Ld x18 w fun x19=>Cl P 215 #[x19] w fun x20 w4=>Up .not x20 fun x21=>Vif x21 (KS [a0]<|J12 (.bool true) w4) (Nc a0<|Fo 0 a0 fun x22=>Ld x22 w4 fun x23=>Cl P 163 #[x23] w4 fun x24 w5=>KS [a0]<|J12 x24 w5)))
theorem Tz166 (h : Vz166 prog a0 w R) : Cl prog 166 #[a0] w R :=
 tz 41 [(.tmp 2)] (s z (s (b (j [3] [0] z (i (s z z) (s (r (.staged [0, 1, 3, 7, 0, 16, 48, 112, 240, 511, 1023])) (i (s z z) z))))) (s z (s z z)))) [a0] func166 h
def Vz167 (P : Program) (a0 : Value) (w : World) (R : KT) : Prop :=
 Dr w fun w1=>Bn P 229 true a0 (.pointer none) fun x1=>Vif x1 (Nc a0<|Fo 260 a0 fun x2=>Ld x2 w1 fun x3=>Nc a0<|Fo 0 a0 fun x5=>Ld x5 w1 fun x6=>Lns x6 fun x8=>Bp .mul (I 3) x8 fun x10=>Bp .eql x3 x10 fun x11=>R x11 w1) (R (.bool false) w1)
theorem Tz167 (h : Vz167 prog a0 w R) : Cl prog 167 #[a0] w R :=
 tz 18 [(.tmp 2)] (s z (s (r (.staged [0, 1, 3, 7, 15, 31, 63, 7, 135, 391, 903, 1927, 3975, 8191, 16383, 32767])) z)) [a0] func167 h
def Vz168 (P : Program) (a0 : Value) (w : World) (R : KT) : Prop :=
 Nc a0<|Fo 0 a0 fun x1=>Ld x1 w fun x2=>Lns x2 fun x3=>Nc a0<|Fo 260 a0 fun x4=>Ld x4 w fun x5=>Bp .rem x5 x3 fun x6=>VJoin 0 (fun _ w1=>Nc a0<|Fo 260 a0 fun x7=>Ld x7 w1 fun x8=>Bp .add x8 (I 1) fun x9=>Nc a0<|Fo 260 a0 fun x10=>St x10 x9 w1 fun w2=>R (.tuple #[]) w2) (fun J11=>Nc a0<|Fo 260 a0 fun x12=>Ld x12 w fun x13=>Bp .quo x13 x3 fun x14=>Bp .eql x14 (I 0) fun x15=>Vif x15 (Dr w fun w3=>Nc a0<|Fo 0 a0 fun x16=>Ld x16 w3 fun x17=>Ixs x17 x6 fun x19=>Nc a0<|Fo 1 a0 fun x20=>Iaa 256 1 x20 x19 fun x21=>Ld x21 w3 fun x22=>Bp .add x22 (I 1) fun x24=>Nc a0<|Fo 1 a0 fun x25=>Iaa 256 1 x25 x19 fun x26=>St x26 x24 w3 fun w4=>Bp .sub x3 (I 1) fun x27=>Bp .eql x6 x27 fun x28=>Vif x28 (Cl P 216 #[a0] w4 fun x29 w5=>KS [a0]<|J11 w5) (KS [a0]<|J11 w4)) (Bv .eql x14 (I 1) (Nc a0<|Fo 0 a0 fun x31=>Ld x31 w fun x32=>Ixs x32 x6 fun x33=>Dr w fun w6=>Nc a0<|Fo 257 a0 fun x34=>Ld x34 w6 fun x35=>Nc a0<|Fo 1 a0 fun x37=>Iaa 256 1 x37 x33 fun x38=>Ld x38 w6 fun x39=>Ias 1 x35 x39 fun x41=>St x41 x6 w6 fun w7=>Dr w7 fun w8=>Nc a0<|Fo 1 a0 fun x42=>Iaa 256 1 x42 x33 fun x43=>Ld x43 w8 fun x44=>Bp .add x44 (I 1) fun x46=>Nc a0<|Fo 1 a0 fun x47=>Iaa 256 1 x47 x33 fun x48=>St x48 x46 w8 fun w9=>KS [a0]<|J11 w9) (Dr w fun w10=>Nc a0<|Fo 257 a0 fun x49=>Ld x49 w10 fun x50=>Nc a0<|Fo 258 a0 fun x52=>Ld x52 w10 fun x53=>Ias 1 x50 x53 fun x55=>Ld x55 w10 fun x56=>Nc a0<|Fo 258 a0 fun x58=>St x58 x56 w10 fun w11=>Dr w11 fun w12=>Nc a0<|Fo 259 a0 fun x59=>Ld x59 w12 fun x60=>Nc a0<|Fo 0 a0 fun x62=>Ld x62 w12 fun x63=>Nc a0<|Fo 258 a0 fun x65=>Ld x65 w12 fun x66=>Ixs x63 x66 fun x68=>Bs P 54 1 #[(0, x68)] w12 fun x69 w13=>Rk (fun w K=>Ld x59 w fun x61=>K x61) x60 w13<|Ap P #[54, 54] 54 #[x60, x69] w13 fun x70 w14=>Nc a0<|Fo 259 a0 fun x71=>St x71 x70 w14 fun w15=>KS [a0]<|J11 w15)))
theorem Tz168 (h : Vz168 prog a0 w R) : Cl prog 168 #[a0] w R :=
 tz 113 [] (s z (s z (j [] [0] (s z (b (s z (i (s (r (.staged [0, 0, 2, 6, 14, 0, 62, 1, 129, 511, 1023, 2047, 1, 4097, 16383, 32767])) (s z (i z z))) (s z (i (s z (s (r (.staged [0, 1, 3, 7, 0, 0, 16, 80, 240, 496, 0, 2047, 4095])) (r (.staged [0, 0, 1, 5, 15, 31, 63, 1, 129, 511, 1023])))) (s (r (.staged [0, 0, 2, 6, 14, 0, 32, 96, 224, 510, 1022, 2047, 4095, 8191])) (r (.staged [0, 0, 2, 6, 14, 0, 32, 96, 224, 0, 512, 1536, 3584, 8160, 16352, 32766, 65535, 131071, 262143]))))))))) z))) [a0] func168 h
def Vz169 (P : Program) (w : World) (R : KT) : Prop :=
 New (zeroP P 230) 230 w fun x1 w1=>New (zeroP P 230) 230 w1 fun y2 w2=>VLoop 1 [(I 0)] w2 fun _ n4 x3 w3=>Bv .lss x3 (I 256) (Ci .u32 x3 fun x6=>Bp .shl x6 (.int .u64 24) fun x7=>VLoop 2 [x7, (I 0)] w3 fun _ n10 y8 x9 w4=>Bp .lss x9 (I 8) fun x11=>Vif x11 (Bp .shr y8 (.int .u64 31) fun x12=>Bp .shl y8 (.int .u64 1) fun x13=>Bp .mul x12 (.int .u32 79764919) fun x14=>Bp .xor x13 x14 fun x15=>Bp .add x9 (I 1) fun x16=>KS [x1, y2, x3, x3]<|n10 x15 x16 w4) (Iaa 256 1 y2 x3 fun x17=>St x17 y8 w4 fun w5=>Bp .add x3 (I 1) fun x18=>KS [x1, y2]<|n4 x18 w5)) (LdA 256 y2 w3 fun x19=>StA 256 x1 x19 w3 fun w6=>LdA 256 x1 w6 fun x20=>R x20 w6)
theorem Tz169 (h : Vz169 prog w R) : Cl prog 169 #[] w R :=
 tz 26 [(.cell 0 230)] (s z (s z (s (s z (b (l [5] [0, 1] (s z (s (i z z) (s (b (s z (s z (s (s z (b (l [3, 11] [0, 1, 2, 5] (s z (s (i z z) (s (b (s z z)) z)))))) z)))) z)))))) (s z z)))) [] func169 h
def Vz170 (P : Program) (a0 a1 : Value) (w : World) (R : KT) : Prop :=
 Bn P 233 true a0 (.pointer none) fun x1=>Vif x1 (Dr w fun w1=>Nc a0<|Fo 0 a0 fun x2=>Nc a0<|Fo 256 a0 fun x3=>Ld x3 w1 fun x4=>Cl P 217 #[x2, x4, a1] w1 fun x6 w2=>Nc a0<|Fo 256 a0 fun x7=>St x7 x6 w2 fun w3=>R (.tuple #[]) w3) (R (.tuple #[]) w)
theorem Tz170 (h : Vz170 prog a0 a1 w R) : Cl prog 170 #[a0, a1] w R :=
 tz 18 [] (s z (i (r (.staged [0, 0, 2, 6, 0, 16, 48, 112, 0, 510, 1023, 2047, 4095])) z)) [a0, a1] func170 h
def Vz183 (P : Program) (a0 : Value) (w : World) (R : KT) : Prop :=
 Cl P 222 #[a0] w fun x1 w1=>VJoin 0 (fun _ w2=>Nc a0<|Fo 14 a0 fun x2=>Ld x2 w2 fun x3=>Bp .add x3 (I 1) fun x4=>Nc a0<|Fo 14 a0 fun x5=>St x5 x4 w2 fun w3=>R (.tuple #[]) w3) (fun J6=>VJoin 1 (fun _ x7 w4=>Vif x7 (Cl P 223 #[a0] w4 fun x8 w5=>KS [a0]<|J6 w5) (Nc a0<|Fo 6 a0 fun x9=>Fo 2 x9 fun x10=>Ld x10 w4 fun x11=>Bp .gtr x11 (I 0) fun x12=>Vif x12 (Cl P 224 #[a0] w4 fun x13 w6=>KS [a0]<|J6 w6) (Nc a0<|Fo 5 a0 fun x14=>Ld x14 w4 fun x15=>Lnl x15 fun x16=>Bv .gtr x16 (I 0) (Cl P 225 #[a0] w4 fun x18 w7=>KS [a0]<|J6 w7) (Cl P 226 #[a0] w4 fun x19 w8=>KS [a0]<|J6 w8)))) (fun J20=>Dr w1 fun w9=>Nc a0<|Fo 6 a0 fun x21=>Fo 2 x21 fun x22=>Ld x22 w9 fun x23=>Bv .gtr x23 (I 0) (Nc a0<|Fo 9 a0 fun x26=>Ld x26 w9 fun x27=>Nc a0<|Fo 6 a0 fun x29=>Fo 1 x29 fun x30=>Ld x30 w9 fun x31=>Nc a0<|Fo 6 a0 fun x33=>Fo 0 x33 fun x34=>Ld x34 w9 fun x35=>Bp .sub x31 x35 fun x37=>Bp .lss x27 x37 fun x38=>KS [a0]<|J20 x38 w9) (KS [a0]<|J20 (.bool false) w9)))
theorem Tz183 (h : Vz183 prog a0 w R) : Cl prog 183 #[a0] w R :=
 tz 58 [] (s z (j [] [0] (b (j [6] [0] (r (.staged [0, 1, 3, 7, 15, 31, 63, 127, 255, 511, 1023, 127, 2175, 6271, 14463, 30847, 127, 65663, 196735, 458879, 983167, 2095231, 4194303, 8388607, 16777215])) (i z (s z (i z (s z (i z z))))))) z)) [a0] func183 h
def Vz184 (P : Program) (a0 a1 : Value) (w : World) (R : KT) : Prop :=
 Bv .eql a1 (I 0) (Lns a0 fun x2=>Bp .sub x2 (I 1) fun x3=>Ixs a0 x3 fun x4=>R x4 w) (Bp .sub a1 (I 1) fun x5=>Ixs a0 x5 fun x6=>R x6 w)
theorem Tz184 (h : Vz184 prog a0 a1 w R) : Cl prog 184 #[a0, a1] w R :=
 tz 16 [(.tmp 4)] (s z (s (s z (i (s z z) z)) (s z z))) [a0, a1] func184 h
def Vz186 (P : Program) (a0 a1 : Value) (w : World) (R : KT) : Prop :=
 VJoin 1 (fun _ x1 w1=>Vif x1 (R (.tuple #[(.slice none 0 0), (I 1)]) w1) (Ms P 69 a1 a1 w1 fun x2 w2=>Lnl a0 fun x3=>VLoop 1 [(I 0)] w2 fun _ n5 x4 w3=>Bv .lss x4 x3 (Ias 1 a0 x4 fun x7=>Ld x7 w3 fun x8=>VJoin 1 (fun _ x9 w4=>Vif x9 (R (.tuple #[(.slice none 0 0), (I 1)]) w4) (Ias 1 x2 x8 fun x10=>Ld x10 w4 fun x11=>Bp .add x11 (I 1) fun x12=>Ias 1 x2 x8 fun x13=>St x13 x12 w4 fun w5=>Bp .add x4 (I 1) fun x14=>KS [a1, x2, a0, x3]<|n5 x14 w5)) (fun J15=>Bp .lss x8 (I 0) fun x16=>Vif x16 (KS [a1, x2, x8, a0, x3, x4]<|J15 (.bool true) w3) (Bp .geq x8 a1 fun x17=>KS [a1, x2, x8, a0, x3, x4]<|J15 x17 w3))) (R (.tuple #[x2, (I 0)]) w3))) (fun J18=>Bp .lss a1 (I 3) fun x19=>Vif x19 (KS [a0, a1]<|J18 (.bool true) w) (Bp .gtr a1 (I 258) fun x20=>KS [a0, a1]<|J18 x20 w))
theorem Tz186 (h : Vz186 prog a0 a1 w R) : Cl prog 186 #[a0, a1] w R :=
 tz 38 [(.tmp 4), (.tmp 5)] (s z (s (j [14] [0, 1] z (i (s z z) z)) (s z (s (s z (b (l [19] [1, 6, 17, 18] (s z (s (i z z) (s (b (s z (s (j [29] [1, 6, 8, 17, 18, 19] z (i (s z z) z)) z))) z)))))) (s z z))))) [a0, a1] func186 h
def Vz187 (P : Program) (a0 : Value) (w : World) (R : KT) : Prop :=
 Lnl a0 fun x1=>Cl P 148 #[x1] w fun x2 w1=>VLoop 2 [(.slice none 0 0), (I 0)] w1 fun _ n5 y3 x4 w2=>Bv .lss x4 x2 (Cl P 149 #[a0, x4] w2 fun x7 w3=>Ex x7 0 fun x8=>Ex x7 1 fun x9=>Bs P 146 1 #[(0, x8)] w3 fun x10 w4=>Ap P #[146, 146] 146 #[y3, x10] w4 fun x11 w5=>Bp .add x4 (I 1) fun x12=>KS [a0, x2]<|n5 x11 x12 w5) (R y3 w2)
theorem Tz187 (h : Vz187 prog a0 w R) : Cl prog 187 #[a0] w R :=
 tz 25 [(.tmp 2)] (s z (s z (s (s z (b (l [3, 10] [0, 9] (s z (s (i z z) (s (b (s z (s z z))) z)))))) (s z z)))) [a0] func187 h
def Vz188 (P : Program) (a0 a1 : Value) (w : World) (R : KT) : Prop :=
 Cl P 227 #[a1] w fun x1 w1=>Ms P 146 x1 x1 w1 fun x2 w2=>Lnl x2 fun x3=>VLoop 1 [(I 0)] w2 fun _ n5 x4 w3=>Bv .lss x4 x3 (Lnl a0 fun x7=>Ms P 69 x7 x7 w3 fun x8 w4=>Ias 1 x2 x4 fun x9=>St x9 x8 w4 fun w5=>Bp .add x4 (I 1) fun x10=>KS [a0, a1, x1, x2, x3]<|n5 x10 w5) (Lnl a0 fun x11=>VLoop 2 [(I 0), (I 0)] w3 fun _ n14 y12 x13 w6=>Bp .lss x13 x11 fun x15=>Vif x15 (Ias 1 a0 x13 fun x16=>Ld x16 w6 fun x17=>Bp .mul y12 x1 fun x18=>Bp .quo x18 a1 fun x19=>Lnl x2 fun x20=>VLoop 1 [(I 0)] w6 fun _ n22 x21 w7=>Bp .lss x21 x20 fun x23=>Vif x23 (Bv .neq x21 x19 (Ias 1 x2 x21 fun x25=>Ld x25 w7 fun x26=>Ias 1 x26 x13 fun x27=>St x27 (I 15) w7 fun w8=>Bp .add x21 (I 1) fun x28=>KS [a1, x1, x2, y12, x13, x17, x19, a0, x11, x13, x20]<|n22 x28 w8) (Bp .add x21 (I 1) fun x29=>KS [a1, x1, x2, y12, x13, x17, x19, a0, x11, x13, x20]<|n22 x29 w7)) (Bp .add y12 x17 fun x30=>Bp .sub a1 (I 1) fun x31=>Bmin P #[3, 3] 3 #[x30, x31] w7 fun x32=>Bp .add x13 (I 1) fun x33=>KS [a1, x1, x2, a0, x11]<|n14 x32 x33 w7)) (R x2 w6))
theorem Tz188 (h : Vz188 prog a0 a1 w R) : Cl prog 188 #[a0, a1] w R :=
 tz 64 [(.tmp 4)] (s z (s z (s z (s (s z (b (l [19] [0, 1, 5, 6, 18] (s z (s (i z z) (s (b (s z z)) z)))))) (s z (s (s z (b (l [8, 31] [1, 5, 6, 29, 30] (s z (s (i z z) (s (b (s z (s z (s (s z (b (l [43] [1, 5, 6, 8, 9, 10, 11, 29, 30, 31, 42] (s z (s (i z z) (s (b (s z (s z (i z z)))) z)))))) z)))) z)))))) (s z z))))))) [a0, a1] func188 h
def Vz189 (P : Program) (a0 a1 a2 : Value) (w : World) (R : KT) : Prop :=
 Lnl a1 fun x1=>Ms P 146 x1 x1 w fun x2 w1=>Lnl x2 fun x3=>VLoop 1 [(I 0)] w1 fun _ n5 x4 w2=>Bv .lss x4 x3 (Ms P 69 a2 a2 w2 fun x7 w3=>Ias 1 x2 x4 fun x8=>St x8 x7 w3 fun w4=>Bp .add x4 (I 1) fun x9=>KS [a0, a1, a2, (.slice none 0 0), x2, x3]<|n5 x9 w4) (Lnl a0 fun x10=>VLoop 2 [(.slice none 0 0), (I 0)] w2 fun _ n13 y11 x12 w5=>Bp .lss x12 x10 fun x14=>Vif x14 (Ias 1 a0 x12 fun x15=>Ld x15 w5 fun x16=>Cl P 228 #[x16, a1] w5 fun x17 w6=>Bs P 69 1 #[(0, x17)] w6 fun x18 w7=>Ap P #[69, 69] 69 #[y11, x18] w7 fun x19 w8=>Cl P 186 #[x16, a2] w8 fun x20 w9=>Ex x20 0 fun x21=>Ex x20 1 fun x22=>Ias 1 x2 x17 fun x23=>Ld x23 w9 fun x24=>Cl P 229 #[x24, x21] w9 fun x25 w10=>Ex x25 0 fun x26=>Ex x25 1 fun x27=>Ias 1 x2 x17 fun x28=>St x28 x26 w10 fun w11=>Bp .add x12 (I 1) fun x29=>KS [a1, a2, x2, a0, x10]<|n13 x19 x29 w11) (Lnl x2 fun x30=>VLoop 2 [(.slice none 0 0), (I 0)] w5 fun _ n33 y31 x32 w12=>Bp .lss x32 x30 fun x34=>Vif x34 (Ias 1 x2 x32 fun x35=>Ld x35 w12 fun x36=>Cl P 230 #[x36] w12 fun x37 w13=>Ex x37 0 fun x38=>Ex x37 1 fun x39=>Bs P 146 1 #[(0, x38)] w13 fun x40 w14=>Ap P #[146, 146] 146 #[y31, x40] w14 fun x41 w15=>Bp .add x32 (I 1) fun x42=>KS [y11, x2, x30]<|n33 x41 x42 w15) (R (.tuple #[y11, y31]) w12)))
theorem Tz189 (h : Vz189 prog a0 a1 a2 w R) : Cl prog 189 #[a0, a1, a2] w R :=
 tz 88 [(.tmp 6), (.tmp 7)] (s z (s z (s z (s (s z (b (l [28] [0, 1, 2, 8, 9, 27] (s z (s (i z z) (s (b (s z z)) z)))))) (s (s z (b (l [8, 39] [1, 2, 9, 37, 38] (s z (s (i z z) (s (b (s z (s z (s z (s z (s z z)))))) z)))))) (s z (s (s z (b (l [18, 72] [8, 70, 71] (s z (s (i z z) (s (b (s z (s z z))) z)))))) (s z z)))))))) [a0, a1, a2] func189 h
def Vz190 (P : Program) (a0 : Value) (w : World) (R : KT) : Prop :=
 Bv .geq a0 (I 2) (Bp .leq a0 (I 6) fun x2=>R x2 w) (R (.bool false) w)
theorem Tz190 (h : Vz190 prog a0 w R) : Cl prog 190 #[a0] w R :=
 tz 9 [(.tmp 2)] (s z (s z z)) [a0] func190 h
def Vz191 (P : Program) (a0 a1 : Value) (w : World) (R : KT) : Prop :=
 Cl P 231 #[a0, a1] w fun x1 w1=>Bp .geq x1 (I 0) fun x2=>R x2 w1
theorem Tz191 (h : Vz191 prog a0 a1 w R) : Cl prog 191 #[a0, a1] w R :=
 tz 9 [(.tmp 4)] (s z (s z z)) [a0, a1] func191 h
def Vz192 (P : Program) (a0 a1 : Value) (w : World) (R : KT) : Prop :=
 Bv .lss a0 (I 0) (R (.bool true) w) (Ld a1 w fun x2=>Bp .geq a0 x2 fun x3=>R x3 w)
theorem Tz192 (h : Vz192 prog a0 a1 w R) : Cl prog 192 #[a0, a1] w R :=
 tz 11 [(.tmp 3)] (s z (s z z)) [a0, a1] func192 h
def Vz193 (P : Program) (w : World) (R : KT) : Prop :=
 New (zeroP P 256) 256 w fun x1 w1=>New (zeroP P 256) 256 w1 fun y2 w2=>VLoop 1 [(I 0)] w2 fun _ n4 x3 w3=>Bv .lss x3 (I 6) (Iaa 6 1 y2 x3 fun x6=>St x6 x3 w3 fun w4=>Bp .add x3 (I 1) fun x7=>KS [x1, y2]<|n4 x7 w4) (LdA 6 y2 w3 fun x8=>StA 6 x1 x8 w3 fun w5=>LdA 6 x1 w5 fun x9=>R x9 w5)
theorem Tz193 (h : Vz193 prog w R) : Cl prog 193 #[] w R :=
 tz 11 [(.cell 0 256)] (s z (s z (s (s z (b (l [3] [0, 1] (s z (s (i z z) (s (b (s z z)) z)))))) (s z z)))) [] func193 h
def Vz194 (P : Program) (a0 a1 : Value) (w : World) (R : KT) : Prop :=
 VLoop 1 [(I 0)] w fun _ n2 y1 w1=>Nc a0<|Iaa 6 1 a0 y1 fun x3=>Ld x3 w1 fun x4=>Bv .neq x4 a1 (Bp .add y1 (I 1) fun x6=>KS [a0, a1]<|n2 x6 w1) (Cl P 232 #[a0, y1] w1 fun x7 w2=>R y1 w2)
theorem Tz194 (h : Vz194 prog a0 a1 w R) : Cl prog 194 #[a0, a1] w R :=
 tz 19 [(.tmp 4)] (s z (s z (s (b (l [5] [0, 1] (s (s z (i z z)) (b z)))) (s z (s z z))))) [a0, a1] func194 h
def Vz195 (P : Program) (a0 : Value) (w : World) (R : KT) : Prop :=
 Bv .geq a0 (I 3) (Bp .leq a0 (I 258) fun x2=>R x2 w) (R (.bool false) w)
theorem Tz195 (h : Vz195 prog a0 w R) : Cl prog 195 #[a0] w R :=
 tz 9 [(.tmp 2)] (s z (s z z)) [a0] func195 h
def Vz196 (P : Program) (a0 : Value) (w : World) (R : KT) : Prop :=
 Cl P 197 #[a0] w fun x1 w1=>Up .not x1 fun x2=>R x2 w1
theorem Tz196 (h : Vz196 prog a0 w R) : Cl prog 196 #[a0] w R :=
 tz 6 [(.tmp 2)] (s z (s z z)) [a0] func196 h
def Vz197 (P : Program) (a0 : Value) (w : World) (R : KT) : Prop :=
 Bv .geq a0 (I 1) (Bp .leq a0 (I 20) fun x2=>R x2 w) (R (.bool false) w)
theorem Tz197 (h : Vz197 prog a0 w R) : Cl prog 197 #[a0] w R :=
 tz 9 [(.tmp 2)] (s z (s z z)) [a0] func197 h
def Vz198 (P : Program) (a0 a1 a2 : Value) (w : World) (R : KT) : Prop :=
 Bp .mul a1 a2 fun x1=>Lnl a0 fun x2=>Bp .add a1 (I 1) fun x3=>Bp .mul x3 a2 fun x4=>Bmin P #[3, 3] 3 #[x2, x4] w fun x5=>Ssl 1 a0 (some x1) (some x5) fun x6=>Cl P 153 #[x6] w fun x7 w1=>R x7 w1
theorem Tz198 (h : Vz198 prog a0 a1 a2 w R) : Cl prog 198 #[a0, a1, a2] w R :=
 tz 20 [(.tmp 6)] (s z (s z z)) [a0, a1, a2] func198 h
def Vz199 (P : Program) (a0 : Value) (w : World) (R : KT) : Prop :=
 Cl P 191 #[a0, (.func (.func 233) #[] #[])] w fun x1 w1=>Up .not x1 fun x2=>R x2 w1
theorem Tz199 (h : Vz199 prog a0 w R) : Cl prog 199 #[a0] w R :=
 tz 6 [(.tmp 2)] (s z (s z z)) [a0] func199 h
def Vz200 (P : Program) (a0 a1 : Value) (w : World) (R : KT) : Prop :=
 Bp .add a0 a1 fun x1=>Bmin P #[3, 3] 3 #[x1, (I 1099511627776)] w fun x2=>R x2 w
theorem Tz200 (h : Vz200 prog a0 a1 w R) : Cl prog 200 #[a0, a1] w R :=
 tz 9 [(.tmp 4)] (s z (s z z)) [a0, a1] func200 h
def Vz201 (P : Program) (a0 : Value) (w : World) (R : KT) : Prop :=
 VJoin 1 (fun _ x1 w1=>Vif x1 (R (.tuple #[(I 0), (I 1)]) w1) (Lnl a0 fun x2=>VLoop 2 [(I 0), (I 0)] w1 fun _ n5 y3 x4 w2=>Bv .lss x4 x2 (Ias 1 a0 x4 fun x7=>Ld x7 w2 fun x8=>Bp .sub (I 20) x8 fun x9=>Bp .shl (I 1) x9 fun x10=>Bp .add y3 x10 fun x11=>Bp .add x4 (I 1) fun x12=>KS [a0, x2]<|n5 x11 x12 w2) (R (.tuple #[y3, (I 0)]) w2))) (fun J13=>Lnl a0 fun x14=>Bp .gtr x14 (I 258) fun x15=>Vif x15 (KS [a0]<|J13 (.bool true) w) (Cl P 235 #[a0, (I 0), (I 20)] w fun x16 w3=>Up .not x16 fun x17=>KS [a0]<|J13 x17 w3))
theorem Tz201 (h : Vz201 prog a0 w R) : Cl prog 201 #[a0] w R :=
 tz 28 [(.tmp 2), (.tmp 3)] (s z (s (j [14] [0] z (i (s z z) z)) (s z (s (s z (b (l [4, 17] [15, 16] (s z (s (i z z) (s (b (s z z)) z)))))) (s z z))))) [a0] func201 h
def Vz202 (P : Program) (a0 a1 : Value) (w : World) (R : KT) : Prop :=
 Cl P 141 #[a0, a1] w fun x1 w1=>Bp .geq x1 (I 0) fun x2=>R x2 w1
theorem Tz202 (h : Vz202 prog a0 a1 w R) : Cl prog 202 #[a0, a1] w R :=
 tz 9 [(.tmp 4)] (s z (s z z)) [a0, a1] func202 h
def Vz206 (P : Program) (a0 : Value) (w : World) (R : KT) : Prop :=
 Lnl a0 fun x1=>Lnl a0 fun x2=>VLoop 2 [(.slice none 0 0), (I 0)] w fun _ n5 y3 x4 w1=>Bv .lss x4 x2 (Ias 1 a0 x4 fun x7=>Ld x7 w1 fun x8=>Bs P 69 1 #[(0, x4)] w1 fun x9 w2=>Bd P 285 #[(0, x8), (1, x4), (2, x9)] w2 fun x10=>Bs P 283 1 #[(0, x10)] w2 fun x11 w3=>Ap P #[283, 283] 283 #[y3, x11] w3 fun x12 w4=>Bp .add x4 (I 1) fun x13=>KS [x1, a0, x2]<|n5 x12 x13 w4) (Ms P 69 x1 x1 w1 fun x14 w5=>VLoop 2 [y3, x1] w5 fun _ n17 y15 y16 w6=>Lnl y15 fun x18=>Bp .gtr x18 (I 1) fun x19=>Vif x19 (Cl P 237 #[y15] w6 fun x20 w7=>Ias 3 y15 x20 fun x21=>LdA 3 x21 w7 fun x22=>New (zeroP P 285) 285 w7 fun x23 w8=>StA 3 x23 x22 w8 fun w9=>Cl P 238 #[y15, x20] w9 fun x24 w10=>Cl P 237 #[x24] w10 fun x25 w11=>Ias 3 x24 x25 fun x26=>LdA 3 x26 w11 fun x27=>New (zeroP P 285) 285 w11 fun y28 w12=>StA 3 y28 x27 w12 fun w13=>Cl P 238 #[x24, x25] w13 fun x29 w14=>Fo 2 x23 fun x30=>Ld x30 w14 fun x31=>Ap P #[69, 69] 69 #[(.slice none 0 0), x31] w14 fun x32 w15=>Fo 2 y28 fun x33=>Ld x33 w15 fun x34=>Ap P #[69, 69] 69 #[x32, x34] w15 fun x35 w16=>Lnl x35 fun x36=>VLoop 1 [(I 0)] w16 fun _ n38 x37 w17=>Bv .lss x37 x36 (Ias 1 x35 x37 fun x40=>Ld x40 w17 fun x41=>Ias 1 x14 x41 fun x42=>Ld x42 w17 fun x43=>Bp .add x43 (I 1) fun x44=>Ias 1 x14 x41 fun x45=>St x45 x44 w17 fun w18=>Bp .add x37 (I 1) fun x46=>KS [x29, x14, y16, x23, y28, x35, x35, x36]<|n38 x46 w18) (Fo 0 x23 fun x47=>Ld x47 w17 fun x48=>Fo 0 y28 fun x49=>Ld x49 w17 fun x50=>Bp .add x48 x50 fun x51=>Bd P 285 #[(0, x51), (1, y16), (2, x35)] w17 fun x52=>Bs P 283 1 #[(0, x52)] w17 fun x53 w19=>Ap P #[283, 283] 283 #[x29, x53] w19 fun x54 w20=>Bp .add y16 (I 1) fun x55=>KS [x14]<|n17 x54 x55 w20)) (R x14 w6))
theorem Tz206 (h : Vz206 prog a0 w R) : Cl prog 206 #[a0] w R :=
 tz 93 [(.tmp 2)] (s z (s z (s z (s (s z (b (l [4, 20] [3, 18, 19] (s z (s (i z z) (s (b (s z z)) z)))))) (s z (s z (s (b (l [4, 8] [7] (s (s z (i z z)) (b (s z (s z (s z (s z (s z (s z (s z (s z (s z (s (s z (b (l [68] [4, 7, 8, 10, 12, 13, 66, 67] (s z (s (i z z) (s (b (s z z)) z)))))) (s z z))))))))))))))) (s z z)))))))) [a0] func206 h
def Vz207 (P : Program) (a0 a1 a2 : Value) (w : World) (R : KT) : Prop :=
 Lnl a0 fun x1=>VLoop 1 [(I 0)] w fun _ n3 x2 w1=>Bv .lss x2 x1 (Ias 1 a0 x2 fun x5=>Ld x5 w1 fun x6=>VJoin 1 (fun _ x7 w2=>Vif x7 (R (.bool false) w2) (Bp .add x2 (I 1) fun x8=>KS [a1, a2, a0, x1]<|n3 x8 w2)) (fun J9=>Bp .lss x6 a1 fun x10=>Vif x10 (KS [a1, a2, a0, x1, x2]<|J9 (.bool true) w1) (Bp .gtr x6 a2 fun x11=>KS [a1, a2, a0, x1, x2]<|J9 x11 w1))) (R (.bool true) w1)
theorem Tz207 (h : Vz207 prog a0 a1 a2 w R) : Cl prog 207 #[a0, a1, a2] w R :=
 tz 24 [(.tmp 6)] (s z (s (s z (b (l [11] [1, 2, 9, 10] (s z (s (i z z) (s (b (s z (j [22] [1, 2, 9, 10, 11] z (i (s z z) z)))) z)))))) (s z z))) [a0, a1, a2] func207 h
def Vz208 (P : Program) (a0 : Value) (w : World) (R : KT) : Prop :=
 Lnl a0 fun x1=>VLoop 2 [(.slice none 0 0), (I 0)] w fun _ n4 y2 x3 w1=>Bv .lss x3 x1 (Ias 1 a0 x3 fun x6=>Ld x6 w1 fun x7=>VJoin 1 (fun _ x8 w2=>Bp .quo x8 (I 2) fun x9=>Bp .add x9 (I 1) fun x10=>Bs P 69 1 #[(0, x10)] w2 fun x11 w3=>Ap P #[69, 69] 69 #[y2, x11] w3 fun x12 w4=>Bp .add x3 (I 1) fun x13=>KS [a0, x1]<|n4 x12 x13 w4) (fun J14=>Bp .lss x7 (I 0) fun x15=>Vif x15 (KS [y2, a0, x1, x3]<|J14 (I 0) w1) (KS [y2, a0, x1, x3]<|J14 x7 w1))) (R y2 w1)
theorem Tz208 (h : Vz208 prog a0 w R) : Cl prog 208 #[a0] w R :=
 tz 22 [(.tmp 2)] (s z (s z (s (s z (b (l [3, 8] [6, 7] (s z (s (i z z) (s (b (s z (j [5] [3, 6, 7, 8] (s z (i z z)) z))) z)))))) (s z z)))) [a0] func208 h
def Vz209 (P : Program) (a0 a1 : Value) (w : World) (R : KT) : Prop :=
 Bn P 90 false a0 (.pointer none) fun x1=>Vif x1 (R (.tuple #[(.int .u32 0), (I 7)]) w) (VJoin 1 (fun _ x2 w1=>Vif x2 (R (.tuple #[(.int .u32 0), (I 1)]) w1) (Cl P 74 #[a0] w1 fun x3 w2=>Bv .lss x3 a1 (R (.tuple #[(.int .u32 0), (I 3)]) w2) (VLoop 2 [(.int .u32 0), (I 0)] w2 fun _ n7 y5 x6 w3=>Bv .lss x6 a1 (Bp .shl y5 (.int .u64 1) fun x9=>Nc a0<|Fo 2 a0 fun x10=>Ld x10 w3 fun x11=>Cl P 239 #[a0, x11] w3 fun x12 w4=>Bp .or x9 x12 fun x13=>Nc a0<|Fo 2 a0 fun x14=>Ld x14 w4 fun x15=>Bp .add x15 (I 1) fun x16=>Nc a0<|Fo 2 a0 fun x17=>St x17 x16 w4 fun w5=>Bp .add x6 (I 1) fun x18=>KS [a0, a1]<|n7 x13 x18 w5) (R (.tuple #[y5, (I 0)]) w3)))) (fun J19=>Bp .lss a1 (I 0) fun x20=>Vif x20 (KS [a0, a1]<|J19 (.bool true) w) (Bp .gtr a1 (I 32) fun x21=>KS [a0, a1]<|J19 x21 w)))
theorem Tz209 (h : Vz209 prog a0 a1 w R) : Cl prog 209 #[a0, a1] w R :=
 tz 43 [(.tmp 4), (.tmp 5)] (s z (s (b (s z (i (s z z) (j [10] [0, 1] z (i (s z z) (s z (i (s z z) z))))))) (s z (s (s z (b (l [6, 23] [0, 22] (s z (s (i z z) (s (b (s z z)) z)))))) (s z z))))) [a0, a1] func209 h
def Vz210 (P : Program) (a0 : Value) (w : World) (R : KT) : Prop :=
 Cl P 25 #[a0] w fun x1 w1=>Cl P 240 #[a0] w1 fun x2 w2=>Ex x2 0 fun x3=>Ex x2 1 fun x4=>Bv .neq x4 (I 0) (Cl P 60 #[a0, x1] w2 fun x6 w3=>R (.tuple #[x3, x4]) w3) (R (.tuple #[x3, x4]) w2)
theorem Tz210 (h : Vz210 prog a0 w R) : Cl prog 210 #[a0] w R :=
 tz 21 [(.tmp 2), (.tmp 3)] (s z (s z (s z (s (s z (i z z)) (s z z))))) [a0] func210 h
def Vz211 (P : Program) (a0 a1 : Value) (w : World) (R : KT) : Prop :=
 Lns a0 fun x1=>Bp .add x1 (I 2) fun x2=>Cl P 241 #[x2] w fun x3 w1=>Ex x3 0 fun x4=>Ex x3 1 fun x5=>Lns a0 fun x6=>Cl P 242 #[x6, a1] w1 fun x7 w2=>Ex x7 0 fun x8=>Ex x7 1 fun x9=>Cl P 89 #[a0] w2 fun x10 w3=>Ex x10 0 fun x11=>Ex x10 1 fun x12=>Bd P 269 #[(0, x4), (1, x8), (2, x11)] w3 fun x13=>New x13 269 w3 fun x14 w4=>R x14 w4
theorem Tz211 (h : Vz211 prog a0 a1 w R) : Cl prog 211 #[a0, a1] w R :=
 tz 35 [(.tmp 4)] (s z (s z (s z (s z (s z z))))) [a0, a1] func211 h
def Vz212 (P : Program) (a0 a1 : Value) (w : World) (R : KT) : Prop :=
 Bn P 206 false a0 (.pointer none) fun x1=>Vif x1 (R (.tuple #[(.int .u8 0), (I 7)]) w) (VJoin 1 (fun _ x2 w1=>Vif x2 (R (.tuple #[(.int .u8 0), (I 1)]) w1) (Cl P 140 #[a0, a1] w1 fun x3 w2=>R (.tuple #[x3, (I 0)]) w2)) (fun J4=>Bv .lss a1 (I 0) (KS [a0, a1]<|J4 (.bool true) w) (Nc a0<|Fo 0 a0 fun x6=>Ld x6 w fun x7=>Lnl x7 fun x8=>Bp .geq a1 x8 fun x9=>KS [a0, a1]<|J4 x9 w)))
theorem Tz212 (h : Vz212 prog a0 a1 w R) : Cl prog 212 #[a0, a1] w R :=
 tz 24 [(.tmp 4), (.tmp 5)] (s z (s (b (s z (i (s z z) (j [9] [0, 1] z (i (s z z) z))))) (s z z))) [a0, a1] func212 h
def Vz213 (P : Program) (a0 a1 : Value) (w : World) (R : KT) : Prop :=
 VJoin 1 (fun _ x1 w1=>Vif x1 (R (.tuple #[(I 0), (I 7)]) w1) (Nc a0<|Fo 7 a0 fun x2=>Ld x2 w1 fun x3=>Bv .neq x3 (I 0) (Dr w1 fun w2=>Nc a0<|Fo 7 a0 fun x5=>Ld x5 w2 fun x6=>R (.tuple #[(I 0), x6]) w2) (Mf P (.func 243) #[a0] #[] w1 fun x8=>VJoin 1 (fun _ y9 w3=>Inv P (do let d <- Deferred.ofValue y9 #[a1]; invoke d.target d.args) w3 fun x10 w4=>Ex x10 0 fun x11=>Ex x10 1 fun x12=>Bv .eql x12 (I 0) (R (.tuple #[x11, x12]) w4) (Bv .neq x12 (I 3) (Nc a0<|Fo 7 a0 fun x15=>St x15 x12 w4 fun w5=>R (.tuple #[(I 0), x12]) w5) (R (.tuple #[(I 0), x12]) w4))) (fun J16=>Nc a0<|Fo 1 a0 fun x17=>Ld x17 w1 fun x18=>Cl P 244 #[x18] w1 fun x19 w6=>Up .not x19 fun x20=>Vif x20 (Mf P (.func 245) #[a0] #[] w6 fun x21=>KS [a0, a1]<|J16 x21 w6) (Dr w6 fun w7=>Nc a0<|Fo 4 a0 fun x22=>Ld x22 w7 fun x23=>Lnl x23 fun x25=>Nc a0<|Fo 1 a0 fun x27=>Ld x27 w7 fun x28=>Cl P 246 #[x28] w7 fun x30 w8=>Rk (fun w K=>Lnl x23 fun x26=>K x26) x25 w8<|Rk (fun w K=>Ld x22 w fun x24=>K x24) x23 w8<|Bv .lss x25 x30 (Mf P (.func 247) #[a0] #[] w8 fun x32=>KS [a0, a1]<|J16 x32 w8) (KS [a0, a1]<|J16 x8 w8)))))) (fun J33=>Bn P 296 false a0 (.pointer none) fun x34=>Vif x34 (KS [a0, a1]<|J33 (.bool true) w) (Bn P 90 false a1 (.pointer none) fun x35=>Vif x35 (KS [a0, a1]<|J33 (.bool true) w) (Nc a0<|Fo 6 a0 fun x36=>Ld x36 w fun x37=>KS [a0, a1]<|J33 x37 w)))
theorem Tz213 (h : Vz213 prog a0 a1 w R) : Cl prog 213 #[a0, a1] w R :=
 tz 74 [(.tmp 4), (.tmp 5)] (s z (s (b (j [9] [0, 1] z (i (s z z) (s z (i (s (r (.staged [0, 1, 3, 7, 0, 31])) z) z))))) (s z (j [6] [0, 1] (b (s z (i z (s (r (.staged [0, 1, 3, 7, 15, 0, 32, 96, 224, 480, 1023, 2047])) (i z z))))) (s z (s (s z (i (s z z) z)) (s (s z (i z z)) (s z z)))))))) [a0, a1] func213 h
def Vz214 (P : Program) (a0 a1 : Value) (w : World) (R : KT) : Prop :=
 Nc a0<|Fo 1 a0 fun x1=>Ld x1 w fun x2=>Cl P 248 #[x2, a1] w fun x3 w1=>Ex x3 0 fun x4=>Ex x3 1 fun x5=>Ex x3 2 fun x6=>Bv .neq x6 (I 0) (R (I 25) w1) (Nc a0<|Fo 3 a0 fun x8=>St x8 x4 w1 fun w2=>Bmax P #[3, 3] 3 #[x5, (I 0)] w2 fun x9=>Nc a0<|Fo 4 a0 fun x10=>St x10 x9 w2 fun w3=>R (I 0) w3)
theorem Tz214 (h : Vz214 prog a0 a1 w R) : Cl prog 214 #[a0, a1] w R :=
 tz 29 [(.tmp 4)] (s z (s z (s (s z (i (s z z) z)) (s z (s z (s z z)))))) [a0, a1] func214 h
def Vz215 (P : Program) (a0 : Value) (w : World) (R : KT) : Prop :=
 Bn P 296 true a0 (.pointer none) fun x1=>Vif x1 (Nc a0<|Fo 6 a0 fun x2=>Ld x2 w fun x3=>R x3 w) (R (.bool false) w)
theorem Tz215 (h : Vz215 prog a0 w R) : Cl prog 215 #[a0] w R :=
 tz 11 [(.tmp 2)] (s z (s z z)) [a0] func215 h
def Vz216 (P : Program) (a0 : Value) (w : World) (R : KT) : Prop :=
 Nc a0<|Fo 1 a0 fun x1=>LdA 256 x1 w fun x2=>VLoop 2 [(I 0), (I 0)] w fun _ n5 y3 x4 w1=>Bv .lss x4 (I 256) (Ixa 256 1 false x2 x4 fun x7=>Nc a0<|Fo 1 a0 fun x8=>Iaa 256 1 x8 x4 fun x9=>St x9 y3 w1 fun w2=>Bp .add y3 x7 fun x10=>Bp .add x4 (I 1) fun x11=>KS [a0, x2]<|n5 x10 x11 w2) (R (.tuple #[]) w1)
theorem Tz216 (h : Vz216 prog a0 w R) : Cl prog 216 #[a0] w R :=
 tz 23 [] (s z (s z (b (l [2, 9] [0, 8] (s z (s (i z z) (s (b (s z (s z z))) z))))))) [a0] func216 h
def Vz217 (P : Program) (a0 a1 a2 : Value) (w : World) (R : KT) : Prop :=
 Bp .shl a1 (.int .u64 8) fun x1=>Bp .shr a1 (.int .u64 24) fun x2=>Ci .u8 x2 fun x3=>Bp .xor x3 a2 fun x4=>Nc a0<|Iaa 256 1 a0 x4 fun x5=>Ld x5 w fun x6=>Bp .xor x1 x6 fun x7=>R x7 w
theorem Tz217 (h : Vz217 prog a0 a1 a2 w R) : Cl prog 217 #[a0, a1, a2] w R :=
 tz 19 [(.tmp 6)] (s z (s z z)) [a0, a1, a2] func217 h
def Vz222 (P : Program) (a0 : Value) (w : World) (R : KT) : Prop :=
 Nc a0<|Fo 5 a0 fun x1=>Ld x1 w fun x2=>Lnl x2 fun x3=>Bp .sub x3 (I 1) fun x4=>VJoin 1 (fun _ x5 w1=>Vif x5 (R (.tuple #[]) w1) (Nc a0<|Fo 5 a0 fun x6=>Ld x6 w1 fun x7=>Ias 3 x7 x4 fun x8=>LdA 3 x8 w1 fun x9=>Nc a0<|Fo 6 a0 fun x10=>StA 3 x10 x9 w1 fun w2=>Nc a0<|Fo 5 a0 fun x11=>Ld x11 w2 fun x12=>Ssl 3 x12 none (some x4) fun x13=>Nc a0<|Fo 5 a0 fun x14=>St x14 x13 w2 fun w3=>Nc a0<|Fo 9 a0 fun x15=>St x15 (I 0) w3 fun w4=>Nc a0<|Fo 10 a0 fun x16=>St x16 (I 0) w4 fun w5=>Nc a0<|Fo 6 a0 fun x17=>Fo 1 x17 fun x18=>Ld x18 w5 fun x19=>Nc a0<|Fo 11 a0 fun x20=>St x20 x19 w5 fun w6=>R (.tuple #[]) w6)) (fun J21=>Bp .lss x4 (I 0) fun x22=>Vif x22 (KS [a0, x4]<|J21 (.bool true) w) (Nc a0<|Fo 6 a0 fun x23=>Fo 2 x23 fun x24=>Ld x24 w fun x25=>Bv .gtr x25 (I 0) (KS [a0, x4]<|J21 (.bool true) w) (Nc a0<|Fo 5 a0 fun x27=>Ld x27 w fun x28=>Ias 3 x28 x4 fun x29=>Fo 1 x29 fun x30=>Ld x30 w fun x31=>Bp .eql x31 (I 0) fun x32=>KS [a0, x4]<|J21 x32 w)))
theorem Tz222 (h : Vz222 prog a0 w R) : Cl prog 222 #[a0] w R :=
 tz 63 [] (s z (s (j [29] [0, 2] z (i z z)) (s z (s z (s z (s z z)))))) [a0] func222 h
def Vz223 (P : Program) (a0 : Value) (w : World) (R : KT) : Prop :=
 Dr w fun w1=>Nc a0<|Fo 3 a0 fun x1=>Ld x1 w1 fun x2=>Nc a0<|Fo 9 a0 fun x4=>Ld x4 w1 fun x5=>Nc a0<|Fo 1 a0 fun x7=>Ld x7 w1 fun x8=>Nc a0<|Fo 6 a0 fun x10=>Fo 0 x10 fun x11=>Ld x11 w1 fun x12=>Nc a0<|Fo 9 a0 fun x14=>Ld x14 w1 fun x15=>Bp .add x12 x15 fun x17=>Ias 1 x8 x17 fun x18=>Ld x18 w1 fun x19=>Ias 1 x2 x5 fun x21=>St x21 x19 w1 fun w2=>Nc a0<|Fo 9 a0 fun x22=>Ld x22 w2 fun x23=>Bp .add x23 (I 1) fun x24=>Nc a0<|Fo 9 a0 fun x25=>St x25 x24 w2 fun w3=>R (.tuple #[]) w3
theorem Tz223 (h : Vz223 prog a0 w R) : Cl prog 223 #[a0] w R :=
 tz 34 [] (s (r (.staged [0, 1, 3, 7, 0, 16, 48, 112, 0, 256, 768, 1792, 0, 4096, 12288, 28672, 61440, 0, 131072, 393216, 917504, 2093056, 4194048, 8388352, 16777215, 33554431])) z) [a0] func223 h
def Vz224 (P : Program) (a0 : Value) (w : World) (R : KT) : Prop :=
 Nc a0<|Fo 6 a0 fun x1=>LdA 3 x1 w fun x2=>New (zeroP P 248) 248 w fun y3 w1=>StA 3 y3 x2 w1 fun w2=>Dr w2 fun w3=>Fo 0 y3 fun x4=>Ld x4 w3 fun x5=>Nc a0<|Fo 10 a0 fun x7=>Ld x7 w3 fun x8=>Bp .add x5 x8 fun x10=>Nc a0<|Fo 11 a0 fun x11=>Ld x11 w3 fun x12=>Bp .add x10 x12 fun x14=>Fo 1 y3 fun x15=>Ld x15 w3 fun x16=>Bp .sub x14 x16 fun x18=>VJoin 0 (fun _ w4=>Fo 2 y3 fun x19=>Ld x19 w4 fun x20=>Bp .sub x20 (I 1) fun x21=>Bp .eql x18 x21 fun x22=>Vif x22 (Bd P 248 #[] w4 fun x23=>Nc a0<|Fo 6 a0 fun x24=>StA 3 x24 x23 w4 fun w5=>R (.tuple #[]) w5) (R (.tuple #[]) w4)) (fun J25=>VJoin 1 (fun _ x26 w6=>Vif x26 (Dr w6 fun w7=>Nc a0<|Fo 1 a0 fun x27=>Ld x27 w7 fun x28=>Nc a0<|Fo 3 a0 fun x30=>Ld x30 w7 fun x31=>Nc a0<|Fo 10 a0 fun x33=>Ld x33 w7 fun x34=>Ias 1 x31 x34 fun x36=>Ld x36 w7 fun x37=>Ias 1 x28 x18 fun x39=>St x39 x37 w7 fun w8=>Nc a0<|Fo 10 a0 fun x40=>Ld x40 w8 fun x41=>Bp .add x41 (I 1) fun x42=>Nc a0<|Fo 10 a0 fun x43=>St x43 x42 w8 fun w9=>KS [a0, y3, x18]<|J25 w9) (Dr w6 fun w10=>Nc a0<|Fo 1 a0 fun x44=>Ld x44 w10 fun x45=>Nc a0<|Fo 1 a0 fun x47=>Ld x47 w10 fun x48=>Nc a0<|Fo 11 a0 fun x50=>Ld x50 w10 fun x51=>Ias 1 x48 x51 fun x53=>Ld x53 w10 fun x54=>Ias 1 x45 x18 fun x56=>St x56 x54 w10 fun w11=>Nc a0<|Fo 11 a0 fun x57=>Ld x57 w11 fun x58=>Bp .add x58 (I 1) fun x59=>Nc a0<|Fo 11 a0 fun x60=>St x60 x59 w11 fun w12=>KS [a0, y3, x18]<|J25 w12)) (fun J61=>Dr w3 fun w13=>Nc a0<|Fo 11 a0 fun x62=>Ld x62 w13 fun x63=>Fo 2 y3 fun x65=>Ld x65 w13 fun x66=>Bp .eql x63 x66 fun x68=>Vif x68 (KS [a0, y3, x18]<|J61 (.bool true) w13) (Nc a0<|Fo 10 a0 fun x69=>Ld x69 w13 fun x70=>Nc a0<|Fo 9 a0 fun x72=>Ld x72 w13 fun x73=>Bv .lss x70 x73 (Nc a0<|Fo 3 a0 fun x76=>Ld x76 w13 fun x77=>Nc a0<|Fo 10 a0 fun x79=>Ld x79 w13 fun x80=>Ias 1 x77 x80 fun x82=>Ld x82 w13 fun x83=>Nc a0<|Fo 1 a0 fun x85=>Ld x85 w13 fun x86=>Nc a0<|Fo 11 a0 fun x88=>Ld x88 w13 fun x89=>Ias 1 x86 x89 fun x91=>Ld x91 w13 fun x92=>Cl P 250 #[a0, x83, x92] w13 fun x94 w14=>Up .not x94 fun x95=>KS [a0, y3, x18]<|J61 x95 w14) (KS [a0, y3, x18]<|J61 (.bool false) w13))))
theorem Tz224 (h : Vz224 prog a0 w R) : Cl prog 224 #[a0] w R :=
 tz 121 [] (s z (s (r (.staged [0, 1, 0, 4, 12, 28, 63, 0, 128, 384, 896, 2047, 0, 4096, 16383, 32767])) (j [] [0, 2, 3] (j [65] [0, 2, 3] (r (.staged [0, 1, 3, 7, 0, 16, 63, 127, 255, 511, 1023, 2047, 255, 4351, 12543, 28927, 65535, 131071, 262143, 262143, 786431, 1835007, 3932159, 262143, 8650751, 25427967, 58982399, 133955583, 268173311, 262143, 537133055, 1610874879, 3758358527, 262143, 8590196735, 25770065919, 60129804287, 136902344703, 274341298175, 549755813887, 1099511627775, 2199023255551, 4398046511103])) (i (s (r (.staged [0, 1, 3, 7, 0, 0, 32, 96, 224, 0, 512, 1536, 3584, 8160, 16352, 32767, 65535])) z) (s (r (.staged [0, 1, 3, 7, 0, 0, 32, 96, 224, 0, 512, 1536, 3584, 8160, 16352, 32767, 65535])) z))) (s z (i z z))))) [a0] func224 h
def Vz225 (P : Program) (a0 : Value) (w : World) (R : KT) : Prop :=
 Dr w fun w1=>Nc a0<|Fo 5 a0 fun x1=>Ld x1 w1 fun x2=>Nc a0<|Fo 5 a0 fun x4=>Ld x4 w1 fun x5=>Lnl x5 fun x7=>Bp .sub x7 (I 1) fun x9=>Ias 3 x2 x9 fun x10=>LdA 3 x10 w1 fun x11=>New (zeroP P 248) 248 w1 fun y13 w2=>Rk (fun w K=>LdA 3 x10 w fun x12=>K x12) x11 w2<|Rk (fun w K=>Lnl x5 fun x8=>K x8) x7 w2<|Rk (fun w K=>Ld x4 w fun x6=>K x6) x5 w2<|Rk (fun w K=>Ld x1 w fun x3=>K x3) x2 w2<|StA 3 y13 x11 w2 fun w3=>Dr w3 fun w4=>Nc a0<|Fo 5 a0 fun x14=>Ld x14 w4 fun x15=>Nc a0<|Fo 5 a0 fun x17=>Ld x17 w4 fun x18=>Lnl x18 fun x20=>Bp .sub x20 (I 1) fun x22=>Ssl 3 x15 none (some x22) fun x23=>Nc a0<|Fo 5 a0 fun x25=>St x25 x23 w4 fun w5=>Fo 2 y13 fun x26=>Ld x26 w5 fun x27=>Fo 0 y13 fun x28=>Ld x28 w5 fun x29=>Bp .sub x27 x29 fun x30=>Bp .lss x30 (I 2) fun x31=>Vif x31 (R (.tuple #[]) w5) (Fo 0 y13 fun x32=>Ld x32 w5 fun x33=>Fo 2 y13 fun x34=>Ld x34 w5 fun x35=>Bp .add x33 x35 fun x36=>Bp .quo x36 (I 2) fun x37=>Dr w5 fun w6=>Nc a0<|Fo 5 a0 fun x38=>Ld x38 w6 fun x39=>Fo 0 y13 fun x41=>Ld x41 w6 fun x42=>Fo 2 y13 fun x44=>Ld x44 w6 fun x45=>Bd P 248 #[(0, x42), (1, x37), (2, x45)] w6 fun x47=>Fo 2 y13 fun x49=>Ld x49 w6 fun x50=>Bd P 248 #[(0, x37), (2, x50)] w6 fun x52=>Fo 0 y13 fun x54=>Ld x54 w6 fun x55=>Bd P 248 #[(0, x55), (2, x37)] w6 fun x57=>Bs P 246 3 #[(0, x47), (1, x52), (2, x57)] w6 fun x59 w7=>Rk (fun w K=>Ld x38 w fun x40=>K x40) x39 w7<|Ap P #[246, 246] 246 #[x39, x59] w7 fun x60 w8=>Nc a0<|Fo 5 a0 fun x61=>St x61 x60 w8 fun w9=>R (.tuple #[]) w9)
theorem Tz225 (h : Vz225 prog a0 w R) : Cl prog 225 #[a0] w R :=
 tz 65 [] (s (r (.staged [0, 1, 3, 7, 0, 16, 48, 112, 240, 496, 1023, 2047, 0, 8191])) (s (r (.staged [0, 0, 2, 6, 14, 0, 32, 96, 224, 480, 992, 2046, 4095, 8191, 16383])) (s (s z (i z z)) (s z (r (.staged [0, 0, 2, 6, 14, 0, 32, 0, 0, 256, 992, 0, 0, 4096, 14336, 0, 32768, 0, 229376, 524256, 1048574, 2097151, 4194303, 8388607])))))) [a0] func225 h
def Vz226 (P : Program) (a0 : Value) (w : World) (R : KT) : Prop :=
 Nc a0<|Fo 12 a0 fun x1=>Ld x1 w fun x2=>VJoin 0 (fun _ w1=>Dr w1 fun w2=>Nc a0<|Fo 3 a0 fun x3=>Ld x3 w2 fun x4=>Nc a0<|Fo 1 a0 fun x6=>Ld x6 w2 fun x7=>Ias 1 x7 x2 fun x9=>Ld x9 w2 fun x10=>Nc a0<|Fo 13 a0 fun x12=>Ld x12 w2 fun x13=>Ias 1 x4 x10 fun x15=>St x15 x13 w2 fun w3=>Nc a0<|Fo 12 a0 fun x16=>Ld x16 w3 fun x17=>Bp .add x17 (I 1) fun x18=>Nc a0<|Fo 12 a0 fun x19=>St x19 x18 w3 fun w4=>Dr w4 fun w5=>Nc a0<|Fo 12 a0 fun x20=>Ld x20 w5 fun x21=>Nc a0<|Fo 1 a0 fun x23=>Ld x23 w5 fun x24=>Lnl x24 fun x26=>Bp .eql x21 x26 fun x28=>Vif x28 (Cl P 251 #[a0] w5 fun x29 w6=>R (.tuple #[]) w6) (R (.tuple #[]) w5)) (fun J30=>Bv .eql x2 (I 0) (Nc a0<|Fo 13 a0 fun x32=>St x32 (I 0) w fun w7=>KS [a0, x2]<|J30 w7) (Dr w fun w8=>Nc a0<|Fo 1 a0 fun x33=>Ld x33 w8 fun x34=>Ias 1 x34 x2 fun x36=>Ld x36 w8 fun x37=>Nc a0<|Fo 1 a0 fun x39=>Ld x39 w8 fun x40=>Bp .sub x2 (I 1) fun x42=>Ias 1 x40 x42 fun x43=>Ld x43 w8 fun x44=>Cl P 250 #[a0, x37, x44] w8 fun x46 w9=>Vif x46 (Nc a0<|Fo 13 a0 fun x47=>Ld x47 w9 fun x48=>Bp .add x48 (I 1) fun x49=>Nc a0<|Fo 13 a0 fun x50=>St x50 x49 w9 fun w10=>KS [a0, x2]<|J30 w10) (KS [a0, x2]<|J30 w9)))
theorem Tz226 (h : Vz226 prog a0 w R) : Cl prog 226 #[a0] w R :=
 tz 73 [] (s z (j [] [0, 2] (b (s z (i z (s (r (.staged [0, 0, 2, 6, 14, 0, 62, 126, 0, 256, 768, 1792, 0, 4096, 16128, 32512, 65535, 131071])) (i z z))))) (s (r (.staged [0, 1, 3, 7, 0, 16, 48, 112, 0, 496, 1008, 0, 2048, 6144, 14336, 32767, 65535])) (s z (s (r (.staged [0, 1, 3, 7, 0, 16, 48, 112, 240, 511])) (i z z)))))) [a0] func226 h
def Vz227 (P : Program) (a0 : Value) (w : World) (R : KT) : Prop :=
 LdA 4 (.pointer (some ⟨1, 0, none⟩)) w fun x1=>VLoop 2 [(I 2), (I 0)] w fun _ n4 y2 x3 w1=>Bv .lss x3 (I 4) (Ixa 4 1 false x1 x3 fun x6=>Bv .geq a0 x6 (Bp .add y2 (I 1) fun x8=>Bp .add x3 (I 1) fun x9=>KS [a0, x1]<|n4 x8 x9 w1) (Bp .add x3 (I 1) fun x10=>KS [a0, x1]<|n4 y2 x10 w1)) (R y2 w1)
theorem Tz227 (h : Vz227 prog a0 w R) : Cl prog 227 #[a0] w R :=
 tz 17 [(.tmp 2)] (s z (s z (s (s z (b (l [3, 7] [0, 6] (s z (s (i z z) (s (b (s z (s z (i z z)))) z)))))) (s z z)))) [a0] func227 h
def Vz228 (P : Program) (a0 a1 : Value) (w : World) (R : KT) : Prop :=
 Lnl a1 fun x1=>VLoop 3 [(I 0), (I 1099511627776), (I 0)] w fun _ n5 y2 y3 x4 w1=>Bv .lss x4 x1 (Ias 1 a1 x4 fun x7=>Ld x7 w1 fun x8=>Cl P 150 #[a0, x8] w1 fun x9 w2=>Ex x9 0 fun x10=>Ex x9 1 fun x11=>Bv .lss x10 y3 (Bp .add x4 (I 1) fun x13=>KS [a0, a1, x1]<|n5 x4 x10 x13 w2) (Bp .add x4 (I 1) fun x14=>KS [a0, a1, x1]<|n5 y2 y3 x14 w2)) (R y2 w1)
theorem Tz228 (h : Vz228 prog a0 a1 w R) : Cl prog 228 #[a0, a1] w R :=
 tz 31 [(.tmp 4)] (s z (s z (s (s z (b (l [5, 6, 13] [0, 11, 12] (s z (s (i z z) (s (b (s z (s z (s z (i z z))))) z)))))) (s z z)))) [a0, a1] func228 h
def Vz229 (P : Program) (a0 a1 : Value) (w : World) (R : KT) : Prop :=
 VJoin 1 (fun _ x1 w1=>Vif x1 (R (.tuple #[(.slice none 0 0), (I 1)]) w1) (Lnl a0 fun x2=>Ms P 69 x2 x2 w1 fun x3 w2=>Lnl x3 fun x4=>VLoop 1 [(I 0)] w2 fun _ n6 x5 w3=>Bv .lss x5 x4 (Dr w3 fun w4=>Ias 1 a0 x5 fun x8=>Ld x8 w4 fun x9=>Ias 1 a1 x5 fun x11=>Ld x11 w4 fun x12=>Cl P 200 #[x9, x12] w4 fun x14 w5=>Ias 1 x3 x5 fun x15=>St x15 x14 w5 fun w6=>Bp .add x5 (I 1) fun x16=>KS [a0, a1, x3, x4]<|n6 x16 w6) (R (.tuple #[x3, (I 0)]) w3))) (fun J17=>Lnl a0 fun x18=>Lnl a1 fun x19=>Bp .neq x18 x19 fun x20=>Vif x20 (KS [a0, a1]<|J17 (.bool true) w) (Cl P 199 #[a0] w fun x21 w7=>Up .not x21 fun x22=>Vif x22 (KS [a0, a1]<|J17 (.bool true) w7) (Cl P 199 #[a1] w7 fun x23 w8=>Up .not x23 fun x24=>KS [a0, a1]<|J17 x24 w8)))
theorem Tz229 (h : Vz229 prog a0 a1 w R) : Cl prog 229 #[a0, a1] w R :=
 tz 45 [(.tmp 4), (.tmp 5)] (s z (s (j [22] [0, 1] z (i (s z z) z)) (s z (s (s z (b (l [28] [0, 1, 6, 27] (s z (s (i z z) (s (b (s z (r (.staged [0, 0, 0, 0, 12, 28, 0, 0, 192, 448, 1020, 2047, 4095])))) z)))))) (s z z))))) [a0, a1] func229 h
def Vz230 (P : Program) (a0 : Value) (w : World) (R : KT) : Prop :=
 VJoin 1 (fun _ x1 w1=>Vif x1 (R (.tuple #[(.slice none 0 0), (I 1)]) w1) (Lnl a0 fun x2=>Ms P 69 x2 x2 w1 fun x3 w2=>Lnl a0 fun x4=>VLoop 1 [(I 0)] w2 fun _ n6 x5 w3=>Bv .lss x5 x4 (Ias 1 a0 x5 fun x8=>Ld x8 w3 fun x9=>Bmax P #[3, 3] 3 #[x9, (I 1)] w3 fun x10=>Ias 1 x3 x5 fun x11=>St x11 x10 w3 fun w4=>Bp .add x5 (I 1) fun x12=>KS [x3, a0, x4]<|n6 x12 w4) (VLoop 1 [x3] w3 fun _ n14 y13 w5=>Cl P 252 #[y13] w5 fun x15 w6=>Cl P 253 #[x15] w6 fun x16 w7=>Bp .leq x16 (I 20) fun x17=>Vif x17 (Cl P 153 #[x15] w7 fun x18 w8=>R (.tuple #[x18, (I 0)]) w8) (Cl P 254 #[y13] w7 fun x19 w9=>KS []<|n14 x19 w9)))) (fun J20=>Lnl a0 fun x21=>Bv .lss x21 (I 3) (KS [a0]<|J20 (.bool true) w) (Lnl a0 fun x23=>Bv .gtr x23 (I 258) (KS [a0]<|J20 (.bool true) w) (Cl P 235 #[a0, (I 0), (I 1099511627776)] w fun x25 w10=>Up .not x25 fun x26=>KS [a0]<|J20 x26 w10)))
theorem Tz230 (h : Vz230 prog a0 w R) : Cl prog 230 #[a0] w R :=
 tz 46 [(.tmp 2), (.tmp 3)] (s z (s (j [20] [0] z (i (s z z) z)) (s z (s (s z (b (l [26] [4, 24, 25] (s z (s (i z z) (s (b (s z z)) z)))))) (b (l [4] [] (b (s z (s (s z (i (s z z) z)) z))))))))) [a0] func230 h
def Vz231 (P : Program) (a0 a1 : Value) (w : World) (R : KT) : Prop :=
 Lnl a0 fun x1=>VLoop 1 [(I 0)] w fun _ n3 x2 w1=>Bv .lss x2 x1 (Ias 1 a0 x2 fun x5=>Ld x5 w1 fun x6=>Inv P (do let d <- Deferred.ofValue a1 #[x6]; invoke d.target d.args) w1 fun x7 w2=>Vif x7 (R x2 w2) (Bp .add x2 (I 1) fun x8=>KS [a0, a1, x1]<|n3 x8 w2)) (R (I (-1)) w1)
theorem Tz231 (h : Vz231 prog a0 a1 w R) : Cl prog 231 #[a0, a1] w R :=
 tz 19 [(.tmp 4)] (s z (s (s z (b (l [8] [0, 1, 7] (s z (s (i z z) (s (b (s z (s z (i (s z z) z)))) z)))))) (s z z))) [a0, a1] func231 h
def Vz232 (P : Program) (a0 a1 : Value) (w : World) (R : KT) : Prop :=
 Nc a0<|Iaa 6 1 a0 a1 fun x1=>Ld x1 w fun x2=>VLoop 1 [a1] w fun _ n4 y3 w1=>Bv .gtr y3 (I 0) (Dr w1 fun w2=>Bp .sub y3 (I 1) fun x6=>Nc a0<|Iaa 6 1 a0 x6 fun x7=>Ld x7 w2 fun x8=>Nc a0<|Iaa 6 1 a0 y3 fun x10=>St x10 x8 w2 fun w3=>Bp .sub y3 (I 1) fun x11=>KS [a0, x2]<|n4 x11 w3) (Nc a0<|Iaa 6 1 a0 (I 0) fun x12=>St x12 x2 w1 fun w4=>R x2 w4)
theorem Tz232 (h : Vz232 prog a0 a1 w R) : Cl prog 232 #[a0, a1] w R :=
 tz 32 [(.tmp 4)] (s z (s z (s (s z (b (l [6] [0, 5] (s (s z (i z z)) (s (b (r (.staged [0, 0, 0, 0, 8, 4, 60, 124, 1, 511, 1023]))) z))))) (s z (s z z))))) [a0, a1] func232 h
def Vz233 (P : Program) (a0 : Value) (w : World) (R : KT) : Prop :=
 Cl P 234 #[a0] w fun x1 w1=>Up .not x1 fun x2=>R x2 w1
theorem Tz233 (h : Vz233 prog a0 w R) : Cl prog 233 #[a0] w R :=
 tz 6 [(.tmp 2)] (s z (s z z)) [a0] func233 h
def Vz234 (P : Program) (a0 : Value) (w : World) (R : KT) : Prop :=
 Bv .geq a0 (I 0) (Bp .leq a0 (I 1099511627776) fun x2=>R x2 w) (R (.bool false) w)
theorem Tz234 (h : Vz234 prog a0 w R) : Cl prog 234 #[a0] w R :=
 tz 9 [(.tmp 2)] (s z (s z z)) [a0] func234 h
def Vz235 (P : Program) (a0 a1 a2 : Value) (w : World) (R : KT) : Prop :=
 New a1 3 w fun y1 w1=>New a2 3 w1 fun y2 w2=>Mf P (.func 255) #[] #[y1, y2] w2 fun x3=>Cl P 191 #[a0, x3] w2 fun x4 w3=>Up .not x4 fun x5=>R x5 w3
theorem Tz235 (h : Vz235 prog a0 a1 a2 w R) : Cl prog 235 #[a0, a1, a2] w R :=
 tz 11 [(.tmp 6)] (s z (s z z)) [a0, a1, a2] func235 h
def Vz237 (P : Program) (a0 : Value) (w : World) (R : KT) : Prop :=
 Lnl a0 fun x1=>VLoop 2 [(I 0), (I 0)] w fun _ n4 y2 x3 w1=>Bv .lss x3 x1 (Ias 3 a0 x3 fun x6=>LdA 3 x6 w1 fun x7=>New (zeroP P 285) 285 w1 fun y8 w2=>StA 3 y8 x7 w2 fun w3=>Dr w3 fun w4=>LdA 3 y8 w4 fun x9=>Ias 3 a0 y2 fun x11=>LdA 3 x11 w4 fun x12=>Cl P 256 #[x9, x12] w4 fun x14 w5=>Vif x14 (Bp .add x3 (I 1) fun x15=>KS [a0, a0, x1]<|n4 x3 x15 w5) (Bp .add x3 (I 1) fun x16=>KS [a0, a0, x1]<|n4 y2 x16 w5)) (R y2 w1)
theorem Tz237 (h : Vz237 prog a0 w R) : Cl prog 237 #[a0] w R :=
 tz 22 [(.tmp 2)] (s z (s z (s (s z (b (l [3, 8] [0, 6, 7] (s z (s (i z z) (s (b (s z (s (r (.staged [0, 0, 0, 6, 14, 31])) (i z z)))) z)))))) (s z z)))) [a0] func237 h
def Vz238 (P : Program) (a0 a1 : Value) (w : World) (R : KT) : Prop :=
 Lnl a0 fun x1=>VLoop 2 [(.slice none 0 0), (I 0)] w fun _ n4 y2 x3 w1=>Bv .lss x3 x1 (Ias 3 a0 x3 fun x6=>LdA 3 x6 w1 fun x7=>New (zeroP P 285) 285 w1 fun y8 w2=>StA 3 y8 x7 w2 fun w3=>Bv .neq x3 a1 (LdA 3 y8 w3 fun x10=>Bs P 283 1 #[(0, x10)] w3 fun x11 w4=>Ap P #[283, 283] 283 #[y2, x11] w4 fun x12 w5=>Bp .add x3 (I 1) fun x13=>KS [a1, a0, x1]<|n4 x12 x13 w5) (Bp .add x3 (I 1) fun x14=>KS [a1, a0, x1]<|n4 y2 x14 w3)) (R y2 w1)
theorem Tz238 (h : Vz238 prog a0 a1 w R) : Cl prog 238 #[a0, a1] w R :=
 tz 24 [(.tmp 4)] (s z (s z (s (s z (b (l [5, 10] [1, 8, 9] (s z (s (i z z) (s (b (s z (s z (i z z)))) z)))))) (s z z)))) [a0, a1] func238 h
def Vz239 (P : Program) (a0 a1 : Value) (w : World) (R : KT) : Prop :=
 Dr w fun w1=>Nc a0<|Fo 0 a0 fun x1=>Ld x1 w1 fun x2=>Bp .quo a1 (I 8) fun x4=>Nc a0<|Fo 1 a0 fun x5=>Ld x5 w1 fun x6=>Bp .sub x4 x6 fun x8=>Ixs x2 x8 fun x9=>Bp .rem a1 (I 8) fun x10=>Bp .sub (I 7) x10 fun x11=>Bp .shr x9 x11 fun x12=>Bp .and x12 (.int .u8 1) fun x13=>Ci .u32 x13 fun x14=>R x14 w1
theorem Tz239 (h : Vz239 prog a0 a1 w R) : Cl prog 239 #[a0, a1] w R :=
 tz 25 [(.tmp 4)] (s z (s (r (.staged [0, 1, 3, 7, 0, 16, 0, 64, 192, 448, 1008, 2047, 4095])) (s z z))) [a0, a1] func239 h
def Vz240 (P : Program) (a0 : Value) (w : World) (R : KT) : Prop :=
 Cl P 209 #[a0, (I 16)] w fun x1 w1=>Ex x1 0 fun x2=>Ex x1 1 fun x3=>Bv .neq x3 (I 0) (R (.tuple #[(.string ⟨#[]⟩), x3]) w1) (New (zeroP P 139) 139 w1 fun y5 w2=>Cl P 257 #[x2] w2 fun x6 w3=>Lnl x6 fun x7=>VLoop 1 [(I 0)] w3 fun _ n9 x8 w4=>Bv .lss x8 x7 (Ias 1 x6 x8 fun x11=>Ld x11 w4 fun x12=>Cl P 209 #[a0, (I 16)] w4 fun x13 w5=>Ex x13 0 fun x14=>Ex x13 1 fun x15=>Bv .neq x15 (I 0) (R (.tuple #[(.string ⟨#[]⟩), x15]) w5) (Cl P 257 #[x14] w5 fun x17 w6=>Lnl x17 fun x18=>VLoop 1 [(I 0)] w6 fun _ n20 x19 w7=>Bv .lss x19 x18 (Ias 1 x17 x19 fun x22=>Ld x22 w7 fun x23=>Bp .mul (I 16) x12 fun x24=>Bp .add x24 x23 fun x25=>Iaa 256 1 y5 x25 fun x26=>St x26 (.bool true) w7 fun w8=>Bp .add x19 (I 1) fun x27=>KS [a0, y5, x12, x6, x7, x8, x17, x18]<|n20 x27 w8) (Bp .add x8 (I 1) fun x28=>KS [a0, y5, x6, x7]<|n9 x28 w7))) (LdA 256 y5 w4 fun x29=>Cl P 88 #[x29] w4 fun x30 w9=>Bp .eql x30 (.string ⟨#[]⟩) fun x31=>Vif x31 (R (.tuple #[(.string ⟨#[]⟩), (I 25)]) w9) (R (.tuple #[x30, (I 0)]) w9)))
theorem Tz240 (h : Vz240 prog a0 w R) : Cl prog 240 #[a0] w R :=
 tz 56 [(.tmp 2), (.tmp 3)] (s z (s z (s (s z (i (s z z) z)) (s z (s (s z (b (l [25] [0, 6, 23, 24] (s z (s (i z z) (s (b (s z (s z (s (s z (i (s z z) z)) (s z (b (l [40] [0, 6, 8, 23, 24, 25, 38, 39] (s z (s (i z z) (s (b (s z z)) z)))))))))) z)))))) (s z (s (s z (i (s z z) z)) (s z z)))))))) [a0] func240 h
def Vz241 (P : Program) (a0 : Value) (w : World) (R : KT) : Prop :=
 Cl P 258 #[a0] w fun x1 w1=>Ex x1 0 fun x2=>Ex x1 1 fun x3=>Bv .neq x3 (I 0) (R (.tuple #[(.pointer none), x3]) w1) (Cl P 259 #[] w1 fun x5 w2=>Bd P 296 #[(0, a0), (1, x5), (3, x2)] w2 fun x6=>New x6 296 w2 fun x7 w3=>R (.tuple #[x7, (I 0)]) w3)
theorem Tz241 (h : Vz241 prog a0 w R) : Cl prog 241 #[a0] w R :=
 tz 19 [(.tmp 2), (.tmp 3)] (s z (s z (s (s z (i (s z z) z)) (s z z)))) [a0] func241 h
def Vz242 (P : Program) (a0 a1 : Value) (w : World) (R : KT) : Prop :=
 VJoin 1 (fun _ x1 w1=>Vif x1 (R (.tuple #[(.pointer none), (I 1)]) w1) (Bd P 309 #[(0, a0), (1, a1), (4, (I 1))] w1 fun x2=>New x2 309 w1 fun x3 w2=>R (.tuple #[x3, (I 0)]) w2)) (fun J4=>Cl P 91 #[a0] w fun x5 w3=>Up .not x5 fun x6=>Vif x6 (KS [a0, a1]<|J4 (.bool true) w3) (Bv .lss a1 (I 0) (KS [a0, a1]<|J4 (.bool true) w3) (Bp .gtr a1 (I 1099511627776) fun x8=>KS [a0, a1]<|J4 x8 w3)))
theorem Tz242 (h : Vz242 prog a0 a1 w R) : Cl prog 242 #[a0, a1] w R :=
 tz 21 [(.tmp 4), (.tmp 5)] (s z (s (j [16] [0, 1] z (i (s z z) z)) (s z z))) [a0, a1] func242 h
def Vz243 (P : Program) (a0 a1 : Value) (w : World) (R : KT) : Prop :=
 Nc a0<|Fo 5 a0 fun x1=>Ld x1 w fun x2=>Bp .quo x2 (I 50) fun x3=>Nc a0<|Fo 2 a0 fun x4=>Ld x4 w fun x5=>Lnl x5 fun x6=>Bp .geq x3 x6 fun x7=>Vif x7 (R (.tuple #[(I (-1)), (I 25)]) w) (Dr w fun w1=>Nc a0<|Fo 4 a0 fun x8=>Ld x8 w1 fun x9=>Nc a0<|Fo 2 a0 fun x11=>Ld x11 w1 fun x12=>Ias 1 x12 x3 fun x14=>Ld x14 w1 fun x15=>Ias 1 x9 x15 fun x17=>Ld x17 w1 fun x18=>Cl P 260 #[x18, a1] w1 fun x20 w2=>Ex x20 0 fun x21=>Ex x20 1 fun x22=>Bv .neq x22 (I 0) (R (.tuple #[(I (-1)), x22]) w2) (Nc a0<|Fo 5 a0 fun x24=>Ld x24 w2 fun x25=>Bp .add x25 (I 1) fun x26=>Nc a0<|Fo 5 a0 fun x27=>St x27 x26 w2 fun w3=>Nc a0<|Fo 0 a0 fun x28=>Ld x28 w3 fun x29=>Bp .sub x29 (I 1) fun x30=>Bp .eql x21 x30 fun x31=>Nc a0<|Fo 6 a0 fun x32=>St x32 x31 w3 fun w4=>R (.tuple #[x21, (I 0)]) w4))
theorem Tz243 (h : Vz243 prog a0 a1 w R) : Cl prog 243 #[a0, a1] w R :=
 tz 60 [(.tmp 4), (.tmp 5)] (s z (s z (s (s z (i (s z z) z)) (s (r (.staged [0, 1, 3, 7, 0, 16, 48, 112, 0, 496, 1008, 2047, 4095, 0, 16383, 32767, 65535, 65535, 131071, 524287])) (s (s z (i (s z z) z)) (s z (s z (s z z)))))))) [a0, a1] func243 h
def Vz244 (P : Program) (a0 : Value) (w : World) (R : KT) : Prop :=
 Dr w fun w1=>Bn P 311 true a0 (.pointer none) fun x1=>Vif x1 (Nc a0<|Fo 1 a0 fun x2=>Ld x2 w1 fun x3=>Bv .gtr x3 (I 0) (Nc a0<|Fo 8 a0 fun x6=>Ld x6 w1 fun x7=>Lnl x7 fun x9=>Nc a0<|Fo 1 a0 fun x11=>Ld x11 w1 fun x12=>Bp .eql x9 x12 fun x14=>R x14 w1) (R (.bool false) w1)) (R (.bool false) w1)
theorem Tz244 (h : Vz244 prog a0 w R) : Cl prog 244 #[a0] w R :=
 tz 24 [(.tmp 2)] (s z (s (r (.staged [0, 1, 3, 7, 15, 31, 63, 127, 255, 511, 1023, 2047, 4095, 8191, 16383, 1023, 33791, 99327, 230399, 524287, 1048575, 2097151])) z)) [a0] func244 h
def Vz245 (P : Program) (a0 a1 : Value) (w : World) (R : KT) : Prop :=
 Nc a0<|Fo 1 a0 fun x1=>Ld x1 w fun x2=>Cl P 261 #[x2, a1] w fun x3 w1=>Nc a0<|Fo 1 a0 fun x4=>Ld x4 w1 fun x5=>Cl P 244 #[x5] w1 fun x6 w2=>Vif x6 (Nc a0<|Fo 1 a0 fun x7=>Ld x7 w2 fun x8=>Cl P 262 #[x8] w2 fun x9 w3=>Nc a0<|Fo 2 a0 fun x10=>St x10 x9 w3 fun w4=>R (.tuple #[(I (-1)), x3]) w4) (R (.tuple #[(I (-1)), x3]) w2)
theorem Tz245 (h : Vz245 prog a0 a1 w R) : Cl prog 245 #[a0, a1] w R :=
 tz 27 [(.tmp 4), (.tmp 5)] (s z (s z (s (s z (i z z)) (s z z)))) [a0, a1] func245 h
def Vz246 (P : Program) (a0 : Value) (w : World) (R : KT) : Prop :=
 Bn P 311 false a0 (.pointer none) fun x1=>Vif x1 (R (I 0) w) (Nc a0<|Fo 0 a0 fun x2=>Ld x2 w fun x3=>R x3 w)
theorem Tz246 (h : Vz246 prog a0 w R) : Cl prog 246 #[a0] w R :=
 tz 9 [(.tmp 2)] (s z (s (s z (i (s z z) z)) (s z z))) [a0] func246 h
def Vz247 (P : Program) (a0 a1 : Value) (w : World) (R : KT) : Prop :=
 Nc a0<|Fo 3 a0 fun x1=>Ld x1 w fun x2=>Cl P 263 #[x2, a1] w fun x3 w1=>VJoin 1 (fun _ x4 w2=>Vif x4 (R (.tuple #[(I (-1)), x3]) w2) (Nc a0<|Fo 3 a0 fun x5=>Ld x5 w2 fun x6=>Cl P 265 #[x6] w2 fun x7 w3=>Cl P 102 #[x7] w3 fun x8 w4=>Ex x8 0 fun x9=>Ex x8 1 fun x10=>Bv .neq x10 (I 0) (R (.tuple #[(I (-1)), x10]) w4) (Nc a0<|Fo 4 a0 fun x12=>Ld x12 w4 fun x13=>Bs P 157 1 #[(0, x9)] w4 fun x14 w5=>Ap P #[157, 157] 157 #[x13, x14] w5 fun x15 w6=>Nc a0<|Fo 4 a0 fun x16=>St x16 x15 w6 fun w7=>Nc a0<|Fo 0 a0 fun x17=>Ld x17 w7 fun x18=>Cl P 258 #[x18] w7 fun x19 w8=>Ex x19 0 fun x20=>Ex x19 1 fun x21=>Nc a0<|Fo 3 a0 fun x22=>St x22 x20 w8 fun w9=>R (.tuple #[(I (-1)), (I 0)]) w9))) (fun J23=>Bv .neq x3 (I 0) (KS [a0, x3]<|J23 (.bool true) w1) (Nc a0<|Fo 3 a0 fun x25=>Ld x25 w1 fun x26=>Cl P 264 #[x26] w1 fun x27 w10=>Up .not x27 fun x28=>KS [a0, x3]<|J23 x28 w10))
theorem Tz247 (h : Vz247 prog a0 a1 w R) : Cl prog 247 #[a0, a1] w R :=
 tz 62 [(.tmp 4), (.tmp 5)] (s z (s (s z (j [26] [0, 6] z (i (s z z) z))) (s z (s (s z (i (s z z) z)) (s z (s z (s z (s z z)))))))) [a0, a1] func247 h
def Vz248 (P : Program) (a0 a1 : Value) (w : World) (R : KT) : Prop :=
 VJoin 1 (fun _ x1 w1=>Vif x1 (R (.tuple #[(I 0), (I 0), (I 7)]) w1) (VJoin 1 (fun _ x2 w2=>Vif x2 (R (.tuple #[(I 0), (I 0), (I 25)]) w2) (Bv .leq a1 (I 1) (Cl P 266 #[a0, a1] w2 fun x4 w3=>Bv .neq x4 (I 0) (R (.tuple #[(I 0), (I 0), x4]) w3) (R (.tuple #[(I 0), (I (-1)), (I 0)]) w3)) (Bp .sub a1 (I 1) fun x6=>VJoin 1 (fun _ y7 w4=>Nc a0<|Fo 3 a0 fun x8=>Ld x8 w4 fun x9=>Nc a0<|Fo 2 a0 fun x10=>Ld x10 w4 fun x11=>Bp .add x11 x9 fun x12=>Nc a0<|Fo 2 a0 fun x13=>St x13 x12 w4 fun w5=>Nc a0<|Fo 3 a0 fun x14=>St x14 (I 0) w5 fun w6=>Nc a0<|Fo 4 a0 fun x15=>St x15 (I 1) w6 fun w7=>R (.tuple #[x9, y7, (I 0)]) w7) (fun J16=>Nc a0<|Fo 0 a0 fun x17=>Ld x17 w2 fun x18=>Bp .add x18 (I 1) fun x19=>Bp .eql a1 x19 fun x20=>Vif x20 (Nc a0<|Fo 5 a0 fun x21=>St x21 (.bool true) w2 fun w8=>KS [a0]<|J16 (I (-1)) w8) (Dr w2 fun w9=>Cl P 267 #[a0] w9 fun x22 w10=>Nc a0<|Fo 1 a0 fun x23=>Ld x23 w10 fun x24=>Rk (fun w K=>Ld x23 w fun x25=>K x25) x24 w9<|Bv .eql x22 x24 (R (.tuple #[(I 0), (I 0), (I 2)]) w10) (Nc a0<|Fo 2 a0 fun x28=>Ld x28 w10 fun x29=>Bp .add x29 (I 1) fun x30=>Nc a0<|Fo 2 a0 fun x31=>St x31 x30 w10 fun w11=>KS [a0]<|J16 x6 w11)))))) (fun J32=>Bp .lss a1 (I 0) fun x33=>Vif x33 (KS [a0, a1]<|J32 (.bool true) w1) (Nc a0<|Fo 0 a0 fun x34=>Ld x34 w1 fun x35=>Bp .add x35 (I 1) fun x36=>Bp .gtr a1 x36 fun x37=>KS [a0, a1]<|J32 x37 w1)))) (fun J38=>Bn P 309 false a0 (.pointer none) fun x39=>Vif x39 (KS [a0, a1]<|J38 (.bool true) w) (Nc a0<|Fo 5 a0 fun x40=>Ld x40 w fun x41=>KS [a0, a1]<|J38 x41 w))
theorem Tz248 (h : Vz248 prog a0 a1 w R) : Cl prog 248 #[a0, a1] w R :=
 tz 84 [(.tmp 4), (.tmp 5), (.tmp 6)] (s z (s (b (j [8] [0, 1] z (i (s z z) (j [17] [0, 1] z (i (s z z) (s z (i (s (s z (s z (i (s z z) z))) (s z z)) z))))))) (s z (j [5] [0] (s z (i (s z z) (s (r (.staged [0, 1, 0, 4, 12, 28, 63])) (i (s z z) z)))) (s z (s z (s z (s z (s z z))))))))) [a0, a1] func248 h
def Vz250 (P : Program) (a0 a1 a2 : Value) (w : World) (R : KT) : Prop :=
 Cl P 269 #[a0, a1] w fun x1 w1=>Cl P 269 #[a0, a2] w1 fun x2 w2=>New (zeroP P 51) 51 w2 fun y3 w3=>New (zeroP P 51) 51 w3 fun y4 w4=>StA 2 y3 x1 w4 fun w5=>StA 2 y4 x2 w5 fun w6=>Iaa 2 1 y3 (I 0) fun x5=>Ld x5 w6 fun x6=>Iaa 2 1 y4 (I 0) fun x7=>Ld x7 w6 fun x8=>Bv .gtr x6 x8 (R (.bool true) w6) (Iaa 2 1 y3 (I 0) fun x10=>Ld x10 w6 fun x11=>Iaa 2 1 y4 (I 0) fun x12=>Ld x12 w6 fun x13=>Bv .eql x11 x13 (Iaa 2 1 y3 (I 1) fun x15=>Ld x15 w6 fun x16=>Iaa 2 1 y4 (I 1) fun x17=>Ld x17 w6 fun x18=>Bp .gtr x16 x18 fun x19=>R x19 w6) (R (.bool false) w6))
theorem Tz250 (h : Vz250 prog a0 a1 a2 w R) : Cl prog 250 #[a0, a1, a2] w R :=
 tz 34 [(.tmp 6)] (s z (s z (s z z))) [a0, a1, a2] func250 h
def Vz251 (P : Program) (a0 : Value) (w : World) (R : KT) : Prop :=
 Nc a0<|Fo 2 a0 fun x1=>Ld x1 w fun x2=>Nc a0<|Fo 3 a0 fun x3=>Ld x3 w fun x4=>Nc a0<|Fo 2 a0 fun x5=>St x5 x4 w fun w1=>Nc a0<|Fo 3 a0 fun x6=>St x6 x2 w1 fun w2=>Nc a0<|Fo 12 a0 fun x7=>St x7 (I 0) w2 fun w3=>VJoin 1 (fun _ x8 w4=>Vif x8 (Nc a0<|Fo 15 a0 fun x9=>St x9 (.bool true) w4 fun w5=>R (.tuple #[]) w5) (Nc a0<|Fo 4 a0 fun x10=>Ld x10 w4 fun x11=>Bp .mul (I 2) x11 fun x12=>Bmax P #[3, 3] 3 #[(I 1), x12] w4 fun x13=>Nc a0<|Fo 4 a0 fun x14=>St x14 x13 w4 fun w6=>Dr w6 fun w7=>Nc a0<|Fo 5 a0 fun x15=>Ld x15 w7 fun x16=>Nc a0<|Fo 1 a0 fun x18=>Ld x18 w7 fun x19=>Lnl x19 fun x21=>Bd P 248 #[(0, (I 0)), (2, x21)] w7 fun x23=>Bs P 246 1 #[(0, x23)] w7 fun x25 w8=>Rk (fun w K=>Ld x15 w fun x17=>K x17) x16 w8<|Ap P #[246, 246] 246 #[x16, x25] w8 fun x26 w9=>Nc a0<|Fo 5 a0 fun x27=>St x27 x26 w9 fun w10=>R (.tuple #[]) w10)) (fun J28=>Dr w3 fun w11=>Nc a0<|Fo 13 a0 fun x29=>Ld x29 w11 fun x30=>Nc a0<|Fo 1 a0 fun x32=>Ld x32 w11 fun x33=>Lnl x33 fun x35=>Bp .sub x35 (I 1) fun x37=>Bp .eql x30 x37 fun x38=>Vif x38 (KS [a0]<|J28 (.bool true) w11) (Nc a0<|Fo 4 a0 fun x39=>Ld x39 w11 fun x40=>Nc a0<|Fo 1 a0 fun x42=>Ld x42 w11 fun x43=>Lnl x43 fun x45=>Bp .geq x40 x45 fun x47=>KS [a0]<|J28 x47 w11))
theorem Tz251 (h : Vz251 prog a0 w R) : Cl prog 251 #[a0] w R :=
 tz 71 [] (s z (s z (s z (s z (s (j [43] [0] (r (.staged [0, 1, 3, 7, 0, 16, 48, 112, 240, 496, 1023, 2047, 4095, 8191, 16383, 32767, 4095, 69631, 200703, 462847, 987135, 2097151, 4194303])) (i (s z z) z)) (s z (r (.staged [0, 0, 2, 6, 14, 0, 32, 96, 224, 480, 992, 2016, 4094, 8191, 16383, 32767])))))))) [a0] func251 h
def Vz252 (P : Program) (a0 : Value) (w : World) (R : KT) : Prop :=
 Cl P 270 #[a0] w fun x1 w1=>Lnl a0 fun x2=>Bp .sub x2 (I 1) fun x3=>VLoop 1 [(I 0)] w1 fun _ n5 x4 w2=>Bp .lss x4 x3 fun x6=>Vif x6 (Cl P 271 #[x1] w2 fun x7 w3=>Cl P 271 #[x1] w3 fun x8 w4=>Cl P 272 #[x1, x7, x8] w4 fun x9 w5=>Bp .add x4 (I 1) fun x10=>KS [a0, x1, x3]<|n5 x10 w5) (Nc x1<|Fo 0 x1 fun x11=>Ld x11 w2 fun x12=>Lnl x12 fun x13=>Ms P 69 x13 x13 w2 fun x14 w6=>Lnl x14 fun x15=>Bp .sub x15 (I 2) fun x16=>VLoop 1 [x16] w6 fun _ n18 y17 w7=>Bp .geq y17 (I 0) fun x19=>Vif x19 (Nc x1<|Fo 1 x1 fun x20=>Ld x20 w7 fun x21=>Ias 1 x21 y17 fun x22=>Ld x22 w7 fun x23=>Ias 1 x14 x23 fun x24=>Ld x24 w7 fun x25=>Bp .add x25 (I 1) fun x26=>Ias 1 x14 y17 fun x27=>St x27 x26 w7 fun w8=>Bp .sub y17 (I 1) fun x28=>KS [a0, x1, x14]<|n18 x28 w8) (Lnl a0 fun x29=>Ssl 1 x14 none (some x29) fun x30=>R x30 w7))
theorem Tz252 (h : Vz252 prog a0 w R) : Cl prog 252 #[a0] w R :=
 tz 53 [(.tmp 2)] (s z (s z (s (s z (b (l [12] [0, 3, 11] (s z (s (i z z) (s (b (s z z)) z)))))) (s z (s (s z (b (l [6] [0, 3, 5] (s (s z (i z z)) (s (b z) z))))) (s z z)))))) [a0] func252 h
def Vz253 (P : Program) (a0 : Value) (w : World) (R : KT) : Prop :=
 Lnl a0 fun x1=>VLoop 2 [(I 0), (I 0)] w fun _ n4 y2 x3 w1=>Bv .lss x3 x1 (Ias 1 a0 x3 fun x6=>Ld x6 w1 fun x7=>Bmax P #[3, 3] 3 #[y2, x7] w1 fun x8=>Bp .add x3 (I 1) fun x9=>KS [a0, x1]<|n4 x8 x9 w1) (R y2 w1)
theorem Tz253 (h : Vz253 prog a0 w R) : Cl prog 253 #[a0] w R :=
 tz 17 [(.tmp 2)] (s z (s z (s (s z (b (l [3, 8] [6, 7] (s z (s (i z z) (s (b (s z z)) z)))))) (s z z)))) [a0] func253 h
def Vz254 (P : Program) (a0 : Value) (w : World) (R : KT) : Prop :=
 Lnl a0 fun x1=>Ms P 69 x1 x1 w fun x2 w1=>Lnl a0 fun x3=>VLoop 1 [(I 0)] w1 fun _ n5 x4 w2=>Bv .lss x4 x3 (Ias 1 a0 x4 fun x7=>Ld x7 w2 fun x8=>Bmax P #[3, 3] 3 #[x8, (I 0)] w2 fun x9=>Bp .quo x9 (I 2) fun x10=>Bp .add x10 (I 1) fun x11=>Ias 1 x2 x4 fun x12=>St x12 x11 w2 fun w3=>Bp .add x4 (I 1) fun x13=>KS [x2, a0, x3]<|n5 x13 w3) (R x2 w2)
theorem Tz254 (h : Vz254 prog a0 w R) : Cl prog 254 #[a0] w R :=
 tz 25 [(.tmp 2)] (s z (s z (s (s z (b (l [11] [3, 9, 10] (s z (s (i z z) (s (b (s z z)) z)))))) (s z z)))) [a0] func254 h
def Vz255 (P : Program) (a0 a1 a2 : Value) (w : World) (R : KT) : Prop :=
 Ld a1 w fun x1=>Bv .lss a0 x1 (R (.bool true) w) (Ld a2 w fun x3=>Bp .gtr a0 x3 fun x4=>R x4 w)
theorem Tz255 (h : Vz255 prog a0 a1 a2 w R) : Cl prog 255 #[a0, a1, a2] w R :=
 tz 13 [(.tmp 4)] (s z (s z z)) [a0, a1, a2] func255 h
def Vz256 (P : Program) (a0 a1 : Value) (w : World) (R : KT) : Prop :=
 New a0 285 w fun y1 w1=>New a1 285 w1 fun y2 w2=>Fo 0 y1 fun x3=>Ld x3 w2 fun x4=>Fo 0 y2 fun x5=>Ld x5 w2 fun x6=>Bv .lss x4 x6 (R (.bool true) w2) (Fo 0 y1 fun x8=>Ld x8 w2 fun x9=>Fo 0 y2 fun x10=>Ld x10 w2 fun x11=>Bv .eql x9 x11 (Fo 1 y1 fun x13=>Ld x13 w2 fun x14=>Fo 1 y2 fun x15=>Ld x15 w2 fun x16=>Bp .lss x14 x16 fun x17=>R x17 w2) (R (.bool false) w2))
theorem Tz256 (h : Vz256 prog a0 a1 w R) : Cl prog 256 #[a0, a1] w R :=
 tz 24 [(.tmp 4)] (s z (s z z)) [a0, a1] func256 h
def Vz257 (P : Program) (a0 : Value) (w : World) (R : KT) : Prop :=
 VLoop 2 [(.slice none 0 0), (I 0)] w fun _ n3 y1 x2 w1=>Bv .lss x2 (I 16) (Bp .sub (I 15) x2 fun x5=>Bp .shr a0 x5 fun x6=>Bp .and x6 (.int .u32 1) fun x7=>Bp .eql x7 (.int .u32 1) fun x8=>Vif x8 (Bs P 69 1 #[(0, x2)] w1 fun x9 w2=>Ap P #[69, 69] 69 #[y1, x9] w2 fun x10 w3=>Bp .add x2 (I 1) fun x11=>KS [a0]<|n3 x10 x11 w3) (Bp .add x2 (I 1) fun x12=>KS [a0]<|n3 y1 x12 w1)) (R y1 w1)
theorem Tz257 (h : Vz257 prog a0 w R) : Cl prog 257 #[a0] w R :=
 tz 20 [(.tmp 2)] (s z (s z (s (s z (b (l [3, 5] [0] (s z (s (i z z) (s (b (s z (s z (i z z)))) z)))))) (s z z)))) [a0] func257 h
def Vz258 (P : Program) (a0 : Value) (w : World) (R : KT) : Prop :=
 Cl P 195 #[a0] w fun x1 w1=>Up .not x1 fun x2=>Vif x2 (R (.tuple #[(.pointer none), (I 1)]) w1) (Bd P 318 #[(0, a0)] w1 fun x3=>New x3 318 w1 fun x4 w2=>R (.tuple #[x4, (I 0)]) w2)
theorem Tz258 (h : Vz258 prog a0 w R) : Cl prog 258 #[a0] w R :=
 tz 10 [(.tmp 2), (.tmp 3)] (s z (s (s z (i (s z z) z)) (s z z))) [a0] func258 h
def Vz259 (P : Program) (w : World) (R : KT) : Prop :=
 Cl P 193 #[] w fun x1 w1=>Bd P 311 #[(2, x1)] w1 fun x2=>New x2 311 w1 fun x3 w2=>R x3 w2
theorem Tz259 (h : Vz259 prog w R) : Cl prog 259 #[] w R :=
 tz 4 [(.tmp 0)] (s z (s z z)) [] func259 h
def Vz260 (P : Program) (a0 a1 : Value) (w : World) (R : KT) : Prop :=
 VJoin 1 (fun _ x1 w1=>Vif x1 (R (.tuple #[(I 0), (I 7)]) w1) (Cl P 25 #[a1] w1 fun x2 w2=>Cl P 273 #[a0, a1] w2 fun x3 w3=>Ex x3 0 fun x4=>Ex x3 1 fun x5=>Bv .neq x5 (I 0) (Cl P 60 #[a1, x2] w3 fun x7 w4=>R (.tuple #[x4, x5]) w4) (R (.tuple #[x4, x5]) w3))) (fun J8=>Bn P 219 false a0 (.pointer none) fun x9=>Vif x9 (KS [a0, a1]<|J8 (.bool true) w) (Bn P 90 false a1 (.pointer none) fun x10=>KS [a0, a1]<|J8 x10 w))
theorem Tz260 (h : Vz260 prog a0 a1 w R) : Cl prog 260 #[a0, a1] w R :=
 tz 30 [(.tmp 4), (.tmp 5)] (s z (s (j [14] [0, 1] z (i (s z z) z)) (s z (s z (s (s z (i z z)) (s z z)))))) [a0, a1] func260 h
def Vz261 (P : Program) (a0 a1 : Value) (w : World) (R : KT) : Prop :=
 VJoin 1 (fun _ x1 w1=>Vif x1 (R (I 7) w1) (Nc a0<|Fo 9 a0 fun x2=>Ld x2 w1 fun x3=>Vif x3 (R (I 25) w1) (Cl P 25 #[a1] w1 fun x4 w2=>Mf P (.func 274) #[a0] #[] w2 fun x5=>VJoin 1 (fun _ y6 w3=>Inv P (do let d <- Deferred.ofValue y6 #[a1]; invoke d.target d.args) w3 fun x7 w4=>Bv .eql x7 (I 3) (Cl P 60 #[a1, x4] w4 fun x9 w5=>R x7 w5) (R x7 w4)) (fun J10=>Nc a0<|Fo 1 a0 fun x11=>Ld x11 w2 fun x12=>Bv .eql x12 (I 0) (Mf P (.func 275) #[a0] #[] w2 fun x14=>KS [a1, x4]<|J10 x14 w2) (KS [a1, x4]<|J10 x5 w2))))) (fun J15=>Bn P 311 false a0 (.pointer none) fun x16=>Vif x16 (KS [a0, a1]<|J15 (.bool true) w) (Bn P 90 false a1 (.pointer none) fun x17=>Vif x17 (KS [a0, a1]<|J15 (.bool true) w) (Cl P 244 #[a0] w fun x18 w6=>KS [a0, a1]<|J15 x18 w6)))
theorem Tz261 (h : Vz261 prog a0 a1 w R) : Cl prog 261 #[a0, a1] w R :=
 tz 44 [(.tmp 4)] (s z (s (b (j [8] [0, 1] z (i (s z z) (s z (i (s z z) z))))) (s z (s z (j [6] [1, 5] (s z (i z z)) (s z (s (s z (i z z)) (s z z)))))))) [a0, a1] func261 h
def Vz262 (P : Program) (a0 : Value) (w : World) (R : KT) : Prop :=
 Bn P 311 false a0 (.pointer none) fun x1=>Vif x1 (R (.slice none 0 0) w) (Nc a0<|Fo 8 a0 fun x2=>Ld x2 w fun x3=>Cl P 153 #[x3] w fun x4 w1=>R x4 w1)
theorem Tz262 (h : Vz262 prog a0 w R) : Cl prog 262 #[a0] w R :=
 tz 10 [(.tmp 2)] (s z (s (s z (i (s z z) z)) (s z z))) [a0] func262 h
def Vz263 (P : Program) (a0 a1 : Value) (w : World) (R : KT) : Prop :=
 VJoin 1 (fun _ x1 w1=>Vif x1 (R (I 7) w1) (Nc a0<|Fo 3 a0 fun x2=>Ld x2 w1 fun x3=>Vif x3 (R (I 22) w1) (Cl P 25 #[a1] w1 fun x4 w2=>Cl P 276 #[a0, a1] w2 fun x5 w3=>Bv .eql x5 (I 3) (Cl P 60 #[a1, x4] w3 fun x7 w4=>R x5 w4) (R x5 w3)))) (fun J8=>Bn P 318 false a0 (.pointer none) fun x9=>Vif x9 (KS [a0, a1]<|J8 (.bool true) w) (Bn P 90 false a1 (.pointer none) fun x10=>Vif x10 (KS [a0, a1]<|J8 (.bool true) w) (Cl P 264 #[a0] w fun x11 w5=>KS [a0, a1]<|J8 x11 w5)))
theorem Tz263 (h : Vz263 prog a0 a1 w R) : Cl prog 263 #[a0, a1] w R :=
 tz 34 [(.tmp 4)] (s z (s (b (j [7] [0, 1] z (i (s z z) (s z (i (s z z) z))))) (s z (s z (s (s z (i z z)) (s z z)))))) [a0, a1] func263 h
def Vz264 (P : Program) (a0 : Value) (w : World) (R : KT) : Prop :=
 Dr w fun w1=>Bn P 318 true a0 (.pointer none) fun x1=>Vif x1 (Nc a0<|Fo 2 a0 fun x2=>Ld x2 w1 fun x3=>Lnl x3 fun x5=>Nc a0<|Fo 0 a0 fun x7=>Ld x7 w1 fun x8=>Bp .eql x5 x8 fun x10=>R x10 w1) (R (.bool false) w1)
theorem Tz264 (h : Vz264 prog a0 w R) : Cl prog 264 #[a0] w R :=
 tz 17 [(.tmp 2)] (s z (s (r (.staged [0, 1, 3, 7, 15, 31, 63, 127, 7, 263, 775, 1799, 4095, 8191, 16383])) z)) [a0] func264 h
def Vz265 (P : Program) (a0 : Value) (w : World) (R : KT) : Prop :=
 Bn P 318 false a0 (.pointer none) fun x1=>Vif x1 (R (.slice none 0 0) w) (Nc a0<|Fo 2 a0 fun x2=>Ld x2 w fun x3=>Cl P 153 #[x3] w fun x4 w1=>R x4 w1)
theorem Tz265 (h : Vz265 prog a0 w R) : Cl prog 265 #[a0] w R :=
 tz 10 [(.tmp 2)] (s z (s (s z (i (s z z) z)) (s z z))) [a0] func265 h
def Vz266 (P : Program) (a0 a1 : Value) (w : World) (R : KT) : Prop :=
 Nc a0<|Fo 4 a0 fun x1=>Ld x1 w fun x2=>Bp .shl x2 a1 fun x3=>Dr w fun w1=>Nc a0<|Fo 1 a0 fun x4=>Ld x4 w1 fun x5=>Cl P 267 #[a0] w1 fun x7 w2=>Rk (fun w K=>Ld x4 w fun x6=>K x6) x5 w2<|Bp .sub x5 x7 fun x8=>Bp .gtr x3 x8 fun x9=>Vif x9 (R (I 2) w2) (Nc a0<|Fo 3 a0 fun x10=>Ld x10 w2 fun x11=>Bp .add x11 x3 fun x12=>Nc a0<|Fo 3 a0 fun x13=>St x13 x12 w2 fun w3=>Nc a0<|Fo 4 a0 fun x14=>Ld x14 w3 fun x15=>Bp .mul x15 (I 2) fun x16=>Nc a0<|Fo 4 a0 fun x17=>St x17 x16 w3 fun w4=>R (I 0) w4)
theorem Tz266 (h : Vz266 prog a0 a1 w R) : Cl prog 266 #[a0, a1] w R :=
 tz 36 [(.tmp 4)] (s z (s z (s (s (r (.staged [0, 0, 2, 6, 14, 0, 32, 126, 255])) (i (s z z) z)) (s z (s z (s z z)))))) [a0, a1] func266 h
def Vz267 (P : Program) (a0 : Value) (w : World) (R : KT) : Prop :=
 Bn P 309 false a0 (.pointer none) fun x1=>Vif x1 (R (I 0) w) (Dr w fun w1=>Nc a0<|Fo 2 a0 fun x2=>Ld x2 w1 fun x3=>Nc a0<|Fo 3 a0 fun x5=>Ld x5 w1 fun x6=>Bp .add x3 x6 fun x8=>R x8 w1)
theorem Tz267 (h : Vz267 prog a0 w R) : Cl prog 267 #[a0] w R :=
 tz 14 [(.tmp 2)] (s z (s (s z (i (s z z) z)) (s (r (.staged [0, 1, 3, 7, 0, 16, 48, 112, 255, 511])) z))) [a0] func267 h
def Vz269 (P : Program) (a0 a1 : Value) (w : World) (R : KT) : Prop :=
 New (zeroP P 51) 51 w fun x1 w1=>Nc a0<|Fo 4 a0 fun x2=>Ld x2 w1 fun x3=>Bv .eql x3 (I 0) (Nc a0<|Fo 0 a0 fun x5=>Ld x5 w1 fun x6=>Ixs x6 a1 fun x7=>Ci .i64 x7 fun x8=>Bd P 51 #[(0, x8), (1, (I 0))] w1 fun x9=>StA 2 x1 x9 w1 fun w2=>LdA 2 x1 w2 fun x10=>R x10 w2) (Dr w1 fun w3=>Nc a0<|Fo 2 a0 fun x11=>Ld x11 w3 fun x12=>Ias 1 x12 a1 fun x14=>Ld x14 w3 fun x15=>Nc a0<|Fo 2 a0 fun x17=>Ld x17 w3 fun x18=>Nc a0<|Fo 4 a0 fun x20=>Ld x20 w3 fun x21=>Bp .add a1 x21 fun x23=>Nc a0<|Fo 0 a0 fun x24=>Ld x24 w3 fun x25=>Lns x25 fun x27=>Bp .rem x23 x27 fun x29=>Ias 1 x18 x29 fun x30=>Ld x30 w3 fun x31=>Bd P 51 #[(0, x15), (1, x31)] w3 fun x33=>StA 2 x1 x33 w3 fun w4=>LdA 2 x1 w4 fun x35=>R x35 w4)
theorem Tz269 (h : Vz269 prog a0 a1 w R) : Cl prog 269 #[a0, a1] w R :=
 tz 44 [(.cell 4 51)] (s z (s (s z (i (s z z) z)) (s (r (.staged [0, 1, 3, 7, 0, 31, 63, 0, 128, 384, 896, 0, 0, 4096, 12288, 28672, 63488, 0, 131072, 393216, 917504, 1966080, 4192256, 8388480, 16777088, 33554431, 67108863])) z))) [a0, a1] func269 h
def Vz270 (P : Program) (a0 : Value) (w : World) (R : KT) : Prop :=
 New a0 69 w fun y1 w1=>Dr w1 fun w2=>Ld y1 w2 fun x2=>Cl P 153 #[x2] w2 fun x4 w3=>Ld y1 w3 fun x5=>Rk (fun w K=>Ld y1 w fun x6=>K x6) x5 w2<|Lnl x5 fun x8=>Rk (fun w K=>Lnl x5 fun x9=>K x9) x8 w2<|Bd P 316 #[(0, x4), (3, x8)] w3 fun x11=>New x11 316 w3 fun x13 w4=>Ld y1 w4 fun x14=>Lnl x14 fun x15=>VLoop 1 [(I 0)] w4 fun _ n17 x16 w5=>Bv .lss x16 x15 (Nc x13<|Fo 2 x13 fun x19=>Ld x19 w5 fun x20=>Bs P 69 1 #[(0, x16)] w5 fun x21 w6=>Ap P #[69, 69] 69 #[x20, x21] w6 fun x22 w7=>Nc x13<|Fo 2 x13 fun x23=>St x23 x22 w7 fun w8=>Nc x13<|Fo 1 x13 fun x24=>Ld x24 w8 fun x25=>Bs P 69 1 #[(0, (I (-1)))] w8 fun x26 w9=>Ap P #[69, 69] 69 #[x25, x26] w9 fun x27 w10=>Nc x13<|Fo 1 x13 fun x28=>St x28 x27 w10 fun w11=>Bp .add x16 (I 1) fun x29=>KS [y1, x13, x15]<|n17 x29 w11) (Nc x13<|Fo 2 x13 fun x30=>Ld x30 w5 fun x31=>Mf P (.func 279) #[] #[y1] w5 fun x32=>Cl P 278 #[x31, x32] w5 fun x33 w12=>R x13 w12)
theorem Tz270 (h : Vz270 prog a0 w R) : Cl prog 270 #[a0] w R :=
 tz 43 [(.tmp 2)] (s z (s (r (.staged [0, 1, 0, 4, 15, 31, 63])) (s (s z (b (l [13] [1, 3, 12] (s z (s (i z z) (s (b (s z (s z z))) z)))))) (s z (s z z))))) [a0] func270 h
def Vz271 (P : Program) (a0 : Value) (w : World) (R : KT) : Prop :=
 VJoin 1 (fun _ x1 w1=>Vif x1 (Nc a0<|Fo 2 a0 fun x2=>Ld x2 w1 fun x3=>Ias 1 x3 (I 0) fun x4=>Ld x4 w1 fun x5=>Nc a0<|Fo 2 a0 fun x6=>Ld x6 w1 fun x7=>Ssl 1 x7 (some (I 1)) none fun x8=>Nc a0<|Fo 2 a0 fun x9=>St x9 x8 w1 fun w2=>R x5 w2) (Nc a0<|Fo 3 a0 fun x10=>Ld x10 w1 fun x11=>Bp .add x11 (I 1) fun x12=>Nc a0<|Fo 3 a0 fun x13=>St x13 x12 w1 fun w3=>Nc a0<|Fo 3 a0 fun x14=>Ld x14 w3 fun x15=>Bp .sub x15 (I 1) fun x16=>R x16 w3)) (fun J17=>Dr w fun w4=>Nc a0<|Fo 3 a0 fun x18=>Ld x18 w4 fun x19=>Nc a0<|Fo 0 a0 fun x21=>Ld x21 w4 fun x22=>Lnl x22 fun x24=>Bp .eql x19 x24 fun x26=>Vif x26 (KS [a0]<|J17 (.bool true) w4) (Nc a0<|Fo 2 a0 fun x27=>Ld x27 w4 fun x28=>Lnl x28 fun x30=>Bv .gtr x30 (I 0) (Nc a0<|Fo 0 a0 fun x33=>Ld x33 w4 fun x34=>Nc a0<|Fo 2 a0 fun x36=>Ld x36 w4 fun x37=>Ias 1 x37 (I 0) fun x39=>Ld x39 w4 fun x40=>Ias 1 x34 x40 fun x42=>Ld x42 w4 fun x43=>Nc a0<|Fo 0 a0 fun x45=>Ld x45 w4 fun x46=>Nc a0<|Fo 3 a0 fun x48=>Ld x48 w4 fun x49=>Ias 1 x46 x49 fun x51=>Ld x51 w4 fun x52=>Bp .leq x43 x52 fun x54=>KS [a0]<|J17 x54 w4) (KS [a0]<|J17 (.bool false) w4)))
theorem Tz271 (h : Vz271 prog a0 w R) : Cl prog 271 #[a0] w R :=
 tz 74 [(.tmp 2)] (s z (s (j [46] [0] (r (.staged [0, 1, 3, 7, 0, 16, 48, 112, 240, 511, 1023, 2047, 4095, 8191, 16383, 32767, 65535, 131071, 262143, 524287, 1048575, 2097151, 262143, 4456447, 12845055, 29622271, 63176703, 130285567, 268435455, 536870911, 262143, 1074003967, 3221487615, 7516454911, 262143, 17180131327, 51539869695, 120259346431, 273804427263, 548682334207, 1099511627775, 2199023255551, 4398046511103])) (i (s z (s z (s z z))) z)) (s z (s z z)))) [a0] func271 h
def Vz272 (P : Program) (a0 a1 a2 : Value) (w : World) (R : KT) : Prop :=
 Dr w fun w1=>Nc a0<|Fo 1 a0 fun x1=>Ld x1 w1 fun x2=>Nc a0<|Fo 0 a0 fun x4=>Ld x4 w1 fun x5=>Lnl x5 fun x7=>Ias 1 x2 a1 fun x9=>St x9 x7 w1 fun w2=>Dr w2 fun w3=>Nc a0<|Fo 1 a0 fun x10=>Ld x10 w3 fun x11=>Nc a0<|Fo 0 a0 fun x13=>Ld x13 w3 fun x14=>Lnl x14 fun x16=>Ias 1 x11 a2 fun x18=>St x18 x16 w3 fun w4=>Dr w4 fun w5=>Nc a0<|Fo 0 a0 fun x19=>Ld x19 w5 fun x20=>Nc a0<|Fo 0 a0 fun x22=>Ld x22 w5 fun x23=>Ias 1 x23 a1 fun x25=>Ld x25 w5 fun x26=>Nc a0<|Fo 0 a0 fun x28=>Ld x28 w5 fun x29=>Ias 1 x29 a2 fun x31=>Ld x31 w5 fun x32=>Bp .add x26 x32 fun x34=>Bs P 69 1 #[(0, x34)] w5 fun x35 w6=>Rk (fun w K=>Ld x19 w fun x21=>K x21) x20 w6<|Ap P #[69, 69] 69 #[x20, x35] w6 fun x36 w7=>Nc a0<|Fo 0 a0 fun x37=>St x37 x36 w7 fun w8=>Nc a0<|Fo 1 a0 fun x38=>Ld x38 w8 fun x39=>Bs P 69 1 #[(0, (I (-1)))] w8 fun x40 w9=>Ap P #[69, 69] 69 #[x39, x40] w9 fun x41 w10=>Nc a0<|Fo 1 a0 fun x42=>St x42 x41 w10 fun w11=>R (.tuple #[]) w11
theorem Tz272 (h : Vz272 prog a0 a1 a2 w R) : Cl prog 272 #[a0, a1, a2] w R :=
 tz 61 [] (s (r (.staged [0, 1, 3, 7, 0, 0, 32, 96, 224, 480, 1023, 2047])) (s (r (.staged [0, 1, 3, 7, 0, 0, 32, 96, 224, 480, 1023, 2047])) (s (r (.staged [0, 0, 2, 6, 14, 0, 32, 96, 224, 0, 992, 2016, 0, 4096, 12288, 28672, 0, 126976, 258048, 524256, 1048544, 2097150, 4194303, 8388607, 16777215])) z))) [a0, a1, a2] func272 h
def Vz273 (P : Program) (a0 a1 : Value) (w : World) (R : KT) : Prop :=
 VLoop 2 [(I 0), (I 1)] w fun _ n3 y1 y2 w1=>Bv .leq y2 (I 20) (Cl P 209 #[a1, (I 1)] w1 fun x5 w2=>Ex x5 0 fun x6=>Ex x5 1 fun x7=>Bv .neq x7 (I 0) (R (.tuple #[(I 0), x7]) w2) (Bp .mul (I 2) y1 fun x9=>Ci .i64 x6 fun x10=>Bp .add x9 x10 fun x11=>Dr w2 fun w3=>Nc a0<|Fo 24 a0 fun x12=>Iaa 22 1 x12 y2 fun x13=>Ld x13 w3 fun x14=>Bp .add x14 x11 fun x16=>Nc a0<|Fo 3 a0 fun x17=>Iaa 21 1 x17 y2 fun x18=>Ld x18 w3 fun x19=>Bp .sub x16 x19 fun x21=>Bp .add y2 (I 1) fun x22=>Nc a0<|Fo 24 a0 fun x23=>Iaa 22 1 x23 x22 fun x24=>Ld x24 w3 fun x25=>Bp .lss x21 x25 fun x26=>Vif x26 (Nc a0<|Fo 2 a0 fun x27=>Ld x27 w3 fun x28=>Ias 1 x28 x21 fun x29=>Ld x29 w3 fun x30=>R (.tuple #[x30, (I 0)]) w3) (Bp .add y2 (I 1) fun x31=>KS [a0, a1]<|n3 x11 x31 w3))) (R (.tuple #[(I 0), (I 22)]) w1)
theorem Tz273 (h : Vz273 prog a0 a1 w R) : Cl prog 273 #[a0, a1] w R :=
 tz 59 [(.tmp 4), (.tmp 5)] (s z (s z (s (s z (b (l [6, 7] [0, 1] (s (s z (i z z)) (s (b (s z (s (s z (i (s z z) z)) (s z (s (r (.staged [0, 0, 1, 5, 15, 31, 0, 127, 0, 0, 256, 1280, 3840, 7936, 16383, 32767])) (s z (i (s z z) z))))))) z))))) (s z z)))) [a0, a1] func273 h
def Vz274 (P : Program) (a0 a1 : Value) (w : World) (R : KT) : Prop :=
 Nc a0<|Fo 0 a0 fun x1=>Ld x1 w fun x2=>VLoop 1 [(I 0)] w fun _ n4 x3 w1=>Bv .lss x3 x2 (Cl P 209 #[a1, (I 1)] w1 fun x6 w2=>Ex x6 0 fun x7=>Ex x6 1 fun x8=>Bv .neq x8 (I 0) (R x8 w2) (Bv .eql x7 (.int .u32 0) (Dr w2 fun w3=>Nc a0<|Fo 8 a0 fun x11=>Ld x11 w3 fun x12=>Nc a0<|Fo 2 a0 fun x14=>Cl P 232 #[x14, x3] w3 fun x15 w4=>Rk (fun w K=>Ld x11 w fun x13=>K x13) x12 w4<|Bs P 69 1 #[(0, x15)] w4 fun x16 w5=>Rk (fun w K=>Ld x11 w fun x13=>K x13) x12 w5<|Ap P #[69, 69] 69 #[x12, x16] w5 fun x17 w6=>Nc a0<|Fo 8 a0 fun x18=>St x18 x17 w6 fun w7=>R (I 0) w7) (Bp .add x3 (I 1) fun x19=>KS [a0, a1, x2]<|n4 x19 w2))) (Cl P 281 #[a0] w1 fun x20 w8=>R x20 w8)
theorem Tz274 (h : Vz274 prog a0 a1 w R) : Cl prog 274 #[a0, a1] w R :=
 tz 42 [(.tmp 4)] (s z (s (s z (b (l [12] [0, 1, 11] (s z (s (i z z) (s (b (s z (s z (s (s z (i (s z z) z)) (s z (i (s (r (.staged [0, 0, 2, 6, 14, 0, 32, 96, 0, 480, 992, 2046, 4095, 8191, 16383])) (s z z)) z)))))) z)))))) (s z z))) [a0, a1] func274 h
def Vz275 (P : Program) (a0 a1 : Value) (w : World) (R : KT) : Prop :=
 Cl P 209 #[a1, (I 18)] w fun x1 w1=>Ex x1 0 fun x2=>Ex x1 1 fun x3=>Bv .neq x3 (I 0) (R x3 w1) (Bp .shr x2 (.int .u64 15) fun x5=>Ci .i64 x5 fun x6=>Bp .and x2 (.int .u32 32767) fun x7=>Ci .i64 x7 fun x8=>VJoin 1 (fun _ x9 w2=>Vif x9 (Cl P 281 #[a0] w2 fun x10 w3=>R x10 w3) (Nc a0<|Fo 0 a0 fun x11=>St x11 x6 w2 fun w4=>Nc a0<|Fo 1 a0 fun x12=>St x12 x8 w4 fun w5=>R (I 0) w5)) (fun J13=>Cl P 190 #[x6] w1 fun x14 w6=>Up .not x14 fun x15=>Vif x15 (KS [a0, x6, x8]<|J13 (.bool true) w6) (Bp .eql x8 (I 0) fun x16=>KS [a0, x6, x8]<|J13 x16 w6)))
theorem Tz275 (h : Vz275 prog a0 a1 w R) : Cl prog 275 #[a0, a1] w R :=
 tz 40 [(.tmp 4)] (s z (s z (s (s z (i (s z z) z)) (s z (s (j [29] [0, 7, 8] z (i (s z z) z)) (s z (s z (s z z)))))))) [a0, a1] func275 h
def Vz276 (P : Program) (a0 a1 : Value) (w : World) (R : KT) : Prop :=
 Nc a0<|Fo 1 a0 fun x1=>Ld x1 w fun x2=>Bv .eql x2 (I 0) (Cl P 209 #[a1, (I 5)] w fun x4 w1=>Ex x4 0 fun x5=>Ex x4 1 fun x6=>Bv .neq x6 (I 0) (R x6 w1) (Ci .i64 x5 fun x8=>Cl P 282 #[a0, x8] w1 fun x9 w2=>R x9 w2)) (Cl P 209 #[a1, (I 1)] w fun x10 w3=>Ex x10 0 fun x11=>Ex x10 1 fun x12=>Bv .neq x12 (I 0) (R x12 w3) (Bv .eql x11 (.int .u32 0) (Dr w3 fun w4=>Nc a0<|Fo 2 a0 fun x15=>Ld x15 w4 fun x16=>Nc a0<|Fo 1 a0 fun x18=>Ld x18 w4 fun x19=>Bs P 69 1 #[(0, x19)] w4 fun x21 w5=>Rk (fun w K=>Ld x15 w fun x17=>K x17) x16 w5<|Ap P #[69, 69] 69 #[x16, x21] w5 fun x22 w6=>Nc a0<|Fo 2 a0 fun x23=>St x23 x22 w6 fun w7=>R (I 0) w7) (Cl P 209 #[a1, (I 1)] w3 fun x24 w8=>Ex x24 0 fun x25=>Ex x24 1 fun x26=>Bv .neq x26 (I 0) (R x26 w8) (Nc a0<|Fo 1 a0 fun x28=>Ld x28 w8 fun x29=>Bp .add x29 (I 1) fun x30=>Ci .i64 x25 fun x31=>Bp .mul (I 2) x31 fun x32=>Bp .sub x30 x32 fun x33=>Cl P 282 #[a0, x33] w8 fun x34 w9=>R x34 w9))))
theorem Tz276 (h : Vz276 prog a0 a1 w R) : Cl prog 276 #[a0, a1] w R :=
 tz 68 [(.tmp 4)] (s z (s (s z (i (s z (s (s z (i (s z z) z)) (s z z))) z)) (s z (s (s z (i (s z z) z)) (s (s z (i (s (r (.staged [0, 0, 2, 6, 14, 0, 32, 96, 224, 480, 1022, 2047, 4095, 8191])) (s z z)) z)) (s z (s (s z (i (s z z) z)) (s z z)))))))) [a0, a1] func276 h
def Vz278 (P : Program) (a0 a1 : Value) (w : World) (R : KT) : Prop :=
 Lnl a0 fun x1=>Cl P 287 #[a0, x1, a1] w fun x2 w1=>R (.tuple #[]) w1
theorem Tz278 (h : Vz278 prog a0 a1 w R) : Cl prog 278 #[a0, a1] w R :=
 tz 9 [] z [a0, a1] func278 h
def Vz279 (P : Program) (a0 a1 a2 : Value) (w : World) (R : KT) : Prop :=
 Dr w fun w1=>Ld a2 w1 fun x1=>Ias 1 x1 a0 fun x3=>Ld x3 w1 fun x4=>Ld a2 w1 fun x6=>Ias 1 x6 a1 fun x8=>Ld x8 w1 fun x9=>Cl P 280 #[x4, x9] w1 fun x11 w2=>R x11 w2
theorem Tz279 (h : Vz279 prog a0 a1 a2 w R) : Cl prog 279 #[a0, a1, a2] w R :=
 tz 15 [(.tmp 5)] (s z (s (r (.staged [0, 0, 3, 7, 0, 0, 48, 112, 255, 511])) z)) [a0, a1, a2] func279 h
def Vz280 (P : Program) (a0 a1 : Value) (w : World) (R : KT) : Prop :=
 Cl P 288 #[a0] w fun x1 w1=>Cl P 288 #[a1] w1 fun x2 w2=>Vif x1 (Vif x2 (R (I 0) w2) (R (I (-1)) w2)) (Vif x2 (R (I 1) w2) (Bv .lss a0 a1 (R (I (-1)) w2) (Bv .gtr a0 a1 (R (I 1) w2) (R (I 0) w2))))
theorem Tz280 (h : Vz280 prog a0 a1 w R) : Cl prog 280 #[a0, a1] w R :=
 tz 20 [(.tmp 4)] (s z (s z (s z (s (s z (i (s (s z (i (s z z) z)) (s z z)) z)) (s (s z (i (s z z) z)) (s (s z (i (s z z) z)) (s (s z (i (s z z) z)) (s z z)))))))) [a0, a1] func280 h
def Vz281 (P : Program) (a0 : Value) (w : World) (R : KT) : Prop :=
 Nc a0<|Fo 9 a0 fun x1=>St x1 (.bool true) w fun w1=>R (I 25) w1
theorem Tz281 (h : Vz281 prog a0 w R) : Cl prog 281 #[a0] w R :=
 tz 6 [(.tmp 2)] (s z (s z (s z z))) [a0] func281 h
def Vz282 (P : Program) (a0 a1 : Value) (w : World) (R : KT) : Prop :=
 Cl P 197 #[a1] w fun x1 w1=>Up .not x1 fun x2=>Vif x2 (Nc a0<|Fo 3 a0 fun x3=>St x3 (.bool true) w1 fun w2=>R (I 22) w2) (Nc a0<|Fo 1 a0 fun x4=>St x4 a1 w1 fun w3=>R (I 0) w3)
theorem Tz282 (h : Vz282 prog a0 a1 w R) : Cl prog 282 #[a0, a1] w R :=
 tz 15 [(.tmp 4)] (s z (s (s z (i (s z (s z z)) z)) (s z (s z z)))) [a0, a1] func282 h
def Vz287 (P : Program) (a0 a1 a2 : Value) (w : World) (R : KT) : Prop :=
 VLoop 2 [(I 0), (I 20)] w fun _ n3 y1 y2 w1=>Bv .leq y2 a1 (Cl P 293 #[a0, y1, y2, a2] w1 fun x5 w2=>Bp .add y2 (I 20) fun x6=>KS [a0, a1, a2, (I 20)]<|n3 y2 x6 w2) (Cl P 293 #[a0, y1, a1, a2] w1 fun x7 w3=>VLoop 1 [(I 20)] w3 fun _ n9 y8 w4=>Bp .lss y8 a1 fun x10=>Vif x10 (Bp .mul (I 2) y8 fun x11=>VLoop 2 [(I 0), x11] w4 fun _ n14 y12 y13 w5=>Bp .leq y13 a1 fun x15=>Vif x15 (Bp .add y12 y8 fun x16=>Cl P 294 #[a0, y12, x16, y13, a2] w5 fun x17 w6=>Bp .mul (I 2) y8 fun x18=>Bp .add y13 x18 fun x19=>KS [a0, a1, a2, y8]<|n14 y13 x19 w6) (Bp .add y12 y8 fun x20=>Bp .lss x20 a1 fun x21=>Vif x21 (Cl P 294 #[a0, y12, x20, a1, a2] w5 fun x22 w7=>Bp .mul y8 (I 2) fun x23=>KS [a0, a1, a2]<|n9 x23 w7) (Bp .mul y8 (I 2) fun x24=>KS [a0, a1, a2]<|n9 x24 w5))) (R (.tuple #[]) w4))
theorem Tz287 (h : Vz287 prog a0 a1 a2 w R) : Cl prog 287 #[a0, a1, a2] w R :=
 tz 63 [] (s z (s z (s (b (l [7, 8] [0, 1, 2, 6] (s (s z (i z z)) (b (s z (s z z)))))) (s z (b (l [6] [0, 1, 2] (s (s z (i z z)) (b (s z (s (b (l [7, 8] [0, 1, 2, 6] (s (s z (i z z)) (b (s z (s z z)))))) (s (s z (s z (i z z))) z))))))))))) [a0, a1, a2] func287 h
def Vz288 (P : Program) (a0 : Value) (w : World) (R : KT) : Prop :=
 Bp .neq a0 a0 fun x1=>R x1 w
theorem Tz288 (h : Vz288 prog a0 w R) : Cl prog 288 #[a0] w R :=
 tz 6 [(.tmp 2)] (s z (s z z)) [a0] func288 h
def Vz293 (P : Program) (a0 a1 a2 a3 : Value) (w : World) (R : KT) : Prop :=
 Bp .add a1 (I 1) fun x1=>VLoop 1 [x1] w fun _ n3 y2 w1=>Bp .lss y2 a2 fun x4=>Vif x4 (VLoop 1 [y2] w1 fun _ n6 y5 w2=>VJoin 1 (fun _ x7 w3=>Vif x7 (Dr w3 fun w4=>Bp .sub y5 (I 1) fun x8=>Bp .sub y5 (I 1) fun x9=>Ias 1 a0 x9 fun x10=>Ld x10 w4 fun x11=>Ias 1 a0 y5 fun x13=>Ld x13 w4 fun x14=>Ias 1 a0 y5 fun x16=>St x16 x11 w4 fun w5=>Ias 1 a0 x8 fun x17=>St x17 x14 w5 fun w6=>Bp .sub y5 (I 1) fun x18=>KS [a0, a1, a2, a3, y2]<|n6 x18 w6) (Bp .add y2 (I 1) fun x19=>KS [a0, a1, a2, a3]<|n3 x19 w3)) (fun J20=>Dr w2 fun w7=>Bp .gtr y5 a1 fun x21=>Vif x21 (Ias 1 a0 y5 fun x22=>Ld x22 w7 fun x23=>Bp .sub y5 (I 1) fun x25=>Ias 1 a0 x25 fun x26=>Ld x26 w7 fun x27=>Inv P (do let d <- Deferred.ofValue a3 #[x23, x27]; invoke d.target d.args) w7 fun x29 w8=>Bp .lss x29 (I 0) fun x30=>KS [a0, a1, a2, a3, y2, y5]<|J20 x30 w8) (KS [a0, a1, a2, a3, y2, y5]<|J20 (.bool false) w7))) (R (.tuple #[]) w1)
theorem Tz293 (h : Vz293 prog a0 a1 a2 a3 w R) : Cl prog 293 #[a0, a1, a2, a3] w R :=
 tz 53 [] (s z (b (l [8] [0, 1, 2, 3] (s (s z (i z z)) (s (b (s z (b (l [9] [0, 1, 2, 3, 8] (s (j [34] [0, 1, 2, 3, 8, 9] (r (.staged [0, 0, 3, 7, 15, 15, 15, 111, 239, 15, 15, 1039, 3599, 7695, 16383, 32767, 65535])) (i z z)) (s (b (r (.staged [0, 0, 0, 0, 8, 0, 0, 64, 224, 480, 0, 0, 3072, 7168, 16355, 32739, 65535, 131071]))) z)))))) z))))) [a0, a1, a2, a3] func293 h
def Vz294 (P : Program) (a0 a1 a2 a3 a4 : Value) (w : World) (R : KT) : Prop :=
 Bp .sub a2 a1 fun x1=>Bp .eql x1 (I 1) fun x2=>Vif x2 (VLoop 2 [a2, a3] w fun _ n5 y3 y4 w1=>Bv .lss y3 y4 (Bp .add y3 y4 fun x7=>Ci .u64 x7 fun x8=>Bp .shr x8 (.int .u64 1) fun x9=>Ci .i64 x9 fun x10=>Dr w1 fun w2=>Ias 1 a0 x10 fun x11=>Ld x11 w2 fun x12=>Ias 1 a0 a1 fun x14=>Ld x14 w2 fun x15=>Inv P (do let d <- Deferred.ofValue a4 #[x12, x15]; invoke d.target d.args) w2 fun x17 w3=>Bp .lss x17 (I 0) fun x18=>Vif x18 (Bp .add x10 (I 1) fun x19=>KS [a0, a1, a4]<|n5 x19 y4 w3) (KS [a0, a1, a4]<|n5 y3 x10 w3)) (VLoop 1 [a1] w1 fun _ n21 y20 w4=>Bp .sub y3 (I 1) fun x22=>Bp .lss y20 x22 fun x23=>Vif x23 (Dr w4 fun w5=>Bp .add y20 (I 1) fun x24=>Bp .add y20 (I 1) fun x25=>Ias 1 a0 x25 fun x26=>Ld x26 w5 fun x27=>Ias 1 a0 y20 fun x29=>Ld x29 w5 fun x30=>Ias 1 a0 y20 fun x32=>St x32 x27 w5 fun w6=>Ias 1 a0 x24 fun x33=>St x33 x30 w6 fun w7=>Bp .add y20 (I 1) fun x34=>KS [a0, y3]<|n21 x34 w7) (R (.tuple #[]) w4))) (Bp .sub a3 a2 fun x35=>Bp .eql x35 (I 1) fun x36=>Vif x36 (VLoop 2 [a1, a2] w fun _ n39 y37 y38 w8=>Bv .lss y37 y38 (Bp .add y37 y38 fun x41=>Ci .u64 x41 fun x42=>Bp .shr x42 (.int .u64 1) fun x43=>Ci .i64 x43 fun x44=>Dr w8 fun w9=>Ias 1 a0 a2 fun x45=>Ld x45 w9 fun x46=>Ias 1 a0 x44 fun x48=>Ld x48 w9 fun x49=>Inv P (do let d <- Deferred.ofValue a4 #[x46, x49]; invoke d.target d.args) w9 fun x51 w10=>Bp .lss x51 (I 0) fun x52=>Up .not x52 fun x53=>Vif x53 (Bp .add x44 (I 1) fun x54=>KS [a0, a2, a4]<|n39 x54 y38 w10) (KS [a0, a2, a4]<|n39 y37 x44 w10)) (VLoop 1 [a2] w8 fun _ n56 y55 w11=>Bp .gtr y55 y37 fun x57=>Vif x57 (Dr w11 fun w12=>Bp .sub y55 (I 1) fun x58=>Bp .sub y55 (I 1) fun x59=>Ias 1 a0 x59 fun x60=>Ld x60 w12 fun x61=>Ias 1 a0 y55 fun x63=>Ld x63 w12 fun x64=>Ias 1 a0 y55 fun x66=>St x66 x61 w12 fun w13=>Ias 1 a0 x58 fun x67=>St x67 x64 w13 fun w14=>Bp .sub y55 (I 1) fun x68=>KS [a0, y37]<|n56 x68 w14) (R (.tuple #[]) w11))) (Bp .add a1 a3 fun x69=>Ci .u64 x69 fun x70=>Bp .shr x70 (.int .u64 1) fun x71=>Ci .i64 x71 fun x72=>Bp .add x72 a2 fun x73=>VJoin 2 (fun _ y74 y75 w15=>Bp .sub x73 (I 1) fun x76=>VLoop 2 [y74, y75] w15 fun _ n79 y77 y78 w16=>Bp .lss y77 y78 fun x80=>Vif x80 (Bp .add y77 y78 fun x81=>Ci .u64 x81 fun x82=>Bp .shr x82 (.int .u64 1) fun x83=>Ci .i64 x83 fun x84=>Dr w16 fun w17=>Bp .sub x76 x84 fun x85=>Ias 1 a0 x85 fun x86=>Ld x86 w17 fun x87=>Ias 1 a0 x84 fun x89=>Ld x89 w17 fun x90=>Inv P (do let d <- Deferred.ofValue a4 #[x87, x90]; invoke d.target d.args) w17 fun x92 w18=>Bp .lss x92 (I 0) fun x93=>Up .not x93 fun x94=>Vif x94 (Bp .add x84 (I 1) fun x95=>KS [a0, a1, a2, a3, a4, x72, x73, x76]<|n79 x95 y78 w18) (KS [a0, a1, a2, a3, a4, x72, x73, x76]<|n79 y77 x84 w18)) (Bp .sub x73 y77 fun x96=>VJoin 0 (fun _ w19=>VJoin 0 (fun _ w20=>VJoin 1 (fun _ x97 w21=>Vif x97 (Cl P 294 #[a0, x72, x96, a3, a4] w21 fun x98 w22=>R (.tuple #[]) w22) (R (.tuple #[]) w21)) (fun J99=>Bp .lss x72 x96 fun x100=>Vif x100 (Bp .lss x96 a3 fun x101=>KS [a0, a3, a4, x72, x96]<|J99 x101 w20) (KS [a0, a3, a4, x72, x96]<|J99 (.bool false) w20))) (fun J102=>VJoin 1 (fun _ x103 w23=>Vif x103 (Cl P 294 #[a0, a1, y77, x72, a4] w23 fun x104 w24=>KS [a0, a3, a4, x72, x96]<|J102 w24) (KS [a0, a3, a4, x72, x96]<|J102 w23)) (fun J105=>Bp .lss a1 y77 fun x106=>Vif x106 (Bp .lss y77 x72 fun x107=>KS [a0, a1, a3, a4, x72, y77, x96]<|J105 x107 w19) (KS [a0, a1, a3, a4, x72, y77, x96]<|J105 (.bool false) w19)))) (fun J108=>VJoin 1 (fun _ x109 w25=>Vif x109 (Cl P 296 #[a0, y77, a2, x96, a4] w25 fun x110 w26=>KS [a0, a1, a3, a4, x72, y77, x96]<|J108 w26) (KS [a0, a1, a3, a4, x72, y77, x96]<|J108 w25)) (fun J111=>Bp .lss y77 a2 fun x112=>Vif x112 (Bp .lss a2 x96 fun x113=>KS [a0, a1, a2, a3, a4, x72, y77, x96]<|J111 x113 w16) (KS [a0, a1, a2, a3, a4, x72, y77, x96]<|J111 (.bool false) w16))))) (fun J114=>Bp .gtr a2 x72 fun x115=>Vif x115 (Bp .sub x73 a3 fun x116=>KS [a0, a1, a2, a3, a4, x72, x73]<|J114 x116 x72 w) (KS [a0, a1, a2, a3, a4, x72, x73]<|J114 a1 a2 w))))
theorem Tz294 (h : Vz294 prog a0 a1 a2 a3 a4 w R) : Cl prog 294 #[a0, a1, a2, a3, a4] w R :=
 tz 220 [] (s (s z (i (s z (s z (s (b (l [10, 11] [0, 1, 4] (s (s z (i z z)) (b (s z (s (r (.staged [0, 0, 0, 6, 14, 0, 0, 96, 224, 511, 1023])) (i z z))))))) (s (s z (b (l [13] [0, 10] (s (s z (i z z)) (s (b (r (.staged [0, 0, 0, 0, 8, 0, 0, 64, 224, 480, 0, 0, 3072, 7168, 16355, 32739, 65535, 131071]))) z))))) z)))) z)) (s (s z (i (s z (s z (s (b (l [14, 15] [0, 2, 4] (s (s z (i z z)) (b (s z (s (r (.staged [0, 0, 0, 6, 14, 0, 0, 96, 224, 511, 1023, 2047])) (i z z))))))) (s (s z (b (l [17] [0, 14] (s (s z (i z z)) (s (b (r (.staged [0, 0, 0, 0, 8, 0, 0, 64, 224, 480, 0, 0, 3072, 7168, 16355, 32739, 65535, 131071]))) z))))) z)))) z)) (s z (s z (s z (j [20, 21] [0, 1, 2, 3, 4, 18, 19] (s z (i (s z z) (s z z))) (s z (s (b (l [20, 21] [0, 1, 2, 3, 4, 18, 19, 22] (s (s z (i z z)) (b (s z (s (r (.staged [0, 0, 0, 0, 12, 30, 62, 0, 0, 384, 896, 2047, 4095, 8191])) (i z z))))))) (s z (j [] [0, 1, 3, 4, 18, 20, 24] (j [185] [0, 1, 2, 3, 4, 18, 20, 24] z (i z z)) (j [] [0, 3, 4, 18, 24] (j [199] [0, 1, 3, 4, 18, 20, 24] z (i z z)) (j [213] [0, 3, 4, 18, 24] z (i z z))))))))))))) [a0, a1, a2, a3, a4] func294 h
def Vz296 (P : Program) (a0 a1 a2 a3 a4 : Value) (w : World) (R : KT) : Prop :=
 Bp .sub a2 a1 fun x1=>Bp .sub a3 a2 fun x2=>VLoop 2 [x1, x2] w fun _ n5 y3 y4 w1=>Bp .neq y3 y4 fun x6=>Vif x6 (Bv .gtr y3 y4 (Bp .sub a2 y3 fun x8=>Cl P 297 #[a0, x8, a2, y4, a4] w1 fun x9 w2=>Bp .sub y3 y4 fun x10=>KS [a0, a2, a4]<|n5 x10 y4 w2) (Bp .sub a2 y3 fun x11=>Bp .add a2 y4 fun x12=>Bp .sub x12 y3 fun x13=>Cl P 297 #[a0, x11, x13, y3, a4] w1 fun x14 w3=>Bp .sub y4 y3 fun x15=>KS [a0, a2, a4]<|n5 y3 x15 w3)) (Bp .sub a2 y3 fun x16=>Cl P 297 #[a0, x16, a2, y3, a4] w1 fun x17 w4=>R (.tuple #[]) w4)
theorem Tz296 (h : Vz296 prog a0 a1 a2 a3 a4 w R) : Cl prog 296 #[a0, a1, a2, a3, a4] w R :=
 tz 58 [] (s z (s z (s (b (l [10, 11] [0, 2, 4] (s (s z (i z z)) (b (s z (i (s z z) (s z z))))))) z))) [a0, a1, a2, a3, a4] func296 h
def Vz297 (P : Program) (a0 a1 a2 a3 a4 : Value) (w : World) (R : KT) : Prop :=
 VLoop 1 [(I 0)] w fun _ n2 y1 w1=>Bv .lss y1 a3 (Dr w1 fun w2=>Bp .add a1 y1 fun x4=>Bp .add a2 y1 fun x5=>Bp .add a2 y1 fun x6=>Ias 1 a0 x6 fun x7=>Ld x7 w2 fun x8=>Bp .add a1 y1 fun x10=>Ias 1 a0 x10 fun x11=>Ld x11 w2 fun x12=>Ias 1 a0 x4 fun x14=>St x14 x8 w2 fun w3=>Ias 1 a0 x5 fun x15=>St x15 x12 w3 fun w4=>Bp .add y1 (I 1) fun x16=>KS [a0, a1, a2, a3]<|n2 x16 w4) (R (.tuple #[]) w1)
theorem Tz297 (h : Vz297 prog a0 a1 a2 a3 a4 w R) : Cl prog 297 #[a0, a1, a2, a3, a4] w R :=
 tz 38 [] (s z (b (l [10] [0, 1, 2, 3] (s (s z (i z z)) (s (b (r (.staged [0, 0, 0, 6, 0, 0, 0, 96, 0, 0, 0, 1536, 3840, 7936, 0, 0, 0, 98304, 245760, 507904, 1048335, 2096911, 4194303, 8388607]))) z))))) [a0, a1, a2, a3, a4] func297 h
end Go.Proofs.YtgaiocpkjaaphaaGreatDoor
